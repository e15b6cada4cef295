/- the reference's first of a response; joined. Condition: the size. -/
import Derived.Test.YtklmpadcfioefaaGreatDoorRFirst
namespace Go.Proofs.YtklmpadcfioefaaGreatDoor
open Go.RowKit


set_option maxHeartbeats 1000000 in
set_option maxRecDepth 100000 in
theorem rfirst_rs (s sa sr sb sc : ByteArray) (w : World) (hs : s.size ≤ 16777216) (h : cutAt 32 s.data.toList = some (sa.data.toList, sr.data.toList)) (h2 : cutAt 32 sr.data.toList = some (sb.data.toList, sc.data.toList)) :
    Calls Tryz.prog 96 #[.string s, .bool false] w (RFirstPost w false s.data.toList) := by
  obtain ⟨z1, z2, z3⟩ := ext_some h
  obtain ⟨y1, y2, y3⟩ := ext_some h2
  have E1 := Lib.hid z1
  have E2 := Lib.hid z2
  have H1 := Lib.hid h
  have H2 := Lib.hid h2
  have E3 := Lib.hid (ext_two h h2).1
  have E4 := Lib.hid (ext_two h h2).2
  clear h h2 z1 z2 y1 y2
  go_enter Tryz.func96, Tryz.ntmps96
  go_upto_region 4 with (go_at_call 97; go_must (refine (rplace_some s 32 _ hs H1.out).mono ?_; rintro _ _ ⟨rfl, rfl⟩))
  go_upto_region 7 with (go_at_call 97; rw [E2.out]; go_must (refine (rplace_some sr 32 _ (by omega) H2.out).mono ?_; rintro _ _ ⟨rfl, rfl⟩))
  go_quiet (fail)
  rw [E1.out, E3.out, E4.out]
  go_upto_region 21 with (fail)
  have xa : Var (((w.alloc (.cells #[.bool false, .string ⟨#[]⟩, .string ⟨#[]⟩, .int .i64 0, .string ⟨#[]⟩, .int .i64 0, .slice none 0 0] 52)).drewN nq).alloc (.cells #[.bool false, .string ⟨#[]⟩, .string ⟨#[]⟩, .int .i64 0, .string ⟨#[]⟩, .int .i64 0, .slice none 0 0] 52)) w.heap.size 52 [.bool false, .string ⟨#[]⟩, .string ⟨#[]⟩, .int .i64 0, .string ⟨#[]⟩, .int .i64 0, .slice none 0 0] := ((Var.new w 52 [.bool false, .string ⟨#[]⟩, .string ⟨#[]⟩, .int .i64 0, .string ⟨#[]⟩, .int .i64 0, .slice none 0 0]).drewN nq).alloc _
  have xb : Var (((w.alloc (.cells #[.bool false, .string ⟨#[]⟩, .string ⟨#[]⟩, .int .i64 0, .string ⟨#[]⟩, .int .i64 0, .slice none 0 0] 52)).drewN nq).alloc (.cells #[.bool false, .string ⟨#[]⟩, .string ⟨#[]⟩, .int .i64 0, .string ⟨#[]⟩, .int .i64 0, .slice none 0 0] 52)) (w.heap.size + 1) 52 [.bool false, .string ⟨#[]⟩, .string ⟨#[]⟩, .int .i64 0, .string ⟨#[]⟩, .int .i64 0, .slice none 0 0] := by
    have := Var.new ((w.alloc (.cells #[.bool false, .string ⟨#[]⟩, .string ⟨#[]⟩, .int .i64 0, .string ⟨#[]⟩, .int .i64 0, .slice none 0 0] 52)).drewN nq) 52 [.bool false, .string ⟨#[]⟩, .string ⟨#[]⟩, .int .i64 0, .string ⟨#[]⟩, .int .i64 0, .slice none 0 0]
    simpa using this
  have ba : Below w.heap.size w (((w.alloc (.cells #[.bool false, .string ⟨#[]⟩, .string ⟨#[]⟩, .int .i64 0, .string ⟨#[]⟩, .int .i64 0, .slice none 0 0] 52)).drewN nq).alloc (.cells #[.bool false, .string ⟨#[]⟩, .string ⟨#[]⟩, .int .i64 0, .string ⟨#[]⟩, .int .i64 0, .slice none 0 0] 52)) := Below.alloc (below_drewN ((Below.refl _ _).alloc (Nat.le_refl _) _) _) (by simp) _
  generalize (((w.alloc (.cells #[.bool false, .string ⟨#[]⟩, .string ⟨#[]⟩, .int .i64 0, .string ⟨#[]⟩, .int .i64 0, .slice none 0 0] 52)).drewN nq).alloc (.cells #[.bool false, .string ⟨#[]⟩, .string ⟨#[]⟩, .int .i64 0, .string ⟨#[]⟩, .int .i64 0, .slice none 0 0] 52)) = wa at xa xb ba
  have c5 := xb.cell (j := 5) rfl
  have f5 := xb.frozen 5
  have c4 : ∀ u, (wa.setCell ⟨w.heap.size + 1, 5, none⟩ u).cell? ⟨w.heap.size + 1, 4, none⟩ = some (.string ⟨#[]⟩) := fun u => (xb.set 5 u).cell (j := 4) rfl
  have f4 : ∀ u, (wa.setCell ⟨w.heap.size + 1, 5, none⟩ u).frozen? ⟨w.heap.size + 1, 4, none⟩ = false := fun u => (xb.set 5 u).frozen 4
  go_upto_region 23 with (go_at_call 133; go_must (refine (rminor_any sa _).mono ?_; rintro _ _ ⟨rfl, rfl⟩))
  have XA := Lib.hid ((xa.set_other (p := ⟨w.heap.size + 1, 5, none⟩) (by simp) (.int .i64 (minorI sa.data.toList))).set_other (p := ⟨w.heap.size + 1, 4, none⟩) (by simp) (.string sc))
  have XB := Lib.hid ((xb.set 5 (.int .i64 (minorI sa.data.toList))).set 4 (.string sc))
  have BA := Lib.hid ((ba.setCell (p := ⟨w.heap.size + 1, 5, none⟩) (by simp) (.int .i64 (minorI sa.data.toList))).setCell (p := ⟨w.heap.size + 1, 4, none⟩) (by simp) (.string sc))
  clear xa xb ba c5 f5 c4 f4
  generalize (wa.setCell ⟨w.heap.size + 1, 5, none⟩ (.int .i64 (minorI sa.data.toList))).setCell ⟨w.heap.size + 1, 4, none⟩ (.string sc) = wb at *
  have hP := firstP_rs H1.out H2.out
  have c5 := XB.out.cell (j := 5) rfl
  have hsb := size_data sb
  have hz : w.heap.size ≤ wb.heap.size := BA.out.size
  cases hm : minorP sa.data.toList with
  | none =>
    have HF : Hid (firstP false s.data.toList = none) := Lib.hid (by rw [hP, hm])
    have hmi : minorI sa.data.toList = -1 := by rw [minorI, hm]
    rw [hmi] at c5
    clear hm hP hmi
    go_wp2_with (first
      | (refine wpList_put rfl 52 (.tmp 4) (.tmp 108) rfl w.heap.size rfl XA.out [.bool false, .string ⟨#[]⟩, .string ⟨#[]⟩, .int .i64 0, .string ⟨#[]⟩, .int .i64 0, .slice none 0 0] rfl rfl (by kernel_rfl) (by simp [Value.oneCell']) ?_; intro w9 hv9 hg9 hs9)
      | fail)
    refine bodyPost_ret (results_var rfl _ _ rfl hv9 Tryz.underlying52 rfl (by kernel_rfl)) rfl (RFirstPost.no HF.out _ rfl (by simp [Value.oneCell']) rfl (Below.grown BA.out hg9 hz (by intro k hk; simp at hk; omega)))
  | some k =>
    have hmi : minorI sa.data.toList = k := by rw [minorI, hm]
    rw [hm] at hP
    simp only at hP
    rw [hmi] at c5 XB
    clear hm hmi
    by_cases hb3 : sb.size = 3
    · by_cases hx : allText sc.data.toList = true
      · have HTX := Lib.hid hx
        by_cases h9 : (9 : UInt8) ∈ sc.data.toList
        · have HF : Hid (firstP false s.data.toList = none) := Lib.hid (by
            rw [hP]
            refine if_neg fun x => ?_
            have := List.all_eq_true.1 x.2.1 _ h9
            simp [isReason] at this)
          have hpl : ∃ p : Nat, placeP 9 sc.data.toList = p := by
            rw [placeP]
            cases hc : cutAt 9 sc.data.toList with
            | none => exact absurd h9 (cutAt_none.1 hc)
            | some p => exact ⟨_, rfl⟩
          obtain ⟨p, hp⟩ := hpl
          have HPL := Lib.hid hp
          clear hP hx h9 hp
          go_wp2_with (first
            | (go_at_call 100; go_must (refine (rtext_any sc _ (by omega)).mono ?_; rintro _ _ ⟨rfl, rfl⟩; rw [HTX.out]))
            | (go_at_call 97; go_must (refine (rplace_any sc 9 _ (by omega)).mono ?_; rintro _ _ ⟨rfl, rfl⟩; rw [HPL.out]))
            | (refine wpList_put rfl 52 (.tmp 4) (.tmp 108) rfl w.heap.size rfl XA.out [.bool false, .string ⟨#[]⟩, .string ⟨#[]⟩, .int .i64 0, .string ⟨#[]⟩, .int .i64 0, .slice none 0 0] rfl rfl (by kernel_rfl) (by simp [Value.oneCell']) ?_; intro w9 hv9 hg9 hs9)
            | fail)
          refine bodyPost_ret (results_var rfl _ _ rfl hv9 Tryz.underlying52 rfl (by kernel_rfl)) rfl (RFirstPost.no HF.out _ rfl (by simp [Value.oneCell']) rfl (Below.grown BA.out hg9 hz (by intro k hk; simp at hk; omega)))
        · have HPL : Hid (placeP 9 sc.data.toList = -1) := Lib.hid (placeP_no (cutAt_none.2 h9))
          have HRE : Hid (sc.data.toList.all isReason = true) := Lib.hid (by
            rw [List.all_eq_true]
            intro c hc
            have h1 := List.all_eq_true.1 HTX.out c hc
            rw [isText_eq, decide_eq_true_eq] at h1
            rw [isReason_eq, decide_eq_true_eq]
            have : c.toNat ≠ 9 := fun e => h9 (by
              have : c = 9 := UInt8.toNat_inj.mp (by rw [e]; rfl)
              rwa [this] at hc)
            omega)
          have HY : Hid ((∀ j (h : j < sb.data.toList.length), 48 ≤ sb.data.toList[j].toNat ∧ sb.data.toList[j].toNat ≤ 57) → 100 ≤ numP sb.data.toList → numP sb.data.toList ≤ 599 → firstP false s.data.toList = some { st := numP sb.data.toList, rs := sc.data.toList, mn := k }) := Lib.hid (fun h1 h2 h3 => by
            rw [hP]
            refine if_pos ⟨by omega, HRE.out, ?_, h2, h3⟩
            rw [List.all_eq_true]
            intro c hc
            obtain ⟨j, hj, rfl⟩ := List.getElem_of_mem hc
            rw [isDigit_eq, decide_eq_true_eq]
            exact h1 j hj)
          have HX : Hid (∀ j (h : j < sb.data.toList.length), ¬ (48 ≤ sb.data.toList[j].toNat ∧ sb.data.toList[j].toNat ≤ 57) → firstP false s.data.toList = none) := Lib.hid (fun j hj h => by
            rw [hP]
            refine if_neg fun x => h ?_
            have := List.all_eq_true.1 x.2.2.1 _ (List.getElem_mem hj)
            rw [isDigit_eq, decide_eq_true_eq] at this
            exact this)
          have HZ : Hid (¬ (100 ≤ numP sb.data.toList ∧ numP sb.data.toList ≤ 599) → firstP false s.data.toList = none) := Lib.hid (fun h => by
            rw [hP]
            exact if_neg fun x => h x.2.2.2)
          clear hP hx h9
          go_wp2_with (first
            | (go_at_call 100; go_must (refine (rtext_any sc _ (by omega)).mono ?_; rintro _ _ ⟨rfl, rfl⟩; rw [HTX.out]))
            | (go_at_call 97; go_must (refine (rplace_any sc 9 _ (by omega)).mono ?_; rintro _ _ ⟨rfl, rfl⟩; rw [HPL.out]))
            | fail)
          go_loopw [13] (fun i wr => ∃ j : Nat, j ≤ 3 ∧ i = .int .i64 j ∧ (∀ q (h : q < sb.data.toList.length), q < j → 48 ≤ sb.data.toList[q].toNat ∧ sb.data.toList[q].toNat ≤ 57) ∧
            Var wr (w.heap.size + 1) 52 [.bool false, .string ⟨#[]⟩, .string ⟨#[]⟩, .int .i64 (numP (sb.data.toList.take j) : Nat), .string sc, .int .i64 (k : Int), .slice none 0 0] ∧ Var wr w.heap.size 52 [.bool false, .string ⟨#[]⟩, .string ⟨#[]⟩, .int .i64 0, .string ⟨#[]⟩, .int .i64 0, .slice none 0 0] ∧ Below w.heap.size w wr) (fun i _ => 3 - (intOf i).toNat)
          case atStart => exact ⟨0, Nat.zero_le _, rfl, (fun q h hq => absurd hq (by omega)), XB.out, XA.out, BA.out⟩
          case round =>
            obtain ⟨j, hj, rfl, hall, hv, hx4, hb⟩ := hrel
            have hlt10 : numP (sb.data.toList.take j) < 1000 := by
              have h1 := digits_le sb j (fun m h hm => (hall m h hm).2) (by omega) hj
              have h2 : 10 ^ j ≤ 10 ^ 3 := Nat.pow_le_pow_right (by omega) hj
              omega
            have HA := Lib.hid hall
            clear hall
            have c3 := hv.cell (j := 3) rfl
            have f3 := hv.frozen 3
            have HV := Lib.hid hv
            have hz' : w.heap.size ≤ wr.heap.size := hb.size
            clear XA BA XB c5 hz
            have XA := Lib.hid hx4
            have BA := Lib.hid hb
            have hz := hz'
            clear hv hb hx4 hz'
            by_cases hlt : j < 3
            · have hlt' : j < sb.size := by omega
              have hx : sb[j].toNat < 256 := UInt8.toNat_lt _
              have HBA := Lib.hid (byte_at sb j hlt')
              have HN := Lib.hid (numP_take sb j hlt')
              by_cases hd : 48 ≤ sb[j].toNat ∧ sb[j].toNat ≤ 57
              · have HD : Hid (∀ m (h : m < sb.data.toList.length), m < j + 1 → 48 ≤ sb.data.toList[m].toNat ∧ sb.data.toList[m].toNat ≤ 57) := Lib.hid (fun m h hm => by
                  by_cases e : m = j
                  · subst e; rw [HBA.out]; exact hd
                  · exact HA.out m h (by omega))
                obtain ⟨hd1, hd2⟩ := hd
                generalize hnum : numP (sb.data.toList.take j) = nj at c3 HN HV hlt10
                clear hnum
                go_wp2
                go_region
                go_wp2
                go_roundw
                case rel => exact ⟨j + 1, by omega, by go_num, HD.out, (by
                  have h := (HV.out.set 3 (.int .i64 ((nj : Int) * 10 + ((sb[j].toNat : Int) - 48)))).drew
                  have e : ((nj : Int) * 10 + ((sb[j].toNat : Int) - 48)) = ((numP (sb.data.toList.take (j + 1)) : Nat) : Int) := by rw [HN.out]; omega
                  rw [← e]
                  exact h), (XA.out.set_other (by simp) _).drew, (BA.out.setCell (by simp) _).drew⟩
                case measure => simp [intOf]; omega
              · have HF : Hid (firstP false s.data.toList = none) := Lib.hid (HX.out j (by omega) (by rw [HBA.out]; exact hd))
                have hd' : sb[j].toNat < 48 ∨ 57 < sb[j].toNat := by omega
                rcases hd' with hd' | hd'
                · go_wp2_with (first
                    | (refine wpList_put rfl 52 (.tmp 4) (.tmp 123) rfl w.heap.size rfl XA.out [.bool false, .string ⟨#[]⟩, .string ⟨#[]⟩, .int .i64 0, .string ⟨#[]⟩, .int .i64 0, .slice none 0 0] rfl rfl (by kernel_rfl) (by simp [Value.oneCell']) ?_; intro w9 hv9 hg9 hs9)
                    | fail)
                  refine bodyPost_ret (results_var rfl _ _ rfl hv9 Tryz.underlying52 rfl (by kernel_rfl)) rfl (RFirstPost.no HF.out _ rfl (by simp [Value.oneCell']) rfl (Below.grown BA.out hg9 hz (by intro k hk; simp at hk; omega)))
                · have hd2 : ¬ sb[j].toNat < 48 := by omega
                  go_wp2_with (first
                    | (refine wpList_put rfl 52 (.tmp 4) (.tmp 123) rfl w.heap.size rfl XA.out [.bool false, .string ⟨#[]⟩, .string ⟨#[]⟩, .int .i64 0, .string ⟨#[]⟩, .int .i64 0, .slice none 0 0] rfl rfl (by kernel_rfl) (by simp [Value.oneCell']) ?_; intro w9 hv9 hg9 hs9)
                    | fail)
                  refine bodyPost_ret (results_var rfl _ _ rfl hv9 Tryz.underlying52 rfl (by kernel_rfl)) rfl (RFirstPost.no HF.out _ rfl (by simp [Value.oneCell']) rfl (Below.grown BA.out hg9 hz (by intro k hk; simp at hk; omega)))
            · have hj3 : j = 3 := by omega
              have e1 : sb.data.toList.take j = sb.data.toList := List.take_of_length_le (by omega)
              rw [e1] at c3 HV hlt10
              go_wp2
              have d0 := HV.out.cell (j := 0) rfl
              have d1 := HV.out.cell (j := 1) rfl
              have d2 := HV.out.cell (j := 2) rfl
              have d4 := HV.out.cell (j := 4) rfl
              have d5 := HV.out.cell (j := 5) rfl
              have d6 := HV.out.cell (j := 6) rfl
              have a0 := XA.out.cell (j := 0) rfl
              have a1 := XA.out.cell (j := 1) rfl
              have a2 := XA.out.cell (j := 2) rfl
              have a3 := XA.out.cell (j := 3) rfl
              have a4 := XA.out.cell (j := 4) rfl
              have a5 := XA.out.cell (j := 5) rfl
              have a6 := XA.out.cell (j := 6) rfl
              have b0 := XA.out.frozen 0
              have b1 := XA.out.frozen 1
              have b2 := XA.out.frozen 2
              have b3 := XA.out.frozen 3
              have b4 := XA.out.frozen 4
              have b5 := XA.out.frozen 5
              have b6 := XA.out.frozen 6
              by_cases hn : 100 ≤ numP sb.data.toList ∧ numP sb.data.toList ≤ 599
              · have HF := Lib.hid (HY.out (fun m h => HA.out m h (by omega)) hn.1 hn.2)
                obtain ⟨hn1, hn2⟩ := hn
                generalize hnum : numP sb.data.toList = nj at *
                have i1 : (100 : Int) ≤ (nj : Int) := by omega
                have i2 : (nj : Int) ≤ 599 := by omega
                have g1 : decide ((100 : Int) ≤ (nj : Int)) = true := by simpa using i1
                have g2 : decide ((nj : Int) ≤ 599) = true := by simpa using i2
                go_region
                have hv9 : Var _ w.heap.size 52 [.bool false, .string ⟨#[]⟩, .string ⟨#[]⟩, .int .i64 (nj : Int), .string sc, .int .i64 (k : Int), .slice none 0 0] := (((((((XA.out.set 0 (.bool false)).set 1 (.string ⟨#[]⟩)).set 2 (.string ⟨#[]⟩)).set 3 (.int .i64 (nj : Int))).set 4 (.string sc)).set 5 (.int .i64 (k : Int))).set 6 (.slice none 0 0)).drew
                go_wp2
                refine bodyPost_ret (results_var rfl _ _ rfl hv9 Tryz.underlying52 rfl (by kernel_rfl)) rfl (RFirstPost.yes HF.out (by simp only [byte_eta]; rfl) ((((((((BA.out.setCell (p := ⟨w.heap.size, 0, none⟩) (by simp) _).setCell (p := ⟨w.heap.size, 1, none⟩) (by simp) _).setCell (p := ⟨w.heap.size, 2, none⟩) (by simp) _).setCell (p := ⟨w.heap.size, 3, none⟩) (by simp) _).setCell (p := ⟨w.heap.size, 4, none⟩) (by simp) _).setCell (p := ⟨w.heap.size, 5, none⟩) (by simp) _).setCell (p := ⟨w.heap.size, 6, none⟩) (by simp) _).drew))
              · have HF := Lib.hid (HZ.out hn)
                have hn' : numP sb.data.toList < 100 ∨ 599 < numP sb.data.toList := by omega
                clear hn
                generalize hnum : numP sb.data.toList = nj at *
                rcases hn' with hn' | hn'
                · have i1 : ¬ (100 : Int) ≤ (nj : Int) := by omega
                  have g1 : decide ((100 : Int) ≤ (nj : Int)) = false := by simpa using i1
                  go_region
                  have hv9 : Var _ w.heap.size 52 [.bool false, .string ⟨#[]⟩, .string ⟨#[]⟩, .int .i64 (nj : Int), .string sc, .int .i64 (k : Int), .slice none 0 0] := (((((((XA.out.set 0 (.bool false)).set 1 (.string ⟨#[]⟩)).set 2 (.string ⟨#[]⟩)).set 3 (.int .i64 (nj : Int))).set 4 (.string sc)).set 5 (.int .i64 (k : Int))).set 6 (.slice none 0 0)).drew
                  go_wp2
                  refine bodyPost_ret (results_var rfl _ _ rfl hv9 Tryz.underlying52 rfl (by kernel_rfl)) rfl (RFirstPost.no HF.out _ rfl (by simp [Value.oneCell']) rfl ((((((((BA.out.setCell (p := ⟨w.heap.size, 0, none⟩) (by simp) _).setCell (p := ⟨w.heap.size, 1, none⟩) (by simp) _).setCell (p := ⟨w.heap.size, 2, none⟩) (by simp) _).setCell (p := ⟨w.heap.size, 3, none⟩) (by simp) _).setCell (p := ⟨w.heap.size, 4, none⟩) (by simp) _).setCell (p := ⟨w.heap.size, 5, none⟩) (by simp) _).setCell (p := ⟨w.heap.size, 6, none⟩) (by simp) _).drew))
                · have i1 : (100 : Int) ≤ (nj : Int) := by omega
                  have i2 : ¬ (nj : Int) ≤ 599 := by omega
                  have g1 : decide ((100 : Int) ≤ (nj : Int)) = true := by simpa using i1
                  have g2 : decide ((nj : Int) ≤ 599) = false := by simpa using i2
                  go_region
                  have hv9 : Var _ w.heap.size 52 [.bool false, .string ⟨#[]⟩, .string ⟨#[]⟩, .int .i64 (nj : Int), .string sc, .int .i64 (k : Int), .slice none 0 0] := (((((((XA.out.set 0 (.bool false)).set 1 (.string ⟨#[]⟩)).set 2 (.string ⟨#[]⟩)).set 3 (.int .i64 (nj : Int))).set 4 (.string sc)).set 5 (.int .i64 (k : Int))).set 6 (.slice none 0 0)).drew
                  go_wp2
                  refine bodyPost_ret (results_var rfl _ _ rfl hv9 Tryz.underlying52 rfl (by kernel_rfl)) rfl (RFirstPost.no HF.out _ rfl (by simp [Value.oneCell']) rfl ((((((((BA.out.setCell (p := ⟨w.heap.size, 0, none⟩) (by simp) _).setCell (p := ⟨w.heap.size, 1, none⟩) (by simp) _).setCell (p := ⟨w.heap.size, 2, none⟩) (by simp) _).setCell (p := ⟨w.heap.size, 3, none⟩) (by simp) _).setCell (p := ⟨w.heap.size, 4, none⟩) (by simp) _).setCell (p := ⟨w.heap.size, 5, none⟩) (by simp) _).setCell (p := ⟨w.heap.size, 6, none⟩) (by simp) _).drew))
      · have HF : Hid (firstP false s.data.toList = none) := Lib.hid (by
          rw [hP]
          refine if_neg fun x => hx ?_
          unfold allText
          rw [List.all_eq_true]
          intro c hc
          have := List.all_eq_true.1 x.2.1 c hc
          rw [isReason_eq, decide_eq_true_eq] at this
          rw [isText_eq, decide_eq_true_eq]
          omega)
        have HTX : Hid (allText sc.data.toList = false) := Lib.hid (by simpa using hx)
        clear hP hx
        go_wp2_with (first
          | (go_at_call 100; go_must (refine (rtext_any sc _ (by omega)).mono ?_; rintro _ _ ⟨rfl, rfl⟩; rw [HTX.out]))
          | (refine wpList_put rfl 52 (.tmp 4) (.tmp 108) rfl w.heap.size rfl XA.out [.bool false, .string ⟨#[]⟩, .string ⟨#[]⟩, .int .i64 0, .string ⟨#[]⟩, .int .i64 0, .slice none 0 0] rfl rfl (by kernel_rfl) (by simp [Value.oneCell']) ?_; intro w9 hv9 hg9 hs9)
          | fail)
        refine bodyPost_ret (results_var rfl _ _ rfl hv9 Tryz.underlying52 rfl (by kernel_rfl)) rfl (RFirstPost.no HF.out _ rfl (by simp [Value.oneCell']) rfl (Below.grown BA.out hg9 hz (by intro k hk; simp at hk; omega)))
    · have HF : Hid (firstP false s.data.toList = none) := Lib.hid (by rw [hP]; exact if_neg fun x => hb3 (by rw [← hsb]; exact x.1))
      have hb3' : ¬ (sb.size : Int) = 3 := by omega
      clear hP hb3
      go_wp2_with (first
        | (refine wpList_put rfl 52 (.tmp 4) (.tmp 108) rfl w.heap.size rfl XA.out [.bool false, .string ⟨#[]⟩, .string ⟨#[]⟩, .int .i64 0, .string ⟨#[]⟩, .int .i64 0, .slice none 0 0] rfl rfl (by kernel_rfl) (by simp [Value.oneCell']) ?_; intro w9 hv9 hg9 hs9)
        | fail)
      refine bodyPost_ret (results_var rfl _ _ rfl hv9 Tryz.underlying52 rfl (by kernel_rfl)) rfl (RFirstPost.no HF.out _ rfl (by simp [Value.oneCell']) rfl (Below.grown BA.out hg9 hz (by intro k hk; simp at hk; omega)))

/-- the reference's first -/
theorem rfirst_any (s : ByteArray) (rq : Bool) (w : World) (hs : s.size ≤ 16777216) : Calls Tryz.prog 96 #[.string s, .bool rq] w (RFirstPost w rq s.data.toList) := by
  cases h1 : cutAt 32 s.data.toList with
  | none => exact rfirst_cut s rq w hs h1
  | some p =>
    obtain ⟨a, r⟩ := p
    cases h2 : cutAt 32 r with
    | none => exact rfirst_cut2 s ⟨a.toArray⟩ ⟨r.toArray⟩ rq w hs h1 h2
    | some p =>
      obtain ⟨b, c⟩ := p
      cases rq
      · exact rfirst_rs s ⟨a.toArray⟩ ⟨r.toArray⟩ ⟨b.toArray⟩ ⟨c.toArray⟩ w hs h1 h2
      · exact rfirst_rq s ⟨a.toArray⟩ ⟨r.toArray⟩ ⟨b.toArray⟩ ⟨c.toArray⟩ w hs h1 h2
end Go.Proofs.YtklmpadcfioefaaGreatDoor
