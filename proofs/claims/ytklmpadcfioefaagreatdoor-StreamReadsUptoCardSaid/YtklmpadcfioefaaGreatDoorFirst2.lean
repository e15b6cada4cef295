/- head.first of a response; joined: head.first. Conditions: the size, the library's variable. -/
import Derived.Test.YtklmpadcfioefaaGreatDoorFirst
namespace Go.Proofs.YtklmpadcfioefaaGreatDoor
open Go.RowKit


theorem firstP_rs {l : Bs} {a r b c : Bs} (h1 : cutAt 32 l = some (a, r)) (h2 : cutAt 32 r = some (b, c)) : firstP false l = match minorP a with
    | none => none
    | some k => if b.length = 3 ∧ c.all isReason = true ∧ b.all isDigit = true ∧ 100 ≤ numP b ∧ numP b ≤ 599 then some { st := numP b, rs := c, mn := k } else none := by
  rw [firstP, h1]; simp only [h2]; cases minorP a <;> rfl
theorem isDigit_eq (c : UInt8) : isDigit c = decide (48 ≤ c.toNat ∧ c.toNat ≤ 57) := by
  simp only [isDigit, UInt8.le_iff_toNat_le]
  have e1 : (48 : UInt8).toNat = 48 := rfl
  have e2 : (57 : UInt8).toNat = 57 := rfl
  rw [e1, e2, Bool.eq_iff_iff]
  simp only [Bool.and_eq_true, decide_eq_true_eq]
theorem numP_snoc (l : Bs) (c : UInt8) : numP (l ++ [c]) = 10 * numP l + (c.toNat - 48) := by simp [numP]
theorem numP_take (s : ByteArray) (j : Nat) (h : j < s.size) : numP (s.data.toList.take (j + 1)) = 10 * numP (s.data.toList.take j) + (s[j].toNat - 48) := by
  rw [take_succ_data s j h, numP_snoc]
theorem digits_le (s : ByteArray) : ∀ j : Nat, (∀ m (h : m < s.data.toList.length), m < j → s.data.toList[m].toNat ≤ 57) → j ≤ s.size → j ≤ 3 → numP (s.data.toList.take j) < 10 ^ j
  | 0, _, _, _ => by simp [numP]
  | j + 1, hd, hs, h3 => by
    have ih := digits_le s j (fun m h hm => hd m h (by omega)) (by omega) (by omega)
    have h57 := hd j (by rw [size_data]; omega) (by omega)
    rw [byte_at s j (by omega)] at h57
    rw [numP_take s j (by omega), Nat.pow_succ]
    omega

set_option maxHeartbeats 1000000 in
set_option maxRecDepth 100000 in
theorem hfirst_st (s sa sr sb sc : ByteArray) (k : Nat) (w : World) (hsh : w.ShapedOpen Tryz.prog) (hs : s.size ≤ 16777216) (H1 : Hid (cutAt 32 s.data.toList = some (sa.data.toList, sr.data.toList))) (H2 : Hid (cutAt 32 sr.data.toList = some (sb.data.toList, sc.data.toList)))
    (HR : Hid (sr.size ≤ 16777216)) (_ : sa.size ≤ 16777216) (hsc : sc.size ≤ 16777216) (hb3 : sb.size = 3) (HM : Hid (minorP sa.data.toList = some k)) (HW : Hid (allReason sc.data.toList = true))
    (HY : Hid ((∀ j (h : j < sb.data.toList.length), 48 ≤ sb.data.toList[j].toNat ∧ sb.data.toList[j].toNat ≤ 57) → 100 ≤ numP sb.data.toList → numP sb.data.toList ≤ 599 → firstP false s.data.toList = some { st := numP sb.data.toList, rs := sc.data.toList, mn := k }))
    (HX : Hid (∀ j (h : j < sb.data.toList.length), ¬ (48 ≤ sb.data.toList[j].toNat ∧ sb.data.toList[j].toNat ≤ 57) → firstP false s.data.toList = none))
    (HZ : Hid (¬ (100 ≤ numP sb.data.toList ∧ numP sb.data.toList ≤ 599) → firstP false s.data.toList = none)) :
    Calls Tryz.prog 44 #[.string s, .bool false] w (FirstPost w false s.data.toList) := by
  have hsd' := size_data sb
  have HT : Hid (token sa.data.toList = token sa.data.toList) := Lib.hid rfl
  have HSH := Lib.hid hsh
  have s0 : Hid (∀ o, (w.alloc o).ShapedOpen Tryz.prog) := Lib.hid (fun o => shaped_below HSH.out ((Below.refl _ _).alloc (Nat.le_refl _) o))
  have s1 : Hid (∀ o q, ((w.alloc o).drewN q).ShapedOpen Tryz.prog) := Lib.hid (fun o q => shaped_below HSH.out (below_drewN ((Below.refl _ _).alloc (Nat.le_refl _) o) q))
  clear hsh
  unfold FirstPost
  go_enter Tryz.func44, Tryz.ntmps44
  go_wp2
  refine wp_scope_to 0 rfl ?_
  intro J hJ
  go_upto_region 2 with (go_at_call 45; go_must (refine (cut_some_s s 32 _ (s0.out _) hs H1.out).mono ?_; rintro _ _ ⟨rfl, q, rfl⟩))
  go_upto_region 3 with (go_at_call 45; go_must (refine (cut_some_s sr 32 _ (s1.out _ _) HR.out H2.out).mono ?_; rintro _ _ ⟨rfl, q2, rfl⟩))
  go_wp2_with (first
    | (go_step3; (try simp only [Exit.then, Exit.inBlock, jump_goto]); refine hJ _ _ ?_)
    | (go_at_call 78; go_must (refine (hminor_any sa _).mono ?_; rintro _ _ ⟨rfl, rfl⟩; rw [HM.out]))
    | (go_at_call 47; go_must (refine (hToken_any sa _ (by omega)).mono ?_; rintro _ _ ⟨rfl, rfl⟩; rw [HT.out]))
    | (go_at_call 48; go_must (refine (hwritten_plain sc _ (by omega)).mono ?_; rintro _ _ ⟨rfl, rfl⟩; rw [HW.out])))
  have hv0 := ((Var.new w 52 [.bool false, .string ⟨#[]⟩, .string ⟨#[]⟩, .int .i64 0, .string ⟨#[]⟩, .int .i64 0, .slice none 0 0]).drewN (q + q2)).set 5 (.int .i64 (k : Int))
  have hb0 : Below w.heap.size w (((w.alloc (.cells #[.bool false, .string ⟨#[]⟩, .string ⟨#[]⟩, .int .i64 0, .string ⟨#[]⟩, .int .i64 0, .slice none 0 0] 52)).drewN (q + q2)).setCell ⟨w.heap.size, 5, none⟩ (.int .i64 (k : Int))) := Below.setCell (below_drewN ((Below.refl _ _).alloc (Nat.le_refl _) _) _) (by simp) _
  go_loopw [91] (fun i wr => ∃ j : Nat, j ≤ 3 ∧ i = .int .i64 j ∧ (∀ m (h : m < sb.data.toList.length), m < j → 48 ≤ sb.data.toList[m].toNat ∧ sb.data.toList[m].toNat ≤ 57) ∧
    Var wr w.heap.size 52 [.bool false, .string ⟨#[]⟩, .string ⟨#[]⟩, .int .i64 (numP (sb.data.toList.take j) : Nat), .string ⟨#[]⟩, .int .i64 (k : Int), .slice none 0 0] ∧ Below w.heap.size w wr) (fun i _ => 3 - (intOf i).toNat)
  case atStart => exact ⟨0, Nat.zero_le _, rfl, (fun m h hm => absurd hm (by omega)), hv0, hb0⟩
  case round =>
    obtain ⟨j, hj, rfl, hall, hv, hb⟩ := hrel
    have hlt10 : numP (sb.data.toList.take j) < 1000 := by
      have h1 := digits_le sb j (fun m h hm => (hall m h hm).2) (by omega) hj
      have h2 : 10 ^ j ≤ 10 ^ 3 := Nat.pow_le_pow_right (by omega) hj
      omega
    have HA := Lib.hid hall
    clear hall
    have c3 := hv.cell (j := 3) rfl
    have f3 := hv.frozen 3
    have HV := Lib.hid hv
    have HB := Lib.hid hb
    have hsz := hb.size
    clear hv hb hv0 hb0
    by_cases hlt : j < 3
    · have hlt' : j < sb.size := by omega
      have hx : sb[j].toNat < 256 := UInt8.toNat_lt _
      have HBA := Lib.hid (byte_at sb j hlt')
      have HN := Lib.hid (numP_take sb j hlt')
      by_cases hd : 48 ≤ sb[j].toNat ∧ sb[j].toNat ≤ 57
      · have HD : Hid (∀ m (h : m < sb.data.toList.length), m < j + 1 → 48 ≤ sb.data.toList[m].toNat ∧ sb.data.toList[m].toNat ≤ 57) := Lib.hid (fun m h hm => by
          by_cases e : m = j
          · subst e; rw [HBA.out]; exact hd
          · exact HA.out m h (by omega))
        obtain ⟨hd1, hd2⟩ := hd
        generalize hnum : numP (sb.data.toList.take j) = nj at c3 HN HV hlt10
        clear hnum
        go_wp2
        go_region
        go_wp2
        go_roundw
        case rel => exact ⟨j + 1, by omega, by go_num, HD.out, (by
          have h := (HV.out.set 3 (.int .i64 (10 * (nj : Int) + ((sb[j].toNat : Int) - 48)))).drew
          have e : (10 * (nj : Int) + ((sb[j].toNat : Int) - 48)) = ((numP (sb.data.toList.take (j + 1)) : Nat) : Int) := by rw [HN.out]; omega
          rw [← e]
          exact h), (HB.out.setCell (by simp) _).drew⟩
        case measure => simp [intOf]; omega
      · have HF : Hid (firstP false s.data.toList = none) := Lib.hid (HX.out j (by omega) (by rw [HBA.out]; exact hd))
        have hd' : sb[j].toNat < 48 ∨ 57 < sb[j].toNat := by omega
        rcases hd' with hd' | hd'
        · go_wp2_with (first
            | (go_step3; refine (show 0 = 0 ∧ J _ _ from ⟨rfl, hJ _ _ ?_⟩))
            | (refine wpList_put rfl 52 (.tmp 4) (.tmp 126) rfl w.heap.size rfl (HV.out.drewN 0) [.bool false, .string ⟨#[]⟩, .string ⟨#[]⟩, .int .i64 0, .string ⟨#[]⟩, .int .i64 0, .slice none 0 0] rfl rfl (by kernel_rfl) (by simp [Value.oneCell']) ?_; intro w9 hv9 hg9 hs9)
            | (refine wpList_put rfl 52 (.tmp 4) (.tmp 126) rfl w.heap.size rfl (HV.out.drewN _) [.bool false, .string ⟨#[]⟩, .string ⟨#[]⟩, .int .i64 0, .string ⟨#[]⟩, .int .i64 0, .slice none 0 0] rfl rfl (by kernel_rfl) (by simp [Value.oneCell']) ?_; intro w9 hv9 hg9 hs9))
          all_goals (try simp only [jump_ret])
          all_goals refine bodyPost_ret (results_var rfl _ _ rfl hv9 Tryz.underlying52 rfl (by kernel_rfl)) rfl ⟨by rw [HF.out]; rfl, ?_⟩
          all_goals exact Below.grown (by first | exact HB.out | exact below_drewN HB.out _) hg9 hsz (by intro k hk; simp at hk; omega)
        · have hd2 : ¬ sb[j].toNat < 48 := by omega
          go_wp2_with (first
            | (go_step3; refine (show 0 = 0 ∧ J _ _ from ⟨rfl, hJ _ _ ?_⟩))
            | (refine wpList_put rfl 52 (.tmp 4) (.tmp 126) rfl w.heap.size rfl (HV.out.drewN 0) [.bool false, .string ⟨#[]⟩, .string ⟨#[]⟩, .int .i64 0, .string ⟨#[]⟩, .int .i64 0, .slice none 0 0] rfl rfl (by kernel_rfl) (by simp [Value.oneCell']) ?_; intro w9 hv9 hg9 hs9)
            | (refine wpList_put rfl 52 (.tmp 4) (.tmp 126) rfl w.heap.size rfl (HV.out.drewN _) [.bool false, .string ⟨#[]⟩, .string ⟨#[]⟩, .int .i64 0, .string ⟨#[]⟩, .int .i64 0, .slice none 0 0] rfl rfl (by kernel_rfl) (by simp [Value.oneCell']) ?_; intro w9 hv9 hg9 hs9))
          all_goals (try simp only [jump_ret])
          all_goals refine bodyPost_ret (results_var rfl _ _ rfl hv9 Tryz.underlying52 rfl (by kernel_rfl)) rfl ⟨by rw [HF.out]; rfl, ?_⟩
          all_goals exact Below.grown (by first | exact HB.out | exact below_drewN HB.out _) hg9 hsz (by intro k hk; simp at hk; omega)
    · have hj3 : j = 3 := by omega
      have e1 : sb.data.toList.take j = sb.data.toList := List.take_of_length_le (by omega)
      rw [e1] at c3 HV hlt10
      by_cases hn : 100 ≤ numP sb.data.toList ∧ numP sb.data.toList ≤ 599
      · have HF := Lib.hid (HY.out (fun m h => HA.out m h (by omega)) hn.1 hn.2)
        obtain ⟨hn1, hn2⟩ := hn
        generalize hnum : numP sb.data.toList = nj at *
        have c4 := HV.out.cell (j := 4) rfl
        have f4 := HV.out.frozen 4
        go_wp2_with (first
          | (refine wpList_load_mid rfl 52 (.tmp 4) rfl w.heap.size 0 rfl [.bool false, .string ⟨#[]⟩, .string ⟨#[]⟩, .int .i64 nj, .string sc, .int .i64 (k : Int), .slice none 0 0] _ (HV.out.set 4 (.string sc)).range Tryz.underlying52 rfl (by kernel_rfl) ?_)
          | (refine wpList_put rfl 52 (.tmp 4) (.tmp 125) rfl w.heap.size rfl (HV.out.set 4 (.string sc)) [.bool false, .string ⟨#[]⟩, .string ⟨#[]⟩, .int .i64 nj, .string sc, .int .i64 (k : Int), .slice none 0 0] rfl rfl (by kernel_rfl) (by simp [Value.oneCell']) ?_; intro w9 hv9 hg9 hs9))
        all_goals (try simp only [jump_ret])
        refine bodyPost_ret (results_var rfl _ _ rfl hv9 Tryz.underlying52 rfl (by kernel_rfl)) rfl ⟨?_, ?_⟩
        · rw [HF.out]
          simp only [Option.getD_some, Option.isSome_some, hdV, headV, byte_eta]
          rfl
        · exact Below.grown (HB.out.setCell (by simp) _) hg9 (by simp; omega) (by intro k hk; simp at hk; omega)
      · have HF := Lib.hid (HZ.out hn)
        have hn' : numP sb.data.toList < 100 ∨ 599 < numP sb.data.toList := by omega
        rcases hn' with hn' | hn'
        · go_wp2_with (first
            | (go_step3; refine (show 0 = 0 ∧ J _ _ from ⟨rfl, hJ _ _ ?_⟩))
            | (refine wpList_put rfl 52 (.tmp 4) (.tmp 126) rfl w.heap.size rfl (HV.out.drewN 0) [.bool false, .string ⟨#[]⟩, .string ⟨#[]⟩, .int .i64 0, .string ⟨#[]⟩, .int .i64 0, .slice none 0 0] rfl rfl (by kernel_rfl) (by simp [Value.oneCell']) ?_; intro w9 hv9 hg9 hs9)
            | (refine wpList_put rfl 52 (.tmp 4) (.tmp 126) rfl w.heap.size rfl (HV.out.drewN _) [.bool false, .string ⟨#[]⟩, .string ⟨#[]⟩, .int .i64 0, .string ⟨#[]⟩, .int .i64 0, .slice none 0 0] rfl rfl (by kernel_rfl) (by simp [Value.oneCell']) ?_; intro w9 hv9 hg9 hs9))
          all_goals (try simp only [jump_ret])
          all_goals refine bodyPost_ret (results_var rfl _ _ rfl hv9 Tryz.underlying52 rfl (by kernel_rfl)) rfl ⟨by rw [HF.out]; rfl, ?_⟩
          all_goals exact Below.grown (by first | exact HB.out | exact below_drewN HB.out _) hg9 hsz (by intro k hk; simp at hk; omega)
        · have hn2 : ¬ numP sb.data.toList < 100 := by omega
          go_wp2_with (first
            | (go_step3; refine (show 0 = 0 ∧ J _ _ from ⟨rfl, hJ _ _ ?_⟩))
            | (refine wpList_put rfl 52 (.tmp 4) (.tmp 126) rfl w.heap.size rfl (HV.out.drewN 0) [.bool false, .string ⟨#[]⟩, .string ⟨#[]⟩, .int .i64 0, .string ⟨#[]⟩, .int .i64 0, .slice none 0 0] rfl rfl (by kernel_rfl) (by simp [Value.oneCell']) ?_; intro w9 hv9 hg9 hs9)
            | (refine wpList_put rfl 52 (.tmp 4) (.tmp 126) rfl w.heap.size rfl (HV.out.drewN _) [.bool false, .string ⟨#[]⟩, .string ⟨#[]⟩, .int .i64 0, .string ⟨#[]⟩, .int .i64 0, .slice none 0 0] rfl rfl (by kernel_rfl) (by simp [Value.oneCell']) ?_; intro w9 hv9 hg9 hs9))
          all_goals (try simp only [jump_ret])
          all_goals refine bodyPost_ret (results_var rfl _ _ rfl hv9 Tryz.underlying52 rfl (by kernel_rfl)) rfl ⟨by rw [HF.out]; rfl, ?_⟩
          all_goals exact Below.grown (by first | exact HB.out | exact below_drewN HB.out _) hg9 hsz (by intro k hk; simp at hk; omega)

set_option maxHeartbeats 1000000 in
set_option maxRecDepth 100000 in
theorem hfirst_rs (s sa sr sb sc : ByteArray) (w : World) (hsh : w.ShapedOpen Tryz.prog) (hs : s.size ≤ 16777216) (h : cutAt 32 s.data.toList = some (sa.data.toList, sr.data.toList)) (h2 : cutAt 32 sr.data.toList = some (sb.data.toList, sc.data.toList)) :
    Calls Tryz.prog 44 #[.string s, .bool false] w (FirstPost w false s.data.toList) := by
  obtain ⟨z1, z2⟩ := cut_sizes h
  obtain ⟨z3, z4⟩ := cut_sizes h2
  simp only [size_data] at z1 z3
  have hP := firstP_rs h h2
  have H1 := Lib.hid h
  have H2 := Lib.hid h2
  have HR : Hid (sr.size ≤ 16777216) := Lib.hid (by omega)
  have hsd := size_data sb
  clear h h2 z4
  have HT : Hid (token sa.data.toList = token sa.data.toList) := Lib.hid rfl
  cases hm : minorP sa.data.toList with
  | none =>
    have HF : Hid (firstP false s.data.toList = none) := Lib.hid (by rw [hP, hm])
    have HM := Lib.hid hm
    have HW : Hid (allReason sc.data.toList = allReason sc.data.toList) := Lib.hid rfl
    clear hm hP
    have HSH := Lib.hid hsh
    have s0 : Hid (∀ o, (w.alloc o).ShapedOpen Tryz.prog) := Lib.hid (fun o => shaped_below HSH.out ((Below.refl _ _).alloc (Nat.le_refl _) o))
    have s1 : Hid (∀ o q, ((w.alloc o).drewN q).ShapedOpen Tryz.prog) := Lib.hid (fun o q => shaped_below HSH.out (below_drewN ((Below.refl _ _).alloc (Nat.le_refl _) o) q))
    clear hsh
    unfold FirstPost
    go_enter Tryz.func44, Tryz.ntmps44
    go_wp2
    refine wp_scope_to 0 rfl ?_
    intro J hJ
    go_upto_region 2 with (go_at_call 45; go_must (refine (cut_some_s s 32 _ (s0.out _) hs H1.out).mono ?_; rintro _ _ ⟨rfl, q, rfl⟩))
    go_upto_region 3 with (go_at_call 45; go_must (refine (cut_some_s sr 32 _ (s1.out _ _) HR.out H2.out).mono ?_; rintro _ _ ⟨rfl, q2, rfl⟩))
    go_wp2_with (first
      | (go_step3; (try simp only [Exit.then, jump_goto]); refine hJ _ _ ?_)
      | (go_at_call 78; go_must (refine (hminor_any sa _).mono ?_; rintro _ _ ⟨rfl, rfl⟩; rw [HM.out]))
      | (go_at_call 47; go_must (refine (hToken_any sa _ (by omega)).mono ?_; rintro _ _ ⟨rfl, rfl⟩; rw [HT.out]))
      | (go_at_call 48; go_must (refine (hwritten_plain sc _ (by omega)).mono ?_; rintro _ _ ⟨rfl, rfl⟩; rw [HW.out]))
      | (refine wpList_put rfl 52 (.tmp 4) (.tmp 126) rfl w.heap.size rfl (((Var.new w 52 [.bool false, .string ⟨#[]⟩, .string ⟨#[]⟩, .int .i64 0, .string ⟨#[]⟩, .int .i64 0, .slice none 0 0]).drewN _).set 5 _) [.bool false, .string ⟨#[]⟩, .string ⟨#[]⟩, .int .i64 0, .string ⟨#[]⟩, .int .i64 0, .slice none 0 0] rfl rfl (by kernel_rfl) (by simp [Value.oneCell']) ?_; intro w9 hv9 hg9 hs9))
    all_goals (try simp only [jump_ret])
    all_goals refine bodyPost_ret (results_var rfl _ _ rfl hv9 Tryz.underlying52 rfl (by kernel_rfl)) rfl ⟨by rw [HF.out]; rfl, ?_⟩
    all_goals refine Below.grown ?_ hg9 (by simp) (by intro k hk; simp at hk; omega)
    all_goals repeat' (first | refine Below.setCell ?_ (by simp) _ | refine below_drewN ?_ _ | refine Below.alloc ?_ (by simp <;> omega) _ | exact Below.refl _ _)
  | some k =>
    rw [hm] at hP
    simp only at hP
    have HM := Lib.hid hm
    clear hm
    by_cases hb3 : sb.size = 3
    · by_cases hw : allReason sc.data.toList = true
      · refine hfirst_st s sa sr sb sc k w hsh hs H1 H2 HR (by omega) (by omega) hb3 HM (Lib.hid hw) (Lib.hid fun h h1 h2 => ?_) (Lib.hid fun j hj h => ?_) (Lib.hid fun h => ?_)
        · rw [hP]
          refine if_pos ⟨by omega, hw, ?_, h1, h2⟩
          rw [List.all_eq_true]
          intro c hc
          obtain ⟨j, hj, rfl⟩ := List.getElem_of_mem hc
          rw [isDigit_eq, decide_eq_true_eq]
          exact h j hj
        · rw [hP]
          refine if_neg fun x => ?_
          have := List.all_eq_true.1 x.2.2.1 _ (List.getElem_mem hj)
          rw [isDigit_eq, decide_eq_true_eq] at this
          exact h this
        · rw [hP]
          exact if_neg fun x => h x.2.2.2
      · have HF : Hid (firstP false s.data.toList = none) := Lib.hid (by rw [hP]; exact if_neg fun x => hw x.2.1)
        have HW : Hid (allReason sc.data.toList = false) := Lib.hid (by simpa using hw)
        clear hP hw
        have HSH := Lib.hid hsh
        have s0 : Hid (∀ o, (w.alloc o).ShapedOpen Tryz.prog) := Lib.hid (fun o => shaped_below HSH.out ((Below.refl _ _).alloc (Nat.le_refl _) o))
        have s1 : Hid (∀ o q, ((w.alloc o).drewN q).ShapedOpen Tryz.prog) := Lib.hid (fun o q => shaped_below HSH.out (below_drewN ((Below.refl _ _).alloc (Nat.le_refl _) o) q))
        clear hsh
        unfold FirstPost
        go_enter Tryz.func44, Tryz.ntmps44
        go_wp2
        refine wp_scope_to 0 rfl ?_
        intro J hJ
        go_upto_region 2 with (go_at_call 45; go_must (refine (cut_some_s s 32 _ (s0.out _) hs H1.out).mono ?_; rintro _ _ ⟨rfl, q, rfl⟩))
        go_upto_region 3 with (go_at_call 45; go_must (refine (cut_some_s sr 32 _ (s1.out _ _) HR.out H2.out).mono ?_; rintro _ _ ⟨rfl, q2, rfl⟩))
        go_wp2_with (first
          | (go_step3; (try simp only [Exit.then, jump_goto]); refine hJ _ _ ?_)
          | (go_at_call 78; go_must (refine (hminor_any sa _).mono ?_; rintro _ _ ⟨rfl, rfl⟩; rw [HM.out]))
          | (go_at_call 47; go_must (refine (hToken_any sa _ (by omega)).mono ?_; rintro _ _ ⟨rfl, rfl⟩; rw [HT.out]))
          | (go_at_call 48; go_must (refine (hwritten_plain sc _ (by omega)).mono ?_; rintro _ _ ⟨rfl, rfl⟩; rw [HW.out]))
          | (refine wpList_put rfl 52 (.tmp 4) (.tmp 126) rfl w.heap.size rfl (((Var.new w 52 [.bool false, .string ⟨#[]⟩, .string ⟨#[]⟩, .int .i64 0, .string ⟨#[]⟩, .int .i64 0, .slice none 0 0]).drewN _).set 5 _) [.bool false, .string ⟨#[]⟩, .string ⟨#[]⟩, .int .i64 0, .string ⟨#[]⟩, .int .i64 0, .slice none 0 0] rfl rfl (by kernel_rfl) (by simp [Value.oneCell']) ?_; intro w9 hv9 hg9 hs9))
        all_goals (try simp only [jump_ret])
        all_goals refine bodyPost_ret (results_var rfl _ _ rfl hv9 Tryz.underlying52 rfl (by kernel_rfl)) rfl ⟨by rw [HF.out]; rfl, ?_⟩
        all_goals refine Below.grown ?_ hg9 (by simp) (by intro k hk; simp at hk; omega)
        all_goals repeat' (first | refine Below.setCell ?_ (by simp) _ | refine below_drewN ?_ _ | refine Below.alloc ?_ (by simp <;> omega) _ | exact Below.refl _ _)
    · have HF : Hid (firstP false s.data.toList = none) := Lib.hid (by rw [hP]; exact if_neg fun x => hb3 (by rw [← hsd]; exact x.1))
      have HW : Hid (allReason sc.data.toList = allReason sc.data.toList) := Lib.hid rfl
      have hb3' : ¬ (sb.size : Int) = 3 := by omega
      clear hP hb3
      have HSH := Lib.hid hsh
      have s0 : Hid (∀ o, (w.alloc o).ShapedOpen Tryz.prog) := Lib.hid (fun o => shaped_below HSH.out ((Below.refl _ _).alloc (Nat.le_refl _) o))
      have s1 : Hid (∀ o q, ((w.alloc o).drewN q).ShapedOpen Tryz.prog) := Lib.hid (fun o q => shaped_below HSH.out (below_drewN ((Below.refl _ _).alloc (Nat.le_refl _) o) q))
      clear hsh
      unfold FirstPost
      go_enter Tryz.func44, Tryz.ntmps44
      go_wp2
      refine wp_scope_to 0 rfl ?_
      intro J hJ
      go_upto_region 2 with (go_at_call 45; go_must (refine (cut_some_s s 32 _ (s0.out _) hs H1.out).mono ?_; rintro _ _ ⟨rfl, q, rfl⟩))
      go_upto_region 3 with (go_at_call 45; go_must (refine (cut_some_s sr 32 _ (s1.out _ _) HR.out H2.out).mono ?_; rintro _ _ ⟨rfl, q2, rfl⟩))
      go_wp2_with (first
        | (go_step3; (try simp only [Exit.then, jump_goto]); refine hJ _ _ ?_)
        | (go_at_call 78; go_must (refine (hminor_any sa _).mono ?_; rintro _ _ ⟨rfl, rfl⟩; rw [HM.out]))
        | (go_at_call 47; go_must (refine (hToken_any sa _ (by omega)).mono ?_; rintro _ _ ⟨rfl, rfl⟩; rw [HT.out]))
        | (go_at_call 48; go_must (refine (hwritten_plain sc _ (by omega)).mono ?_; rintro _ _ ⟨rfl, rfl⟩; rw [HW.out]))
        | (refine wpList_put rfl 52 (.tmp 4) (.tmp 126) rfl w.heap.size rfl (((Var.new w 52 [.bool false, .string ⟨#[]⟩, .string ⟨#[]⟩, .int .i64 0, .string ⟨#[]⟩, .int .i64 0, .slice none 0 0]).drewN _).set 5 _) [.bool false, .string ⟨#[]⟩, .string ⟨#[]⟩, .int .i64 0, .string ⟨#[]⟩, .int .i64 0, .slice none 0 0] rfl rfl (by kernel_rfl) (by simp [Value.oneCell']) ?_; intro w9 hv9 hg9 hs9))
      all_goals (try simp only [jump_ret])
      all_goals refine bodyPost_ret (results_var rfl _ _ rfl hv9 Tryz.underlying52 rfl (by kernel_rfl)) rfl ⟨by rw [HF.out]; rfl, ?_⟩
      all_goals refine Below.grown ?_ hg9 (by simp) (by intro k hk; simp at hk; omega)
      all_goals repeat' (first | refine Below.setCell ?_ (by simp) _ | refine below_drewN ?_ _ | refine Below.alloc ?_ (by simp <;> omega) _ | exact Below.refl _ _)

/-- head.first -/
theorem hfirst_any (s : ByteArray) (rq : Bool) (w : World) (hsh : w.ShapedOpen Tryz.prog) (hs : s.size ≤ 16777216) : Calls Tryz.prog 44 #[.string s, .bool rq] w (FirstPost w rq s.data.toList) := by
  cases h1 : cutAt 32 s.data.toList with
  | none => exact hfirst_cut s rq w hsh hs h1
  | some p =>
    obtain ⟨a, r⟩ := p
    cases h2 : cutAt 32 r with
    | none => exact hfirst_cut2 s rq w hsh hs h1 h2
    | some p =>
      obtain ⟨b, c⟩ := p
      cases rq
      · exact hfirst_rs s ⟨a.toArray⟩ ⟨r.toArray⟩ ⟨b.toArray⟩ ⟨c.toArray⟩ w hsh hs h1 h2
      · exact hfirst_rq s ⟨a.toArray⟩ ⟨r.toArray⟩ ⟨b.toArray⟩ ⟨c.toArray⟩ w hsh hs h1 h2
end Go.Proofs.YtklmpadcfioefaaGreatDoor
