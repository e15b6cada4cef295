/- the reference's first: a first line is read as just the head that 'firstP' says. Condition: the size. -/
import Derived.Test.YtklmpadcfioefaaGreatDoorFirst2
namespace Go.Proofs.YtklmpadcfioefaaGreatDoor
open Go.RowKit

/-- what the reference's 'first' answers: a head and true; or false, and whatever lies in the head's cells -/
def RFirstPost (w : World) (rq : Bool) (l : Bs) (e : Ending) (w' : World) : Prop :=
  (match firstP rq l with
    | some h => e = .returned (.tuple #[.agg #[.bool h.rq, .string ⟨h.m.toArray⟩, .string ⟨h.t.toArray⟩, .int .i64 (h.st : Int), .string ⟨h.rs.toArray⟩, .int .i64 (h.mn : Int), .slice none 0 0], .bool true])
    | none => ∃ cs : List Value, cs.length = 7 ∧ (∀ u ∈ cs, u.oneCell' = true) ∧ e = .returned (.tuple #[.agg cs.toArray, .bool false])) ∧ Below w.heap.size w w'

theorem RFirstPost.no {w w' : World} {rq : Bool} {l : Bs} {e : Ending} (h : firstP rq l = none) (cs : List Value) (h1 : cs.length = 7) (h2 : ∀ u ∈ cs, u.oneCell' = true) (he : e = .returned (.tuple #[.agg cs.toArray, .bool false])) (hb : Below w.heap.size w w') : RFirstPost w rq l e w' := by
  unfold RFirstPost; rw [h]; exact ⟨⟨cs, h1, h2, he⟩, hb⟩
theorem RFirstPost.yes {w w' : World} {rq : Bool} {l : Bs} {e : Ending} {h : Hd} (hh : firstP rq l = some h) (he : e = .returned (.tuple #[.agg #[.bool h.rq, .string ⟨h.m.toArray⟩, .string ⟨h.t.toArray⟩, .int .i64 (h.st : Int), .string ⟨h.rs.toArray⟩, .int .i64 (h.mn : Int), .slice none 0 0], .bool true])) (hb : Below w.heap.size w w') : RFirstPost w rq l e w' := by
  unfold RFirstPost; rw [hh]; exact ⟨he, hb⟩
theorem placeP_some {c : UInt8} {l a b : Bs} (h : cutAt c l = some (a, b)) : placeP c l = a.length := by rw [placeP, h]
theorem placeP_no {c : UInt8} {l : Bs} (h : cutAt c l = none) : placeP c l = -1 := by rw [placeP, h]
theorem rplace_no (s : ByteArray) (c : UInt8) (w : World) (hs : s.size ≤ 16777216) (h : cutAt c s.data.toList = none) :
    Calls Tryz.prog 97 #[.string s, .int .u8 (c.toNat : Int)] w fun e w' => e = .returned (.int .i64 (-1)) ∧ w = w' :=
  (rplace_any s c w (by omega)).mono fun e w' ⟨h1, h2⟩ => ⟨by rw [h1, placeP_no h], h2⟩
theorem rplace_some (s : ByteArray) (c : UInt8) (w : World) (hs : s.size ≤ 16777216) {a b : ByteArray} (h : cutAt c s.data.toList = some (a.data.toList, b.data.toList)) :
    Calls Tryz.prog 97 #[.string s, .int .u8 (c.toNat : Int)] w fun e w' => e = .returned (.int .i64 (a.size : Int)) ∧ w = w' :=
  (rplace_any s c w (by omega)).mono fun e w' ⟨h1, h2⟩ => ⟨by rw [h1, placeP_some h, size_data], h2⟩

theorem ext_some {s a b : ByteArray} {c : UInt8} (h : cutAt c s.data.toList = some (a.data.toList, b.data.toList)) : s.extract 0 a.size = a ∧ s.extract (a.size + 1) s.size = b ∧ a.size + 1 + b.size = s.size := by
  obtain ⟨e, _⟩ := cutAt_some.1 h
  have hl := congrArg List.length e
  rw [List.length_append, List.length_cons, size_data, size_data, size_data] at hl
  refine ⟨?_, ?_, by omega⟩
  · have : (s.extract 0 a.size).data.toList = a.data.toList := by
      rw [Lib.extract_data, e, List.drop_zero, Nat.sub_zero, ← size_data, List.take_left]
    exact (byte_eta _).symm.trans ((congrArg (fun l : Bs => (⟨l.toArray⟩ : ByteArray)) this).trans (byte_eta _))
  · have : (s.extract (a.size + 1) s.size).data.toList = b.data.toList := by
      rw [Lib.extract_data, e, List.take_of_length_le (by rw [List.length_drop, List.length_append, List.length_cons, size_data, size_data]; omega)]
      rw [show a.data.toList ++ c :: b.data.toList = (a.data.toList ++ [c]) ++ b.data.toList by simp, List.drop_left' (by rw [List.length_append, size_data]; rfl)]
    exact (byte_eta _).symm.trans ((congrArg (fun l : Bs => (⟨l.toArray⟩ : ByteArray)) this).trans (byte_eta _))

theorem ext_two {s sa sr sb sc : ByteArray} {c : UInt8} (h : cutAt c s.data.toList = some (sa.data.toList, sr.data.toList)) (h2 : cutAt c sr.data.toList = some (sb.data.toList, sc.data.toList)) :
    s.extract (sa.size + 1) (sa.size + 1 + sb.size) = sb ∧ s.extract (sa.size + 2 + sb.size) s.size = sc := by
  obtain ⟨e, _⟩ := cutAt_some.1 h
  obtain ⟨e2, _⟩ := cutAt_some.1 h2
  have hd : s.data.toList.drop (sa.size + 1) = sr.data.toList := by
    rw [e, show sa.data.toList ++ c :: sr.data.toList = (sa.data.toList ++ [c]) ++ sr.data.toList by simp, List.drop_left' (by rw [List.length_append, size_data]; rfl)]
  have hl := congrArg List.length e
  rw [List.length_append, List.length_cons, size_data, size_data, size_data] at hl
  have hl2 := congrArg List.length e2
  rw [List.length_append, List.length_cons, size_data, size_data, size_data] at hl2
  constructor
  · have : (s.extract (sa.size + 1) (sa.size + 1 + sb.size)).data.toList = sb.data.toList := by
      rw [Lib.extract_data, hd, e2, show sa.size + 1 + sb.size - (sa.size + 1) = sb.size by omega, ← size_data, List.take_left]
    exact (byte_eta _).symm.trans ((congrArg (fun l : Bs => (⟨l.toArray⟩ : ByteArray)) this).trans (byte_eta _))
  · have : (s.extract (sa.size + 2 + sb.size) s.size).data.toList = sc.data.toList := by
      rw [Lib.extract_data, show sa.size + 2 + sb.size = sa.size + 1 + (sb.size + 1) by omega, ← List.drop_drop, hd, e2]
      rw [show sb.data.toList ++ c :: sc.data.toList = (sb.data.toList ++ [c]) ++ sc.data.toList by simp, List.drop_left' (by rw [List.length_append, size_data]; rfl)]
      rw [List.take_of_length_le (by rw [size_data]; omega)]
    exact (byte_eta _).symm.trans ((congrArg (fun l : Bs => (⟨l.toArray⟩ : ByteArray)) this).trans (byte_eta _))


set_option maxHeartbeats 1000000 in
set_option maxRecDepth 100000 in
theorem rfirst_cut (s : ByteArray) (rq : Bool) (w : World) (hs : s.size ≤ 16777216) (h : cutAt 32 s.data.toList = none) :
    Calls Tryz.prog 96 #[.string s, .bool rq] w (RFirstPost w rq s.data.toList) := by
  have HF : Hid (firstP rq s.data.toList = none) := Lib.hid (by rw [firstP, h])
  have H1 := Lib.hid h
  clear h
  go_enter Tryz.func96, Tryz.ntmps96
  go_wp2_with (first
    | (go_at_call 97; go_must (refine (rplace_no s 32 _ hs H1.out).mono ?_; rintro _ _ ⟨rfl, rfl⟩))
    | (refine wpList_put rfl 52 (.tmp 4) (.tmp 18) rfl w.heap.size rfl (Var.new w 52 [.bool false, .string ⟨#[]⟩, .string ⟨#[]⟩, .int .i64 0, .string ⟨#[]⟩, .int .i64 0, .slice none 0 0]) [.bool false, .string ⟨#[]⟩, .string ⟨#[]⟩, .int .i64 0, .string ⟨#[]⟩, .int .i64 0, .slice none 0 0] rfl rfl (by kernel_rfl) (by simp [Value.oneCell']) ?_; intro w9 hv9 hg9 hs9)
    | fail)
  refine bodyPost_ret (results_var rfl _ _ rfl hv9 Tryz.underlying52 rfl (by kernel_rfl)) rfl (RFirstPost.no HF.out _ rfl (by simp [Value.oneCell']) rfl ?_)
  refine Below.grown ?_ hg9 (by simp) (by intro k hk; simp at hk; omega)
  repeat' (first | refine Below.setCell ?_ (by simp) _ | refine below_drewN ?_ _ | refine Below.alloc ?_ (by simp <;> omega) _ | exact Below.refl _ _)

set_option maxHeartbeats 1000000 in
set_option maxRecDepth 100000 in
theorem rfirst_cut2 (s sa sr : ByteArray) (rq : Bool) (w : World) (hs : s.size ≤ 16777216) (h : cutAt 32 s.data.toList = some (sa.data.toList, sr.data.toList)) (h2 : cutAt 32 sr.data.toList = none) :
    Calls Tryz.prog 96 #[.string s, .bool rq] w (RFirstPost w rq s.data.toList) := by
  have HF : Hid (firstP rq s.data.toList = none) := Lib.hid (by rw [firstP, h]; simp only [h2])
  obtain ⟨z0, z2, z1⟩ := ext_some h
  have E2 := Lib.hid z2
  have H1 := Lib.hid h
  have H2 := Lib.hid h2
  clear h h2 z2 z0
  go_enter Tryz.func96, Tryz.ntmps96
  go_upto_region 4 with (go_at_call 97; go_must (refine (rplace_some s 32 _ hs H1.out).mono ?_; rintro _ _ ⟨rfl, rfl⟩))
  go_wp2_with (first
    | (go_at_call 97; rw [E2.out]; go_must (refine (rplace_no sr 32 _ (by omega) H2.out).mono ?_; rintro _ _ ⟨rfl, rfl⟩))
    | (refine wpList_put rfl 52 (.tmp 4) (.tmp 26) rfl w.heap.size rfl (Var.new w 52 [.bool false, .string ⟨#[]⟩, .string ⟨#[]⟩, .int .i64 0, .string ⟨#[]⟩, .int .i64 0, .slice none 0 0]) [.bool false, .string ⟨#[]⟩, .string ⟨#[]⟩, .int .i64 0, .string ⟨#[]⟩, .int .i64 0, .slice none 0 0] rfl rfl (by kernel_rfl) (by simp [Value.oneCell']) ?_; intro w9 hv9 hg9 hs9)
    | fail)
  refine bodyPost_ret (results_var rfl _ _ rfl hv9 Tryz.underlying52 rfl (by kernel_rfl)) rfl (RFirstPost.no HF.out _ rfl (by simp [Value.oneCell']) rfl ?_)
  refine Below.grown ?_ hg9 (by simp) (by intro k hk; simp at hk; omega)
  repeat' (first | refine Below.setCell ?_ (by simp) _ | refine below_drewN ?_ _ | refine Below.alloc ?_ (by simp <;> omega) _ | exact Below.refl _ _)

set_option maxHeartbeats 1000000 in
set_option maxRecDepth 100000 in
theorem rfirst_rq (s sa sr sb sc : ByteArray) (w : World) (hs : s.size ≤ 16777216) (h : cutAt 32 s.data.toList = some (sa.data.toList, sr.data.toList)) (h2 : cutAt 32 sr.data.toList = some (sb.data.toList, sc.data.toList)) :
    Calls Tryz.prog 96 #[.string s, .bool true] w (RFirstPost w true s.data.toList) := by
  obtain ⟨z1, z2, z3⟩ := ext_some h
  obtain ⟨y1, y2, y3⟩ := ext_some h2
  have E1 := Lib.hid z1
  have E2 := Lib.hid z2
  have H1 := Lib.hid h
  have H2 := Lib.hid h2
  have E3 := Lib.hid (ext_two h h2).1
  have E4 := Lib.hid (ext_two h h2).2
  clear h h2 z1 z2 y1 y2
  go_enter Tryz.func96, Tryz.ntmps96
  go_upto_region 4 with (go_at_call 97; go_must (refine (rplace_some s 32 _ hs H1.out).mono ?_; rintro _ _ ⟨rfl, rfl⟩))
  go_upto_region 7 with (go_at_call 97; rw [E2.out]; go_must (refine (rplace_some sr 32 _ (by omega) H2.out).mono ?_; rintro _ _ ⟨rfl, rfl⟩))
  go_quiet (fail)
  rw [E1.out, E3.out, E4.out]
  go_upto_region 12 with (fail)
  have xa : Var (((w.alloc (.cells #[.bool false, .string ⟨#[]⟩, .string ⟨#[]⟩, .int .i64 0, .string ⟨#[]⟩, .int .i64 0, .slice none 0 0] 52)).drewN nq).alloc (.cells #[.bool true, .string sa, .string sb, .int .i64 0, .string ⟨#[]⟩, .int .i64 0, .slice none 0 0] 52)) w.heap.size 52 [.bool false, .string ⟨#[]⟩, .string ⟨#[]⟩, .int .i64 0, .string ⟨#[]⟩, .int .i64 0, .slice none 0 0] := ((Var.new w 52 [.bool false, .string ⟨#[]⟩, .string ⟨#[]⟩, .int .i64 0, .string ⟨#[]⟩, .int .i64 0, .slice none 0 0]).drewN nq).alloc _
  have xb : Var (((w.alloc (.cells #[.bool false, .string ⟨#[]⟩, .string ⟨#[]⟩, .int .i64 0, .string ⟨#[]⟩, .int .i64 0, .slice none 0 0] 52)).drewN nq).alloc (.cells #[.bool true, .string sa, .string sb, .int .i64 0, .string ⟨#[]⟩, .int .i64 0, .slice none 0 0] 52)) (w.heap.size + 1) 52 [.bool true, .string sa, .string sb, .int .i64 0, .string ⟨#[]⟩, .int .i64 0, .slice none 0 0] := by
    have := Var.new ((w.alloc (.cells #[.bool false, .string ⟨#[]⟩, .string ⟨#[]⟩, .int .i64 0, .string ⟨#[]⟩, .int .i64 0, .slice none 0 0] 52)).drewN nq) 52 [.bool true, .string sa, .string sb, .int .i64 0, .string ⟨#[]⟩, .int .i64 0, .slice none 0 0]
    simpa using this
  have ba : Below w.heap.size w (((w.alloc (.cells #[.bool false, .string ⟨#[]⟩, .string ⟨#[]⟩, .int .i64 0, .string ⟨#[]⟩, .int .i64 0, .slice none 0 0] 52)).drewN nq).alloc (.cells #[.bool true, .string sa, .string sb, .int .i64 0, .string ⟨#[]⟩, .int .i64 0, .slice none 0 0] 52)) := Below.alloc (below_drewN ((Below.refl _ _).alloc (Nat.le_refl _) _) _) (by simp) _
  generalize (((w.alloc (.cells #[.bool false, .string ⟨#[]⟩, .string ⟨#[]⟩, .int .i64 0, .string ⟨#[]⟩, .int .i64 0, .slice none 0 0] 52)).drewN nq).alloc (.cells #[.bool true, .string sa, .string sb, .int .i64 0, .string ⟨#[]⟩, .int .i64 0, .slice none 0 0] 52)) = wa at xa xb ba
  have c5 := xb.cell (j := 5) rfl
  have f5 := xb.frozen 5
  go_upto_region 13 with (go_at_call 133; go_must (refine (rminor_any sc _).mono ?_; rintro _ _ ⟨rfl, rfl⟩))
  have XA := Lib.hid (xa.set_other (p := ⟨w.heap.size + 1, 5, none⟩) (by simp) (.int .i64 (minorI sc.data.toList)))
  have XB := Lib.hid (xb.set 5 (.int .i64 (minorI sc.data.toList)))
  have BA := Lib.hid (ba.setCell (p := ⟨w.heap.size + 1, 5, none⟩) (by simp) (.int .i64 (minorI sc.data.toList)))
  clear xa xb ba c5 f5
  generalize wa.setCell ⟨w.heap.size + 1, 5, none⟩ (.int .i64 (minorI sc.data.toList)) = wb at *
  have hP := firstP_rq H1.out H2.out
  have c5 := XB.out.cell (j := 5) rfl
  have hsb := size_data sb
  have hz : w.heap.size ≤ wb.heap.size := BA.out.size
  cases hm : minorP sc.data.toList with
  | none =>
    have HF : Hid (firstP true s.data.toList = none) := Lib.hid (by rw [hP, hm])
    have hmi : minorI sc.data.toList = -1 := by rw [minorI, hm]
    rw [hmi] at c5
    clear hm hP hmi
    go_wp2_with (first
      | (refine wpList_put rfl 52 (.tmp 4) (.tmp 66) rfl w.heap.size rfl XA.out [.bool false, .string ⟨#[]⟩, .string ⟨#[]⟩, .int .i64 0, .string ⟨#[]⟩, .int .i64 0, .slice none 0 0] rfl rfl (by kernel_rfl) (by simp [Value.oneCell']) ?_; intro w9 hv9 hg9 hs9)
      | fail)
    refine bodyPost_ret (results_var rfl _ _ rfl hv9 Tryz.underlying52 rfl (by kernel_rfl)) rfl (RFirstPost.no HF.out _ rfl (by simp [Value.oneCell']) rfl (Below.grown BA.out hg9 hz (by intro k hk; simp at hk; omega)))
  | some k =>
    have hmi : minorI sc.data.toList = k := by rw [minorI, hm]
    rw [hm] at hP
    simp only at hP
    rw [hmi] at c5 XB
    clear hm hmi
    by_cases ht : token sa.data.toList = true
    · by_cases hb : sb.data.toList = []
      · have HF : Hid (firstP true s.data.toList = none) := Lib.hid (by rw [hP]; exact if_neg fun x => x.2.1 hb)
        have HT := Lib.hid ht
        have hbe : (sb.toList == []) = true := by rw [empty_b]; simpa using hb
        clear hP ht hb
        go_wp2_with (first
          | (go_at_call 99; go_must (refine (rToken_any sa _ (by omega)).mono ?_; rintro _ _ ⟨rfl, rfl⟩; rw [HT.out]))
          | (refine wpList_put rfl 52 (.tmp 4) (.tmp 66) rfl w.heap.size rfl XA.out [.bool false, .string ⟨#[]⟩, .string ⟨#[]⟩, .int .i64 0, .string ⟨#[]⟩, .int .i64 0, .slice none 0 0] rfl rfl (by kernel_rfl) (by simp [Value.oneCell']) ?_; intro w9 hv9 hg9 hs9)
          | fail)
        refine bodyPost_ret (results_var rfl _ _ rfl hv9 Tryz.underlying52 rfl (by kernel_rfl)) rfl (RFirstPost.no HF.out _ rfl (by simp [Value.oneCell']) rfl (Below.grown BA.out hg9 hz (by intro k hk; simp at hk; omega)))
      · have hbe : (sb.toList == []) = false := by rw [empty_b]; simpa using hb
        have HT := Lib.hid ht
        have HY : Hid ((∀ j (h : j < sb.data.toList.length), 33 ≤ sb.data.toList[j].toNat ∧ sb.data.toList[j].toNat ≤ 126) → firstP true s.data.toList = some { rq := true, m := sa.data.toList, t := sb.data.toList, mn := k }) := Lib.hid (fun h => by
          rw [hP]
          refine if_pos ⟨HT.out, hb, ?_⟩
          rw [List.all_eq_true]
          intro c hc
          obtain ⟨j, hj, rfl⟩ := List.getElem_of_mem hc
          rw [isSeen_eq, decide_eq_true_eq]
          exact h j hj)
        have HX : Hid (∀ j (h : j < sb.data.toList.length), ¬ (33 ≤ sb.data.toList[j].toNat ∧ sb.data.toList[j].toNat ≤ 126) → firstP true s.data.toList = none) := Lib.hid (fun j hj h => by
          rw [hP]
          refine if_neg fun x => h ?_
          have := List.all_eq_true.1 x.2.2 _ (List.getElem_mem hj)
          rw [isSeen_eq, decide_eq_true_eq] at this
          exact this)
        clear hP ht hb
        go_wp2_with (first
          | (go_at_call 99; go_must (refine (rToken_any sa _ (by omega)).mono ?_; rintro _ _ ⟨rfl, rfl⟩; rw [HT.out]))
          | fail)
        go_loop [12] (fun i => ∃ j : Nat, j ≤ sb.size ∧ i = .int .i64 j ∧ (∀ q (h : q < sb.data.toList.length), q < j → 33 ≤ sb.data.toList[q].toNat ∧ sb.data.toList[q].toNat ≤ 126)) (fun i => sb.size - (intOf i).toNat)
        case atStart => exact ⟨0, Nat.zero_le _, rfl, fun q h hq => absurd hq (by omega)⟩
        case round =>
          obtain ⟨j, hj, rfl, hall⟩ := hrel
          have HA := Lib.hid hall
          clear hall
          by_cases hlt : j < sb.size
          · have hx : sb[j].toNat < 256 := UInt8.toNat_lt _
            have HBA := Lib.hid (byte_at sb j hlt)
            by_cases hd : 33 ≤ sb[j].toNat ∧ sb[j].toNat ≤ 126
            · have HN : Hid (∀ q (h : q < sb.data.toList.length), q < j + 1 → 33 ≤ sb.data.toList[q].toNat ∧ sb.data.toList[q].toNat ≤ 126) := Lib.hid (fun q h hq => by
                by_cases e : q = j
                · subst e; rw [HBA.out]; exact hd
                · exact HA.out q h (by omega))
              obtain ⟨hd1, hd2⟩ := hd
              go_wp2
              go_round
              case rel => exact ⟨j + 1, by omega, by go_num, HN.out⟩
              case measure => simp [intOf]; omega
            · have HF : Hid (firstP true s.data.toList = none) := Lib.hid (HX.out j (by omega) (by rw [HBA.out]; exact hd))
              have hd' : sb[j].toNat < 33 ∨ 126 < sb[j].toNat := by omega
              rcases hd' with hd' | hd'
              · go_wp2_with (first
                  | (refine wpList_put rfl 52 (.tmp 4) (.tmp 83) rfl w.heap.size rfl XA.out [.bool false, .string ⟨#[]⟩, .string ⟨#[]⟩, .int .i64 0, .string ⟨#[]⟩, .int .i64 0, .slice none 0 0] rfl rfl (by kernel_rfl) (by simp [Value.oneCell']) ?_; intro w9 hv9 hg9 hs9)
                  | fail)
                refine bodyPost_ret (results_var rfl _ _ rfl hv9 Tryz.underlying52 rfl (by kernel_rfl)) rfl (RFirstPost.no HF.out _ rfl (by simp [Value.oneCell']) rfl (Below.grown BA.out hg9 hz (by intro k hk; simp at hk; omega)))
              · have hd2 : ¬ sb[j].toNat < 33 := by omega
                go_wp2_with (first
                  | (refine wpList_put rfl 52 (.tmp 4) (.tmp 83) rfl w.heap.size rfl XA.out [.bool false, .string ⟨#[]⟩, .string ⟨#[]⟩, .int .i64 0, .string ⟨#[]⟩, .int .i64 0, .slice none 0 0] rfl rfl (by kernel_rfl) (by simp [Value.oneCell']) ?_; intro w9 hv9 hg9 hs9)
                  | fail)
                refine bodyPost_ret (results_var rfl _ _ rfl hv9 Tryz.underlying52 rfl (by kernel_rfl)) rfl (RFirstPost.no HF.out _ rfl (by simp [Value.oneCell']) rfl (Below.grown BA.out hg9 hz (by intro k hk; simp at hk; omega)))
          · have HF := Lib.hid (HY.out (fun q h => HA.out q h (by omega)))
            go_wp2_with (first
              | (refine wpList_load_mid rfl 52 (.tmp 11) rfl (w.heap.size + 1) 0 rfl [.bool true, .string sa, .string sb, .int .i64 0, .string ⟨#[]⟩, .int .i64 (k : Int), .slice none 0 0] _ XB.out.range Tryz.underlying52 rfl (by kernel_rfl) ?_)
              | (refine wpList_put rfl 52 (.tmp 4) (.tmp 84) rfl w.heap.size rfl XA.out [.bool true, .string sa, .string sb, .int .i64 0, .string ⟨#[]⟩, .int .i64 (k : Int), .slice none 0 0] rfl rfl (by kernel_rfl) (by simp [Value.oneCell']) ?_; intro w9 hv9 hg9 hs9)
              | fail)
            refine bodyPost_ret (results_var rfl _ _ rfl hv9 Tryz.underlying52 rfl (by kernel_rfl)) rfl (RFirstPost.yes HF.out (by simp only [byte_eta]; rfl) (Below.grown BA.out hg9 hz (by intro k hk; simp at hk; omega)))
    · have HF : Hid (firstP true s.data.toList = none) := Lib.hid (by rw [hP]; exact if_neg fun x => ht x.1)
      have HT : Hid (token sa.data.toList = false) := Lib.hid (by simpa using ht)
      clear hP ht
      go_wp2_with (first
        | (go_at_call 99; go_must (refine (rToken_any sa _ (by omega)).mono ?_; rintro _ _ ⟨rfl, rfl⟩; rw [HT.out]))
        | (refine wpList_put rfl 52 (.tmp 4) (.tmp 66) rfl w.heap.size rfl XA.out [.bool false, .string ⟨#[]⟩, .string ⟨#[]⟩, .int .i64 0, .string ⟨#[]⟩, .int .i64 0, .slice none 0 0] rfl rfl (by kernel_rfl) (by simp [Value.oneCell']) ?_; intro w9 hv9 hg9 hs9)
        | fail)
      refine bodyPost_ret (results_var rfl _ _ rfl hv9 Tryz.underlying52 rfl (by kernel_rfl)) rfl (RFirstPost.no HF.out _ rfl (by simp [Value.oneCell']) rfl (Below.grown BA.out hg9 hz (by intro k hk; simp at hk; omega)))
end Go.Proofs.YtklmpadcfioefaaGreatDoor
