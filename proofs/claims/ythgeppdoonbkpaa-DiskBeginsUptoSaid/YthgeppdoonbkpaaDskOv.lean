/- over: bytes with others over them at a place. Conditions: sizes. -/
import Derived.Test.YthgeppdoonbkpaaDskW
namespace Go.Proofs.Ythgeppdoonbkpaa
open Go.RowKit
set_option maxHeartbeats 1000000 in
set_option maxRecDepth 100000 in
theorem dover_any (A : Option Addr) (n c : Nat) (l : Bs) (A2 : Option Addr) (n2 c2 : Nat) (d : Bs) (a m : Nat) (w : World) (hA : A = none → n = 0 ∧ c = 0) (hrd : Rd w w.heap.size 1 A n (bytesV l)) (hnc : n ≤ c) (hn : n ≤ 10000000) (ha : a ≤ n)
    (hA2 : A2 = none → n2 = 0 ∧ c2 = 0) (hrd2 : Rd w w.heap.size 1 A2 n2 (bytesV d)) (hnc2 : n2 ≤ c2) (hn2 : n2 ≤ 10000000) (hm : m ≤ n2) :
    Calls Try.prog 23 #[.slice A n c, .int .i64 (a : Int), .slice A2 n2 c2, .int .i64 (m : Int)] w fun e w' => ∃ v, e = .returned v ∧ RowB w' w.heap.size v (Dsk.over l a d m) ∧ Below w.heap.size w w' := by
  have hl : l.length = n := by have := hrd.1; rw [bytesV_len] at this; omega
  have hd : d.length = n2 := by have := hrd2.1; rw [bytesV_len] at this; omega
  have hac : (a : Int) ≤ (c : Int) := by omega
  have hmc : (m : Int) ≤ (c2 : Int) := by omega
  have hrd1 : Rd w w.heap.size 1 A a (bytesV (l.take a)) := by
    have h := hrd.pre (k := a) ha
    simpa only [Nat.mul_one, bytesV_take] using h
  have hrdd : Rd w w.heap.size 1 A2 m (bytesV (d.take m)) := by
    have h := hrd2.pre (k := m) hm
    simpa only [Nat.mul_one, bytesV_take] using h
  have S1 := Lib.hid (fun (W : World) (hW : Below w.heap.size w W) => (SrcB.slice (c := c) (hrd1.keeps hW) (fun e => by have := hA e; omega) : SrcB W 22 (.slice A a c) (l.take a)))
  have S2 := Lib.hid (fun (W : World) (hW : Below w.heap.size w W) => (SrcB.slice (c := c2) (hrdd.keeps hW) (fun e => by have := hA2 e; omega) : SrcB W 22 (.slice A2 m c2) (d.take m)))
  have L1 := Lib.hid (show (l.take a).length = a by rw [List.length_take]; omega)
  have L2 := Lib.hid (show (d.take m).length = m by rw [List.length_take]; omega)
  have HRD := Lib.hid hrd
  have HA := Lib.hid hA
  have HL := Lib.hid hl
  clear hrd1 hrdd hrd hrd2 hA hA2 hl hd
  go_enter Try.func23, Try.ntmps23
  go_upto_region 2 with (fail)
  refine wp_region_held_drew (S := Below w.heap.size w) (by as_aux_lemma => kernel_rfl) ?_ (fun hHeld => ?_)
  · exact below_drewN (Below.refl _ _) _
  refine wpAnyH_take (i := 0) (v := ?_) (by simp only [List.getElem?_toArray, List.getElem?_cons_zero]; exact rfl) (by as_aux_lemma => kernel_rfl) (by as_aux_lemma => kernel_rfl) (by as_aux_lemma => kernel_rfl) (by exact fun _ _ _ h => h) (Or.inl ⟨by rfl, ?_⟩) (by assumption) ?_
  rotate_left
  · intro w hSw
    (try dsimp only at hSw)
    go_simp
    try with_reducible rfl
  (try simp only [Act.put, List.setIfInBounds_toArray, List.set_cons_zero, List.set_cons_succ])
  refine wpAnyH_take (i := 1) (v := ?_) (by simp only [List.getElem?_toArray, List.getElem?_cons_succ, List.getElem?_cons_zero]; exact rfl) (by as_aux_lemma => kernel_rfl) (by as_aux_lemma => kernel_rfl) (by as_aux_lemma => kernel_rfl) (by exact fun _ _ _ h => h) (Or.inl ⟨by rfl, ?_⟩) (by assumption) ?_
  rotate_left
  · intro w hSw
    (try dsimp only at hSw)
    go_simp
    try with_reducible rfl
  (try simp only [Act.put, List.setIfInBounds_toArray, List.set_cons_zero, List.set_cons_succ])
  refine wpAnyH_take (i := 2) (v := ?_) (by simp only [List.getElem?_toArray, List.getElem?_cons_succ, List.getElem?_cons_zero]; exact rfl) (by as_aux_lemma => kernel_rfl) (by as_aux_lemma => kernel_rfl) (by as_aux_lemma => kernel_rfl) (by exact fun _ _ _ h => h) (Or.inl ⟨by rfl, ?_⟩) (by assumption) ?_
  rotate_left
  · intro w hSw
    (try dsimp only at hSw)
    go_simp
    try with_reducible rfl
  (try simp only [Act.put, List.setIfInBounds_toArray, List.set_cons_zero, List.set_cons_succ])
  refine wpAnyH_take (i := 3) (v := ?_) (by simp only [List.getElem?_toArray, List.getElem?_cons_succ, List.getElem?_cons_zero]; exact rfl) (by as_aux_lemma => kernel_rfl) (by as_aux_lemma => kernel_rfl) (by as_aux_lemma => kernel_rfl) (by exact fun _ _ _ h => h) (Or.inl ⟨by rfl, ?_⟩) (by assumption) ?_
  rotate_left
  · intro w hSw
    (try dsimp only at hSw)
    go_simp
    try with_reducible rfl
  (try simp only [Act.put, List.setIfInBounds_toArray, List.set_cons_zero, List.set_cons_succ])
  refine wpAnyH_take (i := 5) (v := ?_) (by simp only [List.getElem?_toArray, List.getElem?_cons_succ, List.getElem?_cons_zero]; exact rfl) (by as_aux_lemma => kernel_rfl) (by as_aux_lemma => kernel_rfl) (by as_aux_lemma => kernel_rfl) (by exact fun _ _ _ h => h) (Or.inl ⟨by rfl, ?_⟩) (by assumption) ?_
  rotate_left
  · intro w hSw
    (try dsimp only at hSw)
    go_simp
    try with_reducible rfl
  (try simp only [Act.put, List.setIfInBounds_toArray, List.set_cons_zero, List.set_cons_succ])
  refine wpAnyH_take (i := 6) (v := ?_) (by simp only [List.getElem?_toArray, List.getElem?_cons_succ, List.getElem?_cons_zero]; exact rfl) (by as_aux_lemma => kernel_rfl) (by as_aux_lemma => kernel_rfl) (by as_aux_lemma => kernel_rfl) (by exact fun _ _ _ h => h) (Or.inl ⟨by rfl, ?_⟩) (by assumption) ?_
  rotate_left
  · intro w hSw
    (try dsimp only at hSw)
    go_simp
    try with_reducible rfl
  (try simp only [Act.put, List.setIfInBounds_toArray, List.set_cons_zero, List.set_cons_succ])
  refine wpAnyH_take (i := 7) (v := ?_) (by simp only [List.getElem?_toArray, List.getElem?_cons_succ, List.getElem?_cons_zero]; exact rfl) (by as_aux_lemma => kernel_rfl) (by as_aux_lemma => kernel_rfl) (by as_aux_lemma => kernel_rfl) (by exact fun _ _ _ h => h) (Or.inl ⟨by rfl, ?_⟩) (by assumption) ?_
  rotate_left
  · intro w hSw
    (try dsimp only at hSw)
    go_simp
    try with_reducible rfl
  (try simp only [Act.put, List.setIfInBounds_toArray, List.set_cons_zero, List.set_cons_succ])
  refine wpAnyH_ready (rs := [4]) (by as_aux_lemma => kernel_rfl) (by simp) ?_
  refine AllReadyH.cons (by simp only [List.getElem?_toArray, List.getElem?_cons_succ, List.getElem?_cons_zero]; exact rfl) (fun K hK => ?_) AllReadyH.nil
  (refine step_appB (by rfl) (.tmp 10) (.tmp 13) 22 (by rfl) w.heap.size (v := .slice none 0 0) (L := []) (by rfl) (RowB.nil _ _) (xv := .slice A a c) (by rfl) (S1.out _ hHeld) (by rw [L1.out]; simp; omega) hHeld.size ?_; intro v1 w1 hr1 hb1 hg1 ho1)
  have hbx1 := hHeld.trans hb1
  rw [List.nil_append] at hr1
  refine hK.out _ _ ?_ (fun hHeld => ?_)
  · (try dsimp only)
    exact hbx1
  clear hK K
  (try simp only [Act.put, List.setIfInBounds_toArray, List.set_cons_zero, List.set_cons_succ])
  refine wpAnyH_ready (rs := [8]) (by as_aux_lemma => kernel_rfl) (by simp) ?_
  refine AllReadyH.cons (by simp only [List.getElem?_toArray, List.getElem?_cons_succ, List.getElem?_cons_zero]; exact rfl) (fun K hK => ?_) AllReadyH.nil
  (refine step_appB (by rfl) (.tmp 14) (.tmp 17) 22 (by rfl) w.heap.size (v := v1) (L := l.take a) (by rfl) hr1 (xv := .slice A2 m c2) (by rfl) (S2.out _ hHeld) (by rw [L1.out, L2.out]; omega) hHeld.size ?_; intro v2 w2 hr2 hb2 hg2 ho2)
  have hbx2 := hHeld.trans hb2
  refine hK.out _ _ ?_ (fun hHeld => ?_)
  · (try dsimp only)
    exact hbx2
  clear hK K
  (try simp only [Act.put, List.setIfInBounds_toArray, List.set_cons_zero, List.set_cons_succ])
  refine wpAnyH_take (i := 9) (v := ?_) (by simp only [List.getElem?_toArray, List.getElem?_cons_succ, List.getElem?_cons_zero]; exact rfl) (by as_aux_lemma => kernel_rfl) (by as_aux_lemma => kernel_rfl) (by as_aux_lemma => kernel_rfl) (by exact fun _ _ _ h => h) (Or.inl ⟨by rfl, ?_⟩) (by assumption) ?_
  rotate_left
  · intro w hSw
    (try dsimp only at hSw)
    go_simp
    try with_reducible rfl
  (try simp only [Act.put, List.setIfInBounds_toArray, List.set_cons_zero, List.set_cons_succ])
  refine wpAnyH_done (by as_aux_lemma => kernel_rfl) ?_ _
  obtain ⟨A3, c3, rfl, _, _, _, _⟩ := RowB.form hr2
  have e12 : (l.take a ++ d.take m).length = a + m := by rw [List.length_append, L1.out, L2.out]
  have HR2 := Lib.hid hr2
  have HB2 := Lib.hid hbx2
  have HE := Lib.hid e12
  rw [e12]
  obtain ⟨y, hy⟩ : ∃ y : Nat, y = a + m := ⟨_, rfl⟩
  rw [← hy] at HE ⊢
  have hr3 : RowB w2 w.heap.size (.slice A3 y c3) (l.take a ++ d.take m) := by have := HR2.out; rw [HE.out] at this; exact this
  have HR3 := Lib.hid hr3
  clear hr3
  have HY := Lib.hid hy
  have hwr : IntKind.i64.wrap ((a : Int) + (m : Int)) = (y : Int) := by rw [hy, IntWalk.i64_in _ (by omega)]; omega
  have hadd : (a : Int) + (m : Int) = (y : Int) := by omega
  clear hr1 hb1 hg1 ho1 hbx1 hr2 hb2 hg2 ho2 hbx2 hHeld e12 hy
  by_cases hlt : y < n
  · have hyc : (y : Int) ≤ (c : Int) := by omega
    have hrd4 : Rd w w.heap.size 1 (Option.map (fun z => z.add y) A) (n - y) (bytesV (l.drop y)) := by
      have h := HRD.out.shift (k := y) (cap := c) (by omega) hnc
      rw [if_neg (by omega)] at h
      simp only [Nat.mul_one, bytesV_drop] at h
      exact h
    have hA4n : Option.map (fun z => z.add y) A = none → n - y = 0 := by
      intro e
      cases hA0 : A with
      | none => have := HA.out hA0; omega
      | some a => rw [hA0] at e; cases e
    have S4 := Lib.hid (SrcB.slice (c := c - y) (hrd4.keeps HB2.out) hA4n : SrcB w2 22 (.slice (Option.map (fun z => z.add y) A) (n - y) (c - y)) (l.drop y))
    have L4 := Lib.hid (show (l.drop y).length = n - y by rw [List.length_drop, HL.out])
    have hno : (n : Int) - (y : Int) = ((n - y : Nat) : Int) := by omega
    clear hrd4 hA4n
    go_wp2_with (first
      | (at_builtin; (refine wpList_appB (v := .slice A3 y c3) (L := l.take a ++ d.take m) (M := l.drop y) rfl (.tmp 25) (.tmp 30) 22 rfl w.heap.size rfl HR3.out rfl S4.out (by rw [HE.out, L4.out]; omega) HB2.out.size ?_); intro v5 w5 hr5 hb5 hg5 ho5)
      | fail)
    go_ret
    refine ⟨_, rfl, ?_, HB2.out.trans hb5⟩
    have e : l.take a ++ d.take m ++ l.drop y = Dsk.over l a d m := by unfold Dsk.over; rw [HY.out]
    rw [e] at hr5
    exact hr5
  · have hge : ¬ (y : Int) < (n : Int) := by omega
    go_wp2
    go_ret
    refine ⟨_, rfl, ?_, HB2.out⟩
    have e : Dsk.over l a d m = l.take a ++ d.take m := by unfold Dsk.over; rw [← HY.out, List.drop_eq_nil_of_le (by rw [HL.out]; omega), List.append_nil]
    rw [e]
    exact HR3.out
end Go.Proofs.Ythgeppdoonbkpaa
