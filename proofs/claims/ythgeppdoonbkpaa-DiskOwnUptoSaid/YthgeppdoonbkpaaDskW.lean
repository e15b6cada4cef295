/- what a write of a file does (the closure made in Write). Conditions: sizes. -/
import Derived.Test.YthgeppdoonbkpaaDskS
import Derived.Deep.RegionHeld3
import Derived.Deep.DeepCutAuto
import Derived.Great.BuildSlice
namespace Go.Proofs.Ythgeppdoonbkpaa
open Go.RowKit
theorem infoSlB : (Try.prog.info? 22).map (fun i => (i.zero, i.size, i.bytes)) = some (some (.slice none 0 0), 1, 24) := by kernel_rfl
theorem run_three (u1 u2 u3 : Value) (h1 : u1.cells = #[u1]) (h2 : u2.cells = #[u2]) (h3 : u3.cells = #[u3]) (W : World) : (Instr.buildSlice 45 3 #[(0, u1), (1, u2), (2, u3)]).run Try.prog W = .ok (.slice (some ⟨W.heap.size, 0, none⟩) 3 3) (W.alloc (.cells #[u1, u2, u3] 22)) := by
  obtain ⟨j0, hj0, jz0, jz1, jz2⟩ := info_parts infoSlB
  refine run_buildSlice W 45 22 3 _ _ j0 (.slice none 0 0) Try.underlying45 hj0 jz0 (by rw [jz1]; omega) (by rw [jz1]; omega) ?_
  rw [jz1]
  simp [Instr.fill, h1, h2, h3]
  rw [show Array.range 3 = #[0, 1, 2] by rfl]
  simp
set_option maxHeartbeats 1000000 in
set_option maxRecDepth 100000 in
theorem dwriteC_any (A : Option Addr) (n c : Nat) (l : Bs) (w : World) (hA : A = none → n = 0 ∧ c = 0) (hrd : Rd w w.heap.size 1 A n (bytesV l)) (hnc : n ≤ c) (hn : n ≤ 10000000) (xa xo k : Nat) (hk : k ≤ n) (hxa : w.cell? ⟨xa, 0, none⟩ = some (.int .i64 (k : Int)))
    (A2 : Option Addr) (n2 c2 m : Nat) (d : Bs) (hA2 : A2 = none → n2 = 0 ∧ c2 = 0) (hrd2 : Rd w w.heap.size 1 A2 n2 (bytesV d)) (hnc2 : n2 ≤ c2) (hn2 : n2 ≤ 10000000) (hm : m ≤ n2) (hxo : w.cell? ⟨xo, 0, none⟩ = some (.slice A2 n2 c2)) :
    Calls Try.prog 35 #[.slice A n c, .int .i64 (m : Int), .pointer (some ⟨xa, 0, none⟩), .pointer (some ⟨xo, 0, none⟩)] w fun e w' => ∃ v, e = .returned v ∧ RowB w' w.heap.size v (Dsk.over l k d m) ∧ Below w.heap.size w w' := by
  obtain ⟨x, hx⟩ : ∃ x : Nat, x = min (k + m) n := ⟨_, rfl⟩
  have hxn : x ≤ n := by omega
  have hxc : (x : Int) ≤ (c : Int) := by omega
  have hkc : (k : Int) ≤ (c : Int) := by omega
  have hmc : (m : Int) ≤ (c2 : Int) := by omega
  have hmn : (if (n : Int) < IntKind.i64.wrap ((k : Int) + (m : Int)) then (n : Int) else IntKind.i64.wrap ((k : Int) + (m : Int))) = (x : Int) := by
    have hw : IntKind.i64.wrap ((k : Int) + (m : Int)) = (k : Int) + (m : Int) := IntWalk.i64_in _ (by omega)
    rw [hw]
    split <;> omega
  have hmin : min ((k : Int) + (m : Int)) (n : Int) = (x : Int) := by omega
  have HX := Lib.hid hx
  obtain ⟨A3, hA3⟩ : ∃ A3, A3 = (if c = x then A else Option.map (fun y => y.add x) A) := ⟨_, rfl⟩
  have hl : l.length = n := by have := hrd.1; rw [bytesV_len] at this; omega
  have hd2 : d.length = n2 := by have := hrd2.1; rw [bytesV_len] at this; omega
  have hrd3 : Rd w w.heap.size 1 A3 (n - x) (bytesV (l.drop x)) := by
    have h := hrd.shift (k := x) (cap := c) hxn hnc
    simp only [Nat.mul_one, bytesV_drop] at h
    rw [hA3]
    exact h
  have hA3n : A3 = none → n - x = 0 := by
    intro e
    rw [hA3] at e
    split at e
    · have := hA e; omega
    · cases hA0 : A with
      | none => have := hA hA0; omega
      | some a => rw [hA0] at e; cases e
  have hrd1 : Rd w w.heap.size 1 A k (bytesV (l.take k)) := by
    have h := hrd.pre (k := k) hk
    simpa only [Nat.mul_one, bytesV_take] using h
  have hrdd : Rd w w.heap.size 1 A2 m (bytesV (d.take m)) := by
    have h := hrd2.pre (k := m) hm
    simpa only [Nat.mul_one, bytesV_take] using h
  have hov : [l.take k, d.take m, l.drop x].flatten = Dsk.over l k d m := by
    unfold Dsk.over
    have : l.drop x = l.drop (k + m) := by
      by_cases h : k + m ≤ n
      · rw [show x = k + m by omega]
      · rw [List.drop_eq_nil_of_le (by omega), List.drop_eq_nil_of_le (by omega)]
    simp [this]
  have hpc : ∀ W, Below w.heap.size w W → ∀ c1 c3, W.cell? ⟨w.heap.size, 0, none⟩ = some (.slice A k c1) → W.cell? ⟨w.heap.size, 1, none⟩ = some (.slice A2 m c2) → W.cell? ⟨w.heap.size, 2, none⟩ = some (.slice A3 (n - x) c3) → PcC W (some ⟨w.heap.size, 0, none⟩) 3 [l.take k, d.take m, l.drop x] := by
    intro W hW c1 c3 g1 g2 g3
    have hlt : w.heap.size < W.heap.size := cell_lt g1
    refine ⟨rfl, fun j hj => ?_⟩
    rcases j with _ | _ | _ | j
    · exact ⟨w.heap.size, 0, A, c1, rfl, hlt, by simpa [Nat.min_eq_left (by omega : k ≤ l.length)] using g1, fun e => by have := hA e; simp; omega, by simpa [Nat.min_eq_left (by omega : k ≤ l.length)] using (hrd1.below hW).more hW.size⟩
    · exact ⟨w.heap.size, 0, A2, c2, rfl, hlt, by simpa [Nat.min_eq_left (by omega : m ≤ d.length)] using g2, fun e => by have := hA2 e; simp; omega, by simpa [Nat.min_eq_left (by omega : m ≤ d.length)] using (hrdd.below hW).more hW.size⟩
    · exact ⟨w.heap.size, 0, A3, c3, rfl, hlt, by simpa [hl] using g3, fun e => by have := hA3n e; simp; omega, by simpa [hl] using (hrd3.below hW).more hW.size⟩
    · simp at hj; omega
  have hsum : sumC [l.take k, d.take m, l.drop x] ≤ 100000000 := by
    simp [sumC]; omega
  have HPC := Lib.hid hpc
  have HSUM := Lib.hid hsum
  have HOV := Lib.hid hov
  clear hpc hsum hov hrd1 hrdd hl hd2
  have H3 := Lib.hid hrd3
  have H3N := Lib.hid hA3n
  have H3E := Lib.hid hA3
  clear hrd3 hA3n hA3
  have HK := Lib.hid (fun (W : World) (hW : Below w.heap.size w W) => (⟨hW, (hW.cell (p := ⟨xa, 0, none⟩) (cell_lt hxa)).trans hxa, (hW.cell (p := ⟨xo, 0, none⟩) (cell_lt hxo)).trans hxo⟩ : Below w.heap.size w W ∧ W.cell? ⟨xa, 0, none⟩ = some (.int .i64 (k : Int)) ∧ W.cell? ⟨xo, 0, none⟩ = some (.slice A2 n2 c2)))
  have HC := Lib.hid hA
  have HR := Lib.hid hrd
  have HR2 := Lib.hid hrd2
  have HA2 := Lib.hid hA2
  clear hx hA hrd hrd2 hA2
  go_enter Try.func35, Try.ntmps35
  go_upto_region 1 with (fail)
  refine wp_region_held_drew (S := (fun w' => Below w.heap.size w w' ∧ w'.cell? ⟨xa, 0, none⟩ = some (.int .i64 (k : Int)) ∧ w'.cell? ⟨xo, 0, none⟩ = some (.slice A2 n2 c2))) (by as_aux_lemma => kernel_rfl) ?_ (fun hHeld => ?_)
  · exact ⟨below_drewN (Below.refl _ _) _, by simpa using hxa, by simpa using hxo⟩
  refine wpAnyH_take (i := 0) (v := ?_) (by simp only [List.getElem?_toArray, List.getElem?_cons_zero]; exact rfl) (by as_aux_lemma => kernel_rfl) (by as_aux_lemma => kernel_rfl) (by as_aux_lemma => kernel_rfl) (by exact fun _ _ _ h => h) (Or.inl ⟨by rfl, ?_⟩) (by assumption) ?_
  rotate_left
  · intro w hSw
    (try dsimp only at hSw)
    go_simp
    try with_reducible rfl
  (try simp only [Act.put, List.setIfInBounds_toArray, List.set_cons_zero, List.set_cons_succ])
  refine wpAnyH_take (i := 1) (v := ?_) (by simp only [List.getElem?_toArray, List.getElem?_cons_succ, List.getElem?_cons_zero]; exact rfl) (by as_aux_lemma => kernel_rfl) (by as_aux_lemma => kernel_rfl) (by as_aux_lemma => kernel_rfl) (by exact fun _ _ _ h => h) (Or.inl ⟨by rfl, ?_⟩) (by assumption) ?_
  rotate_left
  · intro w hSw
    (try dsimp only at hSw)
    go_simp
    try with_reducible rfl
  (try simp only [Act.put, List.setIfInBounds_toArray, List.set_cons_zero, List.set_cons_succ])
  refine wpAnyH_take (i := 2) (v := ?_) (by simp only [List.getElem?_toArray, List.getElem?_cons_succ, List.getElem?_cons_zero]; exact rfl) (by as_aux_lemma => kernel_rfl) (by as_aux_lemma => kernel_rfl) (by as_aux_lemma => kernel_rfl) (by exact fun _ _ _ h => h) (Or.inl ⟨by rfl, ?_⟩) (by assumption) ?_
  rotate_left
  · intro w hSw
    (try dsimp only at hSw)
    go_simp
    try with_reducible rfl
  (try simp only [Act.put, List.setIfInBounds_toArray, List.set_cons_zero, List.set_cons_succ])
  refine wpAnyH_take (i := 3) (v := ?_) (by simp only [List.getElem?_toArray, List.getElem?_cons_succ, List.getElem?_cons_zero]; exact rfl) (by as_aux_lemma => kernel_rfl) (by as_aux_lemma => kernel_rfl) (by as_aux_lemma => kernel_rfl) (by exact fun _ _ _ h => h) (Or.inl ⟨by rfl, ?_⟩) (by assumption) ?_
  rotate_left
  · intro w hSw
    (try dsimp only at hSw)
    go_simp
    try with_reducible rfl
  (try simp only [Act.put, List.setIfInBounds_toArray, List.set_cons_zero, List.set_cons_succ])
  refine wpAnyH_take (i := 4) (v := ?_) (by simp only [List.getElem?_toArray, List.getElem?_cons_succ, List.getElem?_cons_zero]; exact rfl) (by as_aux_lemma => kernel_rfl) (by as_aux_lemma => kernel_rfl) (by as_aux_lemma => kernel_rfl) (by exact fun _ _ _ h => h) (Or.inl ⟨by rfl, ?_⟩) (by assumption) ?_
  rotate_left
  · intro w hSw
    (try dsimp only at hSw)
    go_simp
    try with_reducible rfl
  (try simp only [Act.put, List.setIfInBounds_toArray, List.set_cons_zero, List.set_cons_succ])
  refine wpAnyH_take (i := 5) (v := ?_) (by simp only [List.getElem?_toArray, List.getElem?_cons_succ, List.getElem?_cons_zero]; exact rfl) (by as_aux_lemma => kernel_rfl) (by as_aux_lemma => kernel_rfl) (by as_aux_lemma => kernel_rfl) (by exact fun _ _ _ h => h) (Or.inl ⟨by rfl, ?_⟩) (by assumption) ?_
  rotate_left
  · intro w hSw
    (try dsimp only at hSw)
    go_simp
    try with_reducible rfl
  (try simp only [Act.put, List.setIfInBounds_toArray, List.set_cons_zero, List.set_cons_succ])
  refine wpAnyH_take (i := 6) (v := ?_) (by simp only [List.getElem?_toArray, List.getElem?_cons_succ, List.getElem?_cons_zero]; exact rfl) (by as_aux_lemma => kernel_rfl) (by as_aux_lemma => kernel_rfl) (by as_aux_lemma => kernel_rfl) (by exact fun _ _ _ h => h) (Or.inl ⟨by rfl, ?_⟩) (by assumption) ?_
  rotate_left
  · intro w hSw
    (try dsimp only at hSw)
    go_simp
    try with_reducible rfl
  (try simp only [Act.put, List.setIfInBounds_toArray, List.set_cons_zero, List.set_cons_succ])
  refine wpAnyH_take (i := 7) (v := ?_) (by simp only [List.getElem?_toArray, List.getElem?_cons_succ, List.getElem?_cons_zero]; exact rfl) (by as_aux_lemma => kernel_rfl) (by as_aux_lemma => kernel_rfl) (by as_aux_lemma => kernel_rfl) (by exact fun _ _ _ h => h) (Or.inl ⟨by rfl, ?_⟩) (by assumption) ?_
  rotate_left
  · intro w hSw
    (try dsimp only at hSw)
    go_simp
    try with_reducible rfl
  (try simp only [Act.put, List.setIfInBounds_toArray, List.set_cons_zero, List.set_cons_succ])
  refine wpAnyH_take (i := 8) (v := ?_) (by simp only [List.getElem?_toArray, List.getElem?_cons_succ, List.getElem?_cons_zero]; exact rfl) (by as_aux_lemma => kernel_rfl) (by as_aux_lemma => kernel_rfl) (by as_aux_lemma => kernel_rfl) (by exact fun _ _ _ h => h) (Or.inl ⟨by rfl, ?_⟩) (by assumption) ?_
  rotate_left
  · intro w hSw
    (try dsimp only at hSw)
    go_simp
    try with_reducible rfl
  (try simp only [Act.put, List.setIfInBounds_toArray, List.set_cons_zero, List.set_cons_succ])
  refine wpAnyH_take (i := 9) (v := ?_) (by simp only [List.getElem?_toArray, List.getElem?_cons_succ, List.getElem?_cons_zero]; exact rfl) (by as_aux_lemma => kernel_rfl) (by as_aux_lemma => kernel_rfl) (by as_aux_lemma => kernel_rfl) (by exact fun _ _ _ h => h) (Or.inl ⟨by rfl, ?_⟩) (by assumption) ?_
  rotate_left
  · intro w hSw
    (try dsimp only at hSw)
    go_simp
    try with_reducible rfl
  (try simp only [Act.put, List.setIfInBounds_toArray, List.set_cons_zero, List.set_cons_succ])
  refine wpAnyH_take (i := 10) (v := ?_) (by simp only [List.getElem?_toArray, List.getElem?_cons_succ, List.getElem?_cons_zero]; exact rfl) (by as_aux_lemma => kernel_rfl) (by as_aux_lemma => kernel_rfl) (by as_aux_lemma => kernel_rfl) (by exact fun _ _ _ h => h) (Or.inl ⟨by rfl, ?_⟩) (by assumption) ?_
  rotate_left
  · intro w hSw
    (try dsimp only at hSw)
    go_simp
    try with_reducible rfl
  (try simp only [Act.put, List.setIfInBounds_toArray, List.set_cons_zero, List.set_cons_succ])
  refine wpAnyH_ready (rs := [11]) (by as_aux_lemma => kernel_rfl) (by simp) ?_
  refine AllReadyH.cons (by simp only [List.getElem?_toArray, List.getElem?_cons_succ, List.getElem?_cons_zero]; exact rfl) (fun K hK => ?_) AllReadyH.nil
  go_simp
  refine hK.out _ _ ?_ (fun hHeld => ?_)
  · (try dsimp only)
    exact hHeld
  clear hK K
  (try simp only [Act.put, List.setIfInBounds_toArray, List.set_cons_zero, List.set_cons_succ])
  refine wpAnyH_ready (rs := [12]) (by as_aux_lemma => kernel_rfl) (by simp) ?_
  refine AllReadyH.cons (by simp only [List.getElem?_toArray, List.getElem?_cons_succ, List.getElem?_cons_zero]; exact rfl) (fun K hK => ?_) AllReadyH.nil
  go_simp
  refine hK.out _ _ ?_ (fun hHeld => ?_)
  · (try dsimp only)
    exact hHeld
  clear hK K
  (try simp only [Act.put, List.setIfInBounds_toArray, List.set_cons_zero, List.set_cons_succ])
  refine wpAnyH_take (i := 13) (v := ?_) (by simp only [List.getElem?_toArray, List.getElem?_cons_succ, List.getElem?_cons_zero]; exact rfl) (by as_aux_lemma => kernel_rfl) (by as_aux_lemma => kernel_rfl) (by as_aux_lemma => kernel_rfl) (by exact fun _ _ _ h => h) (Or.inl ⟨by rfl, ?_⟩) (by assumption) ?_
  rotate_left
  · intro w hSw
    (try dsimp only at hSw)
    go_simp
    try with_reducible rfl
  (try simp only [Act.put, List.setIfInBounds_toArray, List.set_cons_zero, List.set_cons_succ])
  rw [← H3E.out]
  have HB := Lib.hid (fun (x1 x2 x3 : Option Addr) (l1 l2 l3 k1 k2 k3 : Nat) (W : World) => run_three (.slice x1 l1 k1) (.slice x2 l2 k2) (.slice x3 l3 k3) rfl rfl rfl W)
  refine wpAnyH_ready (rs := [14]) (by as_aux_lemma => kernel_rfl) (by simp) ?_
  refine AllReadyH.cons (by simp only [List.getElem?_toArray, List.getElem?_cons_succ, List.getElem?_cons_zero]; exact rfl) (fun K hK => ?_) AllReadyH.nil
  have hb3 := HB.out A A2 A3
  go_simp
  refine hK.out _ _ ?_ (fun hHeld => ?_)
  · (try dsimp only)
    exact HK.out _ (((Below.refl w.heap.size w).alloc (Nat.le_refl _) _).drew)
  clear hK K
  (try simp only [Act.put, List.setIfInBounds_toArray, List.set_cons_zero, List.set_cons_succ])
  have hba := ((Below.refl w.heap.size w).alloc (Nat.le_refl _) (.cells #[Value.slice A k c, Value.slice A2 m c2, Value.slice A3 (n - x) (c - x)] 22)).drew
  have hpc := HPC.out _ hba c (c - x) (by simp) (by simp) (by simp)
  have HBA := Lib.hid hba
  have HCC := Lib.hid (dconcat_any _ 3 3 _ _ hpc (by omega) HSUM.out)
  clear hba hpc
  refine wpAnyH_ready (rs := [15]) (by as_aux_lemma => kernel_rfl) (by simp) ?_
  refine AllReadyH.cons (by simp only [List.getElem?_toArray, List.getElem?_cons_succ, List.getElem?_cons_zero]; exact rfl) (fun K hK => ?_) AllReadyH.nil
  go_simp
  (go_at_call 36; refine HCC.out.mono ?_; rintro _ wz ⟨v, rfl, hr, hb⟩)
  have hbz := HBA.out.trans (hb.mono HBA.out.size)
  refine hK.out _ _ ?_ (fun hHeld => ?_)
  · (try dsimp only)
    exact HK.out _ hbz
  clear hK K
  (try simp only [Act.put, List.setIfInBounds_toArray, List.set_cons_zero, List.set_cons_succ])
  rw [HOV.out] at hr
  have HRZ := Lib.hid (Row.mono hr HBA.out.size : RowB wz w.heap.size v (Dsk.over l k d m))
  have HBZ := Lib.hid hbz
  clear hr hb hbz
  refine wpAnyH_take (i := 16) (v := ?_) (by simp only [List.getElem?_toArray, List.getElem?_cons_succ, List.getElem?_cons_zero]; exact rfl) (by as_aux_lemma => kernel_rfl) (by as_aux_lemma => kernel_rfl) (by as_aux_lemma => kernel_rfl) (by exact fun _ _ _ h => h) (Or.inl ⟨by rfl, ?_⟩) (by assumption) ?_
  rotate_left
  · intro w hSw
    (try dsimp only at hSw)
    go_simp
    try with_reducible rfl
  (try simp only [Act.put, List.setIfInBounds_toArray, List.set_cons_zero, List.set_cons_succ])
  refine wpAnyH_done (by as_aux_lemma => kernel_rfl) ?_ _
  go_wp2
  go_ret
  exact ⟨_, rfl, HRZ.out, HBZ.out⟩
end Go.Proofs.Ythgeppdoonbkpaa
