/- A new proxy, that nobody has spoken to. No condition. -/
import Derived.Test.YthmpjemchjfoeaaGreatDoorPxNil
import Derived.Test.YthmpjemchjfoeaaGreatDoorVars
import Derived.Test.YthmpjemchjfoeaaGreatDoorIter
import Derived.MapKept
namespace Go.Proofs.YthmpjemchjfoeaaGreatDoor
open Go.RowKit Go.MapKept Go.Maps Go.Sort Go.Shelf
theorem zeroEnd (w : World) : (zeroValue 105).run Tryz.prog w = .ok .nilIface w := by kernel_rfl
theorem zeroExch (w : World) : (zeroValue 110).run Tryz.prog w = .ok (.pointer none) w := by kernel_rfl
theorem look_empty {P : Program} {t k e : TypeId} (ht : P.underlying t = some (.map k e)) (hk : P.underlying k = some (.int .i64)) {w : World} {z : Value} (hz : (zeroValue e).run P w = .ok z w) {b c : Nat} (hb : w.heap[b]? = some (.map #[] c)) (x : Int) :
    (Instr.lookup t (.map (some b)) (.int .i64 x) false).run P w = .ok z w := by
  have hck : (Instr.checkKey true 10000 k (.int .i64 x)).run P w = .ok () w := (fun n => by simp [Instr.checkKey, run_underlying hk, Sem.run_bind, Sem.run_pure] : ∀ n : Nat, (Instr.checkKey true (n + 1) k (.int .i64 x)).run P w = .ok () w) 9999
  have hf : (Instr.findKey k (.int .i64 x) []).run P w = .ok none w := by
    simp [Instr.findKey, run_underlying hk, Instr.findNow, Instr.findAsking, Sem.run_bind, Sem.run_pure]
  simp [Instr.lookup, run_underlying ht, Go.MapKept.run_getObj_map hb, hck, hf, hz, Sem.run_bind, Sem.run_pure]
/-- a proxy over empty maps; out: what it is to tell -/
structure Px (w : World) (pb xb yb : Nat) (out : Value) : Prop where
  var : ∃ a0 a1 a2 a3 a4 a5 a6 a7 a8 a9, Var w pb 99 [a0, a1, a2, a3, a4, a5, a6, a7, a8, a9, .map (some xb), .map (some yb), out]
  mx : ∃ c, w.heap[xb]? = some (.map #[] c)
  my : ∃ c, w.heap[yb]? = some (.map #[] c)
section
variable {w w' : World} {pb xb yb : Nat} {out : Value}
theorem Px.below (h : Px w pb xb yb out) (hb : Below w.heap.size w w') : Px w' pb xb yb out := by
  obtain ⟨⟨a0, a1, a2, a3, a4, a5, a6, a7, a8, a9, hv⟩, ⟨c, hx⟩, ⟨c', hy⟩⟩ := h
  exact ⟨⟨a0, a1, a2, a3, a4, a5, a6, a7, a8, a9, hv.below_all hb⟩, ⟨c, (hb.block xb (Array.getElem?_eq_some_iff.1 hx).1).trans hx⟩, ⟨c', (hb.block yb (Array.getElem?_eq_some_iff.1 hy).1).trans hy⟩⟩
theorem Px.lookX (h : Px w pb xb yb out) (x : Int) : (Instr.lookup 96 (.map (some xb)) (.int .i64 x) false).run Tryz.prog w = .ok .nilIface w := by
  obtain ⟨c, hx⟩ := h.mx
  exact look_empty Tryz.underlying96 Tryz.underlying3 (zeroEnd w) hx x
theorem Px.lookY (h : Px w pb xb yb out) (x : Int) : (Instr.lookup 97 (.map (some yb)) (.int .i64 x) false).run Tryz.prog w = .ok (.pointer none) w := by
  obtain ⟨c, hy⟩ := h.my
  exact look_empty Tryz.underlying97 Tryz.underlying3 (zeroExch w) hy x
theorem Px.cells (h : Px w pb xb yb out) : w.cell? ⟨pb, 10, none⟩ = some (.map (some xb)) ∧ w.cell? ⟨pb, 11, none⟩ = some (.map (some yb)) ∧ w.cell? ⟨pb, 12, none⟩ = some out ∧ w.frozen? ⟨pb, 12, none⟩ = false := by
  obtain ⟨⟨a0, a1, a2, a3, a4, a5, a6, a7, a8, a9, hv⟩, _, _⟩ := h
  exact ⟨hv.cell (j := 10) rfl, hv.cell (j := 11) rfl, hv.cell (j := 12) rfl, hv.frozen 12⟩
theorem Px.ne (h : Px w pb xb yb out) : pb ≠ xb ∧ pb ≠ yb := by
  obtain ⟨⟨a0, a1, a2, a3, a4, a5, a6, a7, a8, a9, hv⟩, ⟨c, hx⟩, ⟨c', hy⟩⟩ := h
  unfold Var at hv
  exact ⟨fun e => (by rw [e, hx] at hv; cases hv), fun e => (by rw [e, hy] at hv; cases hv)⟩
theorem Px.put (h : Px w pb xb yb out) (o : Value) : Px (w.setCell ⟨pb, 12, none⟩ o) pb xb yb o := by
  have hn := h.ne
  obtain ⟨⟨a0, a1, a2, a3, a4, a5, a6, a7, a8, a9, hv⟩, ⟨c, hx⟩, ⟨c', hy⟩⟩ := h
  exact ⟨⟨a0, a1, a2, a3, a4, a5, a6, a7, a8, a9, hv.set 12 o⟩, ⟨c, (Below.heap_setCell w _ o xb hn.1.symm).trans hx⟩, ⟨c', (Below.heap_setCell w _ o yb hn.2.symm).trans hy⟩⟩
theorem Px.lt (h : Px w pb xb yb out) : pb < w.heap.size := by
  obtain ⟨⟨a0, a1, a2, a3, a4, a5, a6, a7, a8, a9, hv⟩, _, _⟩ := h
  exact hv.lt
set_option maxRecDepth 100000 in
theorem qNew (seed : Int) (most wait limit : Int) (w : World) (hok : 1 ≤ most ∧ most ≤ 64 ∧ 0 ≤ wait ∧ 1 ≤ limit) :
    Calls Tryz.prog 11 #[.int .u64 seed, .int .i64 most, .int .i64 wait, .int .i64 limit] w fun e w' => ∃ pb xb yb, e = .returned (.tuple #[.pointer (some ⟨pb, 0, none⟩), .int .i64 0]) ∧ Px w' pb xb yb (.slice none 0 0) ∧ w.heap.size ≤ pb ∧ Below w.heap.size w w' := by
  have hmm := @run_makeMap Tryz.prog
  obtain ⟨h1, h2, h3, h4⟩ := hok
  have HP : Hid (∀ W, Calls Tryz.prog 33 #[.int .i64 most, .int .i64 wait] W fun e w' => ∃ g, e = .returned (.tuple #[.pointer (some ⟨g, 0, none⟩), .int .i64 0]) ∧ Below W.heap.size W w') := Lib.hid (fun W => by
    have n1 : ¬ most < 1 := by omega
    have n2 : ¬ 64 < most := by omega
    have n3 : ¬ wait < 0 := by omega
    go_enter Tryz.func33, Tryz.ntmps33
    go_wp2
    go_ret2
    exact ⟨⟨_, rfl⟩, (((Below.refl _ _).alloc (Nat.le_refl _) _).alloc (by simp) _).alloc (by simp; omega) _⟩)
  have HD : Hid (∀ W, Calls Tryz.prog 34 #[.int .u64 seed] W fun e w' => ∃ g, e = .returned (.pointer (some ⟨g, 0, none⟩)) ∧ Below W.heap.size W w') := Lib.hid (fun W => by
    go_enter Tryz.func34, Tryz.ntmps34
    go_wp2
    go_ret
    exact ⟨_, rfl, (Below.refl _ _).alloc (Nat.le_refl _) _⟩)
  have n4 : ¬ limit < 1 := by omega
  go_enter Tryz.func11, Tryz.ntmps11
  go_wp2_with (first
    | (go_at_call 33; go_must (refine (HP.out _).mono ?_; rintro _ w1 ⟨g1, rfl, b1⟩))
    | (go_at_call 34; go_must (refine (HD.out _).mono ?_; rintro _ w2 ⟨g2, rfl, b2⟩))
    | fail)
  go_ret2
  have hz1 := b1.size
  have hz2 := b2.size
  obtain ⟨wa, hwa⟩ : ∃ wa, wa = w2.alloc (.cells #[.slice none 0 0] 95) := ⟨_, rfl⟩
  obtain ⟨wb, hwb⟩ : ∃ wb, wb = wa.alloc (.map #[] 0) := ⟨_, rfl⟩
  obtain ⟨wc, hwc⟩ : ∃ wc, wc = wb.alloc (.map #[] 0) := ⟨_, rfl⟩
  have sa : wa.heap.size = w2.heap.size + 1 := by rw [hwa]; simp
  have sb : wb.heap.size = w2.heap.size + 2 := by rw [hwb]; simp [sa]
  have sc : wc.heap.size = w2.heap.size + 3 := by rw [hwc]; simp [sb]
  rw [← hwa, ← hwb, ← hwc]
  refine ⟨w2.heap.size + 3, w2.heap.size + 1, w2.heap.size + 2, rfl, ⟨⟨_, _, _, _, _, _, _, _, _, _, by rw [← sc]; exact Var.new wc _ _⟩, ⟨0, ?_⟩, ⟨0, ?_⟩⟩, by omega, ?_⟩
  · rw [Below.heap_alloc _ _ _ (by omega), hwc, Below.heap_alloc _ _ _ (by omega), hwb, ← sa]
    exact heap_alloc_new wa _
  · rw [Below.heap_alloc _ _ _ (by omega), hwc, ← sb]
    exact heap_alloc_new wb _
  · rw [hwc, hwb, hwa]
    exact (b1.trans (b2.mono hz1)).trans (((((Below.refl w2.heap.size w2).alloc (Nat.le_refl _) _).alloc (by simp) _).alloc (by simp; omega) _).alloc (by simp; omega) _ |>.mono (by omega))
set_option maxRecDepth 100000 in
theorem qNot (seed : Int) (most wait limit : Int) (w : World) (hno : ¬ (1 ≤ most ∧ most ≤ 64 ∧ 0 ≤ wait ∧ 1 ≤ limit)) :
    Calls Tryz.prog 11 #[.int .u64 seed, .int .i64 most, .int .i64 wait, .int .i64 limit] w fun e w' => e = .returned (.tuple #[.pointer none, .int .i64 2]) ∧ Below w.heap.size w w' := by
  by_cases h4 : limit < 1
  · go_enter Tryz.func11, Tryz.ntmps11
    go_wp2
    go_ret2
    exact ⟨rfl, Below.refl _ _⟩
  have HP : Hid (∀ W, Calls Tryz.prog 33 #[.int .i64 most, .int .i64 wait] W fun e w' => e = .returned (.tuple #[.pointer none, .int .i64 2]) ∧ w' = W) := Lib.hid (fun W => by
    by_cases n1 : most < 1
    · go_enter Tryz.func33, Tryz.ntmps33
      go_wp2
      go_ret2
      exact ⟨rfl, rfl⟩
    by_cases n2 : 64 < most
    · go_enter Tryz.func33, Tryz.ntmps33
      go_wp2
      go_ret2
      exact ⟨rfl, rfl⟩
    have n3 : wait < 0 := by omega
    go_enter Tryz.func33, Tryz.ntmps33
    go_wp2
    go_ret2
    exact ⟨rfl, rfl⟩)
  clear hno
  go_enter Tryz.func11, Tryz.ntmps11
  go_wp2_with (first
    | (go_at_call 33; go_must (refine (HP.out _).mono ?_; rintro _ w1 ⟨rfl, b1⟩; obtain rfl := b1.symm))
    | fail)
  go_ret2
  exact ⟨rfl, Below.refl _ _⟩
end
end Go.Proofs.YthmpjemchjfoeaaGreatDoor
