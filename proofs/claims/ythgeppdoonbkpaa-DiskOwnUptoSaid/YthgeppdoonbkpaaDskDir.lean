/- a directory of the disk in memory: a map from names to files. Conditions: sizes. -/
import Derived.Test.YthgeppdoonbkpaaDskD
import Derived.Test.YthgeppdoonbkpaaMB
import Derived.Maps.OwnOps
import Derived.Maps.Views
namespace Go.Proofs.Ythgeppdoonbkpaa
open Go.RowKit Go.Maps Go.WideMaps
theorem dkeyLaw : Keyed Try.prog 9 := string_keyed Try.underlying9
theorem zeroFile (w : World) : (zeroValue 67).run Try.prog w = .ok (.pointer none) w := by kernel_rfl
/-- a file is read as the number of its block -/
def fileElem (v : Value) : Option (DataW Unit × List MemPlace) :=
  match v with
  | .pointer none => some (.lit (.int .i64 (-1)), [])
  | .pointer (some ⟨g, 0, none⟩) => some (.lit (.int .i64 (g : Nat)), [])
  | _ => none
theorem fileElem_inv {v : Value} {z : DataW Unit × List MemPlace} (h : fileElem v = some z) : (v = .pointer none ∧ z = (.lit (.int .i64 (-1)), [])) ∨ ∃ g : Nat, v = .pointer (some ⟨g, 0, none⟩) ∧ z = (.lit (.int .i64 (g : Nat)), []) := by
  unfold fileElem at h
  split at h
  · injection h with h; exact .inl ⟨rfl, h.symm⟩
  · injection h with h; exact .inr ⟨_, rfl, h.symm⟩
  · cases h
/-- block b is a map that holds the directory l, the file i in block F i -/
def Dirm (w : World) (b n : Nat) (F : Nat → Nat) (l : Dsk.Dir) : Prop := w.ownsMap Try.prog 9 fileElem b n (Dsk.mapD F l)
/-- m[s] = f -/
theorem wpList_dir_put (w : World) {ops : Array Oper} {rest : List Oper} {o : Oper} {a : Act} {Q : Exit → Act → World → Prop} (hg : o.guard = none) (m x v : Operand) (hop : o.op = Op.mapUpdate 61 m x v)
    (b n : Nat) (F : Nat → Nat) (l : Dsk.Dir) (hm : a.eval m = .map (some b)) (hown : Dirm w b n F l) (hn : n < maxLen) (s : ByteArray) (i : Nat) (hs : s.size ≤ maxLen) (hx : a.eval x = .string s) (hv : a.eval v = .pointer (some ⟨F i, 0, none⟩))
    (hK : ∀ w', Dirm w' b (n + 1) F (Dsk.put l s.data.toList i) → w.grownBy w' (some b) → wpList Try.prog ops Q rest (a.put o.dst undef) w') :
    wpList Try.prog ops Q (o :: rest) a w := by
  refine wpList_mapUpdate_own w hg m x v 61 hop 9 67 dkeyLaw Try.underlying61 _ b n (Dsk.mapD F l) hm hown hn (.string s) (.pointer (some ⟨F i, 0, none⟩)) (.string s.data.toList) hx hv (keyOf_string_mk Try.underlying9 hs) (.lit (.int .i64 (F i : Nat))) [] rfl ?_
  intro w' r1 r2
  refine hK w' ?_ r2
  unfold Dirm
  rw [← Dsk.mapD_put]
  exact r1
set_option maxRecDepth 100000 in
/-- m[s] -/
theorem dir_get {w : World} {b n : Nat} {F : Nat → Nat} {l : Dsk.Dir} (hown : Dirm w b n F l) (s : ByteArray) (hs : s.size ≤ maxLen) :
    (Instr.lookup 61 (.map (some b)) (.string s) false).run Try.prog w = .ok (match Dsk.get l s.data.toList with | some i => .pointer (some ⟨F i, 0, none⟩) | none => .pointer none) w := by
  obtain ⟨v, ps, hrun, hR⟩ := World.ownsMap.lookup (t := 61) (e := 67) hown dkeyLaw Try.underlying61 (z := .pointer none) (zeroFile w) (zd := .lit (.int .i64 (-1))) (zp := []) rfl (key := .string s) (kl := .string s.data.toList) (keyOf_string_mk Try.underlying9 hs)
  rw [hrun]
  rw [Dsk.mapD_get] at hR
  congr 1
  rcases fileElem_inv hR with ⟨rfl, e⟩ | ⟨g, rfl, e⟩
  · cases hg : Dsk.get l s.data.toList with
    | none => rfl
    | some i => rw [hg] at e; simp at e
  · cases hg : Dsk.get l s.data.toList with
    | none => rw [hg] at e; simp at e
    | some i => rw [hg] at e; simp at e; obtain ⟨e, _⟩ := e; congr 3; omega
set_option maxRecDepth 100000 in
/-- delete(m, s) -/
theorem wpList_dir_del (w : World) {ops : Array Oper} {rest : List Oper} {o : Oper} {a : Act} {Q : Exit → Act → World → Prop} (hg : o.guard = none) (m x : Operand) (hop : o.op = Op.call { callee := Callee.builtin Builtin.delete, args := #[m, x], argTypes := #[61, 9] })
    (b n : Nat) (F : Nat → Nat) (l : Dsk.Dir) (hm : a.eval m = .map (some b)) (hown : Dirm w b n F l) (s : ByteArray) (hs : s.size ≤ maxLen) (hx : a.eval x = .string s)
    (hK : ∀ w', Dirm w' b n F (Dsk.del l s.data.toList) → w.grownBy w' (some b) → wpList Try.prog ops Q rest (a.put o.dst (.tuple #[])) w') :
    wpList Try.prog ops Q (o :: rest) a w := by
  refine wpList_delete_own w hg m x 61 9 hop 67 dkeyLaw Try.underlying61 _ b n (Dsk.mapD F l) hm hown (.string s) (.string s.data.toList) hx (keyOf_string_mk Try.underlying9 hs) ?_
  intro w' r1 r2
  refine hK w' ?_ r2.grown
  unfold Dirm
  rw [← Dsk.mapD_del]
  exact r1
theorem Dirm.lt {w : World} {b n : Nat} {F : Nat → Nat} {l : Dsk.Dir} (h : Dirm w b n F l) : b < w.heap.size := World.ownsMap.lt h
theorem Dirm.kept {w w' : World} {b n : Nat} {F : Nat → Nat} {l : Dsk.Dir} (h : Dirm w b n F l) {row : Option Nat} (hg : w.grownBy w' row) (hne : some b ≠ row) : Dirm w' b n F l := World.ownsMap.kept h hg hne
theorem Dirm.chg {w w' : World} {b n : Nat} {F : Nat → Nat} {l : Dsk.Dir} {S : Nat → Prop} (h : Dirm w b n F l) (hc : Chg S w w') (hs : ¬ S b) : Dirm w' b n F l := by
  have hb := h.lt
  unfold Dirm at h ⊢
  obtain ⟨es, clock, hb2, r⟩ := h
  exact ⟨es, clock, (hc.block b hb hs).trans hb2, r⟩
end Go.Proofs.Ythgeppdoonbkpaa
