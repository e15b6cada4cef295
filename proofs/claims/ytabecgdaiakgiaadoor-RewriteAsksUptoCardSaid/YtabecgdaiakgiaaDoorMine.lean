/- A set of texts in a map that the call makes. No condition. -/
import Derived.Test.YtabecgdaiakgiaaDoorVars
import Derived.Test.YtabecgdaiakgiaaDoorPlain
import Derived.Maps.OwnOps
import Derived.Maps.OwnSet
import Derived.Maps.Views
namespace Go.Proofs.YtabecgdaiakgiaaDoor
open Go.RowKit Go.Maps Go.WideMaps

theorem keyLaw : Keyed Tryd.prog 9 := string_keyed Tryd.underlying9
theorem zeroBool (w : World) : (zeroValue 4).run Tryd.prog w = .ok (.bool false) w := by kernel_rfl
theorem grown_of_below {w w' : World} (h : Below w.heap.size w w') (r : Option Nat) : w.grownBy w' r := ⟨h.os, h.tape, h.output, h.size, fun k hk _ => h.block k hk⟩
theorem grow_drewN (w : World) (q : Nat) (row : Option Nat) : w.grownBy (w.drewN q) row := ⟨rfl, rfl, rfl, Nat.le_refl _, fun _ _ _ => rfl⟩

/-- block b is a map of at most n entries that says S -/
def Mine (w : World) (b n : Nat) (S : Bs → Bool) : Prop :=
  ∃ D : DataW Unit, w.ownsMap Tryd.prog 9 (plainElem Tryd.prog 4) b n D ∧ ∀ s : Bs, D.atKey (.string s) (.lit (.bool false)) = .lit (.bool (S s))

section
variable {w w' : World} {b n : Nat} {S : Bs → Bool}
theorem Mine.made (w : World) : Mine (w.alloc (.map #[] 0)) w.heap.size 0 fun _ => false := ⟨.map [], World.ownsMap_made _ _ _ _, fun _ => rfl⟩
theorem Mine.lt (h : Mine w b n S) : b < w.heap.size := by obtain ⟨_, h, _⟩ := h; exact h.lt
theorem Mine.kept (h : Mine w b n S) {row : Option Nat} (hg : w.grownBy w' row) (hne : some b ≠ row) : Mine w' b n S := by
  obtain ⟨D, h1, h2⟩ := h
  exact ⟨D, h1.kept hg hne, h2⟩
theorem Mine.below_all (h : Mine w b n S) (hb : Below w.heap.size w w') : Mine w' b n S := h.kept (grown_of_below hb none) (by simp)
theorem Mine.drewN (h : Mine w b n S) (q : Nat) : Mine (w.drewN q) b n S := h.kept (grow_drewN w q none) (by simp)
theorem Mine.alloc (h : Mine w b n S) (o : Obj) : Mine (w.alloc o) b n S := h.kept (World.grownBy_alloc w o none) (by simp)
theorem Mine.setCell (h : Mine w b n S) {p : Addr} (hp : p.block ≠ b) (u : Value) : Mine (w.setCell p u) b n S := h.kept (World.grownBy.set w p u) (by simpa using fun e => hp e.symm)
theorem Mine.ext (h : Mine w b n S) {S' : Bs → Bool} (he : ∀ k, S k = S' k) : Mine w b n S' := by
  obtain ⟨D, h1, h2⟩ := h
  exact ⟨D, h1, fun s => by rw [h2, he]⟩
theorem Mine.mono (h : Mine w b n S) {m : Nat} (hm : n ≤ m) : Mine w b m S := by
  obtain ⟨D, h1, h2⟩ := h
  exact ⟨D, h1.mono hm, h2⟩
end

/-- m[s] = x -/
theorem wpList_mine_put (w : World) {ops : Array Oper} {rest : List Oper} {o : Oper} {a : Act} {Q : Exit → Act → World → Prop} (hg : o.guard = none) (m x v : Operand) (hop : o.op = Op.mapUpdate 89 m x v)
    (b n : Nat) (S : Bs → Bool) (hm : a.eval m = .map (some b)) (hown : Mine w b n S) (hn : n < maxLen) (s : ByteArray) (y : Bool) (hs : s.size ≤ maxLen) (hx : a.eval x = .string s) (hv : a.eval v = .bool y)
    (hK : ∀ w', Mine w' b (n + 1) (fun k => if k = s.data.toList then y else S k) → w.grownBy w' (some b) → wpList Tryd.prog ops Q rest (a.put o.dst undef) w') :
    wpList Tryd.prog ops Q (o :: rest) a w := by
  obtain ⟨D, h1, h2⟩ := hown
  refine wpList_mapUpdate_own w hg m x v 89 hop 9 4 keyLaw Tryd.underlying89 _ b n D hm h1 hn (.string s) (.bool y) (.string s.data.toList) hx hv (keyOf_string_mk Tryd.underlying9 hs) (.lit (.bool y)) [] (plainElem_bool Tryd.underlying4 y) ?_
  intro w' r1 r2
  refine hK w' ⟨_, r1, fun k => ?_⟩ r2
  show _ = DataW.lit (Lit.bool (if k = s.data.toList then y else S k))
  by_cases e : k = s.data.toList
  · subst e
    rw [if_pos rfl]
    exact atKey_put_same h1.isMap (by trivial) _ _
  · rw [if_neg e, atKey_put_other (by simpa using e), h2]

set_option maxRecDepth 100000 in
theorem plainElem_bool_inv {v : Value} {z : DataW Unit × List MemPlace} (h : plainElem Tryd.prog 4 v = some z) : ∃ y, v = .bool y ∧ z = (.lit (.bool y), []) := by
  unfold plainElem at h
  rw [Tryd.underlying4] at h
  cases v <;> simp at h
  exact ⟨_, rfl, h.symm⟩
set_option maxRecDepth 100000 in
/-- m[s] -/
theorem wpList_mine_get (w : World) {ops : Array Oper} {rest : List Oper} {o : Oper} {a : Act} {Q : Exit → Act → World → Prop} (hg : o.guard = none) (m x : Operand) (hop : o.op = Op.lookup 89 m x false)
    (b n : Nat) (S : Bs → Bool) (hm : a.eval m = .map (some b)) (hown : Mine w b n S) (s : ByteArray) (hs : s.size ≤ maxLen) (hx : a.eval x = .string s)
    (hK : wpList Tryd.prog ops Q rest (a.put o.dst (.bool (S s.data.toList))) w) : wpList Tryd.prog ops Q (o :: rest) a w := by
  obtain ⟨D, h1, h2⟩ := hown
  obtain ⟨v, ps, hrun, hR⟩ := h1.lookup (t := 89) (e := 4) keyLaw Tryd.underlying89 (z := .bool false) (zeroBool w) (zd := .lit (.bool false)) (zp := []) (plainElem_bool Tryd.underlying4 false) (key := .string s) (kl := .string s.data.toList) (keyOf_string_mk Tryd.underlying9 hs)
  obtain ⟨y, rfl, hy⟩ := plainElem_bool_inv hR
  rw [h2] at hy
  obtain rfl : S s.data.toList = y := by injection hy with hy _; injection hy with hy; injection hy
  refine wpList_plain hg fun K' hK' => ?_
  unfold Oper.wp
  simp [execOp, hop, hm, hx, hrun, Result.andThen]
  exact hK' _ _ hK
/-- the same two as equations for a region that draws -/
theorem Mine.run_put {w : World} {b n : Nat} {S : Bs → Bool} (h : Mine w b n S) (hn : n < maxLen) (s : ByteArray) (hs : s.size ≤ maxLen) (y : Bool) :
    ∃ w', (Instr.mapUpdate 89 (.map (some b)) (.string s) (.bool y)).run Tryd.prog w = .ok () w' ∧ Mine w' b (n + 1) (fun k => if k = s.data.toList then y else S k) ∧ w.grownBy w' (some b) := by
  obtain ⟨D, h1, h2⟩ := h
  obtain ⟨w', hrun, r1, r2⟩ := h1.update (t := 89) (e := 4) keyLaw Tryd.underlying89 hn (key := .string s) (val := .bool y) (kl := .string s.data.toList) (keyOf_string_mk Tryd.underlying9 hs) (plainElem_bool Tryd.underlying4 y)
  refine ⟨w', hrun, ⟨_, r1, fun k => ?_⟩, r2⟩
  show _ = DataW.lit (Lit.bool (if k = s.data.toList then y else S k))
  by_cases e : k = s.data.toList
  · subst e
    rw [if_pos rfl]
    exact atKey_put_same h1.isMap (by trivial) _ _
  · rw [if_neg e, atKey_put_other (by simpa using e), h2]
set_option maxRecDepth 100000 in
theorem Mine.run_get {w : World} {b n : Nat} {S : Bs → Bool} (h : Mine w b n S) (s : ByteArray) (hs : s.size ≤ maxLen) :
    (Instr.lookup 89 (.map (some b)) (.string s) false).run Tryd.prog w = .ok (.bool (S s.data.toList)) w := by
  obtain ⟨D, h1, h2⟩ := h
  obtain ⟨v, ps, hrun, hR⟩ := h1.lookup (t := 89) (e := 4) keyLaw Tryd.underlying89 (z := .bool false) (zeroBool w) (zd := .lit (.bool false)) (zp := []) (plainElem_bool Tryd.underlying4 false) (key := .string s) (kl := .string s.data.toList) (keyOf_string_mk Tryd.underlying9 hs)
  obtain ⟨y, rfl, hy⟩ := plainElem_bool_inv hR
  rw [h2] at hy
  obtain rfl : S s.data.toList = y := by injection hy with hy _; injection hy with hy; injection hy
  exact hrun
end Go.Proofs.YtabecgdaiakgiaaDoor
