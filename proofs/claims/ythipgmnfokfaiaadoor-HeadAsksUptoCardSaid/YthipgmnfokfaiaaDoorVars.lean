/- Blocks that hold a call's own variables: their cells, through what follows. No condition. -/
import Derived.Test.YthipgmnfokfaiaaDoorKit
import Derived.Deep.MidRow
import Derived.BigFrame
namespace Go.Proofs.YthipgmnfokfaiaaDoor
open Go.RowKit

/-- block b holds the cells cs, none frozen -/
def Var (w : World) (b : Nat) (t : TypeId) (cs : List Value) : Prop := w.heap[b]? = some (.cells cs.toArray t (0, 0))

section
variable {w w' : World} {b B : Nat} {t : TypeId} {cs : List Value}
theorem Var.lt (h : Var w b t cs) : b < w.heap.size := (Array.getElem?_eq_some_iff.1 h).1
theorem Var.new (w : World) (t : TypeId) (cs : List Value) : Var (w.alloc (.cells cs.toArray t)) w.heap.size t cs := heap_alloc_new w _
theorem Var.alloc (h : Var w b t cs) (o : Obj) : Var (w.alloc o) b t cs := (Below.heap_alloc w o b h.lt).trans h
theorem Var.drew (h : Var w b t cs) : Var w.drew b t cs := h
theorem Var.drewN (h : Var w b t cs) (k : Nat) : Var (w.drewN k) b t cs := h
theorem Var.below (h : Var w b t cs) (hb : Below B w w') (hlt : b < B) : Var w' b t cs := (hb.block b hlt).trans h
theorem Var.below_all (h : Var w b t cs) (hb : Below w.heap.size w w') : Var w' b t cs := h.below hb h.lt
theorem Var.grown {row : Option Nat} (h : Var w b t cs) (hg : w.grownBy w' row) (hne : row ≠ some b) : Var w' b t cs := (hg.block b h.lt (fun e => hne e.symm)).trans h
theorem Var.cell (h : Var w b t cs) {j : Nat} {u : Value} (hj : cs[j]? = some u) : w.cell? ⟨b, j, none⟩ = some u := by
  rw [cell_of_row w b j cs.toArray t (0, 0) h]; simpa using hj
theorem Var.frozen (h : Var w b t cs) (j : Nat) : w.frozen? ⟨b, j, none⟩ = false := by
  unfold Var at h
  simp [World.frozen?, h]
theorem Var.range (h : Var w b t cs) : World.rangeAt w b 0 cs := fun j u hj => by
  rw [Nat.zero_add]; exact h.cell hj
theorem Var.set (h : Var w b t cs) (j : Nat) (u : Value) : Var (w.setCell ⟨b, j, none⟩ u) b t (cs.set j u) := by
  unfold Var at h ⊢
  simp [World.setCell, Array.getElem?_modify, h]
theorem Var.set_other (h : Var w b t cs) {p : Addr} (hp : p.block ≠ b) (u : Value) : Var (w.setCell p u) b t cs :=
  (Below.heap_setCell _ _ _ _ (fun e => hp e.symm)).trans h
end
theorem Rd.keeps {w w' : World} {sz n : Nat} {A : Option Addr} {xs : List Value} (h : Rd w w.heap.size sz A n xs) (hb : Below w.heap.size w w') : Rd w' w'.heap.size sz A n xs := (h.below hb).more hb.size
/-- A guarded load of a variable of several cells whose guard says yes. -/
theorem wpList_load_mid_g {P : Program} {ops : Array Oper} {rest : List Oper} {op : Oper} {a : Act} {w : World} {Q : Exit → Act → World → Prop} (hw : Region.wanted op (yielded ops a.tmps) = true) (ty : TypeId) (x : Operand) (ho : op.op = .load ty x)
    (b o : Nat) (hx : a.eval x = .pointer (some ⟨b, o, none⟩)) (cs : List Value) (d : TypeDesc) (hc : w.rangeAt b o cs)
    (hu : P.underlying ty = some d) (hd : d.isRow = true) (hi : (P.info? ty).map (·.size) = some cs.length)
    (h : wpList P ops Q rest (a.put op.dst (.agg cs.toArray)) w) : wpList P ops Q (op :: rest) a w :=
  BigFrame.wpList_want hw fun _ hK => wp_load_mid ty x ho b o hx cs d hc hu hd hi (hK _ _ h)

end Go.Proofs.YthipgmnfokfaiaaDoor
