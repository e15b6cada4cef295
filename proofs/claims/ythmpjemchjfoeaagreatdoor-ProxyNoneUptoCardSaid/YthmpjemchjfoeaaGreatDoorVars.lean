/- Blocks that hold a call's own variables: their cells, through what follows. No condition. -/
import Derived.Test.YthmpjemchjfoeaaGreatDoorKit
import Derived.Deep.MidRow
import Derived.BigFrame
import Derived.ScopeJumps
import Derived.Laws.ResultCell
namespace Go.Proofs.YthmpjemchjfoeaaGreatDoor
open Go.RowKit

/-- block b holds the cells cs, none frozen -/
def Var (w : World) (b : Nat) (t : TypeId) (cs : List Value) : Prop := w.heap[b]? = some (.cells cs.toArray t (0, 0))

section
variable {w w' : World} {b B : Nat} {t : TypeId} {cs : List Value}
theorem Var.lt (h : Var w b t cs) : b < w.heap.size := (Array.getElem?_eq_some_iff.1 h).1
theorem Var.new (w : World) (t : TypeId) (cs : List Value) : Var (w.alloc (.cells cs.toArray t)) w.heap.size t cs := heap_alloc_new w _
theorem Var.alloc (h : Var w b t cs) (o : Obj) : Var (w.alloc o) b t cs := (Below.heap_alloc w o b h.lt).trans h
theorem Var.drew (h : Var w b t cs) : Var w.drew b t cs := h
theorem Var.drewN (h : Var w b t cs) (k : Nat) : Var (w.drewN k) b t cs := h
theorem Var.below (h : Var w b t cs) (hb : Below B w w') (hlt : b < B) : Var w' b t cs := (hb.block b hlt).trans h
theorem Var.below_all (h : Var w b t cs) (hb : Below w.heap.size w w') : Var w' b t cs := h.below hb h.lt
theorem Var.grown {row : Option Nat} (h : Var w b t cs) (hg : w.grownBy w' row) (hne : row ≠ some b) : Var w' b t cs := (hg.block b h.lt (fun e => hne e.symm)).trans h
theorem Var.cell (h : Var w b t cs) {j : Nat} {u : Value} (hj : cs[j]? = some u) : w.cell? ⟨b, j, none⟩ = some u := by
  rw [cell_of_row w b j cs.toArray t (0, 0) h]; simpa using hj
theorem Var.frozen (h : Var w b t cs) (j : Nat) : w.frozen? ⟨b, j, none⟩ = false := by
  unfold Var at h
  simp [World.frozen?, h]
theorem Var.range (h : Var w b t cs) : World.rangeAt w b 0 cs := fun j u hj => by
  rw [Nat.zero_add]; exact h.cell hj
theorem Var.set (h : Var w b t cs) (j : Nat) (u : Value) : Var (w.setCell ⟨b, j, none⟩ u) b t (cs.set j u) := by
  unfold Var at h ⊢
  simp [World.setCell, Array.getElem?_modify, h]
theorem Var.set_other (h : Var w b t cs) {p : Addr} (hp : p.block ≠ b) (u : Value) : Var (w.setCell p u) b t cs :=
  (Below.heap_setCell _ _ _ _ (fun e => hp e.symm)).trans h
end
theorem Rd.keeps {w w' : World} {sz n : Nat} {A : Option Addr} {xs : List Value} (h : Rd w w.heap.size sz A n xs) (hb : Below w.heap.size w w') : Rd w' w'.heap.size sz A n xs := (h.below hb).more hb.size
/-- A guarded load of a variable of several cells whose guard says yes. -/
theorem wpList_load_mid_g {P : Program} {ops : Array Oper} {rest : List Oper} {op : Oper} {a : Act} {w : World} {Q : Exit → Act → World → Prop} (hw : Region.wanted op (yielded ops a.tmps) = true) (ty : TypeId) (x : Operand) (ho : op.op = .load ty x)
    (b o : Nat) (hx : a.eval x = .pointer (some ⟨b, o, none⟩)) (cs : List Value) (d : TypeDesc) (hc : w.rangeAt b o cs)
    (hu : P.underlying ty = some d) (hd : d.isRow = true) (hi : (P.info? ty).map (·.size) = some cs.length)
    (h : wpList P ops Q rest (a.put op.dst (.agg cs.toArray)) w) : wpList P ops Q (op :: rest) a w :=
  BigFrame.wpList_want hw fun _ hK => wp_load_mid ty x ho b o hx cs d hc hu hd hi (hK _ _ h)

theorem World.grownBy.set (w : World) (p : Addr) (u : Value) : w.grownBy (w.setCell p u) (some p.block) :=
  ⟨rfl, rfl, rfl, by simp, fun k _ hk => Below.heap_setCell _ _ _ _ (fun e => hk (by rw [e]))⟩
theorem World.grownBy.comp {a b c : World} {r : Option Nat} (h : a.grownBy b r) (k : b.grownBy c r) : a.grownBy c r :=
  ⟨k.os.trans h.os, k.tape.trans h.tape, k.output.trans h.output, Nat.le_trans h.size k.size, fun j hj hr => (k.block j (Nat.lt_of_lt_of_le hj h.size) hr).trans (h.block j hj hr)⟩
theorem Var.there {w : World} {b : Nat} {t : TypeId} {cs : List Value} (h : Var w b t cs) : w.there b 0 cs.length := fun j hj => by
  rw [Nat.zero_add]
  exact ⟨by rw [h.cell (j := j) (List.getElem?_eq_getElem hj)]; rfl, h.frozen j⟩
theorem setCells_var {b : Nat} {t : TypeId} : ∀ (vs : List Value) (o : Nat) (w : World) (cs : List Value), Var w b t cs → o + vs.length ≤ cs.length →
    Var (w.setCells b o vs) b t (cs.take o ++ vs ++ cs.drop (o + vs.length)) ∧ w.grownBy (w.setCells b o vs) (some b) ∧ (w.setCells b o vs).heap.size = w.heap.size
  | [], o, w, cs, h, _ => ⟨by simpa [World.setCells] using h, World.grownBy.refl w _, rfl⟩
  | v :: r, o, w, cs, h, hl => by
    simp only [List.length_cons] at hl
    obtain ⟨h1, h2, h3⟩ := setCells_var r (o + 1) _ (cs.set o v) (h.set o v) (by rw [List.length_set]; omega)
    refine ⟨?_, World.grownBy.comp (World.grownBy.set w ⟨b, o, none⟩ v) h2, h3.trans (by simp)⟩
    have e : (cs.set o v).take (o + 1) ++ r ++ (cs.set o v).drop (o + 1 + r.length) = cs.take o ++ (v :: r) ++ cs.drop (o + (v :: r).length) := by
      have e1 : (cs.take o).length = o := by rw [List.length_take]; omega
      have e2 : (cs.set o v).take (o + 1) = cs.take o ++ [v] := by
        rw [List.take_set, List.take_succ_eq_append_getElem (by omega), List.set_append_right _ _ (by omega), e1, Nat.sub_self]; rfl
      have e3 : (cs.set o v).drop (o + 1 + r.length) = cs.drop (o + 1 + r.length) := List.drop_set_of_lt (by omega)
      rw [e2, e3, List.length_cons, show o + (r.length + 1) = o + 1 + r.length by omega]
      simp
    rw [e] at h1
    exact h1
/-- The whole variable is stored anew. -/
theorem wpList_put {P : Program} {ops : Array Oper} {rest : List Oper} {op : Oper} {a : Act} {w : World} {Q : Exit → Act → World → Prop} (hgd : op.guard = none) (ty : TypeId) (x y : Operand) (ho : op.op = .store ty x y)
    (b : Nat) (hx : a.eval x = .pointer (some ⟨b, 0, none⟩)) {t : TypeId} {cs : List Value} (hv : Var w b t cs) (us : List Value) (hy : a.eval y = .agg us.toArray) (hl : us.length = cs.length)
    (hi : (P.info? ty).map (·.size) = some us.length) (h1 : ∀ u ∈ us, u.oneCell' = true)
    (h : ∀ w', Var w' b t us → w.grownBy w' (some b) → w'.heap.size = w.heap.size → wpList P ops Q rest (a.put op.dst undef) w') : wpList P ops Q (op :: rest) a w := by
  obtain ⟨k1, k2, k3⟩ := setCells_var us 0 w cs hv (by omega)
  refine wpList_store_mid hgd ty x y ho b 0 us.toArray hx hy (by have := hv.there; rw [← hl] at this; simpa using this) (by simpa using hi) (all_oneCell_toArray h1) ?_
  refine h _ ?_ k2 k3
  rw [Nat.zero_add, hl, List.drop_length, List.take_zero, List.nil_append, List.append_nil] at k1
  exact k1
/-- What a function returns whose first result is a variable of several cells. -/
theorem results_var {P : Program} {fn : Func} {p u : Tmp} {ty : TypeId} (h : fn.results = #[.cell p ty, .tmp u]) (tmps : Array Value) {w : World} {b : Nat} {t : TypeId} {cs : List Value} (d : TypeDesc)
    (hp : tmps.getD p undef = .pointer (some ⟨b, 0, none⟩)) (hv : Var w b t cs) (hu : P.underlying ty = some d) (hd : (match d with | .struct _ | .array _ _ => true | _ => false) = true) (hi : (P.info? ty).map (·.size) = some cs.length) :
    (results fn tmps).run P w = .ok (.tuple #[.agg cs.toArray, tmps.getD u undef]) w := by
  have hl := run_loadVar_row (P := P) w b t ty cs.toArray (0, 0) d hv hu hd (by simpa using hi)
  rw [results_cell_tmp h, hp]
  simp [asAddr, Result.andThen, hl]

/-- A scope out of which the run jumps forward to one label: behind it the rest is walked. -/
theorem wp_scope_to {P : Program} {a : Act} {w : World} {Q : Exit → Act → World → Prop} {c rest : Code} (l : Nat) (hf : findLabel c l = some rest)
    (first : ∀ J : Act → World → Prop, (∀ a w, rest.wp P (Exit.jump l (fun _ _ => False) Q) a w → J a w) → c.wp P (Exit.jump l J Q) a w) : (Code.scope c).wp P Q a w :=
  wp_scope_jumps l (fun a w => rest.wp P (Exit.jump l (fun _ _ => False) Q) a w) (fun _ _ => 0) hf (first _ fun _ _ h => h) fun a w h => wp_mono h fun e a w hq => by
    cases e with
    | goto l' => exact absurd hq.2 id
    | _ => exact hq

end Go.Proofs.YthmpjemchjfoeaaGreatDoor