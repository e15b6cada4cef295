/- the document's events, walked (chapter 24): what is new of the messages. Conditions: sizes. -/
import Derived.Test.YtklmpadcfioefaaGreatDoorQEvP
import Derived.Test.YtklmpadcfioefaaGreatDoorMX3
import Derived.Test.YtklmpadcfioefaaGreatDoorMA
namespace Go.Proofs.YtklmpadcfioefaaGreatDoor
open Go.RowKit

/-- an event of the document's, in memory -/
structure QvE where
  x : Strm.E1
  fv : Value
  dv : Value
def QvE.cells (e : QvE) : List Value := [.int .i64 (eKind e.x), .int .i64 (eFr e.x : Int), .int .i64 (eLn e.x : Int), .bool (eHd e.x).rq, .string ⟨(eHd e.x).m.toArray⟩, .string ⟨(eHd e.x).t.toArray⟩, .int .i64 ((eHd e.x).st : Int), .string ⟨(eHd e.x).rs.toArray⟩, .int .i64 ((eHd e.x).mn : Int), e.fv, e.dv]
structure QvR (w : World) (e : QvE) : Prop where
  f : FsR w e.fv (eHd e.x).fs
  d : BsR w e.dv (eData e.x)
theorem QvR.below {w w' : World} {e : QvE} (h : QvR w e) (hb : Below w.heap.size w w') : QvR w' e := ⟨h.f.below hb, h.d.below hb⟩
theorem FsR.nil (w : World) : FsR w (.slice none 0 0) [] := ⟨none, 0, rfl, Nat.le_refl _, Nat.zero_le _, fun _ => ⟨rfl, rfl⟩, Rd.nil _ _ _ _⟩
theorem FsR.farO {w : World} {v : Value} {l : List (Bs × Bs)} {X : Option Nat} (h : FsR w v l) (hX : ∀ k, X = some k → w.heap.size ≤ k) : Far X v := by
  cases X with
  | none => intro g o n c _ _ e; cases e
  | some k => exact h.far (hX k rfl)
theorem BsR.farO {w : World} {v : Value} {l : Bs} {X : Option Nat} (h : BsR w v l) (hX : ∀ k, X = some k → w.heap.size ≤ k) : Far X v := by
  cases X with
  | none => intro g o n c _ _ e; cases e
  | some k => exact h.far (hX k rfl)
theorem ms_get : ∀ (L : List MsE) (i j : Nat) (hi : i < L.length) (_ : j < 11), (L.flatMap MsE.cells)[i * 11 + j]? = (L[i].cells)[j]?
  | e :: L, 0, j, _, hj => by
    rw [List.flatMap_cons, Nat.zero_mul, Nat.zero_add, List.getElem?_append_left (by exact hj)]; rfl
  | e :: L, i + 1, j, hi, hj => by
    rw [List.flatMap_cons, List.getElem?_append_right (by show 11 ≤ _; omega), show e.cells.length = 11 from rfl, show (i + 1) * 11 + j - 11 = i * 11 + j by omega]
    exact ms_get L i j (by simpa using hi) hj
theorem ms_len : ∀ L : List MsE, (L.flatMap MsE.cells).length = L.length * 11
  | [] => rfl
  | e :: L => by rw [List.flatMap_cons, List.length_append, ms_len L, List.length_cons, show e.cells.length = 11 from rfl]; omega
theorem Var.range7 {w : World} {b : Nat} {t : TypeId} {a1 a2 a3 a4 a5 a6 a7 : Value} {r : List Value} (h : Var w b t (a1 :: a2 :: a3 :: a4 :: a5 :: a6 :: a7 :: r)) : World.rangeAt w b 0 [a1, a2, a3, a4, a5, a6, a7] := fun j u hj => by
  rw [Nat.zero_add]
  refine h.cell ?_
  rcases j with _ | _ | _ | _ | _ | _ | _ | j <;> first | exact hj | (simp at hj)
/-- events so far; R: what is to be told yet -/
structure QeSt (w wr : World) (T R : List Strm.E1) (N : Nat) (vo : Value) (E : List QvE) : Prop where
  eq : T = E.map (·.x) ++ R
  row : Row wr w.heap.size 11 vo E.length (E.flatMap QvE.cells)
  el : ∀ e ∈ E, QvR wr e
  far : ∀ e ∈ E, Far vo.ownBlock e.fv ∧ Far vo.ownBlock e.dv
  cnt : E.length ≤ N
  bl : Below w.heap.size w wr
theorem QeSt.init (w : World) (T : List Strm.E1) : QeSt w w T T 0 (.slice none 0 0) [] := ⟨rfl, Row.nil _ _ _, (fun e he => by cases he), (fun e he => by cases he), Nat.le_refl _, Below.refl _ _⟩
theorem QeSt.more {w wr : World} {T R : List Strm.E1} {N N' : Nat} {vo : Value} {E : List QvE} (h : QeSt w wr T R N vo E) (hn : N ≤ N') : QeSt w wr T R N' vo E := ⟨h.eq, h.row, h.el, h.far, Nat.le_trans h.cnt hn, h.bl⟩
theorem QeSt.below {w wr wx : World} {T R : List Strm.E1} {N : Nat} {vo : Value} {E : List QvE} (h : QeSt w wr T R N vo E) (hb : Below wr.heap.size wr wx) : QeSt w wx T R N vo E :=
  ⟨h.eq, h.row.below_all hb, fun e he => (h.el e he).below hb, h.far, h.cnt, h.bl.trans (hb.mono h.bl.size)⟩
theorem QeSt.push {w wr wx w' : World} {T R : List Strm.E1} {N : Nat} {vo v2 : Value} {E : List QvE} {e : QvE} (h : QeSt w wr T (e.x :: R) N vo E) (hb : Below wr.heap.size wr wx) (hm : QvR wx e) (hfm : Far vo.ownBlock e.fv ∧ Far vo.ownBlock e.dv)
    (hg : wx.grownBy w' vo.ownBlock) (hrow : Row w' w.heap.size 11 v2 (E.length + 1) (E.flatMap QvE.cells ++ e.cells)) (ho : v2.ownBlock = vo.ownBlock ∨ v2.ownBlock = some wx.heap.size) : QeSt w w' T R (N + 1) v2 (E ++ [e]) := by
  have hz : wx.heap.size ≤ w'.heap.size := hg.size
  have hx : ∀ f ∈ E ++ [e], QvR wx f ∧ Far vo.ownBlock f.fv ∧ Far vo.ownBlock f.dv := fun f hf => by
    rcases List.mem_append.1 hf with x | x
    · exact ⟨(h.el f x).below hb, h.far f x⟩
    · rw [List.mem_singleton] at x
      rw [x]
      exact ⟨hm, hfm⟩
  refine ⟨?_, ?_, fun f hf => ?_, fun f hf => ?_, ?_, ?_⟩
  · rw [h.eq, List.map_append, List.append_assoc]; rfl
  · rw [List.length_append, List.flatMap_append, List.flatMap_singleton]
    exact hrow
  · obtain ⟨x1, x2, x3⟩ := hx f hf
    exact ⟨x1.f.grown hg x2 hz, x1.d.grown hg x3 hz⟩
  · obtain ⟨x1, x2, x3⟩ := hx f hf
    rcases ho with e1 | e1
    · rw [e1]; exact ⟨x2, x3⟩
    · rw [e1]; exact ⟨x1.f.far (Nat.le_refl _), x1.d.far (Nat.le_refl _)⟩
  · have := h.cnt; rw [List.length_append, List.length_singleton]; omega
  · exact (h.bl.trans (hb.mono h.bl.size)).grown hg (Nat.le_trans h.bl.size hb.size) (fun j hj => (h.row.lt j hj).1)
def QevPost (w : World) (T : List Strm.E1) (N : Nat) (e : Ending) (w' : World) : Prop :=
  ∃ (v : Value) (E : List QvE), e = .returned v ∧ E.map QvE.x = T ∧ Row w' w.heap.size 11 v E.length (E.flatMap QvE.cells) ∧ (∀ e ∈ E, QvR w' e) ∧ E.length ≤ N ∧ Below w.heap.size w w'
theorem QeSt.done {w wr : World} {T : List Strm.E1} {N : Nat} {vo : Value} {E : List QvE} (h : QeSt w wr T [] N vo E) : QevPost w T N (.returned vo) wr :=
  ⟨vo, E, rfl, by rw [h.eq, List.append_nil], h.row, h.el, h.cnt, h.bl⟩
theorem qe_one (a : Int) (x y : Int) (a1 : Bool) (b c : ByteArray) (d : Int) (e : ByteArray) (f : Int) (A : Option Addr) (n k : Nat) (A' : Option Addr) (n' k' : Nat) : ∀ u ∈ [Value.int .i64 a, .int .i64 x, .int .i64 y, .bool a1, .string b, .string c, .int .i64 d, .string e, .int .i64 f, .slice A n k, .slice A' n' k'], u.oneCell' = true := by
  simp [Value.oneCell']
theorem infoQEv : (Tryz.prog.info? 81).map (fun i => (i.zero, i.size, i.bytes)) = some (some (.agg #[.int .i64 0, .int .i64 0, .int .i64 0, .bool false, .string ⟨#[]⟩, .string ⟨#[]⟩, .int .i64 0, .string ⟨#[]⟩, .int .i64 0, .slice none 0 0, .slice none 0 0]), 11, 144) := by kernel_rfl
end Go.Proofs.YtklmpadcfioefaaGreatDoor
