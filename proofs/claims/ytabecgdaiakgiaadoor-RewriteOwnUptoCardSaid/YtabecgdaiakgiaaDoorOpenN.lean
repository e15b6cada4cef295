/- An Ask's list of fields that is nil has no room. No condition. -/
import Derived.Test.YtabecgdaiakgiaaDoorMB
namespace Go.Proofs.YtabecgdaiakgiaaDoor
open Go.ChangeShapes Go.WideShapes Go.ChangeAt Go.RowKit

section
variable {H : Type} {enc : TypeId × Value → H}
theorem fields_nil {W : World} {fuel n c : Nat} {x : DataW H × List MemPlace} (h : DataW.trod enc Tryd.prog W 0 (fun _ => true) true fuel 22 [.slice none n c] = some x) : n = 0 ∧ c = 0 := by
  rcases Go.Deep.open_slice_pairs Tryd.underlying22 Tryd.underlying48 cellsField rfl rfl cellsStr cellsStr h with ⟨hcs, rfl⟩ | ⟨a, len, cap, m, k, V0, V1, D0, D1, P0, P1, hcs, _⟩
  · injection hcs with e _
    injection e with _ e1 e2
    exact ⟨e1, e2⟩
  · injection hcs with e _
    cases e
set_option maxRecDepth 100000 in
theorem head_nil {W : World} {fuel n c : Nat} {a0 a1 a2 a3 a4 a5 : Value} {x : DataW H × List MemPlace} (hf : DataW.trod enc Tryd.prog W 0 (fun _ => true) true fuel 24 [a0, a1, a2, a3, a4, a5, .slice none n c] = some x) : n = 0 ∧ c = 0 := by
  obtain ⟨xs, k, _, hx, hl, hlen, each⟩ := DataW.trod_struct Tryd.underlying24 hf
  match xs, hlen with
  | [y0, y1, y2, y3, y4, y5, y6], _ =>
    have e6 := each 6 _ rfl
    simp only [List.getElem?_cons_zero, List.getElem?_cons_succ] at e6
    exact fields_nil e6
set_option maxRecDepth 100000 in
theorem ask_nil {W : World} {n c : Nat} {a0 a1 a2 a3 a4 a5 a7 a8 a9 a10 a11 : Value} {d : DataW H} {p : List MemPlace} (h : DataW.Trod enc Tryd.prog W 0 (fun _ => true) true 74 (.agg #[a0, a1, a2, a3, a4, a5, .slice none n c, a7, a8, a9, a10, a11]) d p) : n = 0 ∧ c = 0 := by
  obtain ⟨fuel, hf⟩ := h
  obtain ⟨xs, k, _, hx, hl, hlen, each⟩ := DataW.trod_struct Tryd.underlying74 hf
  match xs, hlen with
  | [y0, y1, y2, y3, y4, y5], _ =>
    have e0 : DataW.trod enc Tryd.prog W 0 (fun _ => true) true k 24 (List.take (Tryd.prog.cellsOf 24) (List.drop 0 [a0, a1, a2, a3, a4, a5, .slice none n c, a7, a8, a9, a10, a11])) = [y0, y1, y2, y3, y4, y5][0]? := each 0 _ rfl
    rw [cellsHead] at e0
    exact head_nil e0
end
end Go.Proofs.YtabecgdaiakgiaaDoor
