/- Bytes that came in, nil or not: what capacity they have. No condition. -/
import Derived.Test.YtabecgdaiakgiaaDoorOpen
import Derived.Test.YtabecgdaiakgiaaDoorHOpen
namespace Go.Proofs.YtabecgdaiakgiaaDoor
open Go.ChangeShapes Go.WideShapes Go.ChangeAt Go.RowKit

section
variable {H : Type} {enc : TypeId × Value → H} {P : Program}
theorem open_bytes2 {t e : TypeId} (ht : P.underlying t = some (.slice e)) (he : P.underlying e = some (.int .u8)) (hc : P.cellsOf e = 1) {W : World} {base : Nat} {v : Value} {d : DataW H} {p : List MemPlace}
    (hv : Value.okWide P W .any base t v) (h : DataW.Trod enc P W 0 (fun _ => true) true t v d p) :
    ∃ (A : Option Addr) (n c : Nat) (l : List UInt8), v = .slice A n c ∧ n ≤ c ∧ c ≤ maxLen ∧ (A = none → n = 0 ∧ c = 0) ∧ Rd W W.heap.size 1 A n (bytesV l) ∧
      (d = .nil ∧ n = 0 ∧ l = [] ∨ ∃ es sp : List (DataW H), d = .slice es sp ∧ es.length = n ∧ es.length + sp.length = c ∧ es = l.map fun b => .lit (.int .u8 (b.toNat : Int))) := by
  obtain ⟨A, n, c, l, rfl, h1, h2, h3, h4, h5⟩ := open_bytes ht he hc hv h
  refine ⟨A, n, c, l, rfl, h1, h2, fun e => ⟨h3 e, ?_⟩, h4, h5⟩
  subst e
  obtain ⟨fuel, hf⟩ := h
  rcases open_ints ht he hc hf with ⟨hcs, _⟩ | ⟨a, len', cap', zs, hcs, _⟩
  · simp [Value.cells] at hcs; exact hcs.2
  · simp [Value.cells] at hcs
end
end Go.Proofs.YtabecgdaiakgiaaDoor
