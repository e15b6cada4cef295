/- the law ChunkReads. Conditions: sizes, the world's shape. -/
import Derived.Test.YtabecgdaiakgiaaDoorMLent
namespace Go.Proofs.YtabecgdaiakgiaaDoor
open Go.RowKit

/-- a row stays where only another row's block has turned -/
theorem Row.beside {w w' : World} {base sz n : Nat} {v : Value} {row : Option Nat} {xs : List Value} (h : Row w base sz v n xs) (hg : w.grownBy w' row) (hne : ∀ k, v.ownBlock = some k → row ≠ some k) : Row w' base sz v n xs :=
  h.kept hg (by
    cases hv : v.ownBlock with
    | none => exact Or.inl rfl
    | some k => exact Or.inr (fun e => hne k hv e.symm))
/-- cells that are bytes -/
def ByteCells (xs : List Value) : Prop := ∀ u ∈ xs, ∃ x : Int, 0 ≤ x ∧ x < 256 ∧ u = .int .u8 x
theorem ByteCells.of (l : Bs) : ByteCells (bytesV l) := fun u hu => by
  obtain ⟨b, _, rfl⟩ := List.mem_map.1 hu
  exact ⟨_, by omega, by have := UInt8.toNat_lt b; omega, rfl⟩
theorem ByteCells.set {xs : List Value} (h : ByteCells xs) (j : Nat) {x : Int} (h1 : 0 ≤ x) (h2 : x < 256) : ByteCells (xs.set j (.int .u8 x)) := fun u hu => by
  rcases List.mem_or_eq_of_mem_set hu with hh | hh
  · exact h u hh
  · exact ⟨x, h1, h2, hh⟩
set_option maxRecDepth 100000 in
theorem conv_row {w : World} {base : Nat} {A : Option Addr} {c : Nat} {L : Bs} (h : RowB w base (.slice A L.length c) L) : (convert 32 9 (.slice A L.length c)).run Tryd.prog w = .ok (.string ⟨L.toArray⟩) w := by
  obtain ⟨A', c', e, _, _, h0, hr⟩ := h.form
  injection e with e1 _ e3
  subst e1 e3
  exact conv_str (P := Tryd.prog) 32 9 5 Tryd.underlying32 Tryd.underlying5 Tryd.underlying9 hr (fun e => (h0 e).1)

end Go.Proofs.YtabecgdaiakgiaaDoor
