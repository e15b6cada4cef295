/- An argument that is a list of ints, opened. No condition. -/
import Derived.Test.YtklmpadcfioefaaDoorMA
namespace Go.Proofs.YtklmpadcfioefaaDoor
open Go.ChangeShapes Go.WideShapes Go.ChangeAt Go.RowKit

def intsJ (zs : List Int) : List Value := zs.map fun x => .int .i64 x
section
variable {H : Type} {enc : TypeId × Value → H} {P : Program}
theorem open_intsJ {t e : TypeId} (ht : P.underlying t = some (.slice e)) (he : P.underlying e = some (.int .i64)) (hc : P.cellsOf e = 1) {W : World} {base : Nat} {v : Value} {d : DataW H} {p : List MemPlace}
    (hv : Value.okWide P W .any base t v) (h : DataW.Trod enc P W 0 (fun _ => true) true t v d p) :
    ∃ (A : Option Addr) (n c : Nat) (zs : List Int), v = .slice A n c ∧ Rd W W.heap.size 1 A n (intsJ zs) ∧ (∀ z ∈ zs, -9223372036854775808 ≤ z ∧ z ≤ 9223372036854775807) ∧ n ≤ Rows.uptoBulk d := by
  obtain ⟨a0, len, cap, rfl⟩ := okWide_slice ht hv
  obtain ⟨fuel, hf⟩ := h
  rcases open_ints ht he hc hf with ⟨hcs, hx⟩ | ⟨a, len', cap', zs, hcs, hsp, hle, hm, hz, hx, hcell, hwz⟩
  · obtain ⟨rfl, rfl, rfl⟩ : a0 = none ∧ len = 0 ∧ cap = 0 := by simpa [Value.cells] using hcs
    exact ⟨none, 0, 0, [], rfl, Rd.nil _ _ _ _, ⟨(by intro z hz; cases hz), Nat.zero_le _⟩⟩
  · obtain ⟨rfl, rfl, rfl⟩ : a0 = some a ∧ len = len' ∧ cap = cap' := by simpa [Value.cells] using hcs
    have hz' : zs.length = cap := by simpa using hz
    have hd : d = .slice (lits .i64 (zs.take len)) (lits .i64 (zs.drop len)) := by simpa using congrArg Prod.fst hx
    refine ⟨some a, len, cap, zs.take len, rfl, ?_, fun z h => bounds_i64 (hwz z (List.mem_of_mem_take h)), ?_⟩
    · refine ⟨by unfold intsJ; rw [List.length_map, List.length_take]; omega, fun hn => ?_⟩
      obtain ⟨g, o, sp⟩ := a
      obtain rfl : sp = none := by simpa [Addr.add] using World.cell?_spot (hcell 0 (by omega))
      refine ⟨g, o, rfl, cell_lt (by have := hcell 0 (by omega); rw [Addr.add_lit] at this; exact this), fun j u hu => ?_⟩
      have hj : j < len := by
        have := (List.getElem?_eq_some_iff.1 hu).1
        unfold intsJ at this
        simp at this
        omega
      have h1 := hcell j (by omega)
      rw [Addr.add_lit] at h1
      rw [h1]
      have : (intsJ (List.take len zs))[j]? = some (.int .i64 (zs.getD j 0)) := by
        unfold intsJ
        simp [hj, List.getD, show j < zs.length by omega]
      rw [this] at hu
      exact hu
    · rw [hd]
      have h1 := bulk_len (lits (H := H) .i64 (zs.take len))
      have h2 : (lits (H := H) .i64 (zs.take len)).length = len := by simp [lits]; omega
      simp only [Rows.uptoBulk]
      omega
end
end Go.Proofs.YtklmpadcfioefaaDoor
