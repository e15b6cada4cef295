/- Bytes that came in inside a larger argument, opened. No condition. -/
import Derived.Test.YtklmpadcfioefaaGreatDoorMX1
namespace Go.Proofs.YtklmpadcfioefaaGreatDoor
open Go.ChangeShapes Go.WideShapes Go.ChangeAt Go.RowKit
theorem cellsBytes2 : Tryz.prog.cellsOf 26 = 1 := by kernel_rfl
theorem pieceOf_len2 {zs : List Int} {n : Nat} (h : n ≤ zs.length) : ((zs.take n).map fun z => UInt8.ofNat z.toNat).length = n := by
  rw [List.length_map, List.length_take]; omega
section
variable {H : Type} {enc : TypeId × Value → H}
theorem open_bytesC {W : World} {fuel : Nat} {v : Value} {x : DataW H × List MemPlace} (h : DataW.trod enc Tryz.prog W 0 (fun _ => true) true fuel 26 [v] = some x) :
    ∃ (A : Option Addr) (n c : Nat) (l : Bs), v = .slice A n c ∧ n ≤ c ∧ (A = none → n = 0 ∧ c = 0) ∧ Rd W W.heap.size 1 A n (bytesV l) ∧ n ≤ Rows.uptoBulk x.1 := by
  rcases open_ints Tryz.underlying26 Tryz.underlying5 cellsU8 h with ⟨hcs, rfl⟩ | ⟨a, len, cap, zs, hcs, hb, hl, hm, hz, rfl, hcell, hwz⟩
  · injection hcs with e _
    exact ⟨none, 0, 0, [], e, Nat.le_refl _, fun _ => ⟨rfl, rfl⟩, Rd.nil _ _ _ _, Nat.zero_le _⟩
  · injection hcs with e _
    simp only [if_true] at hz
    refine ⟨some a, len, cap, (zs.take len).map fun z => UInt8.ofNat z.toNat, e, hl, (fun e => by cases e), ⟨by rw [bytesV_len, pieceOf_len2 (by omega)]; omega, fun h0 => ?_⟩, ?_⟩
    · obtain ⟨g, o, sp⟩ := a
      obtain rfl : sp = none := by simpa [Addr.add] using World.cell?_spot (hcell 0 (by omega))
      refine ⟨g, o, rfl, cell_lt (by have := hcell 0 (by omega); rw [Addr.add_lit] at this; exact this), fun j u hu => ?_⟩
      have hall : ∀ z ∈ zs.take len, 0 ≤ z ∧ z < 256 := fun z hz => wf_u8 (hwz z (List.mem_of_mem_take hz))
      rw [ints_bytes _ hall] at hu
      have hj : j < len := by
        have := (List.getElem?_eq_some_iff.1 hu).1
        simp at this
        omega
      have h1 := hcell j (by omega)
      rw [Addr.add_lit] at h1
      rw [h1]
      have : (List.map (Value.int .u8) (List.take len zs))[j]? = some (.int .u8 (zs.getD j 0)) := by
        simp [hj, List.getD, show j < zs.length by omega]
      rw [this] at hu
      exact hu
    · have h1 := bulk_len (lits (H := H) .u8 (zs.take len))
      have h2 : (lits (H := H) .u8 (zs.take len)).length = len := by unfold lits; rw [List.length_map, List.length_take]; omega
      simp only [Rows.uptoBulk]
      omega
end
end Go.Proofs.YtklmpadcfioefaaGreatDoor
