/- the reference's size: a size line. Condition: sizes. -/
import Derived.Test.YtabecgdaiakgiaaDoorQSize
namespace Go.Proofs.YtabecgdaiakgiaaDoor
open Go.RowKit

theorem hex_neg2 {c : UInt8} (hd : ¬ 0 ≤ Chunk.hexI c) : Chunk.hexI c = -1 := by
  rw [hexI_eq] at hd ⊢
  unfold hexN at hd ⊢
  by_cases h1 : 48 ≤ c.toNat ∧ c.toNat ≤ 57
  · rw [if_pos h1] at hd; omega
  · rw [if_neg h1] at hd ⊢
    by_cases h2 : 97 ≤ c.toNat ∧ c.toNat ≤ 102
    · rw [if_pos h2] at hd; omega
    · rw [if_neg h2] at hd ⊢
      by_cases h3 : 65 ≤ c.toNat ∧ c.toNat ≤ 70
      · rw [if_pos h3] at hd; omega
      · rw [if_neg h3]
theorem u8_iff {c d : UInt8} : (c.toNat : Int) = (d.toNat : Int) ↔ c = d := ⟨fun e => UInt8.toNat_inj.mp (by omega), fun e => by rw [e]⟩
theorem u8_ne {c d : UInt8} (h : c ≠ d) (k : Int) (hk : (d.toNat : Int) = k) : (((c.toNat : Int)) == k) = false ∧ (((c.toNat : Int)) != k) = true := by
  subst hk
  simp only [beq_eq_false_iff_ne, ne_eq, bne_iff_ne]
  exact ⟨fun e => h (u8_iff.1 e), fun e => h (u8_iff.1 e)⟩
def SizePost (x : Nat × Nat × Int) (w : World) (e : Ending) (w' : World) : Prop := e = .returned (.tuple #[.int .i64 x.1, .int .i64 x.2.1, .int .i64 x.2.2]) ∧ w = w'

end Go.Proofs.YtabecgdaiakgiaaDoor
