/- law 23's round. Conditions: sizes. -/
import Derived.Test.YtabecgdaiakgiaaDoorMA
import Derived.IntWalk
namespace Go.Proofs.YtabecgdaiakgiaaDoor
open Go.RowKit

/-- a place among m: what round answers -/
theorem mround_any (x : Int) (m : Nat) (w : World) (hm : 0 < m) (hm2 : m ≤ 4611686018427387904) (_hx : -9223372036854775808 ≤ x ∧ x ≤ 9223372036854775807) :
    Calls Tryd.prog 68 #[.int .i64 x, .int .i64 m] w fun e w' => (∃ k : Nat, k < m ∧ e = .returned (.int .i64 (k : Int))) ∧ w = w' := by
  have h1 : Int.tmod x m < (m : Int) := Int.tmod_lt_of_pos x (by omega)
  have h2 : -(m : Int) < Int.tmod x m := by
    have h := Int.tmod_lt_of_pos (-x) (show (0 : Int) < (m : Int) by omega)
    rw [Int.neg_tmod] at h
    omega
  have hm0 : ¬ (m : Int) = 0 := by omega
  have hm0b : ((m : Int) == 0) = false := by simpa using hm0
  have HR : Hid (∃ r : Int, Int.tmod x m = r ∧ -(m : Int) < r ∧ r < m) := Lib.hid ⟨_, rfl, h2, h1⟩
  clear h1 h2
  obtain ⟨r, hr, h1, h2⟩ := HR.out
  have hw : ∀ k : IntKind, k = .i64 → k.wrap r = r := fun k e => by subst e; rw [IntKind.wrap_i64]; omega
  by_cases hneg : r < 0
  · go_enter Tryd.func68, Tryd.ntmps68
    go_wp2
    go_ret
    exact ⟨⟨(r + m).toNat, by omega, by rw [show (((r + m).toNat : Nat) : Int) = r + m by omega] <;> rfl⟩, rfl⟩
  · go_enter Tryd.func68, Tryd.ntmps68
    go_wp2
    go_ret
    exact ⟨⟨r.toNat, by omega, by rw [show ((r.toNat : Nat) : Int) = r by omega] <;> rfl⟩, rfl⟩
end Go.Proofs.YtabecgdaiakgiaaDoor
