/- strings.IndexRune in "/?" of a rune beyond ASCII. No condition. -/
import Derived.Test.YtabecgdaiakgiaaDoorRune
import Derived.Test.YtabecgdaiakgiaaDoorVars
import Derived.Test.YtabecgdaiakgiaaDoorShelf
namespace Go.Proofs.YtabecgdaiakgiaaDoor
open Go.RowKit

theorem enc_far (r : Nat) (h : 128 ≤ r) : (∃ x y : UInt8, 128 ≤ y.toNat ∧ Utf8.encode (r : Int) = ⟨#[x, y]⟩) ∨ (∃ x y z : UInt8, Utf8.encode (r : Int) = ⟨#[x, y, z]⟩) ∨ (∃ x y z u : UInt8, Utf8.encode (r : Int) = ⟨#[x, y, z, u]⟩) := by
  have hc : 128 ≤ (if Utf8.valid (r : Int) = true then (r : Int).toNat else Utf8.runeError) := by
    split
    · simpa using h
    · decide
  unfold Utf8.encode
  simp only
  generalize (if Utf8.valid (r : Int) = true then (r : Int).toNat else Utf8.runeError) = c at hc
  rw [if_neg (by omega)]
  split
  · exact .inl ⟨_, _, by simp; omega, rfl⟩
  · split
    · exact .inr (.inl ⟨_, _, _, rfl⟩)
    · exact .inr (.inr ⟨_, _, _, _, rfl⟩)

set_option maxHeartbeats 2000000 in
set_option maxRecDepth 1000000 in
theorem idxRune_far (r : Nat) (h1 : 128 ≤ r) (h2 : r ≤ 1114111) (he : r ≠ 65533) (w : World) :
    Calls Tryd.prog 93 #[.string ⟨#[47, 63]⟩, .int .i32 (r : Int)] w fun e w' => e = .returned (.int .i64 (-1)) ∧ Below w.heap.size w w' := by
  have q1 : ¬ ((r : Int) < 128) := by omega
  have q2 : ((r : Int) == 65533) = false := by simpa using fun h => he (by omega)
  have HV := Lib.hid (fun W => Tryd.utf8_ValidRune (r : Int) W)
  cases hb : Lib.validRune (r : Int) with
  | false =>
    rw [hb] at HV
    clear hb
    go_enter Tryd.func93, Tryd.ntmps93
    go_wp2_with (first
      | (go_at_call 124; (refine (HV.out _).mono ?_; rintro _ w1 ⟨rfl, rfl⟩))
      | fail)
    go_ret
    exact ⟨rfl, Below.refl _ _⟩
  | true =>
    rw [hb] at HV
    clear hb
    rcases enc_far r h1 with ⟨x, y, hy, hE⟩ | ⟨x, y, z, hE⟩ | ⟨x, y, z, u, hE⟩
    · have h63 : ((63 : Int) == (y.toNat : Int)) = false := by simp; omega
      have h63' : ((63 : Int) != (y.toNat : Int)) = true := by simp; omega
      have hi2 : ∀ W, (Instr.index 9 (.string ⟨#[47, 63]⟩) (.int .i64 1)).run Tryd.prog W = .ok (.int .u8 63) W := fun _ => by kernel_rfl
      go_enter Tryd.func93, Tryd.ntmps93
      go_upto_region 1 with (first
        | (go_at_call 124; (refine (HV.out _).mono ?_; rintro _ w1 ⟨rfl, rfl⟩))
        | fail)
      refine wp_scope_straight ?_
      go_wp2
      refine wp_loop_rounds 1 ?_
      rw [rounds_succ]
      go_wp2
      have HI := Lib.hid (fun W => Tryd.strings_IndexByte ⟨#[]⟩ (y.toNat : Int) W)
      have hsl : ∀ W, (Instr.slice 9 (.string ⟨#[47, 63]⟩) (some (.int .i64 (IntKind.i64.wrap 2))) none none).run Tryd.prog W = .ok (.string ⟨#[]⟩) W := fun _ => by kernel_rfl
      have hix : ∀ W, (Instr.index 9 (.string ⟨#[x, y]⟩) (.int .i64 1)).run Tryd.prog W = .ok (.int .u8 (y.toNat : Int)) W := fun _ => by kernel_rfl
      refine wp_scope_straight ?_
      go_wp2
      go_quiet (fail)
      go_wp2
      have hw2 : IntKind.i64.wrap 2 = 2 := by decide
      go_quiet ((go_at_call 114; refine (Tryd.strings_IndexByte _ _ _).mono ?_; rintro _ _ ⟨rfl, rfl⟩; exact ⟨rfl, _, rfl⟩))
      have hz : ∀ c, Lib.indexByte ByteArray.empty.data.toList c = -1 := fun _ => rfl
      go_wp2
      simp only [Exit.noGoto_ret, Exit.inBlock, Exit.then]
      go_ret
      exact ⟨rfl, below_drewN (Below.refl _ _) _⟩
    · go_enter Tryd.func93, Tryd.ntmps93
      go_upto_region 1 with (first
        | (go_at_call 124; (refine (HV.out _).mono ?_; rintro _ w1 ⟨rfl, rfl⟩))
        | fail)
      refine wp_scope_straight ?_
      go_wp2
      refine wp_loop_rounds 1 ?_
      rw [rounds_succ]
      go_wp2
      rw [Exit.noGoto_ret]
      go_ret
      exact ⟨rfl, Below.refl _ _⟩
    · go_enter Tryd.func93, Tryd.ntmps93
      go_upto_region 1 with (first
        | (go_at_call 124; (refine (HV.out _).mono ?_; rintro _ w1 ⟨rfl, rfl⟩))
        | fail)
      refine wp_scope_straight ?_
      go_wp2
      refine wp_loop_rounds 1 ?_
      rw [rounds_succ]
      go_wp2
      rw [Exit.noGoto_ret]
      go_ret
      exact ⟨rfl, Below.refl _ _⟩
end Go.Proofs.YtabecgdaiakgiaaDoor
