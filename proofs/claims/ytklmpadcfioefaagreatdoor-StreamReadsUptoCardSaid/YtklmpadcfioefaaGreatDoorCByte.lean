/- One byte of a chunked body: hex, plain, token; the reference's digit, plain, token. No condition. -/
import Derived.Test.YtklmpadcfioefaaGreatDoorMX1
import Derived.Test.YtklmpadcfioefaaGreatDoorMA
import Derived.Test.YtklmpadcfioefaaGreatDoorMB
import Derived.Test.YtklmpadcfioefaaGreatDoorParse
import Derived.IntWalk
import Derived.OpenShut
import Derived.Lib.SmallJoins
import Derived.Deep.DeepCutAuto
import Derived.Deep.RegionHeld3
namespace Go.Proofs.YtklmpadcfioefaaGreatDoor
open Go.RowKit

def hexN (x : Nat) : Int := if 48 ≤ x ∧ x ≤ 57 then (x : Int) - 48 else if 97 ≤ x ∧ x ≤ 102 then (x : Int) - 97 + 10 else if 65 ≤ x ∧ x ≤ 70 then (x : Int) - 65 + 10 else -1
theorem hexI_eq (c : UInt8) : Chunk.hexI c = hexN c.toNat := by
  unfold Chunk.hexI hexN
  simp only [Bool.and_eq_true, decide_eq_true_eq, UInt8.le_iff_toNat_le]
  rfl
set_option maxHeartbeats 1000000 in
theorem hex_any (c : UInt8) (w : World) : Calls Tryz.prog 167 #[.int .u8 (c.toNat : Int)] w fun e w' => e = .returned (.int .i64 (Chunk.hexI c)) ∧ w = w' := by
  have hx : c.toNat < 256 := UInt8.toNat_lt c
  have HS := Lib.hid (hexI_eq c)
  by_cases h1 : 48 ≤ c.toNat ∧ c.toNat ≤ 57
  · have HV : Hid (Chunk.hexI c = (c.toNat : Int) - 48) := Lib.hid (by rw [HS.out, hexN, if_pos h1])
    obtain ⟨a1, a2⟩ := h1
    go_enter Tryz.func167, Tryz.ntmps167
    go_wp2
    go_ret
    exact ⟨ret_int (by rw [HV.out] <;> omega), rfl⟩
  · by_cases h2 : 97 ≤ c.toNat ∧ c.toNat ≤ 102
    · have HV : Hid (Chunk.hexI c = (c.toNat : Int) - 97 + 10) := Lib.hid (by rw [HS.out, hexN, if_neg h1, if_pos h2])
      obtain ⟨a1, a2⟩ := h2
      clear h1
      go_enter Tryz.func167, Tryz.ntmps167
      go_wp2
      go_ret
      exact ⟨ret_int (by rw [HV.out] <;> omega), rfl⟩
    · by_cases h3 : 65 ≤ c.toNat ∧ c.toNat ≤ 70
      · have HV : Hid (Chunk.hexI c = (c.toNat : Int) - 65 + 10) := Lib.hid (by rw [HS.out, hexN, if_neg h1, if_neg h2, if_pos h3])
        obtain ⟨a1, a2⟩ := h3
        clear h1 h2
        go_enter Tryz.func167, Tryz.ntmps167
        go_wp2
        go_ret
        exact ⟨ret_int (by rw [HV.out] <;> omega), rfl⟩
      · have HV : Hid (Chunk.hexI c = -1) := Lib.hid (by rw [HS.out, hexN, if_neg h1, if_neg h2, if_neg h3])
        go_enter Tryz.func167, Tryz.ntmps167
        go_wp2
        all_goals go_ret
        all_goals exact ⟨ret_int (by rw [HV.out] <;> rfl), rfl⟩
set_option maxHeartbeats 1000000 in
theorem digit_any (c : UInt8) (w : World) : Calls Tryz.prog 134 #[.int .u8 (c.toNat : Int)] w fun e w' => e = .returned (.int .i64 (Chunk.hexI c)) ∧ w = w' := by
  have hx : c.toNat < 256 := UInt8.toNat_lt c
  have HS := Lib.hid (hexI_eq c)
  by_cases h1 : 48 ≤ c.toNat ∧ c.toNat ≤ 57
  · have HV : Hid (Chunk.hexI c = (c.toNat : Int) - 48) := Lib.hid (by rw [HS.out, hexN, if_pos h1])
    obtain ⟨a1, a2⟩ := h1
    go_enter Tryz.func134, Tryz.ntmps134
    go_wp2
    go_ret
    exact ⟨ret_int (by rw [HV.out] <;> omega), rfl⟩
  · by_cases h2 : 97 ≤ c.toNat ∧ c.toNat ≤ 102
    · have HV : Hid (Chunk.hexI c = (c.toNat : Int) - 97 + 10) := Lib.hid (by rw [HS.out, hexN, if_neg h1, if_pos h2])
      obtain ⟨a1, a2⟩ := h2
      clear h1
      go_enter Tryz.func134, Tryz.ntmps134
      go_wp2
      go_ret
      exact ⟨ret_int (by rw [HV.out] <;> omega), rfl⟩
    · by_cases h3 : 65 ≤ c.toNat ∧ c.toNat ≤ 70
      · have HV : Hid (Chunk.hexI c = (c.toNat : Int) - 65 + 10) := Lib.hid (by rw [HS.out, hexN, if_neg h1, if_neg h2, if_pos h3])
        obtain ⟨a1, a2⟩ := h3
        clear h1 h2
        go_enter Tryz.func134, Tryz.ntmps134
        go_wp2
        go_ret
        exact ⟨ret_int (by rw [HV.out] <;> omega), rfl⟩
      · have HV : Hid (Chunk.hexI c = -1) := Lib.hid (by rw [HS.out, hexN, if_neg h1, if_neg h2, if_neg h3])
        go_enter Tryz.func134, Tryz.ntmps134
        go_wp2
        all_goals go_ret
        all_goals exact ⟨ret_int (by rw [HV.out] <;> rfl), rfl⟩

set_option maxHeartbeats 1000000 in
theorem plain_any (c : UInt8) (w : World) : Calls Tryz.prog 158 #[.int .u8 (c.toNat : Int)] w fun e w' => e = .returned (.bool (Chunk.plain c)) ∧ w = w' := by
  have hx : c.toNat < 256 := UInt8.toNat_lt c
  have HS := Lib.hid (isText_eq c)
  have HV : Hid (Chunk.plain c = decide (¬ (c.toNat = 127 ∨ (c.toNat < 32 ∧ c.toNat ≠ 9)))) := Lib.hid HS.out
  clear HS
  by_cases h1 : c.toNat = 127
  · have HW : Hid (Chunk.plain c = false) := Lib.hid (by rw [HV.out]; simp [h1])
    clear HV
    go_enter Tryz.func158, Tryz.ntmps158
    go_wp2
    all_goals go_ret
    all_goals exact ⟨by rw [HW.out] <;> rfl, rfl⟩
  · by_cases h2 : c.toNat = 9
    · have HW : Hid (Chunk.plain c = true) := Lib.hid (by rw [HV.out]; simp [h2])
      clear HV
      go_enter Tryz.func158, Tryz.ntmps158
      go_wp2
      all_goals go_ret
      all_goals exact ⟨by rw [HW.out] <;> rfl, rfl⟩
    · have hb9 : ((c.toNat : Int) == 9) = false := by simp; omega
      have hb127 : ((c.toNat : Int) != 127) = true := by simp; omega
      by_cases h3 : c.toNat < 32
      · have HW : Hid (Chunk.plain c = false) := Lib.hid (by rw [HV.out]; simp [h2, h3])
        clear HV
        go_enter Tryz.func158, Tryz.ntmps158
        go_wp2
        all_goals go_ret
        all_goals exact ⟨by rw [HW.out] <;> rfl, rfl⟩
      · have HW : Hid (Chunk.plain c = true) := Lib.hid (by rw [HV.out]; simp [h1, h3])
        clear HV
        go_enter Tryz.func158, Tryz.ntmps158
        go_wp2
        all_goals go_ret
        all_goals exact ⟨by rw [HW.out] <;> rfl, rfl⟩
set_option maxHeartbeats 1000000 in
theorem qplain_any (c : UInt8) (w : World) : Calls Tryz.prog 135 #[.int .u8 (c.toNat : Int)] w fun e w' => e = .returned (.bool (Chunk.plain c)) ∧ w = w' := by
  have hx : c.toNat < 256 := UInt8.toNat_lt c
  have HS := Lib.hid (isText_eq c)
  have HV : Hid (Chunk.plain c = decide (¬ (c.toNat = 127 ∨ (c.toNat < 32 ∧ c.toNat ≠ 9)))) := Lib.hid HS.out
  clear HS
  have fin : ∀ b1 b2 b3 b4 : Bool, ((c.toNat : Int) == 9) = b1 → decide ((32 : Int) ≤ (c.toNat : Int)) = b2 → decide ((c.toNat : Int) ≤ 126) = b3 → decide ((128 : Int) ≤ (c.toNat : Int)) = b4 → Hid (Chunk.plain c = (b1 || b2 && b3 || b4)) := by
    intro b1 b2 b3 b4 e1 e2 e3 e4
    refine Lib.hid ?_
    rw [HV.out, ← e1, ← e2, ← e3, ← e4, Bool.eq_iff_iff]
    simp only [Bool.or_eq_true, Bool.and_eq_true, decide_eq_true_eq, beq_iff_eq]
    omega
  clear HV
  cases e1 : ((c.toNat : Int) == 9) <;> cases e2 : decide ((32 : Int) ≤ (c.toNat : Int)) <;> cases e3 : decide ((c.toNat : Int) ≤ 126) <;> cases e4 : decide ((128 : Int) ≤ (c.toNat : Int))
  all_goals
    have HW := fin _ _ _ _ e1 e2 e3 e4
    clear fin
    go_enter Tryz.func135, Tryz.ntmps135
    go_wp2
    all_goals go_ret
    all_goals exact ⟨by rw [HW.out] <;> rfl, rfl⟩
end Go.Proofs.YtklmpadcfioefaaGreatDoor
