/- head.written, head.minor, head.Parse's closure; the reference's place, text, minor; strings.Cut at a byte; slices.ContainsFunc. Conditions: sizes. -/
import Derived.Test.YtabecgdaiakgiaaDoorTok
import Derived.Test.YtabecgdaiakgiaaDoorTok2
import Derived.Test.YtabecgdaiakgiaaDoorList
import Derived.Test.YtabecgdaiakgiaaDoorLines
namespace Go.Proofs.YtabecgdaiakgiaaDoor
open Go.RowKit

theorem isText_eq (c : UInt8) : isText c = decide (¬ (c.toNat = 127 ∨ (c.toNat < 32 ∧ c.toNat ≠ 9))) := by
  simp only [isText, UInt8.le_iff_toNat_le]
  have e1 : (32 : UInt8).toNat = 32 := rfl
  have h1 : (c == 9) = decide (c.toNat = 9) := by
    rw [Bool.eq_iff_iff]; simp only [beq_iff_eq, decide_eq_true_eq]
    exact ⟨fun h => by rw [h]; rfl, fun h => UInt8.toNat_inj.mp (by rw [h]; rfl)⟩
  have h2 : (c != 127) = decide (¬ c.toNat = 127) := by
    rw [Bool.eq_iff_iff]; simp only [bne_iff_ne, ne_eq, decide_eq_true_eq]
    exact ⟨fun h e => h (UInt8.toNat_inj.mp (by rw [e]; rfl)), fun h e => h (by rw [e]; rfl)⟩
  rw [h1, h2, e1, Bool.eq_iff_iff]
  simp only [Bool.or_eq_true, Bool.and_eq_true, decide_eq_true_eq]
  omega
theorem isReason_eq (c : UInt8) : isReason c = decide (¬ (c.toNat = 127 ∨ c.toNat < 32)) := by
  simp only [isReason, UInt8.le_iff_toNat_le]
  have e1 : (32 : UInt8).toNat = 32 := rfl
  have h2 : (c != 127) = decide (¬ c.toNat = 127) := by
    rw [Bool.eq_iff_iff]; simp only [bne_iff_ne, ne_eq, decide_eq_true_eq]
    exact ⟨fun h e => h (UInt8.toNat_inj.mp (by rw [e]; rfl)), fun h e => h (by rw [e]; rfl)⟩
  rw [h2, e1, Bool.eq_iff_iff]
  simp only [Bool.and_eq_true, decide_eq_true_eq]
  omega
def allText (l : Bs) : Bool := l.all isText
def allReason (l : Bs) : Bool := l.all isReason
theorem all_false {p : UInt8 → Bool} {s : ByteArray} {k : Nat} (h : k < s.size) (h1 : p s[k] = false) : s.data.toList.all p = false := by
  rw [List.all_eq_false]
  exact ⟨s[k], by rw [← byte_at s k h]; exact List.getElem_mem _, by simp [h1]⟩
theorem all_step {p : UInt8 → Bool} {s : ByteArray} {k : Nat} (h : k < s.size) : (s.data.toList.take (k + 1)).all p = ((s.data.toList.take k).all p && p s[k]) := by
  rw [take_succ_data s k h]; simp
theorem all_end {p : UInt8 → Bool} {s : ByteArray} {k : Nat} (h : s.size ≤ k) (h1 : (s.data.toList.take k).all p = true) : s.data.toList.all p = true := by
  rwa [List.take_of_length_le (by rw [size_data]; omega)] at h1

set_option maxHeartbeats 1000000 in
theorem hwritten_tabs (s : ByteArray) (w : World) (hs : s.size ≤ 9223372036854775807) :
    Calls Tryd.prog 77 #[.string s, .bool true] w fun e w' => e = .returned (.bool (allText s.data.toList)) ∧ w = w' := by
  go_enter Tryd.func77, Tryd.ntmps77
  go_wp2
  go_loop [9] (fun i => ∃ k : Nat, k ≤ s.size ∧ i = .int .i64 k ∧ (s.data.toList.take k).all isText = true) (fun i => s.size - (intOf i).toNat)
  case atStart => exact ⟨0, Nat.zero_le _, rfl, rfl⟩
  case round =>
    obtain ⟨k, hk, rfl, hall⟩ := hrel
    by_cases hlt : k < s.size
    · have HT : Hid _ := Lib.hid (all_step (p := isText) hlt)
      have hx := UInt8.toNat_lt s[k]
      have HI := Lib.hid (isText_eq s[k])
      have HA := Lib.hid hall
      have HF : Hid (isText s[k] = false → allText s.data.toList = false) := Lib.hid (fun h => all_false hlt h)
      clear hall
      by_cases h127 : s[k].toNat = 127
      · have hb : isText s[k] = false := by rw [HI.out]; simp [h127]
        go_wp2
        all_goals go_ret
        all_goals exact ⟨by rw [HF.out hb]; rfl, rfl⟩
      · by_cases h32 : s[k].toNat < 32
        · by_cases h9 : s[k].toNat = 9
          · have hb : isText s[k] = true := by rw [HI.out]; simp [h9]
            go_wp2
            all_goals
              go_round
              case rel => exact ⟨k + 1, by omega, by go_num, by rw [HT.out, HA.out, hb]; rfl⟩
              case measure => simp [intOf]; omega
          · have hb : isText s[k] = false := by rw [HI.out]; simp [h32, h9]
            go_wp2
            all_goals try (exfalso; simp only [Bool.not_eq_eq_eq_not, Bool.not_true, Bool.not_false, beq_iff_eq, beq_eq_false_iff_ne] at *; omega)
            all_goals go_ret
            all_goals exact ⟨by rw [HF.out hb]; rfl, rfl⟩
        · have hb : isText s[k] = true := by rw [HI.out]; simp [h32, h127]
          go_wp2
          all_goals
            go_round
            case rel => exact ⟨k + 1, by omega, by go_num, by rw [HT.out, HA.out, hb]; rfl⟩
            case measure => simp [intOf]; omega
    · have HE : Hid (allText s.data.toList = true) := Lib.hid (all_end (p := isText) (by omega) hall)
      clear hall
      go_wp2
      go_ret
      exact ⟨by rw [HE.out]; rfl, rfl⟩

set_option maxHeartbeats 1000000 in
theorem hwritten_plain (s : ByteArray) (w : World) (hs : s.size ≤ 9223372036854775807) :
    Calls Tryd.prog 77 #[.string s, .bool false] w fun e w' => e = .returned (.bool (allReason s.data.toList)) ∧ w = w' := by
  go_enter Tryd.func77, Tryd.ntmps77
  go_wp2
  go_loop [9] (fun i => ∃ k : Nat, k ≤ s.size ∧ i = .int .i64 k ∧ (s.data.toList.take k).all isReason = true) (fun i => s.size - (intOf i).toNat)
  case atStart => exact ⟨0, Nat.zero_le _, rfl, rfl⟩
  case round =>
    obtain ⟨k, hk, rfl, hall⟩ := hrel
    by_cases hlt : k < s.size
    · have HT : Hid _ := Lib.hid (all_step (p := isReason) hlt)
      have hx := UInt8.toNat_lt s[k]
      have HI := Lib.hid (isReason_eq s[k])
      have HA := Lib.hid hall
      have HF : Hid (isReason s[k] = false → allReason s.data.toList = false) := Lib.hid (fun h => all_false hlt h)
      clear hall
      by_cases h127 : s[k].toNat = 127
      · have hb : isReason s[k] = false := by rw [HI.out]; simp [h127]
        go_wp2
        all_goals go_ret
        all_goals exact ⟨by rw [HF.out hb]; rfl, rfl⟩
      · by_cases h32 : s[k].toNat < 32
        · have hb : isReason s[k] = false := by rw [HI.out]; simp [h32]
          go_wp2
          all_goals go_ret
          all_goals exact ⟨by rw [HF.out hb]; rfl, rfl⟩
        · have hb : isReason s[k] = true := by rw [HI.out]; simp [h32, h127]
          go_wp2
          all_goals
            go_round
            case rel => exact ⟨k + 1, by omega, by go_num, by rw [HT.out, HA.out, hb]; rfl⟩
            case measure => simp [intOf]; omega
    · have HE : Hid (allReason s.data.toList = true) := Lib.hid (all_end (p := isReason) (by omega) hall)
      clear hall
      go_wp2
      go_ret
      exact ⟨by rw [HE.out]; rfl, rfl⟩

/-- the place of a byte: -1 if it is nowhere -/
def placeP (c : UInt8) (l : Bs) : Int := match cutAt c l with | none => -1 | some (a, _) => a.length
theorem placeP_none {c : UInt8} {l : Bs} (h : ∀ k (hk : k < l.length), l[k] ≠ c) : placeP c l = -1 := by
  have : cutAt c l = none := cutAt_none.2 fun hm => by
    obtain ⟨k, hk, e⟩ := List.getElem_of_mem hm
    exact h k hk e
  rw [placeP, this]
theorem placeP_at {c : UInt8} {l : Bs} {k : Nat} (hk : k < l.length) (hc : l[k] = c) (hn : ∀ j (h : j < k), l[j] ≠ c) : placeP c l = k := by
  rw [placeP, cutAt_at hk hc hn]
  simp; omega

end Go.Proofs.YtabecgdaiakgiaaDoor
