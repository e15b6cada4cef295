/- Token, Fold, trim: the program's and the reference's, walked. No condition but sizes. -/
import Derived.Test.YtabecgdaiakgiaaDoorKit
import Derived.Test.YtabecgdaiakgiaaDoorPlain
import Derived.Test.YtabecgdaiakgiaaDoorShelf
import Derived.Shelf.Strings.SlTrimAscii
namespace Go.Proofs.YtabecgdaiakgiaaDoor
open Go.RowKit

theorem size_data (s : ByteArray) : s.data.toList.length = s.size := by rw [Array.length_toList]; rfl
theorem byte_at (s : ByteArray) (k : Nat) (h : k < s.size) : s.data.toList[k]'(by rw [size_data]; exact h) = s[k] := by
  rw [Array.getElem_toList]; rfl
theorem take_succ_data (s : ByteArray) (k : Nat) (h : k < s.size) : s.data.toList.take (k + 1) = s.data.toList.take k ++ [s[k]] := by
  rw [List.take_succ_eq_append_getElem (by rw [size_data]; exact h), byte_at s k h]

theorem idx_marks (c : UInt8) (w : World) : Calls Tryd.prog 114 #[.string ⟨#[33, 35, 36, 37, 38, 39, 42, 43, 45, 46, 94, 95, 124, 126, 96]⟩, .int .u8 (c.toNat : Int)] w fun e w' =>
    ∃ i : Int, e = .returned (.int .i64 i) ∧ decide (0 ≤ i) = marks.contains c ∧ w = w' :=
  (Tryd.strings_IndexByte ⟨#[33, 35, 36, 37, 38, 39, 42, 43, 45, 46, 94, 95, 124, 126, 96]⟩ (c.toNat : Int) w).mono fun e w' ⟨he, hw⟩ =>
    ⟨_, he, by simp only [Int.toNat_natCast, Nat.toUInt8_eq, UInt8.ofNat_toNat]; exact index_marks c, hw.symm⟩

set_option maxHeartbeats 1000000 in
theorem hToken_any (s : ByteArray) (w : World) (hs : s.size ≤ 9223372036854775807) :
    Calls Tryd.prog 76 #[.string s] w fun e w' => e = .returned (.bool (token s.data.toList)) ∧ w = w' := by
  have hne : (!s.data.toList.isEmpty) = (!(s.toList == [])) := by
    rw [ByteArray.toList_eq]; cases s.data.toList <;> rfl
  go_enter Tryd.func76, Tryd.ntmps76
  go_wp2
  go_loop [7] (fun i => ∃ k : Nat, k ≤ s.size ∧ i = .int .i64 k ∧ (s.data.toList.take k).all isTok = true) (fun i => s.size - (intOf i).toNat)
  case atStart => exact ⟨0, Nat.zero_le _, rfl, rfl⟩
  case round =>
    obtain ⟨k, hk, rfl, hall⟩ := hrel
    by_cases hlt : k < s.size
    · have hts := take_succ_data s k hlt
      have HT : Hid ((s.data.toList.take (k + 1)).all isTok = ((s.data.toList.take k).all isTok && isTok s[k])) := by show _ = _; rw [hts]; simp
      have hx := UInt8.toNat_lt s[k]
      have HI := Lib.hid (isTok_eq s[k])
      have HA := Lib.hid hall
      clear hall hts
      by_cases hL : letterI s[k].toNat
      · have HY : Hid (isTok s[k] = true) := by show _ = _; rw [HI.out]; simp [hL]
        unfold letterI at hL
        go_wp2_with fail
        all_goals
          go_round
          case rel => exact ⟨k + 1, by omega, by go_num, by rw [HT.out, HA.out, HY.out]; rfl⟩
          case measure => simp [intOf]; omega
      · have HN : Hid (isTok s[k] = marks.contains s[k]) := by show _ = _; rw [HI.out]; simp [hL]
        have hm := idx_marks s[k] w
        generalize hmc : marks.contains s[k] = mc at hm
        have HC := Lib.hid hmc
        have HM := Lib.hid hm
        clear hm hmc
        unfold letterI at hL
        cases mc
        · go_wp2_with (go_at_call 114; refine (HM.out).mono ?_; rintro e w' ⟨i, rfl, hdi, rfl⟩; have hdi' : i < 0 := (by simpa using hdi); clear hdi)
          all_goals try (exfalso; simp only [Bool.not_eq_eq_eq_not, Bool.not_true, Bool.not_false, decide_eq_false_iff_not, decide_eq_true_eq] at *; omega)
          all_goals go_ret
          all_goals
            refine ⟨?_, rfl⟩
            have : token s.data.toList = false := by
              have h1 : isTok s[k] = false := by rw [HN.out, HC.out]
              have h2 : s[k] ∈ s.data.toList := by rw [← byte_at s k hlt]; exact List.getElem_mem _
              unfold token
              have h3 : s.data.toList.all isTok = false := by
                rw [List.all_eq_false]; exact ⟨s[k], h2, by simp [h1]⟩
              rw [h3, Bool.and_false]
            rw [this]
            rfl
        · go_wp2_with (go_at_call 114; refine (HM.out).mono ?_; rintro e w' ⟨i, rfl, hdi, rfl⟩; have hdi' : 0 ≤ i := (by simpa using hdi); clear hdi)
          all_goals
            go_round
            case rel => exact ⟨k + 1, by omega, by go_num, by rw [HT.out, HA.out, HN.out, HC.out]; rfl⟩
            case measure => simp [intOf]; omega
    · have e1 : s.data.toList.take k = s.data.toList := List.take_of_length_le (by rw [size_data]; omega)
      have HA : Hid (token s.data.toList = !(s.toList == [])) := by
        show _ = _
        rw [e1] at hall
        rw [← hne]; unfold token; rw [hall, Bool.and_true]
      clear hall hne e1
      go_wp2
      all_goals go_ret
      all_goals exact ⟨by rw [HA.out]; simp, rfl⟩

end Go.Proofs.YtabecgdaiakgiaaDoor
