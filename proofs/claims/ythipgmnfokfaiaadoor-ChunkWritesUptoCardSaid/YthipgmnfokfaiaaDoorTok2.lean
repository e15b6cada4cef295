/- The reference's Token. -/
import Derived.Test.YthipgmnfokfaiaaDoorTok
namespace Go.Proofs.YthipgmnfokfaiaaDoor
open Go.RowKit

theorem marks_step (m : Nat) (h : m < ({ data := #[33, 35, 36, 37, 38, 39, 42, 43, 45, 46, 94, 95, 124, 126, 96] } : ByteArray).size) (c : UInt8) :
    (marks.take (m + 1)).contains c = ((marks.take m).contains c || ((({ data := #[33, 35, 36, 37, 38, 39, 42, 43, 45, 46, 94, 95, 124, 126, 96] } : ByteArray)[m].toNat : Int) == (c.toNat : Int))) := by
  have hm : m < marks.length := h
  have e : ({ data := #[33, 35, 36, 37, 38, 39, 42, 43, 45, 46, 94, 95, 124, 126, 96] } : ByteArray)[m] = marks[m]'hm := (byte_at { data := #[33, 35, 36, 37, 38, 39, 42, 43, 45, 46, 94, 95, 124, 126, 96] } m h).symm
  rw [List.take_succ_eq_append_getElem hm, ← e]
  rw [Bool.eq_iff_iff]
  simp only [List.contains_iff_mem, List.mem_append, List.mem_singleton, Bool.or_eq_true, beq_iff_eq]
  rw [← UInt8.toNat_inj]
  constructor <;> rintro (h1 | h1) <;> first | exact Or.inl h1 | exact Or.inr (by omega)

theorem tok_false {s : ByteArray} {k : Nat} (h : k < s.size) (h1 : isTok s[k] = false) : token s.data.toList = false := by
  have h2 : s[k] ∈ s.data.toList := by rw [← byte_at s k h]; exact List.getElem_mem _
  unfold token
  have h3 : s.data.toList.all isTok = false := by
    rw [List.all_eq_false]; exact ⟨s[k], h2, by simp [h1]⟩
  rw [h3, Bool.and_false]

set_option maxHeartbeats 4000000 in
theorem rToken_any (s : ByteArray) (w : World) (hs : s.size ≤ 9223372036854775807) :
    Calls Tryd.prog 24 #[.string s] w fun e w' => e = .returned (.bool (token s.data.toList)) ∧ w = w' := by
  have hne : (decide ((0 : Int) < (s.size : Int))) = !s.data.toList.isEmpty := by
    rw [← size_data]; cases s.data.toList <;> simp
  go_enter Tryd.func24, Tryd.ntmps24
  go_wp2
  go_loop [4] (fun i => ∃ k : Nat, k ≤ s.size ∧ i = .int .i64 k ∧ (s.data.toList.take k).all isTok = true) (fun i => s.size - (intOf i).toNat)
  case atStart => exact ⟨0, Nat.zero_le _, rfl, rfl⟩
  case round =>
    obtain ⟨k, hk, rfl, hall⟩ := hrel
    by_cases hlt : k < s.size
    · have hts := take_succ_data s k hlt
      have HT : Hid ((s.data.toList.take (k + 1)).all isTok = ((s.data.toList.take k).all isTok && isTok s[k])) := by show _ = _; rw [hts]; simp
      have hx : s[k].toNat < 256 := UInt8.toNat_lt s[k]
      have HI := Lib.hid (isTok_eq s[k])
      have HA := Lib.hid hall
      clear hall hts hne
      by_cases hL : letterI s[k].toNat
      · have HY : Hid (isTok s[k] = true) := by show _ = _; rw [HI.out]; simp [hL]
        unfold letterI at hL
        rcases hL with hL | hL | hL
        all_goals
          go_wp2
          go_loop [6, 7] (fun ok j => ∃ m : Nat, m ≤ 15 ∧ j = .int .i64 m ∧ ok = .bool true) (fun _ j => 15 - (intOf j).toNat)
          case atStart => exact ⟨0, by omega, rfl, by first | rfl | (simp; omega)⟩
          case round =>
            obtain ⟨m, hm, rfl, rfl⟩ := hrel
            by_cases hm15 : m < 15
            · go_wp2
              go_round
              case rel => exact ⟨m + 1, by omega, by go_num, rfl⟩
              case measure => simp [intOf]; omega
            · go_wp2
              go_round
              case rel => exact ⟨k + 1, by omega, by go_num, by rw [HT.out, HA.out, HY.out]; rfl⟩
              case measure => simp [intOf]; omega
      · have HN : Hid (isTok s[k] = marks.contains s[k]) := by show _ = _; rw [HI.out]; simp [hL]
        unfold letterI at hL
        rcases (show s[k].toNat < 48 ∨ (57 < s[k].toNat ∧ s[k].toNat < 65) ∨ (90 < s[k].toNat ∧ s[k].toNat < 97) ∨ 122 < s[k].toNat by omega) with hL | hL | hL | hL
        all_goals
          go_wp2
          go_loop [6, 7] (fun ok j => ∃ m : Nat, m ≤ 15 ∧ j = .int .i64 m ∧ ok = .bool ((marks.take m).contains s[k])) (fun _ j => 15 - (intOf j).toNat)
          case atStart => exact ⟨0, by omega, rfl, by first | rfl | (simp; omega)⟩
          case round =>
            obtain ⟨m, hm, rfl, rfl⟩ := hrel
            generalize hb : (marks.take m).contains s[k] = b
            have HB := Lib.hid hb
            clear hb
            by_cases hm15 : m < 15
            · have hmi : (m : Int) < 15 := by omega
              cases b
              · go_wp2
                go_round
                case rel => exact ⟨m + 1, by omega, by go_num, by rw [marks_step m (by simpa [ByteArray.size] using hm15), HB.out]; rfl⟩
                case measure => simp [intOf]; omega
              · go_wp2
                go_round
                case rel => exact ⟨m + 1, by omega, by go_num, by rw [marks_step m (by simpa [ByteArray.size] using hm15), HB.out]; rfl⟩
                case measure => simp [intOf]; omega
            · have HM : Hid (isTok s[k] = b) := by
                show _ = _
                have e : marks.take m = marks := List.take_of_length_le (by show 15 ≤ m; omega)
                rw [HN.out, ← HB.out, e]
              cases b
              · go_wp2
                go_ret
                exact ⟨by rw [tok_false hlt HM.out]; rfl, rfl⟩
              · go_wp2
                go_round
                case rel => exact ⟨k + 1, by omega, by go_num, by rw [HT.out, HA.out, HM.out]; rfl⟩
                case measure => simp [intOf]; omega
    · have e1 : s.data.toList.take k = s.data.toList := List.take_of_length_le (by rw [size_data]; omega)
      have HA : Hid (token s.data.toList = decide ((0 : Int) < (s.size : Int))) := by
        show _ = _
        rw [e1] at hall
        rw [hne]; unfold token; rw [hall, Bool.and_true]
      clear hall hne e1
      go_wp2
      all_goals go_ret
      all_goals exact ⟨by rw [HA.out]; simp, rfl⟩
end Go.Proofs.YthipgmnfokfaiaaDoor
