/- the reference's Authority (chapter 24). Conditions: sizes. -/
import Derived.Test.YtklmpadcfioefaaGreatDoorSAuth
namespace Go.Proofs.YtklmpadcfioefaaGreatDoor
open Go.RowKit

theorem host_no58 {l : Bs} (h : l.all isHostC = true) : (58 : UInt8) ∉ l := fun hm => by
  have := List.all_eq_true.1 h _ hm
  revert this
  decide
theorem auth_mid {s : ByteArray} {k : Nat} (hk : k < s.size) (h : (s.data.toList.take k).all isHostC = true) (hc : s[k] = 58) : hostOf s.data.toList = s.data.toList.take k ∧ portP s.data.toList = s.data.toList.drop (k + 1) := by
  have hkl : k < s.data.toList.length := by rw [size_data]; exact hk
  have e : s.data.toList = s.data.toList.take k ++ 58 :: s.data.toList.drop (k + 1) := by
    conv => lhs; rw [← List.take_append_drop k s.data.toList]
    rw [List.drop_eq_getElem_cons hkl, byte_at s k hk, hc]
  have hcut := cutAt_some.2 ⟨e, host_no58 h⟩
  unfold hostOf portP
  rw [hcut]
  exact ⟨rfl, rfl⟩
theorem auth_all {s : ByteArray} (h : s.data.toList.all isHostC = true) : hostOf s.data.toList = s.data.toList ∧ portP s.data.toList = [] := by
  have hcut := cutAt_none.2 (host_no58 h)
  unfold hostOf portP
  rw [hcut]
  exact ⟨rfl, rfl⟩
theorem auth_bad {s : ByteArray} {k : Nat} (hk : k < s.size) (h : (s.data.toList.take k).all isHostC = true) (h58 : s[k] ≠ 58) (hc : isHostC s[k] = false) : authP s.data.toList = none := by
  have hkl : k < s.data.toList.length := by rw [size_data]; exact hk
  have e : s.data.toList = (s.data.toList.take k ++ [s[k]]) ++ s.data.toList.drop (k + 1) := by
    conv => lhs; rw [← List.take_append_drop k s.data.toList]
    rw [List.drop_eq_getElem_cons hkl, byte_at s k hk]
    simp
  have hm : s[k] ∈ hostOf s.data.toList := by
    unfold hostOf
    cases hq : cutAt 58 s.data.toList with
    | none => show s[k] ∈ s.data.toList; rw [← byte_at s k hk]; exact List.getElem_mem _
    | some p =>
      obtain ⟨a, b⟩ := p
      obtain ⟨ha, hb⟩ := cutAt_some.1 hq
      show s[k] ∈ a
      by_cases hl : k < a.length
      · have e1 : s.data.toList[k] = a[k] := by
          simp only [ha]
          rw [List.getElem_append_left hl]
        rw [← byte_at s k hk, e1]
        exact List.getElem_mem _
      · have h2 : a.length < k ∨ a.length = k := by omega
        rcases h2 with h2 | h2
        · have hx : (58 : UInt8) ∈ s.data.toList.take k := by
            rw [List.mem_iff_getElem]
            refine ⟨a.length, by rw [List.length_take]; omega, ?_⟩
            rw [List.getElem_take]
            simp only [ha]
            rw [List.getElem_append_right (Nat.le_refl _)]
            simp
          exact absurd hx (host_no58 h)
        · exfalso
          apply h58
          rw [← byte_at s k hk]
          simp only [ha]
          rw [List.getElem_append_right (by omega)]
          simp [h2]
  unfold authP
  split
  · rfl
  · rw [if_neg]
    rintro ⟨_, hall⟩
    have := List.all_eq_true.1 hall _ hm
    rw [hc] at this
    cases this
theorem auth_is {s : Bs} {h p : Bs} (hh : hostOf s = h) (hp : portP s = p) (hall : h.all isHostC = true) : authP s = if h = [] ∨ 5 < p.length then none else if p.all isDigit = true then some (fold h) else none := by
  unfold authP
  rw [hh, hp]
  simp only [hall, and_true]
theorem mid_step2 {p : UInt8 → Bool} {s : ByteArray} {k j : Nat} (h : j < s.size) (hkj : k ≤ j) : ((s.data.toList.take (j + 1)).drop k).all p = (((s.data.toList.take j).drop k).all p && p s[j]) := by
  have hl : (s.data.toList.take j).length = j := by rw [List.length_take, size_data]; omega
  rw [take_succ_data s j h, List.drop_append_of_le_length (by omega)]; simp
theorem mid_no2 {p : UInt8 → Bool} {s : ByteArray} {k j : Nat} (h : j < s.size) (hkj : k ≤ j) (hp : p s[j] = false) : (s.data.toList.drop k).all p = false := by
  rw [List.all_eq_false]
  refine ⟨s[j], ?_, by simp [hp]⟩
  rw [List.mem_iff_getElem?]
  refine ⟨j - k, ?_⟩
  rw [List.getElem?_drop, show k + (j - k) = j by omega, List.getElem?_eq_getElem (by rw [size_data]; exact h), byte_at s j h]
set_option maxHeartbeats 4000000 in
set_option maxRecDepth 100000 in
theorem qauth_any (s : ByteArray) (w : World) (hs : s.size ≤ 16777216) :
    Calls Tryz.prog 102 #[.string s] w fun e w' => e = .returned (authV s.data.toList) ∧ Below w.heap.size w w' := by
  go_enter Tryz.func102, Tryz.ntmps102
  go_wp2
  go_loop [4] (fun i => ∃ k : Nat, k ≤ s.size ∧ i = .int .i64 k ∧ (s.data.toList.take k).all isHostC = true) (fun i => s.size - (intOf i).toNat)
  case atStart => exact ⟨0, Nat.zero_le _, rfl, rfl⟩
  case round =>
    obtain ⟨k, hk, rfl, hall⟩ := hrel
    have HAL := Lib.hid hall
    clear hall
    by_cases hlt : k < s.size ∧ s[k]! ≠ 58
    · obtain ⟨hlt, h58'⟩ := hlt
      have h58 : s[k] ≠ 58 := by rw [getElem!_pos s k hlt] at h58'; exact h58'
      have HT := Lib.hid (all_take_step (p := isHostC) hlt)
      have HI := Lib.hid (isHostC_eq s[k])
      have hx := UInt8.toNat_lt s[k]
      have q58 : ((s[k].toNat : Int) != 58) = true := by
        rw [bne_iff_ne]
        intro e
        exact h58 (UInt8.toNat_inj.1 (by show s[k].toNat = 58; omega))
      have HB := Lib.hid (fun hc => auth_bad hlt HAL.out h58 hc)
      clear h58'
      by_cases hd : hostI s[k].toNat
      · have HY : Hid (isHostC s[k] = true) := Lib.hid (by rw [HI.out]; simp [hd])
        clear HB h58
        unfold hostI at hd
        rcases hd with ⟨d1, d2⟩ | ⟨d1, d2⟩ | ⟨d1, d2⟩ | d1 | d1
        · (go_wp2
           all_goals (go_round
                      case rel => exact ⟨k + 1, by omega, by go_num, by rw [HT.out, HAL.out, HY.out]; rfl⟩
                      case measure => simp [intOf]; omega))
        · (go_wp2
           all_goals (go_round
                      case rel => exact ⟨k + 1, by omega, by go_num, by rw [HT.out, HAL.out, HY.out]; rfl⟩
                      case measure => simp [intOf]; omega))
        · have q97 : decide ((97 : Int) ≤ (s[k].toNat : Int)) = false := by simp; omega
          have q65 : decide ((65 : Int) ≤ (s[k].toNat : Int)) = false := by simp; omega
          (go_wp2
           all_goals (go_round
                      case rel => exact ⟨k + 1, by omega, by go_num, by rw [HT.out, HAL.out, HY.out]; rfl⟩
                      case measure => simp [intOf]; omega))
        · have q97 : decide ((97 : Int) ≤ (s[k].toNat : Int)) = false := by simp; omega
          have q65 : decide ((65 : Int) ≤ (s[k].toNat : Int)) = false := by simp; omega
          have q48 : decide ((48 : Int) ≤ (s[k].toNat : Int)) = false := by simp; omega
          have q45 : ((s[k].toNat : Int) == 45) = true := by rw [beq_iff_eq]; omega
          (go_wp2
           all_goals (go_round
                      case rel => exact ⟨k + 1, by omega, by go_num, by rw [HT.out, HAL.out, HY.out]; rfl⟩
                      case measure => simp [intOf]; omega))
        · have q97 : decide ((97 : Int) ≤ (s[k].toNat : Int)) = false := by simp; omega
          have q65 : decide ((65 : Int) ≤ (s[k].toNat : Int)) = false := by simp; omega
          have q48 : decide ((48 : Int) ≤ (s[k].toNat : Int)) = false := by simp; omega
          have q45 : ((s[k].toNat : Int) == 45) = false := by rw [beq_eq_false_iff_ne]; omega
          have q46 : ((s[k].toNat : Int) == 46) = true := by rw [beq_iff_eq]; omega
          (go_wp2
           all_goals (go_round
                      case rel => exact ⟨k + 1, by omega, by go_num, by rw [HT.out, HAL.out, HY.out]; rfl⟩
                      case measure => simp [intOf]; omega))
      · have HN := Lib.hid (authV_no (HB.out (by rw [HI.out]; simp [hd])))
        clear HT HI HB h58
        unfold hostI at hd
        have hc : s[k].toNat < 45 ∨ s[k].toNat = 47 ∨ (58 ≤ s[k].toNat ∧ s[k].toNat ≤ 64) ∨ (91 ≤ s[k].toNat ∧ s[k].toNat ≤ 96) ∨ 123 ≤ s[k].toNat := by omega
        have q45 : ((s[k].toNat : Int) == 45) = false := by rw [beq_eq_false_iff_ne]; omega
        have q46 : ((s[k].toNat : Int) == 46) = false := by rw [beq_eq_false_iff_ne]; omega
        clear hd
        rcases hc with d1 | d1 | ⟨d1, d2⟩ | ⟨d1, d2⟩ | d1
        · (go_wp2
           go_ret2
           exact ⟨by rw [HN.out]; rfl, Below.refl _ _⟩)
        · (go_wp2
           go_ret2
           exact ⟨by rw [HN.out]; rfl, Below.refl _ _⟩)
        · have q57 : decide ((s[k].toNat : Int) ≤ 57) = false := by simp; omega
          (go_wp2
           go_ret2
           exact ⟨by rw [HN.out]; rfl, Below.refl _ _⟩)
        · have q57 : decide ((s[k].toNat : Int) ≤ 57) = false := by simp; omega
          have q90 : decide ((s[k].toNat : Int) ≤ 90) = false := by simp; omega
          (go_wp2
           go_ret2
           exact ⟨by rw [HN.out]; rfl, Below.refl _ _⟩)
        · have q57 : decide ((s[k].toNat : Int) ≤ 57) = false := by simp; omega
          have q90 : decide ((s[k].toNat : Int) ≤ 90) = false := by simp; omega
          have q122 : decide ((s[k].toNat : Int) ≤ 122) = false := by simp; omega
          (go_wp2
           go_ret2
           exact ⟨by rw [HN.out]; rfl, Below.refl _ _⟩)
    · by_cases hlt2 : k < s.size
      · have h58 : s[k] = 58 := by
          by_cases e : s[k] = 58
          · exact e
          · exact absurd ⟨hlt2, by rw [getElem!_pos s k hlt2]; exact e⟩ hlt
        obtain ⟨m1, m2⟩ := auth_mid hlt2 HAL.out h58
        have HA := Lib.hid (auth_is m1 m2 HAL.out)
        have d58 : s[k].toNat = 58 := by rw [h58]; rfl
        have q58 : ((s[k].toNat : Int) != 58) = false := by rw [d58]; rfl
        have hpl : (s.data.toList.drop (k + 1)).length = s.size - (k + 1) := by rw [List.length_drop, size_data]
        have htl : (s.data.toList.take k).length = k := by rw [List.length_take, size_data]; omega
        have HPL := Lib.hid hpl
        have HTL := Lib.hid htl
        clear hlt m1 m2 h58 hpl htl
        by_cases h0 : k = 0
        · have HN : Hid (authV s.data.toList = .tuple #[.string ⟨#[]⟩, .bool false]) := Lib.hid (authV_no (by rw [HA.out, if_pos (.inl (List.eq_nil_of_length_eq_zero (by rw [HTL.out]; exact h0)))]))
          have k0 : ((k : Int) == 0) = true := by rw [h0]; rfl
          clear h0
          (go_wp2
           go_ret2
           exact ⟨by rw [HN.out]; rfl, Below.refl _ _⟩)
        · have k0 : ((k : Int) == 0) = false := by rw [beq_eq_false_iff_ne]; omega
          by_cases h6 : s.size ≤ k + 6
          · have g6 : ¬ (6 : Int) < (s.size : Int) - k := by omega
            have HA2 : Hid (authP s.data.toList = if (s.data.toList.drop (k + 1)).all isDigit = true then some (fold (s.data.toList.take k)) else none) := Lib.hid (by
              rw [HA.out, if_neg]
              rintro (e | e)
              · have := HTL.out; rw [e] at this; exact h0 this.symm
              · rw [HPL.out] at e; omega)
            clear HA
            go_wp2
            go_loop [6] (fun i => ∃ j : Nat, k + 1 ≤ j ∧ j ≤ s.size ∧ i = .int .i64 j ∧ ((s.data.toList.take j).drop (k + 1)).all isDigit = true) (fun i => s.size - (intOf i).toNat)
            case atStart => exact ⟨k + 1, Nat.le_refl _, by omega, by go_num, by rw [List.drop_eq_nil_of_le (by rw [List.length_take]; omega)]; rfl⟩
            case round =>
              obtain ⟨j, hj1, hj, rfl, hall⟩ := hrel
              have HJ := Lib.hid hall
              clear hall
              by_cases hltj : j < s.size
              · have HT2 := Lib.hid (mid_step2 (p := isDigit) hltj hj1)
                have HI2 := Lib.hid (dig_eq s[j])
                have hxj := UInt8.toNat_lt s[j]
                by_cases hd : 48 ≤ s[j].toNat ∧ s[j].toNat ≤ 57
                · have HY : Hid (isDigit s[j] = true) := Lib.hid (by rw [HI2.out]; simp [hd])
                  obtain ⟨hd1, hd2⟩ := hd
                  go_wp2
                  go_round
                  case rel => exact ⟨j + 1, by omega, by omega, by go_num, by rw [HT2.out, HJ.out, HY.out]; rfl⟩
                  case measure => simp [intOf]; omega
                · have HN : Hid (authV s.data.toList = .tuple #[.string ⟨#[]⟩, .bool false]) := Lib.hid (authV_no (by rw [HA2.out, if_neg]; intro e; rw [mid_no2 hltj hj1 (by rw [HI2.out]; simp; omega)] at e; cases e))
                  by_cases hd1 : s[j].toNat < 48
                  · (go_wp2
                     go_ret2
                     exact ⟨by rw [HN.out]; rfl, Below.refl _ _⟩)
                  · have hd2 : 57 < s[j].toNat := by omega
                    clear hd
                    (go_wp2
                     go_ret2
                     exact ⟨by rw [HN.out]; rfl, Below.refl _ _⟩)
              · have hall2 : (s.data.toList.drop (k + 1)).all isDigit = true := by
                  have h := HJ.out
                  rw [List.take_of_length_le (by rw [size_data]; omega)] at h
                  exact h
                have HV : Hid (authV s.data.toList = .tuple #[.string ⟨(fold (s.data.toList.take k)).toArray⟩, .bool true]) := Lib.hid (by unfold authV; rw [HA2.out, if_pos hall2]; rfl)
                obtain ⟨hs2, hhs⟩ : ∃ hs2 : ByteArray, hs2 = s.extract 0 k := ⟨_, rfl⟩
                have hsd : hs2.data.toList = s.data.toList.take k := by rw [hhs]; simp [ByteArray.data_extract]
                have hsz2 : hs2.size ≤ 16777216 := by rw [← size_data, hsd, List.length_take]; have := size_data s; omega
                have HF := Lib.hid (rFold_any hs2 w hsz2)
                rw [hsd] at HF
                have HHS := Lib.hid hhs
                clear hall2 hsd hhs
                go_wp2_with (go_at_call 104; rw [← HHS.out]; go_must (refine HF.out.mono ?_; rintro _ w2 ⟨rfl, hb2⟩))
                go_ret2
                exact ⟨by rw [HV.out]; rfl, hb2⟩
          · have g6 : (6 : Int) < (s.size : Int) - k := by omega
            have HN : Hid (authV s.data.toList = .tuple #[.string ⟨#[]⟩, .bool false]) := Lib.hid (authV_no (by rw [HA.out, if_pos (.inr (by rw [HPL.out]; omega))]))
            (go_wp2
             go_ret2
             exact ⟨by rw [HN.out]; rfl, Below.refl _ _⟩)
      · obtain rfl : k = s.size := by omega
        have hall : s.data.toList.all isHostC = true := by
          have h := HAL.out
          rw [List.take_of_length_le (by rw [size_data]; omega)] at h
          exact h
        obtain ⟨m1, m2⟩ := auth_all hall
        have HA := Lib.hid (auth_is m1 m2 hall)
        clear hlt m1 m2 hall
        by_cases h0 : s.size = 0
        · have HN : Hid (authV s.data.toList = .tuple #[.string ⟨#[]⟩, .bool false]) := Lib.hid (authV_no (by rw [HA.out, if_pos (.inl (List.eq_nil_of_length_eq_zero (by rw [size_data]; exact h0)))]))
          have k0 : ((s.size : Int) == 0) = true := by rw [h0]; rfl
          clear h0
          (go_wp2
           go_ret2
           exact ⟨by rw [HN.out]; rfl, Below.refl _ _⟩)
        · have k0 : ((s.size : Int) == 0) = false := by rw [beq_eq_false_iff_ne]; omega
          have g6 : ¬ (6 : Int) < (s.size : Int) - s.size := by omega
          have HV : Hid (authV s.data.toList = .tuple #[.string ⟨(fold s.data.toList).toArray⟩, .bool true]) := Lib.hid (by
            unfold authV
            rw [HA.out, if_neg (by
              rintro (e | e)
              · have := size_data s; rw [e] at this; simp at this; omega
              · simp at e), if_pos (show ([] : Bs).all isDigit = true from rfl)]
            rfl)
          have HF := Lib.hid (rFold_any s w hs)
          go_wp2
          go_loop [6] (fun i => i = .int .i64 ((s.size : Int) + 1)) (fun _ => 0)
          case atStart => rfl
          case round =>
            obtain rfl := hrel
            have hex : s.extract 0 s.size = s := by simp
            go_wp2_with (go_at_call 104; (try rw [hex]); go_must (refine HF.out.mono ?_; rintro _ w2 ⟨rfl, hb2⟩))
            go_ret2
            exact ⟨by rw [HV.out]; rfl, hb2⟩
end Go.Proofs.YtklmpadcfioefaaGreatDoor
