/- law 25's authority. Conditions: sizes. -/
import Derived.Test.YtabecgdaiakgiaaDoorSAuth
namespace Go.Proofs.YtabecgdaiakgiaaDoor
open Go.RowKit

theorem pre_app : ∀ (a b : Bs), a.all isHostC = true → (∀ c r, b = c :: r → isHostC c = false) → preH (a ++ b) = a
  | [], b, _, h => by
    cases b with
    | nil => rfl
    | cons c r => unfold preH; rw [List.nil_append, List.takeWhile_cons, if_neg (by rw [h c r rfl]; simp)]
  | x :: a, b, ha, h => by
    rw [List.all_cons, Bool.and_eq_true] at ha
    have ih := pre_app a b ha.2 h
    unfold preH at ih ⊢
    rw [List.cons_append, List.takeWhile_cons, if_pos ha.1, ih]
theorem authL_end {s : ByteArray} (h : s.data.toList.all isHostC = true) : authL s.data.toList = decide (0 < s.size) := by
  have h1 := pre_app s.data.toList [] h (by simp)
  rw [List.append_nil] at h1
  unfold authL
  rw [h1, List.drop_length]
  cases hs : s.data.toList with
  | nil => have := size_data s; rw [hs] at this; simp at this; simp [← this]
  | cons c r => have := size_data s; rw [hs] at this; simp at this; simp; omega
theorem authL_mid {s : ByteArray} {k : Nat} (hk : k < s.size) (h : (s.data.toList.take k).all isHostC = true) (hc : isHostC s[k] = false) :
    authL s.data.toList = (decide (0 < k) && (s[k] == 58 && decide (s.size ≤ k + 6) && (s.data.toList.drop (k + 1)).all isDigit)) := by
  have hkl : k < s.data.toList.length := by rw [size_data]; exact hk
  have e : s.data.toList.drop k = s[k] :: s.data.toList.drop (k + 1) := by rw [List.drop_eq_getElem_cons hkl, byte_at s k hk]
  have h1 : preH s.data.toList = s.data.toList.take k := by
    conv => lhs; rw [← List.take_append_drop k s.data.toList]
    exact pre_app _ _ h (fun c r he => by rw [e] at he; injection he with h1 _; rw [← h1]; exact hc)
  have hl : (s.data.toList.take k).length = k := by rw [List.length_take]; omega
  have hd : (s.data.toList.drop (k + 1)).length = s.size - (k + 1) := by rw [List.length_drop, size_data]
  unfold authL
  rw [h1, hl, e]
  have e1 : (s.data.toList.take k).isEmpty = !(decide (0 < k)) := by
    cases hq : s.data.toList.take k with
    | nil => rw [hq] at hl; simp at hl; simp [← hl]
    | cons c r => rw [hq] at hl; simp at hl; have : 0 < k := by omega
                  simp [this]
  rw [e1, Bool.not_not]
  show (decide (0 < k) && (s[k] == 58 && decide ((s.data.toList.drop (k + 1)).length ≤ 5) && (s.data.toList.drop (k + 1)).all isDigit)) = _
  rw [hd, show decide (s.size - (k + 1) ≤ 5) = decide (s.size ≤ k + 6) from by rw [decide_eq_decide]; omega]
theorem mid_step {p : UInt8 → Bool} {s : ByteArray} {k j : Nat} (h : j < s.size) (hkj : k ≤ j) : ((s.data.toList.take (j + 1)).drop k).all p = (((s.data.toList.take j).drop k).all p && p s[j]) := by
  have hl : (s.data.toList.take j).length = j := by rw [List.length_take, size_data]; omega
  rw [take_succ_data s j h, List.drop_append_of_le_length (by omega)]; simp
theorem mid_no {p : UInt8 → Bool} {s : ByteArray} {k j : Nat} (h : j < s.size) (hkj : k ≤ j) (hp : p s[j] = false) : (s.data.toList.drop k).all p = false := by
  rw [List.all_eq_false]
  refine ⟨s[j], ?_, by simp [hp]⟩
  rw [List.mem_iff_getElem?]
  refine ⟨j - k, ?_⟩
  rw [List.getElem?_drop, show k + (j - k) = j by omega, List.getElem?_eq_getElem (by rw [size_data]; exact h), byte_at s j h]
set_option maxHeartbeats 4000000 in
set_option maxRecDepth 100000 in
theorem vauthority_any (s : ByteArray) (w : World) (hs : s.size ≤ 16777216) :
    Calls Tryd.prog 53 #[.string s] w fun e w' => e = .returned (.bool (authL s.data.toList)) ∧ w = w' := by
  go_enter Tryd.func53, Tryd.ntmps53
  go_wp2
  go_loop [3] (fun i => ∃ k : Nat, k ≤ s.size ∧ i = .int .i64 k ∧ (s.data.toList.take k).all isHostC = true) (fun i => s.size - (intOf i).toNat)
  case atStart => exact ⟨0, Nat.zero_le _, rfl, rfl⟩
  case round =>
    obtain ⟨k, hk, rfl, hall⟩ := hrel
    have HAL := Lib.hid hall
    clear hall
    by_cases hlt : k < s.size
    · have HT := Lib.hid (all_take_step (p := isHostC) hlt)
      have HI := Lib.hid (isHostC_eq s[k])
      have hx := UInt8.toNat_lt s[k]
      have HM := Lib.hid (fun hc => authL_mid hlt HAL.out hc)
      by_cases hd : hostI s[k].toNat
      · have HY : Hid (isHostC s[k] = true) := Lib.hid (by rw [HI.out]; simp [hd])
        clear HM
        unfold hostI at hd
        rcases hd with ⟨d1, d2⟩ | ⟨d1, d2⟩ | ⟨d1, d2⟩ | d1 | d1
        · (go_wp2
           go_round
           case rel => exact ⟨k + 1, by omega, by go_num, by rw [HT.out, HAL.out, HY.out]; rfl⟩
           case measure => simp [intOf]; omega)
        · (go_wp2
           go_round
           case rel => exact ⟨k + 1, by omega, by go_num, by rw [HT.out, HAL.out, HY.out]; rfl⟩
           case measure => simp [intOf]; omega)
        · (go_wp2
           go_round
           case rel => exact ⟨k + 1, by omega, by go_num, by rw [HT.out, HAL.out, HY.out]; rfl⟩
           case measure => simp [intOf]; omega)
        · (go_wp2
           go_round
           case rel => exact ⟨k + 1, by omega, by go_num, by rw [HT.out, HAL.out, HY.out]; rfl⟩
           case measure => simp [intOf]; omega)
        · (go_wp2
           go_round
           case rel => exact ⟨k + 1, by omega, by go_num, by rw [HT.out, HAL.out, HY.out]; rfl⟩
           case measure => simp [intOf]; omega)
      · have HE := Lib.hid (HM.out (by rw [HI.out]; simp [hd]))
        clear HM HT HI
        unfold hostI at hd
        have hc : s[k].toNat < 45 ∨ s[k].toNat = 47 ∨ (58 ≤ s[k].toNat ∧ s[k].toNat ≤ 64) ∨ (91 ≤ s[k].toNat ∧ s[k].toNat ≤ 96) ∨ 123 ≤ s[k].toNat := by omega
        have q45 : ((s[k].toNat : Int) == 45) = false := by rw [beq_eq_false_iff_ne]; omega
        have q46 : ((s[k].toNat : Int) == 46) = false := by rw [beq_eq_false_iff_ne]; omega
        clear hd
        by_cases h0 : k = 0
        · have k0 : ((k : Int) == 0) = true := by rw [h0]; rfl
          have HE2 : Hid (authL s.data.toList = false) := Lib.hid (by rw [HE.out, show decide (0 < k) = false from decide_eq_false (by omega)]; rfl)
          clear h0 HE
          (rcases hc with d1 | d1 | ⟨d1, d2⟩ | ⟨d1, d2⟩ | d1
           · (go_wp2
              go_ret
              exact ⟨by rw [HE2.out]; rfl, rfl⟩)
           · (go_wp2
              go_ret
              exact ⟨by rw [HE2.out]; rfl, rfl⟩)
           · have q57 : decide ((s[k].toNat : Int) ≤ 57) = false := by simp; omega
             (go_wp2
              go_ret
              exact ⟨by rw [HE2.out]; rfl, rfl⟩)
           · have q57 : decide ((s[k].toNat : Int) ≤ 57) = false := by simp; omega
             have q90 : decide ((s[k].toNat : Int) ≤ 90) = false := by simp; omega
             (go_wp2
              go_ret
              exact ⟨by rw [HE2.out]; rfl, rfl⟩)
           · have q57 : decide ((s[k].toNat : Int) ≤ 57) = false := by simp; omega
             have q90 : decide ((s[k].toNat : Int) ≤ 90) = false := by simp; omega
             have q122 : decide ((s[k].toNat : Int) ≤ 122) = false := by simp; omega
             (go_wp2
              go_ret
              exact ⟨by rw [HE2.out]; rfl, rfl⟩)
           )
        · have k0 : ((k : Int) == 0) = false := by rw [beq_eq_false_iff_ne]; omega
          have k1 : 0 < k := by omega
          by_cases h58 : s[k] = 58
          · have d58 : s[k].toNat = 58 := by rw [h58]; rfl
            clear hc q45 q46
            by_cases h6 : s.size ≤ k + 6
            · have g6 : ¬ (6 : Int) < (s.size : Int) - k := by omega
              have HE2 : Hid (authL s.data.toList = (s.data.toList.drop (k + 1)).all isDigit) := Lib.hid (by rw [HE.out, h58]; simp [k1, h6])
              clear h58 HE h0
              go_wp2
              go_loop [4] (fun i => ∃ j : Nat, k + 1 ≤ j ∧ j ≤ s.size ∧ i = .int .i64 j ∧ ((s.data.toList.take j).drop (k + 1)).all isDigit = true) (fun i => s.size - (intOf i).toNat)
              case atStart => exact ⟨k + 1, Nat.le_refl _, by omega, by go_num, by rw [List.drop_eq_nil_of_le (by rw [List.length_take]; omega)]; rfl⟩
              case round =>
                obtain ⟨j, hj1, hj, rfl, hall⟩ := hrel
                have HJL := Lib.hid hall
                clear hall
                by_cases hjt : j < s.size
                · have HT := Lib.hid (mid_step (p := isDigit) hjt hj1)
                  have HI := Lib.hid (dig_eq s[j])
                  have hxj := UInt8.toNat_lt s[j]
                  by_cases hd : 48 ≤ s[j].toNat ∧ s[j].toNat ≤ 57
                  · have HY : Hid (isDigit s[j] = true) := Lib.hid (by rw [HI.out]; simp [hd])
                    obtain ⟨hd1, hd2⟩ := hd
                    go_wp2
                    go_round
                    case rel => exact ⟨j + 1, by omega, by omega, by go_num, by rw [HT.out, HJL.out, HY.out]; rfl⟩
                    case measure => simp [intOf]; omega
                  · have HE3 : Hid (authL s.data.toList = false) := Lib.hid (by rw [HE2.out]; exact mid_no hjt hj1 (by rw [HI.out]; simp; omega))
                    by_cases hd1 : s[j].toNat < 48
                    · go_wp2
                      go_ret
                      exact ⟨by rw [HE3.out]; rfl, rfl⟩
                    · have hd2 : 57 < s[j].toNat := by omega
                      clear hd
                      go_wp2
                      go_ret
                      exact ⟨by rw [HE3.out]; rfl, rfl⟩
                · have HE3 : Hid (authL s.data.toList = true) := Lib.hid (by rw [HE2.out, ← HJL.out, List.take_of_length_le (by rw [size_data]; omega)])
                  go_wp2
                  go_ret
                  exact ⟨by rw [HE3.out]; rfl, rfl⟩
            · have g6 : (6 : Int) < (s.size : Int) - k := by omega
              have HE2 : Hid (authL s.data.toList = false) := Lib.hid (by rw [HE.out]; simp [h6])
              clear h58 HE h0
              go_wp2
              go_ret
              exact ⟨by rw [HE2.out]; rfl, rfl⟩
          · have b58 : ((s[k].toNat : Int) == 58) = false := byte_ne (d := 58) h58
            have b58n : ((s[k].toNat : Int) != 58) = true := by rw [bne, b58]; rfl
            have HE2 : Hid (authL s.data.toList = false) := Lib.hid (by rw [HE.out]; simp [h58])
            clear h58 HE h0
            (rcases hc with d1 | d1 | ⟨d1, d2⟩ | ⟨d1, d2⟩ | d1
             · (go_wp2
                go_ret
                exact ⟨by rw [HE2.out]; rfl, rfl⟩)
             · (go_wp2
                go_ret
                exact ⟨by rw [HE2.out]; rfl, rfl⟩)
             · have q57 : decide ((s[k].toNat : Int) ≤ 57) = false := by simp; omega
               (go_wp2
                go_ret
                exact ⟨by rw [HE2.out]; rfl, rfl⟩)
             · have q57 : decide ((s[k].toNat : Int) ≤ 57) = false := by simp; omega
               have q90 : decide ((s[k].toNat : Int) ≤ 90) = false := by simp; omega
               (go_wp2
                go_ret
                exact ⟨by rw [HE2.out]; rfl, rfl⟩)
             · have q57 : decide ((s[k].toNat : Int) ≤ 57) = false := by simp; omega
               have q90 : decide ((s[k].toNat : Int) ≤ 90) = false := by simp; omega
               have q122 : decide ((s[k].toNat : Int) ≤ 122) = false := by simp; omega
               (go_wp2
                go_ret
                exact ⟨by rw [HE2.out]; rfl, rfl⟩)
             )
    · have HA : Hid (authL s.data.toList = decide (0 < s.size)) := Lib.hid (authL_end (by rw [← HAL.out, List.take_of_length_le (by rw [size_data]; omega)]))
      have e : k = s.size := by omega
      subst e
      by_cases h0 : s.size = 0
      · have HE2 : Hid (authL s.data.toList = false) := Lib.hid (by rw [HA.out]; exact decide_eq_false (by omega))
        have k0 : ((s.size : Int) == 0) = true := by rw [h0]; rfl
        clear HA
        go_wp2
        go_ret
        exact ⟨by rw [HE2.out]; rfl, rfl⟩
      · have HE2 : Hid (authL s.data.toList = true) := Lib.hid (by rw [HA.out]; exact decide_eq_true (by omega))
        have k0 : ((s.size : Int) == 0) = false := by rw [beq_eq_false_iff_ne]; omega
        clear HA
        go_wp2
        go_loop [4] (fun i => i = .int .i64 ((s.size : Int) + 1)) (fun i => 0)
        case atStart => rfl
        case round =>
          obtain rfl := hrel
          go_wp2
          go_ret
          exact ⟨by rw [HE2.out]; rfl, rfl⟩
end Go.Proofs.YtabecgdaiakgiaaDoor
