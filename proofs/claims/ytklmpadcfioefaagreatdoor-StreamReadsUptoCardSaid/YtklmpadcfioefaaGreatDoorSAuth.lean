/- stream.authority, and law 25's. Conditions: sizes, the world's shape. -/
import Derived.Test.YtklmpadcfioefaaGreatDoorMX1
import Derived.Test.YtklmpadcfioefaaGreatDoorMB
import Derived.Test.YtklmpadcfioefaaGreatDoorMC
import Derived.Test.YtklmpadcfioefaaGreatDoorFirst
namespace Go.Proofs.YtklmpadcfioefaaGreatDoor
open Go.RowKit

theorem dig_eq (c : UInt8) : isDigit c = decide (48 ≤ c.toNat ∧ c.toNat ≤ 57) := by
  simp only [isDigit, UInt8.le_iff_toNat_le]
  simp [show (48 : UInt8).toNat = 48 from rfl, show (57 : UInt8).toNat = 57 from rfl]
def hostI (x : Nat) : Prop := (97 ≤ x ∧ x ≤ 122) ∨ (65 ≤ x ∧ x ≤ 90) ∨ (48 ≤ x ∧ x ≤ 57) ∨ x = 45 ∨ x = 46
instance (x : Nat) : Decidable (hostI x) := by unfold hostI; infer_instance
theorem beq_nat (c d : UInt8) : (c == d) = decide (c.toNat = d.toNat) := by
  rw [Bool.eq_iff_iff, beq_iff_eq, decide_eq_true_eq]
  exact ⟨fun e => by rw [e], fun e => UInt8.toNat_inj.1 e⟩
theorem isHostC_eq (c : UInt8) : isHostC c = decide (hostI c.toNat) := by
  unfold isHostC hostI
  rw [beq_nat, beq_nat, show (45 : UInt8).toNat = 45 from rfl, show (46 : UInt8).toNat = 46 from rfl]
  simp only [UInt8.le_iff_toNat_le, show (97 : UInt8).toNat = 97 from rfl, show (122 : UInt8).toNat = 122 from rfl, show (65 : UInt8).toNat = 65 from rfl, show (90 : UInt8).toNat = 90 from rfl, show (48 : UInt8).toNat = 48 from rfl, show (57 : UInt8).toNat = 57 from rfl]
  rw [Bool.eq_iff_iff]
  simp only [Bool.or_eq_true, Bool.and_eq_true, decide_eq_true_eq, or_assoc]
  exact decide_eq_true_iff.symm
theorem all_take_step {p : UInt8 → Bool} {s : ByteArray} {k : Nat} (h : k < s.size) : (s.data.toList.take (k + 1)).all p = ((s.data.toList.take k).all p && p s[k]) := by
  rw [take_succ_data s k h]; simp
theorem all_take_no {p : UInt8 → Bool} {s : ByteArray} {k : Nat} (h : k < s.size) (hp : p s[k] = false) : s.data.toList.all p = false := by
  rw [List.all_eq_false]; exact ⟨s[k], by rw [← byte_at s k h]; exact List.getElem_mem _, by simp [hp]⟩
theorem cut_parts (s : ByteArray) (w : World) (hsh : w.ShapedOpen Tryz.prog) (hs : s.size ≤ 16777216) :
    Calls Tryz.prog 45 #[.string s, .string ⟨#[58]⟩] w fun e w' => ∃ b q, e = .returned (.tuple #[.string ⟨(hostOf s.data.toList).toArray⟩, .string ⟨(portP s.data.toList).toArray⟩, .bool b]) ∧ w' = w.drewN q := by
  refine (cut_any s 58 w hsh hs).mono fun e w' ⟨he, q, hq⟩ => ?_
  unfold hostOf portP
  cases hc : cutAt 58 s.data.toList with
  | none => rw [hc] at he; exact ⟨_, q, by rw [he, byte_eta], hq⟩
  | some p => rw [hc] at he; exact ⟨_, q, he, hq⟩
theorem auth_len (s : Bs) : (hostOf s).length + (portP s).length ≤ s.length := by
  unfold hostOf portP
  cases hc : cutAt 58 s with
  | none => simp
  | some p =>
    obtain ⟨a, b⟩ := p
    obtain ⟨h, _⟩ := cutAt_some.1 hc
    show a.length + b.length ≤ s.length
    rw [h, List.length_append, List.length_cons]; omega
def authV (s : Bs) : Value := .tuple #[.string ⟨((authP s).getD []).toArray⟩, .bool (authP s).isSome]
theorem authV_no {s : Bs} (h : authP s = none) : authV s = .tuple #[.string ⟨#[]⟩, .bool false] := by unfold authV; rw [h]; rfl
set_option maxHeartbeats 4000000 in
theorem sauth_any (s : ByteArray) (w : World) (hsh : w.ShapedOpen Tryz.prog) (hs : s.size ≤ 16777216) :
    Calls Tryz.prog 110 #[.string s] w fun e w' => e = .returned (authV s.data.toList) ∧ Below w.heap.size w w' := by
  obtain ⟨h, hh⟩ : ∃ h : ByteArray, h = ⟨(hostOf s.data.toList).toArray⟩ := ⟨_, rfl⟩
  obtain ⟨p, hp⟩ : ∃ p : ByteArray, p = ⟨(portP s.data.toList).toArray⟩ := ⟨_, rfl⟩
  have eh : hostOf s.data.toList = h.data.toList := by rw [hh]
  have ep : portP s.data.toList = p.data.toList := by rw [hp]
  have hC := cut_parts s w hsh hs
  rw [← hh, ← hp] at hC
  have HC := Lib.hid hC
  have hz := auth_len s.data.toList
  rw [eh, ep, size_data, size_data, size_data] at hz
  have hA : authP s.data.toList = if h.data.toList = [] ∨ 5 < p.size then none else if p.data.toList.all isDigit = true ∧ h.data.toList.all isHostC = true then some (fold h.data.toList) else none := by
    unfold authP; rw [eh, ep, size_data]
  have HA := Lib.hid hA
  have HF := Lib.hid (fun W => hFold_any h W (by omega))
  clear hC hA eh ep hh hp hsh
  by_cases h0 : h = ⟨#[]⟩
  · have HN := Lib.hid (authV_no (s := s.data.toList) (by rw [HA.out, if_pos (.inl (by rw [h0]))]))
    subst h0
    go_enter Tryz.func110, Tryz.ntmps110
    go_wp2_with (go_at_call 45; refine HC.out.mono ?_; rintro _ wx ⟨b, q, rfl, rfl⟩)
    go_ret2
    exact ⟨by rw [HN.out]; rfl, below_drewN (Below.refl _ _) q⟩
  have b0 := toList_ne (l := []) h0
  by_cases h5 : 5 < p.size
  · have HN := Lib.hid (authV_no (s := s.data.toList) (by rw [HA.out, if_pos (.inr h5)]))
    go_enter Tryz.func110, Tryz.ntmps110
    go_wp2_with (go_at_call 45; refine HC.out.mono ?_; rintro _ wx ⟨b, q, rfl, rfl⟩)
    go_ret2
    exact ⟨by rw [HN.out]; rfl, below_drewN (Below.refl _ _) q⟩
  have HA2 : Hid (authP s.data.toList = if p.data.toList.all isDigit = true ∧ h.data.toList.all isHostC = true then some (fold h.data.toList) else none) := Lib.hid (by
    rw [HA.out, if_neg]
    rintro (e | e)
    · exact h0 (byte_ext.2 e)
    · exact h5 e)
  clear HA h0
  go_enter Tryz.func110, Tryz.ntmps110
  go_upto_region 2 with (go_at_call 45; refine HC.out.mono ?_; rintro _ wx ⟨b, q, rfl, rfl⟩)
  obtain ⟨w1, hw1⟩ : ∃ w1 : World, w1 = w.drewN q := ⟨_, rfl⟩
  have HB : Hid (Below w.heap.size w w1) := Lib.hid (by rw [hw1]; exact below_drewN (Below.refl _ _) q)
  rw [← hw1]
  clear hw1 HC
  go_wp2
  go_loop [25] (fun i => ∃ k : Nat, k ≤ p.size ∧ i = .int .i64 k ∧ (p.data.toList.take k).all isDigit = true) (fun i => p.size - (intOf i).toNat)
  case atStart => exact ⟨0, Nat.zero_le _, rfl, rfl⟩
  case round =>
    obtain ⟨k, hk, rfl, hall⟩ := hrel
    by_cases hlt : k < p.size
    · have HT := Lib.hid (all_take_step (p := isDigit) hlt)
      have HI := Lib.hid (dig_eq p[k])
      have hx := UInt8.toNat_lt p[k]
      have HAL := Lib.hid hall
      clear hall
      by_cases hd : 48 ≤ p[k].toNat ∧ p[k].toNat ≤ 57
      · have HY : Hid (isDigit p[k] = true) := Lib.hid (by rw [HI.out]; simp [hd])
        obtain ⟨hd1, hd2⟩ := hd
        go_wp2
        go_round
        case rel => exact ⟨k + 1, by omega, by go_num, by rw [HT.out, HAL.out, HY.out]; rfl⟩
        case measure => simp [intOf]; omega
      · have HN := Lib.hid (authV_no (s := s.data.toList) (by rw [HA2.out, if_neg]; rintro ⟨e, _⟩; rw [all_take_no hlt (by rw [HI.out]; simp; omega)] at e; cases e))
        by_cases hd1 : p[k].toNat < 48
        · go_wp2
          go_ret2
          exact ⟨by rw [HN.out]; rfl, HB.out⟩
        · have hd2 : 57 < p[k].toNat := by omega
          clear hd
          go_wp2
          go_ret2
          exact ⟨by rw [HN.out]; rfl, HB.out⟩
    · have HP : Hid (p.data.toList.all isDigit = true) := Lib.hid (by rw [← hall, List.take_of_length_le (by rw [size_data]; omega)])
      clear hall
      go_wp2
      go_loop [41] (fun i => ∃ k : Nat, k ≤ h.size ∧ i = .int .i64 k ∧ (h.data.toList.take k).all isHostC = true) (fun i => h.size - (intOf i).toNat)
      case atStart => exact ⟨0, Nat.zero_le _, rfl, rfl⟩
      case round =>
        obtain ⟨k, hk, rfl, hall⟩ := hrel
        by_cases hlt : k < h.size
        · have HT := Lib.hid (all_take_step (p := isHostC) hlt)
          have HI := Lib.hid (isHostC_eq h[k])
          have hx := UInt8.toNat_lt h[k]
          have HAL := Lib.hid hall
          clear hall
          by_cases hd : hostI h[k].toNat
          · have HY : Hid (isHostC h[k] = true) := Lib.hid (by rw [HI.out]; simp [hd])
            unfold hostI at hd
            rcases hd with ⟨d1, d2⟩ | ⟨d1, d2⟩ | ⟨d1, d2⟩ | d1 | d1
            · (go_wp2
               go_round
               case rel => exact ⟨k + 1, by omega, by go_num, by rw [HT.out, HAL.out, HY.out]; rfl⟩
               case measure => simp [intOf]; omega)
            · (go_wp2
               go_round
               case rel => exact ⟨k + 1, by omega, by go_num, by rw [HT.out, HAL.out, HY.out]; rfl⟩
               case measure => simp [intOf]; omega)
            · (go_wp2
               go_round
               case rel => exact ⟨k + 1, by omega, by go_num, by rw [HT.out, HAL.out, HY.out]; rfl⟩
               case measure => simp [intOf]; omega)
            · (go_wp2
               go_round
               case rel => exact ⟨k + 1, by omega, by go_num, by rw [HT.out, HAL.out, HY.out]; rfl⟩
               case measure => simp [intOf]; omega)
            · (go_wp2
               go_round
               case rel => exact ⟨k + 1, by omega, by go_num, by rw [HT.out, HAL.out, HY.out]; rfl⟩
               case measure => simp [intOf]; omega)
          · have HN := Lib.hid (authV_no (s := s.data.toList) (by rw [HA2.out, if_neg]; rintro ⟨_, e⟩; rw [all_take_no hlt (by rw [HI.out]; simp [hd])] at e; cases e))
            unfold hostI at hd
            have hc : h[k].toNat < 45 ∨ h[k].toNat = 47 ∨ (58 ≤ h[k].toNat ∧ h[k].toNat ≤ 64) ∨ (91 ≤ h[k].toNat ∧ h[k].toNat ≤ 96) ∨ 123 ≤ h[k].toNat := by omega
            have q45 : ((h[k].toNat : Int) == 45) = false := by rw [beq_eq_false_iff_ne]; omega
            have q46 : ((h[k].toNat : Int) == 46) = false := by rw [beq_eq_false_iff_ne]; omega
            clear hd
            rcases hc with d1 | d1 | ⟨d1, d2⟩ | ⟨d1, d2⟩ | d1
            · (go_wp2
               go_ret2
               exact ⟨by rw [HN.out]; rfl, HB.out⟩)
            · (go_wp2
               go_ret2
               exact ⟨by rw [HN.out]; rfl, HB.out⟩)
            · have q57 : decide ((h[k].toNat : Int) ≤ 57) = false := by simp; omega
              (go_wp2
               go_ret2
               exact ⟨by rw [HN.out]; rfl, HB.out⟩)
            · have q57 : decide ((h[k].toNat : Int) ≤ 57) = false := by simp; omega
              have q90 : decide ((h[k].toNat : Int) ≤ 90) = false := by simp; omega
              (go_wp2
               go_ret2
               exact ⟨by rw [HN.out]; rfl, HB.out⟩)
            · have q57 : decide ((h[k].toNat : Int) ≤ 57) = false := by simp; omega
              have q90 : decide ((h[k].toNat : Int) ≤ 90) = false := by simp; omega
              have q122 : decide ((h[k].toNat : Int) ≤ 122) = false := by simp; omega
              (go_wp2
               go_ret2
               exact ⟨by rw [HN.out]; rfl, HB.out⟩)
        · have HH : Hid (h.data.toList.all isHostC = true) := Lib.hid (by rw [← hall, List.take_of_length_le (by rw [size_data]; omega)])
          have HE : Hid (authV s.data.toList = .tuple #[.string ⟨(fold h.data.toList).toArray⟩, .bool true]) := Lib.hid (by unfold authV; rw [HA2.out, if_pos ⟨HP.out, HH.out⟩]; rfl)
          clear hall
          go_wp2_with (go_at_call 52; refine (HF.out _).mono ?_; rintro _ w2 ⟨rfl, hb2⟩)
          go_ret2
          exact ⟨by rw [HE.out]; rfl, HB.out.trans (hb2.mono HB.out.size)⟩
end Go.Proofs.YtklmpadcfioefaaGreatDoor
