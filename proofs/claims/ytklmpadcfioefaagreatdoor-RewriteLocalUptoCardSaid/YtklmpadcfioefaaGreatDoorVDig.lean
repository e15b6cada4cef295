/- law 25's digits. Condition: the number fits 63 bits. -/
import Derived.Test.YtklmpadcfioefaaGreatDoorMX1
namespace Go.Proofs.YtklmpadcfioefaaGreatDoor
open Go.RowKit
set_option maxHeartbeats 2000000 in
set_option maxRecDepth 100000 in
theorem vdigits_any (n : Nat) : ∀ (w : World), le63 n →
    Calls Tryz.prog 28 #[.int .i64 (n : Int)] w fun e w' => e = .returned (.string ⟨(Lib.decDigits n).toArray⟩) ∧ Below w.heap.size w w' := by
  induction n using Nat.strongRecOn with
  | ind n ih =>
    intro w hn
    by_cases h : n < 10
    · have HD := Lib.hid (dec_small h)
      clear hn
      have i3 : (n : Int) < 10 := by omega
      have i5 : IntKind.u8.wrap (48 + (n : Int)) = 48 + (n : Int) := IntWalk.u8_in _ (by omega)
      have hcv := fun (W : World) (b : Nat) (hc : W.cell? ⟨b, 0, none⟩ = some (.int .u8 (48 + (n : Int)))) => conv_one W b (48 + (n : Int)) (by omega) (by omega) hc
      have HT : Hid ((48 + (n : Int)).toNat = 48 + n) := Lib.hid (by omega)
      clear ih h
      go_enter Tryz.func28, Tryz.ntmps28
      go_wp2
      go_ret
      refine ⟨?_, (Below.refl _ _).alloc (Nat.le_refl _) _⟩
      rw [HD.out, ← HT.out]; rfl
    · have HD := Lib.hid (dec_big h)
      have HI := Lib.hid (ih (n / 10) (by omega))
      have hs : Hid (le63 (n / 10)) := Lib.hid (by unfold le63 at hn ⊢; omega)
      clear ih
      unfold le63 at hn
      obtain ⟨q, hq⟩ : ∃ q, q = n / 10 := ⟨_, rfl⟩
      obtain ⟨r, hr⟩ : ∃ r, r = n % 10 := ⟨_, rfl⟩
      have hr9 : r < 10 := by omega
      have j1 : IntKind.i64.wrap ((n : Int) / 10) = (q : Int) := by rw [IntWalk.i64_in _ (by omega)]; omega
      have j1' : (n : Int) / 10 = (q : Int) := by omega
      have j6 : IntKind.i64.wrap (q : Int) = (q : Int) := IntWalk.i64_in _ (by omega)
      have j2 : (n : Int).tmod 10 = (r : Int) := by rw [Int.tmod_eq_emod_of_nonneg (by omega)]; omega
      have j2' : (n : Int) % 10 = (r : Int) := by omega
      have j4 : IntKind.u8.wrap (48 + (r : Int)) = 48 + (r : Int) := by rw [IntKind.wrap_u8]; omega
      have j5 : IntKind.i64.wrap (48 + (r : Int)) = 48 + (r : Int) := IntWalk.i64_in _ (by omega)
      rw [← hq, ← hr] at HD
      rw [← hq] at HI hs
      obtain ⟨ds, hds⟩ : ∃ ds : ByteArray, ds = ⟨(Lib.decDigits q).toArray⟩ := ⟨_, rfl⟩
      have hdz : ds.size ≤ 21 := by rw [hds]; exact dec_len q (by omega)
      rw [← hds] at HI
      have HDS := Lib.hid hds
      clear hq hr hds
      have hcv := fun (W : World) (b : Nat) (hc : W.cell? ⟨b, 0, none⟩ = some (.int .u8 (48 + (r : Int)))) => conv_one W b (48 + (r : Int)) (by omega) (by omega) hc
      have HT : (48 + (r : Int)).toNat = 48 + r := by omega
      rw [HT] at hcv
      generalize UInt8.ofNat (48 + r) = d at hcv HD
      clear HT
      have i1 : (0 : Int) ≤ (n : Int) := by omega
      have i2 : ¬ (n : Int) < 10 := by omega
      go_enter Tryz.func28, Tryz.ntmps28
      go_wp2
      go_region_with (go_at_call 28; refine (HI.out _ hs.out).mono ?_; rintro e w1 ⟨rfl, hb1⟩; have hc1 := bcell hb1)
      all_goals go_wp2
      all_goals go_ret
      all_goals refine ⟨?_, ?_⟩
      all_goals first
        | (rw [HD.out, ← str_app, ← HDS.out]; rfl)
        | (refine Below.alloc ?_ (by have := hb1.size; simp at this; omega) _; exact (Below.of_drew hb1))
        | (refine Below.trans ?_ (hb1.mono (by simp)); exact (Below.alloc (Below.refl _ _).drew (by simp) _))
        | (refine Below.trans ?_ (hb1.mono (by simp)); exact (Below.alloc (Below.refl _ _) (by simp) _).drew)
end Go.Proofs.YtklmpadcfioefaaGreatDoor
