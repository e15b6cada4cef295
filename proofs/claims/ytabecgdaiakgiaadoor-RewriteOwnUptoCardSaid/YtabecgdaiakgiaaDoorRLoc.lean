/- A sidecar's own replies: reason, told, local, Local, Bare; the reference's. Conditions: sizes, the library's variables. -/
import Derived.Test.YtabecgdaiakgiaaDoorRLocL
import Derived.Test.YtabecgdaiakgiaaDoorRFramed
namespace Go.Proofs.YtabecgdaiakgiaaDoor
open Go.RowKit

set_option maxHeartbeats 4000000 in
set_option maxRecDepth 100000 in
theorem wreason_any (st : Int) (w : World) : Calls Tryd.prog 118 #[.int .i64 st] w fun e w' => e = .returned (.string ⟨(reasonP st).toArray⟩) ∧ w = w' := by
  by_cases h1 : st = 400
  · subst h1
    go_enter Tryd.func118, Tryd.ntmps118
    go_wp2
    go_ret
    exact ⟨by kernel_rfl, rfl⟩
  have b1 : (st == 400) = false := by simpa using h1
  by_cases h2 : st = 403
  · subst h2
    go_enter Tryd.func118, Tryd.ntmps118
    go_wp2
    go_ret
    exact ⟨by kernel_rfl, rfl⟩
  have b2 : (st == 403) = false := by simpa using h2
  by_cases h3 : st = 404
  · subst h3
    go_enter Tryd.func118, Tryd.ntmps118
    go_wp2
    go_ret
    exact ⟨by kernel_rfl, rfl⟩
  have b3 : (st == 404) = false := by simpa using h3
  by_cases h4 : st = 408
  · subst h4
    go_enter Tryd.func118, Tryd.ntmps118
    go_wp2
    go_ret
    exact ⟨by kernel_rfl, rfl⟩
  have b4 : (st == 408) = false := by simpa using h4
  by_cases h5 : st = 413
  · subst h5
    go_enter Tryd.func118, Tryd.ntmps118
    go_wp2
    go_ret
    exact ⟨by kernel_rfl, rfl⟩
  have b5 : (st == 413) = false := by simpa using h5
  by_cases h6 : st = 414
  · subst h6
    go_enter Tryd.func118, Tryd.ntmps118
    go_wp2
    go_ret
    exact ⟨by kernel_rfl, rfl⟩
  have b6 : (st == 414) = false := by simpa using h6
  by_cases h7 : st = 431
  · subst h7
    go_enter Tryd.func118, Tryd.ntmps118
    go_wp2
    go_ret
    exact ⟨by kernel_rfl, rfl⟩
  have b7 : (st == 431) = false := by simpa using h7
  by_cases h8 : st = 500
  · subst h8
    go_enter Tryd.func118, Tryd.ntmps118
    go_wp2
    go_ret
    exact ⟨by kernel_rfl, rfl⟩
  have b8 : (st == 500) = false := by simpa using h8
  by_cases h9 : st = 502
  · subst h9
    go_enter Tryd.func118, Tryd.ntmps118
    go_wp2
    go_ret
    exact ⟨by kernel_rfl, rfl⟩
  have b9 : (st == 502) = false := by simpa using h9
  by_cases ha : st = 503
  · subst ha
    go_enter Tryd.func118, Tryd.ntmps118
    go_wp2
    go_ret
    exact ⟨by kernel_rfl, rfl⟩
  have ba : (st == 503) = false := by simpa using ha
  by_cases hb : st = 504
  · subst hb
    go_enter Tryd.func118, Tryd.ntmps118
    go_wp2
    go_ret
    exact ⟨by kernel_rfl, rfl⟩
  have bb : (st == 504) = false := by simpa using hb
  have HS : Hid (reasonP st = bStatus) := Lib.hid (by unfold reasonP reasonsL; simp only [reasonOf, h1, h2, h3, h4, h5, h6, h7, h8, h9, ha, hb, if_false])
  clear h1 h2 h3 h4 h5 h6 h7 h8 h9 ha hb
  go_enter Tryd.func118, Tryd.ntmps118
  go_wp2
  go_ret
  exact ⟨by rw [HS.out]; rfl, rfl⟩

def le63 (n : Nat) : Prop := n ≤ 9223372036854775807
theorem conv_oneI (W : World) (b : Nat) (x : Int) (h0 : 0 ≤ x) (h1 : x < 256) (hc : W.cell? ⟨b, 0, none⟩ = some (.int .u8 x)) :
    (convert 32 9 (.slice (some ⟨b, 0, none⟩) 1 1)).run Tryd.prog W = .ok (.string ⟨#[UInt8.ofNat x.toNat]⟩) W := conv_one W b x h0 h1 hc
set_option maxHeartbeats 2000000 in
set_option maxRecDepth 100000 in
theorem ptold_any (n : Nat) : ∀ (w : World), le63 n →
    Calls Tryd.prog 82 #[.int .i64 (n : Int)] w fun e w' => e = .returned (.string ⟨(Lib.decDigits n).toArray⟩) ∧ Below w.heap.size w w' := by
  induction n using Nat.strongRecOn with
  | ind n ih =>
    intro w hn
    by_cases h : n < 10
    · have HD := Lib.hid (dec_small h)
      clear hn
      have i3 : (n : Int) < 10 := by omega
      have i5 : IntKind.u8.wrap (48 + (n : Int)) = 48 + (n : Int) := IntWalk.u8_in _ (by omega)
      have hcv := fun (W : World) (b : Nat) (hc : W.cell? ⟨b, 0, none⟩ = some (.int .u8 (48 + (n : Int)))) => conv_one W b (48 + (n : Int)) (by omega) (by omega) hc
      have HT : Hid ((48 + (n : Int)).toNat = 48 + n) := Lib.hid (by omega)
      clear ih h
      go_enter Tryd.func82, Tryd.ntmps82
      go_wp2
      go_ret
      refine ⟨?_, (Below.refl _ _).alloc (Nat.le_refl _) _⟩
      rw [HD.out, ← HT.out]; rfl
    · have HD := Lib.hid (dec_big h)
      have HI := Lib.hid (ih (n / 10) (by omega))
      have hs : Hid (le63 (n / 10)) := Lib.hid (by unfold le63 at hn ⊢; omega)
      clear ih
      unfold le63 at hn
      obtain ⟨q, hq⟩ : ∃ q, q = n / 10 := ⟨_, rfl⟩
      obtain ⟨r, hr⟩ : ∃ r, r = n % 10 := ⟨_, rfl⟩
      have hr9 : r < 10 := by omega
      have j1 : IntKind.i64.wrap ((n : Int) / 10) = (q : Int) := by rw [IntWalk.i64_in _ (by omega)]; omega
      have j1' : (n : Int) / 10 = (q : Int) := by omega
      have j6 : IntKind.i64.wrap (q : Int) = (q : Int) := IntWalk.i64_in _ (by omega)
      have j2 : (n : Int).tmod 10 = (r : Int) := by rw [Int.tmod_eq_emod_of_nonneg (by omega)]; omega
      have j2' : (n : Int) % 10 = (r : Int) := by omega
      have j4 : IntKind.u8.wrap (48 + (r : Int)) = 48 + (r : Int) := by rw [IntKind.wrap_u8]; omega
      have j5 : IntKind.i64.wrap (48 + (r : Int)) = 48 + (r : Int) := IntWalk.i64_in _ (by omega)
      rw [← hq, ← hr] at HD
      rw [← hq] at HI hs
      obtain ⟨ds, hds⟩ : ∃ ds : ByteArray, ds = ⟨(Lib.decDigits q).toArray⟩ := ⟨_, rfl⟩
      have hdz : ds.size ≤ 21 := by rw [hds]; exact dec_len q (by omega)
      rw [← hds] at HI
      have HDS := Lib.hid hds
      clear hq hr hds
      have hcv := fun (W : World) (b : Nat) (hc : W.cell? ⟨b, 0, none⟩ = some (.int .u8 (48 + (r : Int)))) => conv_one W b (48 + (r : Int)) (by omega) (by omega) hc
      have HT : (48 + (r : Int)).toNat = 48 + r := by omega
      rw [HT] at hcv
      generalize UInt8.ofNat (48 + r) = d at hcv HD
      clear HT
      have i1 : (0 : Int) ≤ (n : Int) := by omega
      have i2 : ¬ (n : Int) < 10 := by omega
      go_enter Tryd.func82, Tryd.ntmps82
      go_wp2
      go_region_with (go_at_call 82; refine (HI.out _ hs.out).mono ?_; rintro e w1 ⟨rfl, hb1⟩; have hc1 := bcell hb1)
      all_goals go_wp2
      all_goals go_ret
      all_goals refine ⟨?_, ?_⟩
      all_goals first
        | (rw [HD.out, ← str_app, ← HDS.out]; rfl)
        | (refine Below.alloc ?_ (by have := hb1.size; simp at this; omega) _; exact (Below.of_drew hb1))
        | (refine Below.trans ?_ (hb1.mono (by simp)); exact (Below.alloc (Below.refl _ _).drew (by simp) _))
        | (refine Below.trans ?_ (hb1.mono (by simp)); exact (Below.alloc (Below.refl _ _) (by simp) _).drew)
end Go.Proofs.YtabecgdaiakgiaaDoor
