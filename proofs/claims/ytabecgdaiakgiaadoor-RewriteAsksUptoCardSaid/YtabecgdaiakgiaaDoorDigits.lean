/- the reference's magnitude, digits; strconv.Itoa: a number's decimal digits. Condition: the number is an int's. -/
import Derived.Test.YtabecgdaiakgiaaDoorVars
import Derived.Test.YtabecgdaiakgiaaDoorTok
import Derived.Lib.ItoaNum
import Derived.Lib.ItoaLen
import Derived.IntWalk
import Derived.OpenShut
import Derived.Lib.SmallJoins
import Derived.Lib.AppendIntMem
import Derived.Deep.RegionHeld3
namespace Go.Proofs.YtabecgdaiakgiaaDoor
open Go.RowKit

theorem conv_one (W : World) (b : Nat) (x : Int) (h0 : 0 ≤ x) (h1 : x < 256) (hc : W.cell? ⟨b, 0, none⟩ = some (.int .u8 x)) :
    (convert 32 9 (.slice (some ⟨b, 0, none⟩) 1 1)).run Tryd.prog W = .ok (.string ⟨#[UInt8.ofNat x.toNat]⟩) W := by
  have e : ((UInt8.ofNat x.toNat).toNat : Int) = x := by
    rw [UInt8.toNat_ofNat', Nat.mod_eq_of_lt (by omega)]; omega
  refine conv_str (P := Tryd.prog) (B := b + 1) 32 9 5 Tryd.underlying32 Tryd.underlying5 Tryd.underlying9 (A := some ⟨b, 0, none⟩) (n := 1) (c := 1) (l := [UInt8.ofNat x.toNat]) ⟨rfl, fun _ => ⟨b, 0, rfl, by omega, fun j u hu => ?_⟩⟩ (fun e => by cases e)
  match j, hu with
  | 0, hu =>
    simp only [bytesV, List.map_cons, e] at hu
    cases hu
    exact hc
theorem bcell {W w1 : World} (hb : Below W.heap.size W w1) : (∀ b o, b < W.heap.size → w1.cell? ⟨b, o, none⟩ = W.cell? ⟨b, o, none⟩) :=
  fun b o h => hb.cell (p := ⟨b, o, none⟩) h
theorem dec_len (q : Nat) (h : q ≤ 9223372036854775807) : (Lib.decDigits q).length ≤ 21 := by
  have := Lib.itoa_length_le (q : Int) (by omega) (by omega)
  unfold Lib.itoa at this
  rw [if_neg (by omega)] at this
  simpa using this
theorem str_app (a : Bs) (c : UInt8) : (⟨a.toArray⟩ : ByteArray) ++ ⟨#[c]⟩ = ⟨(a ++ [c]).toArray⟩ := by
  have e : ((⟨a.toArray⟩ : ByteArray) ++ ⟨#[c]⟩).data.toList = a ++ [c] := by simp
  cases h : (⟨a.toArray⟩ : ByteArray) ++ ⟨#[c]⟩ with
  | mk d => rw [h] at e; simp at e; rw [← e]
def small64 (n : Nat) : Prop := n ≤ 9223372036854775808
theorem dec_small {n : Nat} (h : n < 10) : Lib.decDigits n = [UInt8.ofNat (48 + n)] := Lib.decDigits_one h
theorem dec_big {n : Nat} (h : ¬ n < 10) : Lib.decDigits n = Lib.decDigits (n / 10) ++ [UInt8.ofNat (48 + n % 10)] := by rw [Lib.decDigits, dif_neg h]

set_option maxHeartbeats 2000000 in
set_option maxRecDepth 100000 in
theorem rmag_any (n : Nat) : ∀ (w : World), small64 n →
    Calls Tryd.prog 117 #[.int .u64 (n : Int)] w fun e w' => e = .returned (.string ⟨(Lib.decDigits n).toArray⟩) ∧ Below w.heap.size w w' := by
  induction n using Nat.strongRecOn with
  | ind n ih =>
    intro w hn
    by_cases h : n < 10
    · have HD := Lib.hid (dec_small h)
      have i3 : (n : Int) < 10 := by omega
      have i4 : IntKind.u64.wrap (48 + (n : Int)) = 48 + (n : Int) := IntWalk.u64_in _ (by omega)
      have i5 : IntKind.u8.wrap (48 + (n : Int)) = 48 + (n : Int) := IntWalk.u8_in _ (by omega)
      have hcv := fun (W : World) (b : Nat) (hc : W.cell? ⟨b, 0, none⟩ = some (.int .u8 (48 + (n : Int)))) => conv_one W b (48 + (n : Int)) (by omega) (by omega) hc
      have HT : Hid ((48 + (n : Int)).toNat = 48 + n) := Lib.hid (by omega)
      clear ih hn h
      go_enter Tryd.func117, Tryd.ntmps117
      go_wp2
      go_ret
      refine ⟨?_, (Below.refl _ _).alloc (Nat.le_refl _) _⟩
      rw [HD.out, ← HT.out]; rfl
    · have HD := Lib.hid (dec_big h)
      have HI := Lib.hid (ih (n / 10) (by omega))
      have hs : Hid (small64 (n / 10)) := Lib.hid (by unfold small64 at hn ⊢; omega)
      clear ih
      unfold small64 at hn
      obtain ⟨q, hq⟩ : ∃ q, q = n / 10 := ⟨_, rfl⟩
      obtain ⟨r, hr⟩ : ∃ r, r = n % 10 := ⟨_, rfl⟩
      have hr9 : r < 10 := by omega
      have j1 : IntKind.u64.wrap ((n : Int) / 10) = (q : Int) := by rw [IntKind.wrap_u64]; omega
      have j2 : (n : Int).tmod 10 = (r : Int) := by rw [Int.tmod_eq_emod_of_nonneg (by omega)]; omega
      have j3 : IntKind.u64.wrap (48 + (r : Int)) = 48 + (r : Int) := by rw [IntKind.wrap_u64]; omega
      have j4 : IntKind.u8.wrap (48 + (r : Int)) = 48 + (r : Int) := by rw [IntKind.wrap_u8]; omega
      rw [← hq, ← hr] at HD
      rw [← hq] at HI hs
      obtain ⟨ds, hds⟩ : ∃ ds : ByteArray, ds = ⟨(Lib.decDigits q).toArray⟩ := ⟨_, rfl⟩
      have hdz : ds.size ≤ 21 := by rw [hds]; exact dec_len q (by omega)
      rw [← hds] at HI
      have HDS := Lib.hid hds
      clear hq hr hds
      have hcv := fun (W : World) (b : Nat) (hc : W.cell? ⟨b, 0, none⟩ = some (.int .u8 (48 + (r : Int)))) => conv_one W b (48 + (r : Int)) (by omega) (by omega) hc
      have HT : (48 + (r : Int)).toNat = 48 + r := by omega
      rw [HT] at hcv
      generalize UInt8.ofNat (48 + r) = d at hcv HD
      clear HT
      have i1 : (0 : Int) ≤ (n : Int) := by omega
      have i2 : ¬ (n : Int) < 10 := by omega
      go_enter Tryd.func117, Tryd.ntmps117
      go_wp2
      go_region_with (go_at_call 117; refine (HI.out _ hs.out).mono ?_; rintro e w1 ⟨rfl, hb1⟩; have hc1 := bcell hb1)
      all_goals go_wp2
      all_goals go_ret
      all_goals refine ⟨?_, ?_⟩
      all_goals first
        | (rw [HD.out, ← str_app, ← HDS.out]; rfl)
        | (refine Below.alloc ?_ (by have := hb1.size; simp at this; omega) _; exact (Below.of_drew hb1))
        | (refine Below.trans ?_ (hb1.mono (by simp)); exact (Below.alloc (Below.refl _ _).drew (by simp) _))
        | (refine Below.trans ?_ (hb1.mono (by simp)); exact (Below.alloc (Below.refl _ _) (by simp) _).drew)

theorem itoa_pos (k : Nat) : Lib.itoa (k : Int) = Lib.decDigits k := by
  unfold Lib.itoa; rw [if_neg (by omega)]; simp
theorem itoa_neg (n : Int) (j : Nat) (h : n = -(j : Int) - 1) : Lib.itoa n = 45 :: Lib.decDigits (j + 1) := by
  unfold Lib.itoa; rw [if_pos (by omega), show n.natAbs = j + 1 by omega]
theorem str_cons (a : Bs) (c : UInt8) : (⟨#[c]⟩ : ByteArray) ++ ⟨a.toArray⟩ = ⟨(c :: a).toArray⟩ := by
  have e : ((⟨#[c]⟩ : ByteArray) ++ ⟨a.toArray⟩).data.toList = c :: a := by simp
  cases h : (⟨#[c]⟩ : ByteArray) ++ ⟨a.toArray⟩ with
  | mk d => rw [h] at e; simp at e; rw [← e]
def isInt (n : Int) : Prop := -9223372036854775808 ≤ n ∧ n ≤ 9223372036854775807
theorem isInt_wf {n : Int} (h : (Lit.int .i64 n).wf = true) : isInt n := by
  have := Go.bounds_i64 h
  unfold isInt; omega

set_option maxHeartbeats 2000000 in
set_option maxRecDepth 100000 in
theorem rdigits_any (n : Int) (w : World) (hn : isInt n) :
    Calls Tryd.prog 81 #[.int .i64 n] w fun e w' => e = .returned (.string ⟨(Lib.itoa n).toArray⟩) ∧ Below w.heap.size w w' := by
  unfold isInt at hn
  by_cases h : n < 0
  · obtain ⟨j, hj⟩ : ∃ j : Nat, n = -(j : Int) - 1 := ⟨(-n - 1).toNat, by omega⟩
    have HI := Lib.hid (itoa_neg n j hj)
    have j1 : wrap64 (n + 1) = n + 1 := by unfold wrap64; omega
    have j2 : wrap64 (-(n + 1)) = (j : Int) := by unfold wrap64; omega
    have j3 : IntKind.u64.wrap (j : Int) = (j : Int) := by rw [IntKind.wrap_u64]; omega
    have j4 : IntKind.u64.wrap ((j : Int) + 1) = (j : Int) + 1 := by rw [IntKind.wrap_u64]; omega
    have HS : Hid (small64 (j + 1)) := Lib.hid (by unfold small64; omega)
    obtain ⟨ds, hds⟩ : ∃ ds : ByteArray, ds = ⟨(Lib.decDigits (j + 1)).toArray⟩ := ⟨_, rfl⟩
    have HDS := Lib.hid hds
    have hz : ds.size ≤ 40 := by
      rw [hds]
      show (Lib.decDigits (j + 1)).length ≤ 40
      by_cases h2 : j + 1 ≤ 9223372036854775807
      · have := dec_len (j + 1) h2; omega
      · rw [dec_big (by omega)]
        have := dec_len ((j + 1) / 10) (by omega)
        simp; omega
    have HC : Hid (∀ W : World, Calls Tryd.prog 117 #[.int .u64 ((j : Int) + 1)] W fun e w' => e = .returned (.string ds) ∧ Below W.heap.size W w') := Lib.hid (fun W => by
      have := rmag_any (j + 1) W HS.out
      rw [hds]
      exact this)
    clear hj hn hds
    go_enter Tryd.func81, Tryd.ntmps81
    go_wp2_with (go_at_call 117; go_must (refine (HC.out _).mono ?_; rintro _ w1 ⟨rfl, hb1⟩))
    go_ret
    refine ⟨?_, hb1⟩
    have e : (⟨#[45]⟩ : ByteArray) ++ ⟨#[]⟩ ++ ds = ⟨(45 :: Lib.decDigits (j + 1)).toArray⟩ := by rw [← str_cons (Lib.decDigits (j + 1)) 45, ← HDS.out]; exact congrArg (· ++ ds) (show (⟨#[45]⟩ : ByteArray) ++ ⟨#[]⟩ = ⟨#[45]⟩ from rfl)
    rw [HI.out, ← e]
    rfl
  · obtain ⟨j, rfl⟩ : ∃ j : Nat, n = (j : Int) := ⟨n.toNat, by omega⟩
    have HI := Lib.hid (itoa_pos j)
    have j3 : IntKind.u64.wrap (j : Int) = (j : Int) := by rw [IntKind.wrap_u64]; omega
    have HS : Hid (small64 j) := Lib.hid (by unfold small64; omega)
    clear hn
    go_enter Tryd.func81, Tryd.ntmps81
    go_wp2_with (go_at_call 117; go_must (refine (rmag_any j _ HS.out).mono ?_; rintro _ w1 ⟨rfl, hb1⟩))
    go_ret
    exact ⟨by rw [HI.out]; rfl, hb1⟩

/-- strconv.Itoa -/
def Tab (w : World) : Prop := Lib.TabIs Tryd.prog w "internal/strconv.uint64pow10" .u64 Lib.pow10Tab
theorem tab_here : (Tryd.prog.globalNamed "internal/strconv.uint64pow10").isSome = true := by kernel_rfl
theorem Tab.below {w w' : World} (h : Tab w) (hb : Below w.heap.size w w') : Tab w' := by
  obtain ⟨g, hg⟩ := Option.isSome_iff_exists.1 tab_here
  exact Joins.tab_stays hg h hb (Nat.le_refl _)
theorem itoa_any (n : Int) (w : World) (hn : isInt n) (ht : Tab w) :
    Calls Tryd.prog 78 #[.int .i64 n] w fun e w' => e = .returned (.string ⟨(Lib.itoa n).toArray⟩) ∧ Below w.heap.size w w' :=
  (Tryd.strconv_Itoa n hn.1 hn.2 w ht).mono fun e w' ⟨he, k, os, hw⟩ => ⟨he, by subst hw; exact Lib.below_grow _ _ (Nat.le_refl _) _ _⟩
theorem itoa_len {n : Int} (h : isInt n) : (Lib.itoa n).length ≤ 21 := Lib.itoa_length_le n h.1 h.2
end Go.Proofs.YtabecgdaiakgiaaDoor
