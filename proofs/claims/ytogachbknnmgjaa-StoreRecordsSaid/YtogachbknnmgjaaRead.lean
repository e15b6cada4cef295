import Derived.Test.YtogachbknnmgjaaRec
import Derived.Laws.BitsAllLaws
import Derived.Laws.BitsLemmas
namespace Go.Proofs.Ytogachbknnmgjaa
open Go.RowKit

theorem ofInt_i64 (a : Nat) (ha : a < 9223372036854775808) : (BitVec.ofInt 64 (a : Int)).toNat = a := by
  rw [BitVec.ofInt_natCast, BitVec.toNat_ofNat]; exact Nat.mod_eq_of_lt (by omega)
theorem i64_or_nat (a b : Nat) (ha : a < 9223372036854775808) (hb : b < 9223372036854775808) : bits .or .i64 (a : Int) (b : Int) = ((a ||| b : Nat) : Int) := by
  have hx : a ||| b < 2 ^ 63 := Nat.or_lt_two_pow (by omega) (by omega)
  show IntKind.i64.wrap ((BitVec.ofInt 64 (a : Int) ||| BitVec.ofInt 64 (b : Int)).toNat : Int) = _
  rw [BitVec.toNat_or, ofInt_i64 a ha, ofInt_i64 b hb, IntKind.wrap_i64]
  omega
theorem shl_or (a x : Nat) (ha : a ≤ 1048576) (hx : x < 256) : bits .or .i64 ((a : Int) * 256) (x : Int) = ((a * 256 + x : Nat) : Int) := by
  have h := i64_or_nat (a * 256) x (by omega) (by omega)
  have e : ((a * 256 : Nat) : Int) = (a : Int) * 256 := by omega
  rw [e] at h
  rw [h, Nat.mul_comm a 256]
  have h2 := Nat.two_pow_add_eq_or_of_lt (i := 8) (b := x) (by omega) a
  have h3 : 2 ^ 8 * a = 256 * a := by omega
  rw [h3] at h2
  omega

/-- the number of some bytes -/
def acc (l : List UInt8) : Nat := l.foldl (fun n c => n * 256 + c.toNat) 0
theorem acc_snoc (l : List UInt8) (c : UInt8) : acc (l ++ [c]) = acc l * 256 + c.toNat := by simp [acc]
theorem acc_mono (l : List UInt8) (j k : Nat) (h : j ≤ k) : acc (l.take j) ≤ acc (l.take k) := by
  induction k with
  | zero => obtain rfl : j = 0 := by omega
            exact Nat.le_refl _
  | succ k ih =>
    rcases Nat.lt_or_ge j (k + 1) with h1 | h1
    · refine Nat.le_trans (ih (by omega)) ?_
      by_cases hk : k < l.length
      · rw [List.take_succ_eq_append_getElem hk, acc_snoc]; omega
      · rw [List.take_of_length_le (by omega), List.take_of_length_le (by omega)]; exact Nat.le_refl _
    · obtain rfl : j = k + 1 := by omega
      exact Nat.le_refl _

def J6 (w : World) (a' : Act) (w' : World) : Prop := w' = w ∧ ∃ u0 u1 u2 u3 u4 u5 u6 u7 u8 u9 u10 u11 u12 u13 u14 u15 u16 u17 u18 u19 u20 u21 u22 u23 u24 u25 u26 u27 u28 u29 u30 u31 u32 u33 u34 u35 u36 u37 u38 u39 u40 : Value, a' = ⟨#[u0, u1, u2, u3, u4, u5, u6, u7, u8, u9, u10, u11, u12, u13, u14, u15, u16, u17, u18, u19, u20, u21, u22, u23, u24, u25, u26, u27, u28, u29, u30, u31, u32, u33, u34, u35, u36, u37, u38, u39, u40], []⟩


set_option maxHeartbeats 400000 in
theorem read_short (A : Option Addr) (n c : Nat) (w : World) (h : n < 8 ∨ 65544 < n) :
    Calls Try.prog 6 #[.slice A n c] w fun e w' => e = .returned (.tuple #[.int .i64 0, .string ⟨#[]⟩, .int .i64 71]) ∧ w = w' := by
  have hd : (decide ((n : Int) < 8) || decide (65544 < (n : Int))) = true := by rcases h with h | h <;> simp <;> omega
  go_enter Try.func6, Try.ntmps6
  go_wp2
  refine wp_scope_jumps 0 (J6 w) (fun _ _ => 0) rfl ?_ ?_
  · by_cases h' : n < 8
    · clear hd
      go_wp2
      go_step3
      simp only [Exit.then, Exit.inBlock, jump_goto]
      unfold J6
      refine ⟨rfl, ?_⟩
      (repeat apply Exists.intro); rfl
    · have h2 : 65544 < n := by omega
      clear hd
      go_wp2
      go_step3
      simp only [Exit.then, Exit.inBlock, jump_goto]
      unfold J6
      refine ⟨rfl, ?_⟩
      (repeat apply Exists.intro); rfl
  · intro a' w' hJ
    unfold J6 at hJ
    obtain ⟨rfl, u0, u1, u2, u3, u4, u5, u6, u7, u8, u9, u10, u11, u12, u13, u14, u15, u16, u17, u18, u19, u20, u21, u22, u23, u24, u25, u26, u27, u28, u29, u30, u31, u32, u33, u34, u35, u36, u37, u38, u39, u40, rfl⟩ := hJ
    go_wp2
    rw [jump_ret]
    go_ret3
    exact ⟨rfl, rfl⟩

set_option maxHeartbeats 1000000 in
theorem read_no (l : List UInt8) (A : Option Addr) (n c B : Nat) (w : World) (h8 : 8 ≤ n) (hn : n ≤ 65544) (hnc : n ≤ c) (hr : Rd w B 1 A n (bytesV l)) (hq : acc (l.take 8) = 0 ∨ 1048576 < acc (l.take 8)) :
    Calls Try.prog 6 #[.slice A n c] w fun e w' => e = .returned (.tuple #[.int .i64 0, .string ⟨#[]⟩, .int .i64 71]) ∧ w = w' := by
  obtain ⟨g, o, rfl, hg, hc⟩ := hr.2 (by omega)
  have hl : l.length = n := by have := hr.1; rw [bytesV_len] at this; omega
  go_enter Try.func6, Try.ntmps6
  go_wp2
  refine wp_scope_jumps 0 (J6 w) (fun _ _ => 0) rfl ?_ ?_
  · go_wp2
    go_loop [5, 19] (fun a i => ∃ k : Nat, k ≤ 8 ∧ i = .int .i64 k ∧ a = .int .i64 (acc (l.take k))) (fun _ i => 8 - (intOf i).toNat)
    case atStart => exact ⟨0, Nat.zero_le _, rfl, rfl⟩
    case round =>
      obtain ⟨k, hk, rfl, rfl⟩ := hrel
      by_cases hk8 : k < 8
      · have hcell0 : w.cell? ⟨g, o + k, none⟩ = some (.int .u8 (l[k]'(by omega)).toNat) := hc k _ (bytesV_get (by omega))
        have hts : acc (l.take (k + 1)) = acc (l.take k) * 256 + (l[k]'(by omega)).toNat := by rw [List.take_succ_eq_append_getElem (by omega), acc_snoc]
        have hx256 : (l[k]'(by omega)).toNat < 256 := UInt8.toNat_lt _
        generalize (l[k]'(by omega)).toNat = x at hcell0 hts hx256
        generalize hq' : acc (l.take k) = q at *
        have HT := Lib.hid hts
        clear hq' hts hq
        by_cases ha : q ≤ 1048576
        · go_wp2
          go_round
          case rel => exact ⟨k + 1, by omega, by go_num, by rw [HT.out, shl_or q x ha hx256]⟩
          case measure => simp [intOf]; omega
        · go_wp2
          go_step3
          show 0 = 0 ∧ J6 w _ w
          unfold J6
          refine ⟨rfl, rfl, ?_⟩
          (repeat apply Exists.intro); rfl
      · obtain rfl : k = 8 := by omega
        generalize acc (l.take 8) = q at *
        have hq1 : ((q : Int) < 1 ∨ 1048576 < (q : Int)) := by omega
        rcases hq1 with hq1 | hq1
        · go_wp2
          go_step3
          go_wp2
          rw [jump_ret]
          go_ret3
          exact ⟨rfl, rfl⟩
        · have hq2 : ¬ (q : Int) < 1 := by omega
          go_wp2
          go_step3
          go_wp2
          rw [jump_ret]
          go_ret3
          exact ⟨rfl, rfl⟩
  · intro a' w' hJ
    unfold J6 at hJ
    obtain ⟨rfl, u0, u1, u2, u3, u4, u5, u6, u7, u8, u9, u10, u11, u12, u13, u14, u15, u16, u17, u18, u19, u20, u21, u22, u23, u24, u25, u26, u27, u28, u29, u30, u31, u32, u33, u34, u35, u36, u37, u38, u39, u40, rfl⟩ := hJ
    go_wp2
    rw [jump_ret]
    go_ret3
    exact ⟨rfl, rfl⟩
end Go.Proofs.Ytogachbknnmgjaa
