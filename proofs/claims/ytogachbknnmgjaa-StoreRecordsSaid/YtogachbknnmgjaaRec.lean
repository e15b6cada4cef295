import Derived.Test.YtogachbknnmgjaaKit
import Derived.WalkKit
import Derived.WalkSpells
import Derived.WalkLawsBesides
import Derived.Lib.AppendStr
import Derived.LoopN
import Derived.Deep.Cut
namespace Go.Proofs.Ytogachbknnmgjaa
open Go.RowKit

set_option maxHeartbeats 400000 in
theorem rec_arg (n : Int) (s : ByteArray) (w : World) (h : n < 1 ∨ 1048576 < n) :
    Calls Try.prog 4 #[.int .i64 n, .string s] w fun e w' => e = .returned (.tuple #[.slice none 0 0, .int .i64 2]) ∧ w = w' := by
  rcases h with h | h
  · go_enter Try.func4, Try.ntmps4
    go_wp2
    go_ret2
    exact ⟨rfl, rfl⟩
  · have h' : ¬ n < 1 := by omega
    go_enter Try.func4, Try.ntmps4
    go_wp2
    go_ret2
    exact ⟨rfl, rfl⟩

set_option maxHeartbeats 400000 in
theorem rec_long (n : Int) (s : ByteArray) (w : World) (h : 1 ≤ n) (h2 : n ≤ 1048576) (hs : 65536 < s.size) :
    Calls Try.prog 4 #[.int .i64 n, .string s] w fun e w' => e = .returned (.tuple #[.slice none 0 0, .int .i64 3]) ∧ w = w' := by
  go_enter Try.func4, Try.ntmps4
  go_wp2
  go_ret2
  exact ⟨rfl, rfl⟩

theorem info5 : (Try.prog.info? 5).map (fun i => (i.zero, i.size, i.bytes)) = some (some (.int .u8 0), 1, 1) := by kernel_rfl

/-- a version's record -/
def recB (k : Nat) (s : List UInt8) : List UInt8 := [0, 0, 0, 0, 0, UInt8.ofNat (k / 65536), UInt8.ofNat (k / 256 % 256), UInt8.ofNat (k % 256)] ++ s

theorem u8_toNat (k : Nat) (h : k < 256) : (UInt8.ofNat k).toNat = k := by
  rw [UInt8.toNat_ofNat']; exact Nat.mod_eq_of_lt h

theorem recB_cells (k : Nat) (h2 : k ≤ 1048576) (s : ByteArray) :
    [Value.int .u8 0, .int .u8 0, .int .u8 0, .int .u8 0, .int .u8 0, .int .u8 ((k : Int) / 65536), .int .u8 ((k : Int) / 256 % 256), .int .u8 ((k : Int) % 256)] ++ Lib.strCells s = bytesV (recB k s.data.toList) := by
  have e1 : (UInt8.ofNat (k / 65536)).toNat = k / 65536 := u8_toNat _ (by omega)
  have e2 : (UInt8.ofNat (k / 256 % 256)).toNat = k / 256 % 256 := u8_toNat _ (by omega)
  have e3 : (UInt8.ofNat (k % 256)).toNat = k % 256 := u8_toNat _ (by omega)
  simp [recB, bytesV, e1, e2, e3, Lib.strCells]

theorem head_row (a0 a1 a2 a3 a4 a5 a6 a7 : Value) (t : TypeId) (w : World) :
    Row (w.alloc (.cells #[a0, a1, a2, a3, a4, a5, a6, a7] t)) w.heap.size 1 (.slice (some ⟨w.heap.size, 0, none⟩) 8 8) 8 [a0, a1, a2, a3, a4, a5, a6, a7] :=
  ⟨rfl, .inr ⟨w.heap.size, 0, 8, _, t, (0, 0), rfl, Nat.le_refl _, heap_alloc_new w _, by omega, by unfold maxLen; omega, by simp, by intro j _ _; simp, by simp⟩⟩

set_option maxHeartbeats 400000 in
theorem rec_ok (k : Nat) (s : ByteArray) (w : World) (h : 1 ≤ k) (h2 : k ≤ 1048576) (hs : s.size ≤ 65536) :
    Calls Try.prog 4 #[.int .i64 k, .string s] w fun e w' => ∃ v, e = .returned (.tuple #[v, .int .i64 0]) ∧ Row w' w.heap.size 1 v (8 + s.size) (bytesV (recB k s.data.toList)) ∧ Below w.heap.size w w' := by
  obtain ⟨i0, hi, hz0, hz1, hz2⟩ := info_parts info5

  have z0 : (k : Int) / 72057594037927936 = 0 := by omega
  have z1 : (k : Int) / 281474976710656 = 0 := by omega
  have z2 : (k : Int) / 1099511627776 = 0 := by omega
  have z3 : (k : Int) / 4294967296 = 0 := by omega
  have z4 : (k : Int) / 16777216 = 0 := by omega
  go_enter Try.func4, Try.ntmps4
  go_wp2
  refine wp_loop_rounds 9 ?_
  repeat (rw [rounds_succ]; go_upto_region 11 with (fail))
  go_wp2_with (at_builtin; refine wpList_app _ rfl (.tmp 31) (.tmp 32) 22 9 rfl w.heap.size 5 i0 (.int .u8 0) 1 1 Try.underlying22 hi hz0 hz1 hz2 rfl _ 8 _ rfl (head_row _ _ _ _ _ _ _ _ _ _) (.string s) s.size _ rfl (Src.string Try.underlying9 s) (by omega) (by omega) (by omega) (by simp) ?_; intro v1 w1 hown1 hg1 _)
  go_ret2
  refine ⟨v1, rfl, ?_, ?_⟩
  · rw [← recB_cells k h2 s]
    exact hown1
  · exact Below.app (Below.alloc (Below.refl _ _) (Nat.le_refl _) _) (head_row _ _ _ _ _ _ _ _ _ _) hg1 (Nat.le_refl _) (by simp)

/- THE REFERENCE's record -/
set_option maxHeartbeats 400000 in
theorem ref_arg (n : Int) (s : ByteArray) (w : World) (h : n < 1 ∨ 1048576 < n) :
    Calls Try.prog 5 #[.int .i64 n, .string s] w fun e w' => e = .returned (.tuple #[.slice none 0 0, .int .i64 2]) ∧ w = w' := by
  rcases h with h | h
  · go_enter Try.func5, Try.ntmps5
    go_wp2
    go_ret2
    exact ⟨rfl, rfl⟩
  · have h' : ¬ n < 1 := by omega
    go_enter Try.func5, Try.ntmps5
    go_wp2
    go_ret2
    exact ⟨rfl, rfl⟩

set_option maxHeartbeats 400000 in
theorem ref_long (n : Int) (s : ByteArray) (w : World) (h : 1 ≤ n) (h2 : n ≤ 1048576) (hs : 65536 < s.size) :
    Calls Try.prog 5 #[.int .i64 n, .string s] w fun e w' => e = .returned (.tuple #[.slice none 0 0, .int .i64 3]) ∧ w = w' := by
  go_enter Try.func5, Try.ntmps5
  go_wp2
  go_ret2
  exact ⟨rfl, rfl⟩

set_option maxHeartbeats 400000 in
theorem ref_ok (k : Nat) (s : ByteArray) (w : World) (h : 1 ≤ k) (h2 : k ≤ 1048576) (hs : s.size ≤ 65536) :
    Calls Try.prog 5 #[.int .i64 k, .string s] w fun e w' => ∃ v, e = .returned (.tuple #[v, .int .i64 0]) ∧ Row w' w.heap.size 1 v (8 + s.size) (bytesV (recB k s.data.toList)) ∧ Below w.heap.size w w' := by
  obtain ⟨i0, hi, hz0, hz1, hz2⟩ := info_parts info5
  go_enter Try.func5, Try.ntmps5
  go_wp2_with (at_builtin; refine wpList_app _ rfl (.tmp 27) (.tmp 28) 22 9 rfl w.heap.size 5 i0 (.int .u8 0) 1 1 Try.underlying22 hi hz0 hz1 hz2 rfl _ 8 _ rfl (head_row _ _ _ _ _ _ _ _ _ _) (.string s) s.size _ rfl (Src.string Try.underlying9 s) (by omega) (by omega) (by omega) (by simp) ?_; intro v1 w1 hown1 hg1 _)
  go_ret2
  refine ⟨v1, rfl, ?_, ?_⟩
  · rw [← recB_cells k h2 s]
    exact hown1
  · exact Below.app (Below.alloc (Below.refl _ _) (Nat.le_refl _) _) (head_row _ _ _ _ _ _ _ _ _ _) hg1 (Nat.le_refl _) (by simp)
end Go.Proofs.Ytogachbknnmgjaa
