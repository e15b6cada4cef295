/- The calls that each law begins with: awake. Printed by gen_daw.py. Conditions: none. -/
import Derived.Test.YthgeppdoonbkpaaDskLw
import Derived.Lib.SlBytesConst
namespace Go.Proofs.Ythgeppdoonbkpaa
open Go.RowKit
namespace Dsk
def aw0 : St := new 10
def aw1 : St := (create aw0 [97]).1
def aw2 : St := (write aw1 [97] 0 [97, 98, 99]).1
def aw3 : St := (sync aw2 [97]).1
def aw4 : St := (syncDir aw3).1
def aw5 : St := (write aw4 [97] 1 [88, 89]).1
def aw6 : St := crash aw5 [0, 0, 1]
def aw7 : St := up aw6
def aw8 : St := (create aw7 [97, 47, 98]).1
theorem aw_1 : (create aw0 [97]).2 = 0 := by kernel_rfl
theorem aw_2 : (write aw1 [97] 0 [97, 98, 99]).2 = 0 := by kernel_rfl
theorem aw_3 : (sync aw2 [97]).2 = 0 := by kernel_rfl
theorem aw_4 : (syncDir aw3).2 = 0 := by kernel_rfl
theorem aw_5 : (write aw4 [97] 1 [88, 89]).2 = 0 := by kernel_rfl
theorem aw_6 : (read aw6 [97]).2 = 32 := by kernel_rfl
theorem aw_7 : (read aw7 [97]).2 = 0 := by kernel_rfl
theorem aw_b : (read aw7 [97]).1 = [97, 88, 99] := by kernel_rfl
theorem aw_8 : (create aw7 [97, 47, 98]).2 = 2 := by kernel_rfl
theorem aw_9 : (write aw8 [97] 0 [0, 0, 0, 0, 0, 0, 0, 0, 0, 0, 0]).2 = 31 := by kernel_rfl
end Dsk
theorem marked_rd (w : World) (us : List Value) (t : TypeId) (n : Nat) (fr : Nat × Nat) (h : us.length = n) : Rd (w.alloc (.cells us.toArray t fr)) (w.alloc (.cells us.toArray t fr)).heap.size 1 (some ⟨w.heap.size, 0, none⟩) n us := by
  refine ⟨by omega, fun _ => ⟨w.heap.size, 0, rfl, by simp, fun j u hu => ?_⟩⟩
  rw [Nat.zero_add, cell_of_row _ w.heap.size j us.toArray t fr (heap_alloc_new w _)]
  simpa using hu
theorem built_rd (w : World) (us : List Value) (t : TypeId) (n : Nat) (h : us.length = n) : Rd (w.alloc (.cells us.toArray t)) (w.alloc (.cells us.toArray t)).heap.size 1 (some ⟨w.heap.size, 0, none⟩) n us :=
  ⟨by omega, fun _ => ⟨w.heap.size, 0, rfl, by simp, fun j u hu => by rw [Nat.zero_add]; exact (Var.new w t us).cell hu⟩⟩
set_option maxHeartbeats 2000000 in
set_option maxRecDepth 100000 in
theorem dawake_any (w : World) : Calls Try.prog 7 #[] w fun e w' => e = .returned (.bool true) ∧ Below w.heap.size w w' := by
  have HN := Lib.hid (lnew w w (fun _ => False) (Below.refl _ _) (fun b h => h.elim) 10 (by omega))
  go_enter Try.func7, Try.ntmps7
  go_upto_region 4 with (first
    | (go_at_call 8; go_must (refine HN.out.mono ?_; rintro _ w0 ⟨db, rfl, l0, _⟩; have L0 : Hid (Live w (fun _ => False) w0 db Dsk.aw0 0) := Lib.hid l0; clear l0))
    | fail)
  have C1 : Hid (Calls Try.prog 9 #[.pointer (some ⟨db, 0, none⟩), .string ⟨#[97]⟩] w0 fun e w' => e = .returned (.int .i64 0) ∧ Live w (fun _ => False) w' db Dsk.aw1 1 ∧ Kept (fun _ => False) w0 w') := Lib.hid (by have h := lcreate L0.out (by omega) [97] (by decide); rw [Dsk.aw_1] at h; exact h)
  go_upto_region 5 with (first
    | (go_at_call 9; go_must (refine C1.out.mono ?_; rintro _ w1 ⟨rfl, l1, _⟩; have L1 := Lib.hid l1; clear l1))
    | fail)
  have kc1 := Lib.run_convert_bytes_const (P := Try.prog) w1 22 5 #[.int .u8 97, .int .u8 98, .int .u8 99] 3 3 Try.underlying22 Try.underlying5
  have hb1 : Below w1.heap.size w1 (w1.alloc (.cells #[.int .u8 97, .int .u8 98, .int .u8 99] 5 (3, 4))) := (Below.refl _ _).alloc (Nat.le_refl _) _
  have C2 : Hid (Calls Try.prog 10 #[.pointer (some ⟨db, 0, none⟩), .string ⟨#[97]⟩, .int .i64 0, .slice (some ⟨w1.heap.size, 0, none⟩) 3 3] (w1.alloc (.cells #[.int .u8 97, .int .u8 98, .int .u8 99] 5 (3, 4))) fun e w' => e = .returned (.int .i64 0) ∧ Live w (fun _ => False) w' db Dsk.aw2 2 ∧ Kept (fun _ => False) (w1.alloc (.cells #[.int .u8 97, .int .u8 98, .int .u8 99] 5 (3, 4))) w') := Lib.hid (by
    have h := lwrite (L1.out.grow hb1) (by omega) [97] (by decide) 0 (c := 3) (p := [97, 98, 99]) (fun e => by cases e) (marked_rd w1 [.int .u8 97, .int .u8 98, .int .u8 99] 5 3 (3, 4) rfl) (by omega)
    rw [Dsk.aw_2] at h
    exact h)
  clear hb1
  go_upto_region 6 with (first
    | (go_at_call 10; go_must (refine C2.out.mono ?_; rintro _ w2 ⟨rfl, l2, _⟩; have L2 := Lib.hid l2; clear l2))
    | fail)
  have C3 : Hid (Calls Try.prog 12 #[.pointer (some ⟨db, 0, none⟩), .string ⟨#[97]⟩] w2 fun e w' => e = .returned (.int .i64 0) ∧ Live w (fun _ => False) w' db Dsk.aw3 3 ∧ Kept (fun _ => False) w2 w') := Lib.hid (by have h := lsync L2.out (by omega) [97] (by decide); rw [Dsk.aw_3] at h; exact h)
  go_upto_region 7 with (first
    | (go_at_call 12; go_must (refine C3.out.mono ?_; rintro _ w3 ⟨rfl, l3, _⟩; have L3 := Lib.hid l3; clear l3))
    | fail)
  have C4 : Hid (Calls Try.prog 13 #[.pointer (some ⟨db, 0, none⟩)] w3 fun e w' => e = .returned (.int .i64 0) ∧ Live w (fun _ => False) w' db Dsk.aw4 4 ∧ Kept (fun _ => False) w3 w') := Lib.hid (by have h := lsyncDir L3.out (by omega); rw [Dsk.aw_4] at h; exact h)
  go_upto_region 8 with (first
    | (go_at_call 13; go_must (refine C4.out.mono ?_; rintro _ w4 ⟨rfl, l4, _⟩; have L4 := Lib.hid l4; clear l4))
    | fail)
  have kc4 := Lib.run_convert_bytes_const (P := Try.prog) w4 22 5 #[.int .u8 88, .int .u8 89] 2 2 Try.underlying22 Try.underlying5
  have hb4 : Below w4.heap.size w4 (w4.alloc (.cells #[.int .u8 88, .int .u8 89] 5 (2, 3))) := (Below.refl _ _).alloc (Nat.le_refl _) _
  have C5 : Hid (Calls Try.prog 10 #[.pointer (some ⟨db, 0, none⟩), .string ⟨#[97]⟩, .int .i64 1, .slice (some ⟨w4.heap.size, 0, none⟩) 2 2] (w4.alloc (.cells #[.int .u8 88, .int .u8 89] 5 (2, 3))) fun e w' => e = .returned (.int .i64 0) ∧ Live w (fun _ => False) w' db Dsk.aw5 5 ∧ Kept (fun _ => False) (w4.alloc (.cells #[.int .u8 88, .int .u8 89] 5 (2, 3))) w') := Lib.hid (by
    have h := lwrite (L4.out.grow hb4) (by omega) [97] (by decide) 1 (c := 2) (p := [88, 89]) (fun e => by cases e) (marked_rd w4 [.int .u8 88, .int .u8 89] 5 2 (2, 3) rfl) (by omega)
    rw [Dsk.aw_5] at h
    exact h)
  clear hb4
  go_upto_region 9 with (first
    | (go_at_call 10; go_must (refine C5.out.mono ?_; rintro _ w5 ⟨rfl, l5, _⟩; have L5 := Lib.hid l5; clear l5))
    | fail)
  have hb5 : Below w5.heap.size w5 (w5.alloc (.cells #[.int .i64 0, .int .i64 0, .int .i64 1] 3)) := (Below.refl _ _).alloc (Nat.le_refl _) _
  have L5b : Hid (Live w (fun b => b = w5.heap.size) (w5.alloc (.cells #[.int .i64 0, .int .i64 0, .int .i64 1] 3)) db Dsk.aw5 5) := Lib.hid (L5.out.own hb5 (fun b e => .inr (by subst e; exact ⟨Nat.le_refl _, by simp⟩)))
  have C6 : Hid (Calls Try.prog 18 #[.pointer (some ⟨db, 0, none⟩), .slice (some ⟨w5.heap.size, 0, none⟩) 3 3] (w5.alloc (.cells #[.int .i64 0, .int .i64 0, .int .i64 1] 3)) fun e w' => e = .returned (.tuple #[]) ∧ Live w (fun b => b = w5.heap.size) w' db Dsk.aw6 6 ∧ Kept (fun b => b = w5.heap.size) (w5.alloc (.cells #[.int .i64 0, .int .i64 0, .int .i64 1] 3)) w') := Lib.hid (lcrash L5b.out (by omega) (cs := [0, 0, 1]) (built_rd w5 [.int .i64 0, .int .i64 0, .int .i64 1] 3 3 rfl) (by omega) (by omega) (fun _ g o e => by injection e with e; injection e with e _ _; exact e.symm))
  clear hb5
  go_upto_region 10 with (first
    | (go_at_call 18; go_must (refine C6.out.mono ?_; rintro _ w6 ⟨rfl, l6, _⟩; have L6 := Lib.hid (l6.less (O' := fun _ => False) (fun b h => h.elim)); clear l6))
    | fail)
  have C7 : Hid (Calls Try.prog 21 #[.pointer (some ⟨db, 0, none⟩), .string ⟨#[97]⟩] w6 fun e w' => ∃ v, e = .returned (.tuple #[v, .int .i64 32]) ∧ RowB w' w6.heap.size v (Dsk.read Dsk.aw6 [97]).1 ∧ Live w (fun _ => False) w' db Dsk.aw6 6 ∧ Below w6.heap.size w6 w') := Lib.hid (by have h := lread L6.out [97] (by decide); rw [Dsk.aw_6] at h; exact h)
  go_upto_region 11 with (first
    | (go_at_call 21; go_must (refine C7.out.mono ?_; rintro _ w7 ⟨v7, rfl, r7, l7, _⟩; have L7 := Lib.hid l7; clear l7 r7))
    | fail)
  have C8 : Hid (Calls Try.prog 20 #[.pointer (some ⟨db, 0, none⟩)] w7 fun e w' => e = .returned (.tuple #[]) ∧ Live w (fun _ => False) w' db Dsk.aw7 6 ∧ Kept (fun _ => False) w7 w') := Lib.hid (lup L7.out)
  go_upto_region 12 with (first
    | (go_at_call 20; go_must (refine C8.out.mono ?_; rintro _ w8 ⟨rfl, l8, _⟩; have L8 := Lib.hid l8; clear l8))
    | fail)
  have C9 : Hid (Calls Try.prog 21 #[.pointer (some ⟨db, 0, none⟩), .string ⟨#[97]⟩] w8 fun e w' => ∃ v, e = .returned (.tuple #[v, .int .i64 0]) ∧ RowB w' w8.heap.size v [97, 88, 99] ∧ Live w (fun _ => False) w' db Dsk.aw7 6 ∧ Below w8.heap.size w8 w') := Lib.hid (by have h := lread L8.out [97] (by decide); rw [Dsk.aw_7, Dsk.aw_b] at h; exact h)
  go_upto_region 13 with (first
    | (go_at_call 21; go_must (refine C9.out.mono ?_; rintro _ w9 ⟨v9, rfl, r9, l9, _⟩; have L9 := Lib.hid l9; obtain ⟨A9, c9, rfl, _, _, hn9, hr9⟩ := RowB.form r9; clear l9 r9))
    | fail)
  have hcv : (convert 22 9 (.slice A9 3 c9)).run Try.prog w9 = .ok (.string ⟨#[97, 88, 99]⟩) w9 := conv_str (P := Try.prog) 22 9 5 Try.underlying22 Try.underlying5 Try.underlying9 (c := c9) hr9 (fun e => (hn9 e).1)
  have CA : Hid (Calls Try.prog 9 #[.pointer (some ⟨db, 0, none⟩), .string ⟨#[97, 47, 98]⟩] w9 fun e w' => e = .returned (.int .i64 2) ∧ Live w (fun _ => False) w' db Dsk.aw8 7 ∧ Kept (fun _ => False) w9 w') := Lib.hid (by have h := lcreate L9.out (by omega) [97, 47, 98] (by decide); rw [Dsk.aw_8] at h; exact h)
  have hmk : ∀ W : World, (Instr.makeSlice 22 (.int .i64 11) (.int .i64 11)).run Try.prog W = .ok (.slice (some ⟨W.heap.size, 0, none⟩) 11 11) (W.alloc (.cells #[.int .u8 0, .int .u8 0, .int .u8 0, .int .u8 0, .int .u8 0, .int .u8 0, .int .u8 0, .int .u8 0, .int .u8 0, .int .u8 0, .int .u8 0] 5)) := fun _ => by kernel_rfl
  clear hr9 hn9
  go_wp2_with (first
    | (go_at_call 9; go_must (refine CA.out.mono ?_; rintro _ wa ⟨rfl, la, _⟩; have LA := Lib.hid la; clear la hcv; have CB : Hid (Calls Try.prog 10 #[.pointer (some ⟨db, 0, none⟩), .string ⟨#[97]⟩, .int .i64 0, .slice (some ⟨wa.heap.size, 0, none⟩) 11 11] (wa.alloc (.cells #[.int .u8 0, .int .u8 0, .int .u8 0, .int .u8 0, .int .u8 0, .int .u8 0, .int .u8 0, .int .u8 0, .int .u8 0, .int .u8 0, .int .u8 0] 5)) fun e w' => e = .returned (.int .i64 31) ∧ Live w (fun _ => False) w' db (Dsk.write Dsk.aw8 [97] 0 [0, 0, 0, 0, 0, 0, 0, 0, 0, 0, 0]).1 8 ∧ Kept (fun _ => False) (wa.alloc (.cells #[.int .u8 0, .int .u8 0, .int .u8 0, .int .u8 0, .int .u8 0, .int .u8 0, .int .u8 0, .int .u8 0, .int .u8 0, .int .u8 0, .int .u8 0] 5)) w') := Lib.hid (by have h := lwrite (LA.out.grow ((Below.refl _ _).alloc (Nat.le_refl _) _)) (by omega) [97] (by decide) 0 (c := 11) (p := [0, 0, 0, 0, 0, 0, 0, 0, 0, 0, 0]) (fun e => by cases e) (built_rd wa [.int .u8 0, .int .u8 0, .int .u8 0, .int .u8 0, .int .u8 0, .int .u8 0, .int .u8 0, .int .u8 0, .int .u8 0, .int .u8 0, .int .u8 0] 5 11 rfl) (by omega); rw [Dsk.aw_9] at h; exact h)))
    | (go_at_call 10; go_must (refine CB.out.mono ?_; rintro _ wb ⟨rfl, lb, _⟩))
    | fail)
  go_ret
  exact ⟨rfl, lb.bel⟩
end Go.Proofs.Ythgeppdoonbkpaa
