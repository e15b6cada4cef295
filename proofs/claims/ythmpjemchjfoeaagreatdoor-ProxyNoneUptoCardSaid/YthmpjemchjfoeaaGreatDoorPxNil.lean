/- A nil proxy answers every call as nothing. No condition. -/
import Derived.Test.YthmpjemchjfoeaaGreatDoorOpen
import Derived.Deep.RegionHeld3
import Derived.Deep.DeepCutAuto
namespace Go.Proofs.YthmpjemchjfoeaaGreatDoor
open Go.RowKit
set_option maxRecDepth 100000 in
theorem xHold (A : Option Addr) (n c : Nat) (k : Int) (w : World) : Calls Tryz.prog 13 #[.pointer none, .agg #[.int .i64 0, .slice none 0 0, .slice none 0 0], .slice A n c, .int .i64 k] w fun e w' => e = .returned (.tuple #[]) ∧ Below w.heap.size w w' := by
  go_enter Tryz.func13, Tryz.ntmps13
  go_wp2
  refine bodyPost_ret (results_none rfl _ _ _) rfl ?_
  exact ⟨rfl, (Below.refl _ _).alloc (Nat.le_refl _) _⟩
set_option maxRecDepth 100000 in
theorem xWords (A : Option Addr) (n c : Nat) (w : World) : Calls Tryz.prog 28 #[.pointer none, .slice A n c] w fun e w' => e = .returned (.tuple #[]) ∧ Below w.heap.size w w' := by
  go_enter Tryz.func28, Tryz.ntmps28
  go_wp2
  go_end0
  exact ⟨rfl, Below.refl _ _⟩
set_option maxRecDepth 100000 in
theorem xAccept (k : Int) (w : World) : Calls Tryz.prog 14 #[.pointer none, .int .i64 k] w fun e w' => e = .returned (.int .i64 1) ∧ Below w.heap.size w w' := by
  go_enter Tryz.func14, Tryz.ntmps14
  go_wp2
  go_ret
  exact ⟨rfl, Below.refl _ _⟩
set_option maxRecDepth 100000 in
theorem xDialled (k j : Int) (w : World) : Calls Tryz.prog 16 #[.pointer none, .int .i64 k, .int .i64 j] w fun e w' => e = .returned (.slice none 0 0) ∧ Below w.heap.size w w' := by
  go_enter Tryz.func16, Tryz.ntmps16
  go_wp2
  go_ret
  exact ⟨rfl, Below.refl _ _⟩
set_option maxRecDepth 100000 in
theorem xTick (k : Int) (w : World) : Calls Tryz.prog 19 #[.pointer none, .int .i64 k] w fun e w' => e = .returned (.slice none 0 0) ∧ Below w.heap.size w w' := by
  go_enter Tryz.func19, Tryz.ntmps19
  go_wp2
  go_ret
  exact ⟨rfl, Below.refl _ _⟩
set_option maxRecDepth 100000 in
theorem xLog (w : World) : Calls Tryz.prog 17 #[.pointer none] w fun e w' => e = .returned (.slice none 0 0) ∧ Below w.heap.size w w' := by
  go_enter Tryz.func17, Tryz.ntmps17
  go_wp2
  go_ret
  exact ⟨rfl, Below.refl _ _⟩
set_option maxRecDepth 100000 in
theorem xConns (w : World) : Calls Tryz.prog 24 #[.pointer none] w fun e w' => e = .returned (.slice none 0 0) ∧ Below w.heap.size w w' := by
  go_enter Tryz.func24, Tryz.ntmps24
  go_wp2
  go_ret
  exact ⟨rfl, Below.refl _ _⟩
set_option maxRecDepth 100000 in
theorem xRefused (k : Int) (w : World) : Calls Tryz.prog 31 #[.pointer none, .int .i64 k] w fun e w' => e = .returned (.slice none 0 0) ∧ Below w.heap.size w w' := by
  go_enter Tryz.func31, Tryz.ntmps31
  go_wp2
  go_ret
  exact ⟨rfl, Below.refl _ _⟩
set_option maxRecDepth 100000 in
theorem xOf (k : Int) (v : Value) (w : World) : Calls Tryz.prog 40 #[.pointer none, .int .i64 k, v] w fun e w' => e = .returned (.slice none 0 0) ∧ Below w.heap.size w w' := by
  go_enter Tryz.func40, Tryz.ntmps40
  go_wp2
  go_ret
  exact ⟨rfl, Below.refl _ _⟩
set_option maxRecDepth 100000 in
theorem xRead (k : Int) (A : Option Addr) (n c : Nat) (w : World) : Calls Tryz.prog 15 #[.pointer none, .int .i64 k, .slice A n c] w fun e w' => e = .returned (.slice none 0 0) ∧ Below w.heap.size w w' := by
  have hmk : ∀ fn first cap w, (Instr.makeFunc fn first cap).run Tryz.prog w = .ok (.func fn first cap) w := fun _ _ _ _ => rfl
  have H := fun (v : Value) (W : World) => xOf k v W
  go_enter Tryz.func15, Tryz.ntmps15
  go_wp2_with (first
    | (go_at_call 40; go_must (refine (H _ _).mono ?_; rintro _ wx ⟨rfl, hx⟩))
    | fail)
  go_ret
  exact ⟨rfl, ((Below.refl _ _).alloc (Nat.le_refl _) _).trans (hx.mono (by simp))⟩
set_option maxRecDepth 100000 in
theorem xEnded (k : Int) (w : World) : Calls Tryz.prog 29 #[.pointer none, .int .i64 k] w fun e w' => e = .returned (.slice none 0 0) ∧ Below w.heap.size w w' := by
  have hmk : ∀ fn first cap w, (Instr.makeFunc fn first cap).run Tryz.prog w = .ok (.func fn first cap) w := fun _ _ _ _ => rfl
  have H := fun (v : Value) (W : World) => xOf k v W
  go_enter Tryz.func29, Tryz.ntmps29
  go_wp2_with (first
    | (go_at_call 40; go_must (refine (H _ _).mono ?_; rintro _ wx ⟨rfl, hx⟩))
    | fail)
  go_ret
  exact ⟨rfl, hx⟩
set_option maxRecDepth 100000 in
theorem xLost (k : Int) (w : World) : Calls Tryz.prog 30 #[.pointer none, .int .i64 k] w fun e w' => e = .returned (.slice none 0 0) ∧ Below w.heap.size w w' := by
  have hmk : ∀ fn first cap w, (Instr.makeFunc fn first cap).run Tryz.prog w = .ok (.func fn first cap) w := fun _ _ _ _ => rfl
  have H := fun (v : Value) (W : World) => xOf k v W
  go_enter Tryz.func30, Tryz.ntmps30
  go_wp2_with (first
    | (go_at_call 40; go_must (refine (H _ _).mono ?_; rintro _ wx ⟨rfl, hx⟩))
    | fail)
  go_ret
  exact ⟨rfl, hx⟩
end Go.Proofs.YthmpjemchjfoeaaGreatDoor
