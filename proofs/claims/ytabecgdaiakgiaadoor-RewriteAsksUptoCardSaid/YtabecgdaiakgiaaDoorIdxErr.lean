/- strings.IndexRune in "/?" of the rune that stands for an error. No condition. -/
import Derived.Test.YtabecgdaiakgiaaDoorIdxRune
import Derived.Deep.LoopGhost
import Derived.Lib.OthersKept
namespace Go.Proofs.YtabecgdaiakgiaaDoor
open Go.RowKit

theorem dec0 : Utf8.decode ⟨#[47, 63]⟩ 0 = (47, 1) := by decide +kernel
theorem dec1 : Utf8.decode ⟨#[47, 63]⟩ 1 = (63, 1) := by decide +kernel
set_option maxHeartbeats 2000000 in
set_option maxRecDepth 1000000 in
theorem idxRune_err (w : World) :
    Calls Tryd.prog 93 #[.string ⟨#[47, 63]⟩, .int .i32 65533] w fun e w' => e = .returned (.int .i64 (-1)) ∧ Below w.heap.size w w' := by
  go_enter Tryd.func93, Tryd.ntmps93
  go_wp2
  go_loopg [5, 6] 2 (fun gf _ _ wx => ∃ pos : Nat, pos + gf = 2 ∧ wx.heap[w.heap.size]? = some (.stringIter ⟨#[47, 63]⟩ pos) ∧ Below w.heap.size w wx)
  case atStart => exact ⟨0, rfl, World.iter_heap w _ 0, (Below.refl _ w).alloc (Nat.le_refl _) _⟩
  case round =>
    obtain ⟨pos, hp, hit, hbw⟩ := hrel
    cases gk with
    | zero =>
      obtain rfl : pos = 2 := by omega
      have hnx : ∀ ty, (Instr.next (.pointer (some ⟨w.heap.size, 0, none⟩)) true ty).run Tryd.prog wr = _ := fun ty => Lib.run_next_end_at wr w.heap.size ⟨#[47, 63]⟩ 2 ty hit (by decide)
      go_wp2
      go_ret
      exact ⟨rfl, hbw⟩
    | succ g =>
      have hd : ∃ R : Nat, (R = 47 ∨ R = 63) ∧ Utf8.decode ⟨#[47, 63]⟩ pos = (R, 1) := by
        rcases (show pos = 0 ∨ pos = 1 by omega) with rfl | rfl
        · exact ⟨47, .inl rfl, dec0⟩
        · exact ⟨63, .inr rfl, dec1⟩
      obtain ⟨R, hR, hd⟩ := hd
      have hnx : ∀ ty, (Instr.next (.pointer (some ⟨w.heap.size, 0, none⟩)) true ty).run Tryd.prog wr = _ := fun ty => Lib.run_next_any_at wr w.heap.size ⟨#[47, 63]⟩ pos ty hit (by show pos < 2; omega)
      rw [hd] at hnx
      have hit2 := Lib.iterAt_heap wr w.heap.size ⟨#[47, 63]⟩ pos (pos + 1) hit
      have hbw2 := Lib.below_iterAt hbw (k := w.heap.size) (Nat.le_refl _) ⟨#[47, 63]⟩ (pos + 1)
      obtain ⟨W, hWd⟩ : ∃ W, wr.iterAt w.heap.size ⟨#[47, 63]⟩ (pos + 1) = W := ⟨_, rfl⟩
      simp only [hWd] at hnx hit2 hbw2
      clear hit hbw hWd hd
      rcases hR with rfl | rfl
      · go_wp2
        go_roundg g
        case measure => omega
        case rel => exact ⟨pos + 1, by omega, hit2, hbw2⟩
      · go_wp2
        go_roundg g
        case measure => omega
        case rel => exact ⟨pos + 1, by omega, hit2, hbw2⟩
end Go.Proofs.YtabecgdaiakgiaaDoor
