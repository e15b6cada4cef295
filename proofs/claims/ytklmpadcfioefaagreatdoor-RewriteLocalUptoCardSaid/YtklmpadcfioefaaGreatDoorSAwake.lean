/- law 24's awake (printed by gen_sawake.py). Condition: the world's shape. -/
import Derived.Test.YtklmpadcfioefaaGreatDoorSRest
import Derived.Lib.SlBytesConst
namespace Go.Proofs.YtklmpadcfioefaaGreatDoor
open Go.RowKit

namespace Strm
end Strm
theorem three_of {α β : Type} {f : α → β} {L : List α} {a b c : β} (h : L.map f = [a, b, c]) : ∃ x y z, L = [x, y, z] ∧ f x = a ∧ f y = b ∧ f z = c := by
  rcases L with _ | ⟨x, _ | ⟨y, _ | ⟨z, _ | ⟨_, _⟩⟩⟩⟩ <;> simp at h
  exact ⟨x, y, z, rfl, h.1, h.2.1, h.2.2⟩
end Go.Proofs.YtklmpadcfioefaaGreatDoor
