/- Small words for regions that draw their order and only call what leaves memory below alone. No condition. -/
import Derived.Test.YthgeppdoonbkpaaVars
import Derived.Deep.RegionHeld3
namespace Go.Proofs.Ythgeppdoonbkpaa
open Go.RowKit

theorem Held.trans {W0 W W1 : World} {X : Prop} (h : Below W0.heap.size W0 W ∧ X) (hl : Below W.heap.size W W1) : Below W0.heap.size W0 W1 := h.1.trans (hl.mono h.1.size)
theorem Held.rd {W0 W : World} {X : Prop} {sz n : Nat} {A : Option Addr} {xs : List Value} (h : Below W0.heap.size W0 W ∧ X) (hr : Rd W0 W0.heap.size sz A n xs) : Rd W W.heap.size sz A n xs := hr.keeps h.1
end Go.Proofs.Ythgeppdoonbkpaa
