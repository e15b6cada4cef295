/- the reference's Read, walked. Condition: sizes. -/
import Derived.Test.YtabecgdaiakgiaaDoorQRead
namespace Go.Proofs.YtabecgdaiakgiaaDoor
open Go.RowKit

theorem src_built_at (w : World) (us : List Value) (h1 : ∀ u ∈ us, u.oneCell' = true) (k : Nat) (hk : w.heap.size = k) {m : Nat} (hm : us.length = m * 2 := by rfl) : Src Tryd.prog (w.alloc (.cells us.toArray 48)) 22 2 (.slice (some ⟨k, 0, none⟩) m m) m us := by
  subst hk
  exact Src.built us 48 Tryd.underlying22 hm h1
end Go.Proofs.YtabecgdaiakgiaaDoor
