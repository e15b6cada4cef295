/- the law HeadAsks. -/
import Derived.Test.YtabecgdaiakgiaaDoorTexts
import Derived.Test.YtabecgdaiakgiaaDoorTok2
import Derived.Test.YtabecgdaiakgiaaDoorFields2
import Derived.Test.YtabecgdaiakgiaaDoorList2
import Derived.Test.YtabecgdaiakgiaaDoorSame
import Derived.Test.YtabecgdaiakgiaaDoorVars
namespace Go.Proofs.YtabecgdaiakgiaaDoor
open Go.RowKit

theorem info53 : (Tryd.prog.info? 48).map (fun i => (i.zero, i.size, i.bytes)) = some (some (.agg #[.string ⟨#[]⟩, .string ⟨#[]⟩]), 2, 32) := by kernel_rfl
theorem fieldsV_one (l : List Fl) : ∀ u ∈ fieldsV l, u.oneCell' = true := by
  intro u hu
  obtain ⟨f, _, h⟩ := List.mem_flatMap.1 hu
  simp at h
  rcases h with rfl | rfl <;> rfl

end Go.Proofs.YtabecgdaiakgiaaDoor
