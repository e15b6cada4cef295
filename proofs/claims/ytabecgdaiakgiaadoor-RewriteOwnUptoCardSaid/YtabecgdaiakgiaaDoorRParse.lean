/- the reference's Parse: a block is read as just what 'parseP' says. Condition: the size. -/
import Derived.Test.YtabecgdaiakgiaaDoorParse
import Derived.Test.YtabecgdaiakgiaaDoorRFirst2
import Derived.Deep.RegionHeld3
import Derived.IntWalk
namespace Go.Proofs.YtabecgdaiakgiaaDoor
open Go.RowKit

theorem ended_drop (l : Bs) (h : 4 ≤ l.length) : endedP l = decide (l.drop (l.length - 4) = [13, 10, 13, 10]) := by
  rw [endedP, Lib.hasSuffix, Bool.eq_iff_iff, decide_eq_true_eq, List.isSuffixOf_iff_suffix]
  constructor
  · rintro ⟨a, rfl⟩
    simp
  · intro e
    exact ⟨l.take (l.length - 4), by rw [← e, List.take_append_drop]⟩
theorem ended_short (l : Bs) (h : l.length < 4) : endedP l = false := by
  rw [endedP, Lib.hasSuffix, Bool.eq_false_iff]
  intro e
  rw [List.isSuffixOf_iff_suffix] at e
  have := e.length_le
  simp at this
  omega



end Go.Proofs.YtabecgdaiakgiaaDoor
