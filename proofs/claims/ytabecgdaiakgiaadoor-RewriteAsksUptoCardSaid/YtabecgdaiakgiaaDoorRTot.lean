/- How great the values of a name are. No program in sight. No condition. -/
import Derived.Test.YtabecgdaiakgiaaDoorRwLaw
import Derived.Test.YtabecgdaiakgiaaDoorText
namespace Go.Proofs.YtabecgdaiakgiaaDoor
theorem vals_total (fs : List Fl) (name : ByteArray) : total (vals fs name) ≤ flSize fs := by
  unfold total vals flSize
  induction fs with
  | nil => exact Nat.zero_le _
  | cons f fs ih =>
    rw [List.filter_cons]
    split
    · simp only [List.map_cons, List.sum_cons] at ih ⊢; omega
    · simp only [List.map_cons, List.sum_cons] at ih ⊢; omega
end Go.Proofs.YtabecgdaiakgiaaDoor
