/- the law HeadSmuggles. Conditions: the size, the library's variable. -/
import Derived.Test.YtabecgdaiakgiaaDoorAwake
namespace Go.Proofs.YtabecgdaiakgiaaDoor
open Go.RowKit

theorem pairs_drop (l : Bs) (k : Nat) (h : k + 1 < l.length) : pairs (l.drop k) = (if l[k] = 13 ∧ l[k + 1] = 10 then 1 else 0) + pairs (l.drop (k + 1)) := by
  rw [List.drop_eq_getElem_cons (show k < l.length by omega), List.drop_eq_getElem_cons h, pairs]
theorem pairs_end (l : Bs) (k : Nat) (h : l.length ≤ k + 1) : pairs (l.drop k) = 0 := by
  by_cases e : k < l.length
  · rw [List.drop_eq_getElem_cons e, show l.drop (k + 1) = [] from List.drop_of_length_le (by omega), pairs]
  · rw [List.drop_of_length_le (by omega), pairs]
theorem pairs_le : ∀ l : Bs, pairs l ≤ l.length
  | [] => Nat.le_refl _
  | [_] => Nat.zero_le _
  | c :: d :: t => by
    have := pairs_le (d :: t)
    rw [pairs]
    split <;> simp at this ⊢ <;> omega
theorem infoU8 : (Tryd.prog.info? 5).map (fun i => (i.zero, i.size, i.bytes)) = some (some (.int .u8 0), 1, 1) := by kernel_rfl
theorem good_append {a b : ByteArray} (h1 : allGood a.data.toList = true) (h2 : allGood b.data.toList = true) : allGood (a ++ b).data.toList = true := by
  have e : (a ++ b).data.toList = a.data.toList ++ b.data.toList := by simp
  unfold allGood at *
  rw [e, List.all_append, h1, h2]; rfl

end Go.Proofs.YtabecgdaiakgiaaDoor
