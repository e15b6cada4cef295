/- The reference's Token. -/
import Derived.Test.YtabecgdaiakgiaaDoorTok
namespace Go.Proofs.YtabecgdaiakgiaaDoor
open Go.RowKit

theorem marks_step (m : Nat) (h : m < ({ data := #[33, 35, 36, 37, 38, 39, 42, 43, 45, 46, 94, 95, 124, 126, 96] } : ByteArray).size) (c : UInt8) :
    (marks.take (m + 1)).contains c = ((marks.take m).contains c || ((({ data := #[33, 35, 36, 37, 38, 39, 42, 43, 45, 46, 94, 95, 124, 126, 96] } : ByteArray)[m].toNat : Int) == (c.toNat : Int))) := by
  have hm : m < marks.length := h
  have e : ({ data := #[33, 35, 36, 37, 38, 39, 42, 43, 45, 46, 94, 95, 124, 126, 96] } : ByteArray)[m] = marks[m]'hm := (byte_at { data := #[33, 35, 36, 37, 38, 39, 42, 43, 45, 46, 94, 95, 124, 126, 96] } m h).symm
  rw [List.take_succ_eq_append_getElem hm, ← e]
  rw [Bool.eq_iff_iff]
  simp only [List.contains_iff_mem, List.mem_append, List.mem_singleton, Bool.or_eq_true, beq_iff_eq]
  rw [← UInt8.toNat_inj]
  constructor <;> rintro (h1 | h1) <;> first | exact Or.inl h1 | exact Or.inr (by omega)

theorem tok_false {s : ByteArray} {k : Nat} (h : k < s.size) (h1 : isTok s[k] = false) : token s.data.toList = false := by
  have h2 : s[k] ∈ s.data.toList := by rw [← byte_at s k h]; exact List.getElem_mem _
  unfold token
  have h3 : s.data.toList.all isTok = false := by
    rw [List.all_eq_false]; exact ⟨s[k], h2, by simp [h1]⟩
  rw [h3, Bool.and_false]

end Go.Proofs.YtabecgdaiakgiaaDoor
