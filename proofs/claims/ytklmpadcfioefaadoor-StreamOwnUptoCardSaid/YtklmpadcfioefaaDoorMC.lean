/- the reference's Path. Conditions: sizes. -/
import Derived.Test.YtklmpadcfioefaaDoorMB
import Derived.Test.YtklmpadcfioefaaDoorMA
import Derived.Test.YtklmpadcfioefaaDoorMA
import Derived.Test.YtklmpadcfioefaaDoorMB
namespace Go.Proofs.YtklmpadcfioefaaDoor
open Go.RowKit

theorem str_get {t : ByteArray} {i : Nat} (h : i < t.size) : t.data.toList[i]? = some t[i] := Lib.data_getElem? t i h
theorem extract7 (t : ByteArray) (k : Nat) : (t.extract k t.size).data.toList = t.data.toList.drop k := by
  rw [Lib.extract_data, List.take_of_length_le]
  rw [List.length_drop, ← Lib.size_eq]
  omega
theorem extract_pre (t : ByteArray) (k : Nat) : (t.extract 0 k).data.toList = t.data.toList.take k := by
  rw [Lib.extract_data]; simp
def pathV (p : Option Bs) : Value := .tuple #[.string ⟨(p.getD []).toArray⟩, .bool p.isSome]
theorem cut_step {t : ByteArray} {k : Nat} (h : k < t.size) : cutP (t.data.toList.drop k) = if t[k] = 47 then t.data.toList.drop k else if t[k] = 63 then 47 :: t.data.toList.drop k else cutP (t.data.toList.drop (k + 1)) := by
  have hl : k < t.data.toList.length := by rw [← Lib.size_eq]; exact h
  have e : t.data.toList[k] = t[k] := by
    have := str_get h
    rw [List.getElem?_eq_getElem hl] at this
    exact Option.some.inj this
  rw [List.drop_eq_getElem_cons hl, cutP, e]

theorem path_no8 {l : Bs} (h1 : l ≠ [42]) (h2 : l.head? ≠ some 47) (h3 : l.length < 8 ∨ fold (l.take 7) ≠ bHttp ∨ l[7]? = some 47 ∨ l[7]? = some 63) : pathP l = none := by
  unfold pathP
  rw [if_neg (by rintro (h | h); exact h1 h; exact h2 h), if_pos h3]
theorem path_cut {l : Bs} (h1 : l ≠ [42]) (h2 : l.head? ≠ some 47) (h3 : ¬ (l.length < 8 ∨ fold (l.take 7) ≠ bHttp ∨ l[7]? = some 47 ∨ l[7]? = some 63)) : pathP l = some (cutP (l.drop 7)) := by
  unfold pathP
  rw [if_neg (by rintro (h | h); exact h1 h; exact h2 h), if_neg h3]
theorem path_slash {l : Bs} (h : l.head? = some 47) : pathP l = some l := by
  unfold pathP
  rw [if_pos (Or.inr h)]
theorem head_ne {t : ByteArray} (h : ∀ h0 : 0 < t.size, t[0] ≠ 47) : t.data.toList.head? ≠ some 47 := by
  rw [List.head?_eq_getElem?]
  by_cases h0 : 0 < t.size
  · rw [str_get h0]; intro e; exact h h0 (Option.some.inj e)
  · rw [List.getElem?_eq_none (by rw [← Lib.size_eq]; omega)]; intro e; cases e
theorem str_mk {t : ByteArray} {l : Bs} (h : t.data.toList = l) : t = ⟨l.toArray⟩ := byte_ext.2 h
theorem data_app (a b : ByteArray) : (a ++ b).data.toList = a.data.toList ++ b.data.toList := by simp
theorem byte_ne {c d : UInt8} (h : c ≠ d) : ((c.toNat : Int) == (d.toNat : Int)) = false := by
  rw [beq_eq_false_iff_ne]
  intro e
  exact h (UInt8.toNat_inj.1 (by omega))

end Go.Proofs.YtklmpadcfioefaaDoor
