/- Decoded runes against bytes: where a test is on ASCII bytes alone, a walk by runes finds what a walk by bytes finds. No program in sight. No condition. -/
import Derived.Test.YtabecgdaiakgiaaDoorMA
import Derived.Lib.MapLaws
import Derived.Shelf.GgClosure.StringsIndexFunc
namespace Go.Proofs.YtabecgdaiakgiaaDoor

theorem getD_of {l : Bs} {i : Nat} {b : UInt8} (h : l[i]? = some b) : (l.getD i 0).toNat = b.toNat := by
  simp [List.getD, h]
/-- a byte decodes as itself; else the rune is beyond ASCII, and so are all its bytes -/
theorem dec_parts (s : ByteArray) (pos : Nat) (h : pos < s.size) :
    (∃ b, s.data.toList[pos]? = some b ∧ b.toNat < 128 ∧ Utf8.decode s pos = (b.toNat, 1)) ∨
    (128 ≤ (Utf8.decode s pos).1 ∧ 1 ≤ (Utf8.decode s pos).2 ∧ ∀ j b, j < (Utf8.decode s pos).2 → s.data.toList[pos + j]? = some b → 128 ≤ b.toNat) := by
  have hl : pos < s.data.toList.length := by rw [← Lib.size_eq]; exact h
  have h0 : s.data.toList[pos]? = some s.data.toList[pos] := List.getElem?_eq_getElem hl
  rw [Lib.decode_N]
  by_cases hb : s.data.toList[pos].toNat < 128
  · refine .inl ⟨_, h0, hb, ?_⟩
    have e := getD_of h0
    unfold Lib.decodeN
    rw [if_pos (by rw [e]; exact hb), e]
  · refine .inr ?_
    have e := getD_of h0
    have key : ∀ j b, s.data.toList[pos + j]? = some b → (s.data.toList.getD (pos + j) 0).toNat = b.toNat := fun j b hb => getD_of hb
    rcases Lib.decodeN_shape (s.data.toList.length - pos) (s.data.toList.getD pos 0).toNat (s.data.toList.getD (pos + 1) 0).toNat (s.data.toList.getD (pos + 2) 0).toNat (s.data.toList.getD (pos + 3) 0).toNat with x | x | x | x | x
    · omega
    · rw [x.2.2.2.2]
      refine ⟨by omega, by omega, fun j b hj hb => ?_⟩
      have k := key j b hb
      match j, hj with
      | 0, _ => rw [Nat.add_zero] at k; omega
      | 1, _ => omega
      | j + 2, hj => exact absurd hj (by show ¬ (j + 2 < 2); omega)
    · rw [x.2.2.2.2.2.2]
      refine ⟨by omega, by omega, fun j b hj hb => ?_⟩
      have k := key j b hb
      match j, hj with
      | 0, _ => rw [Nat.add_zero] at k; omega
      | 1, _ => omega
      | 2, _ => omega
      | j + 3, hj => exact absurd hj (by show ¬ (j + 3 < 3); omega)
    · rw [x.2.2.2.2.2.2.2]
      refine ⟨by omega, by omega, fun j b hj hb => ?_⟩
      have k := key j b hb
      match j, hj with
      | 0, _ => rw [Nat.add_zero] at k; omega
      | 1, _ => omega
      | 2, _ => omega
      | 3, _ => omega
      | j + 4, hj => exact absurd hj (by show ¬ (j + 4 < 4); omega)
    · rw [x]
      refine ⟨by omega, by omega, fun j b hj hb => ?_⟩
      have k := key j b hb
      match j, hj with
      | 0, _ => rw [Nat.add_zero] at k; omega
      | j + 1, hj => exact absurd hj (by show ¬ (j + 1 < 1); omega)

def unseen (x : Nat) : Bool := decide (x < 33) || decide (126 < x)
theorem isSeen_un (c : UInt8) : isSeen c = !(unseen c.toNat) := by
  unfold isSeen unseen
  simp only [UInt8.le_iff_toNat_le]
  have e1 : (33 : UInt8).toNat = 33 := rfl
  have e2 : (126 : UInt8).toNat = 126 := rfl
  rw [e1, e2, Bool.eq_iff_iff]
  simp
theorem idx_unseen (s : ByteArray) : ∀ (f pos : Nat), s.size ≤ pos + f → (Lib.idxFuncFrom unseen true s f pos = -1 ↔ ∀ c ∈ s.data.toList.drop pos, isSeen c = true)
  | 0, pos, h => by
    have e : s.data.toList.drop pos = [] := List.drop_eq_nil_of_le (by rw [← Lib.size_eq]; omega)
    rw [e]
    simp [Lib.idxFuncFrom]
  | f + 1, pos, h => by
    by_cases hp : pos < s.size
    · have hl : pos < s.data.toList.length := by rw [← Lib.size_eq]; exact hp
      unfold Lib.idxFuncFrom
      rw [if_pos hp]
      rcases dec_parts s pos hp with ⟨b, h0, hb, e⟩ | ⟨h1, h2, h3⟩
      · have ih := idx_unseen s f (pos + 1) (by omega)
        have ed : s.data.toList.drop pos = b :: s.data.toList.drop (pos + 1) := by
          rw [List.drop_eq_getElem_cons hl]
          congr 1
          rw [List.getElem?_eq_getElem hl] at h0
          exact Option.some.inj h0
        rw [e, ed]
        simp only
        by_cases hu : unseen b.toNat = true
        · rw [if_pos hu]
          constructor
          · intro x; omega
          · intro x
            have := x b (by simp)
            rw [isSeen_un, hu] at this
            cases this
        · rw [if_neg hu, ih]
          have hs : isSeen b = true := by rw [isSeen_un]; simpa using hu
          simp [hs]
      · have hu : unseen (Utf8.decode s pos).1 = true := by unfold unseen; simp; omega
        rw [if_pos hu]
        constructor
        · intro x; omega
        · intro x
          have h0 : s.data.toList[pos + 0]? = some s.data.toList[pos] := List.getElem?_eq_getElem hl
          have hb := h3 0 _ (by omega) h0
          have := x s.data.toList[pos] (by rw [List.drop_eq_getElem_cons hl]; simp)
          generalize s.data.toList[pos] = b at this hb
          rw [isSeen_un] at this
          unfold unseen at this
          simp at this
          omega
    · have e : s.data.toList.drop pos = [] := List.drop_eq_nil_of_le (by rw [← Lib.size_eq]; omega)
      rw [e, Lib.idxFuncFrom_end _ _ _ _ _ hp]
      simp
/-- strings.ContainsFunc with 'outside of ! .. ~' is 'not all are seen' -/
theorem contains_unseen (s : ByteArray) : decide (0 ≤ Lib.idxFunc unseen true s) = !(s.data.toList.all isSeen) := by
  have h := idx_unseen s s.size 0 (by omega)
  have hr := Lib.idxFuncFrom_range unseen true s s.size 0
  rw [List.drop_zero] at h
  unfold Lib.idxFunc
  rw [Bool.eq_iff_iff, decide_eq_true_eq, Bool.not_eq_true', ← Bool.not_eq_true, List.all_eq_true, ← h]
  omega
end Go.Proofs.YtabecgdaiakgiaaDoor
