/- Plain law: no line can be smuggled into a head that is parsed. No program in sight. -/
import Derived.Test.YtabecgdaiakgiaaDoorSmall
namespace Go.Proofs.YtabecgdaiakgiaaDoor

def isGood (c : UInt8) : Bool := decide (c.toNat ≠ 13 ∧ c.toNat ≠ 10 ∧ c.toNat ≠ 0)
def allGood (l : Bs) : Bool := l.all isGood

/-- pairs 13 10, at whatever place -/
def pairs : Bs → Nat
  | [] => 0
  | [_] => 0
  | c :: d :: t => (if c = 13 ∧ d = 10 then 1 else 0) + pairs (d :: t)
theorem pairs_ten (t : Bs) : pairs (10 :: t) = pairs t := by
  cases t with
  | nil => rfl
  | cons d t => rw [pairs, if_neg (fun h => absurd h.1 (by decide)), Nat.zero_add]
theorem lines_pairs : ∀ (l cur : Bs), (lines cur l).length = pairs l + 1
  | [], cur => rfl
  | [c], cur => rfl
  | c :: d :: t, cur => by
    rw [lines, pairs]
    by_cases h : c = 13 ∧ d = 10
    · rw [if_pos h, if_pos h, List.length_cons, lines_pairs t [], h.2, pairs_ten]; omega
    · rw [if_neg h, if_neg h, lines_pairs (d :: t) _]; omega

theorem good_of {l : Bs} (p : UInt8 → Bool) (h : l.all p = true) (hp : ∀ c, p c = true → isGood c = true) : allGood l = true := by
  unfold allGood
  rw [List.all_eq_true] at h ⊢
  exact fun c hc => hp c (h c hc)
theorem marks_nat : ∀ c ∈ marks, 33 ≤ c.toNat := by decide
theorem tok_good (c : UInt8) (h : isTok c = true) : isGood c = true := by
  rw [isTok_eq, Bool.or_eq_true, decide_eq_true_eq] at h
  unfold isGood
  rw [decide_eq_true_eq]
  rcases h with h | h
  · unfold letterI at h; omega
  · have := marks_nat c (by simpa using h)
    omega
theorem text_good (c : UInt8) (h : isText c = true) : isGood c = true := by
  rw [isText_eq, decide_eq_true_eq] at h
  unfold isGood
  rw [decide_eq_true_eq]
  omega
theorem reason_good (c : UInt8) (h : isReason c = true) : isGood c = true := by
  rw [isReason_eq, decide_eq_true_eq] at h
  unfold isGood
  rw [decide_eq_true_eq]
  omega
theorem seen_good (c : UInt8) (h : isSeen c = true) : isGood c = true := by
  simp only [isSeen, UInt8.le_iff_toNat_le, Bool.and_eq_true, decide_eq_true_eq] at h
  have e1 : (33 : UInt8).toNat = 33 := rfl
  unfold isGood
  rw [decide_eq_true_eq]
  omega
theorem token_good {l : Bs} (h : token l = true) : allGood l = true := by
  unfold token at h
  rw [Bool.and_eq_true] at h
  exact good_of isTok h.2 tok_good

theorem first_good {rq : Bool} {l : Bs} {h : Hd} (hf : firstP rq l = some h) : allGood h.m = true ∧ allGood h.t = true ∧ allGood h.rs = true ∧ h.m.length ≤ l.length ∧ h.t.length ≤ l.length ∧ h.rs.length ≤ l.length := by
  unfold firstP at hf
  cases h1 : cutAt 32 l with
  | none => rw [h1] at hf; cases hf
  | some p =>
    obtain ⟨a, r⟩ := p
    obtain ⟨e1, _⟩ := cutAt_some.1 h1
    rw [h1] at hf
    simp only at hf
    cases h2 : cutAt 32 r with
    | none => rw [h2] at hf; cases hf
    | some p =>
      obtain ⟨b, c⟩ := p
      obtain ⟨e2, _⟩ := cutAt_some.1 h2
      rw [h2] at hf
      simp only at hf
      have hl : l.length = a.length + 1 + (b.length + 1 + c.length) := by rw [e1, e2]; simp; omega
      cases rq with
      | true =>
        simp only [if_true] at hf
        cases h3 : minorP c with
        | none => rw [h3] at hf; cases hf
        | some k =>
          rw [h3] at hf
          simp only at hf
          by_cases h4 : token a = true ∧ b ≠ [] ∧ b.all isSeen = true
          · rw [if_pos h4] at hf
            cases hf
            exact ⟨token_good h4.1, good_of isSeen h4.2.2 seen_good, rfl, by simp only; omega, by simp only; omega, Nat.zero_le _⟩
          · rw [if_neg h4] at hf; cases hf
      | false =>
        simp only [Bool.false_eq_true, if_false] at hf
        cases h3 : minorP a with
        | none => rw [h3] at hf; cases hf
        | some k =>
          rw [h3] at hf
          simp only at hf
          by_cases h4 : b.length = 3 ∧ c.all isReason = true ∧ b.all isDigit = true ∧ 100 ≤ numP b ∧ numP b ≤ 599
          · rw [if_pos h4] at hf
            cases hf
            exact ⟨rfl, rfl, good_of isReason h4.2.1 reason_good, Nat.zero_le _, Nat.zero_le _, by simp only; omega⟩
          · rw [if_neg h4] at hf; cases hf
theorem field_good {s n v : Bs} (hf : fieldP s = some (n, v)) : token n = true ∧ allGood n = true ∧ allGood v = true ∧ n.length ≤ s.length ∧ v.length ≤ s.length := by
  unfold fieldP at hf
  cases h1 : cutAt 58 s with
  | none => rw [h1] at hf; cases hf
  | some p =>
    obtain ⟨a, b⟩ := p
    obtain ⟨e1, _⟩ := cutAt_some.1 h1
    rw [h1] at hf
    simp only at hf
    by_cases h2 : token a = true ∧ (trim b).all isText = true
    · rw [if_pos h2] at hf
      have := trim_le b
      have hl : s.length = a.length + 1 + b.length := by rw [e1]; simp; omega
      cases hf
      exact ⟨h2.1, token_good h2.1, good_of isText h2.2 text_good, by omega, by omega⟩
    · rw [if_neg h2] at hf; cases hf

theorem filter_some {l : List Bs} (h : ∀ s ∈ l, (fieldP s).isSome = true) : (l.filterMap fieldP).length = l.length := by
  induction l with
  | nil => rfl
  | cons s l ih =>
    have h1 := h s (by simp)
    obtain ⟨x, hx⟩ := Option.isSome_iff_exists.1 h1
    rw [List.filterMap_cons, hx]
    simp only [List.length_cons]
    rw [ih fun y hy => h y (by simp [hy])]

/-- THE LAW. -/
theorem smuggle {l : Bs} {rq : Bool} {h : Hd} (hp : parseP l rq = (h, 0)) :
    pairs l = h.fs.length + 2 ∧ h.fs.length ≤ 64 ∧ allGood h.m = true ∧ allGood h.t = true ∧ allGood h.rs = true ∧ h.m.length ≤ l.length ∧ h.t.length ≤ l.length ∧ h.rs.length ≤ l.length ∧
      ∀ f ∈ h.fs, token f.1 = true ∧ allGood f.1 = true ∧ allGood f.2 = true ∧ f.1.length ≤ l.length ∧ f.2.length ≤ l.length := by
  unfold parseP at hp
  split at hp
  · cases hp
  · rename_i c0
    split at hp
    · cases hp
    · rename_i c1
      split at hp
      · cases hp
      · rename_i c2
        cases h1 : firstP rq ((lines [] l).headD []) with
        | none => rw [h1] at hp; cases hp
        | some g =>
          rw [h1] at hp
          simp only at hp
          split at hp
          · rename_i c3
            have hen : endedP l = true := by simpa using c2
            have h2 := (ended_iff l).1 hen
            have hb : bodyP (lines [] l).tail = (lines [] l).tail.take ((lines [] l).tail.length - 2) := by
              unfold bodyP; exact if_pos h2
            have hlen := lines_pairs l []
            have hne := lines_ne l []
            have hg := first_good h1
            have hlin := lines_le l []
            have hh : ((lines [] l).headD []).length ≤ l.length := by
              cases hq : lines [] l with
              | nil => exact absurd hq hne
              | cons p x =>
                have := hlin p (by rw [hq]; simp)
                simpa using this
            have hfl := filter_some c3
            have hbl : (bodyP (lines [] l).tail).length = pairs l - 2 := by
              rw [hb, List.length_take, List.length_tail]; omega
            have h2l : 2 ≤ (lines [] l).tail.length := h2.1
            rw [List.length_tail] at h2l
            cases hp
            refine ⟨by simp only; omega, by simp only; omega, hg.1, hg.2.1, hg.2.2.1, by simp only; omega, by simp only; omega, by simp only; omega, fun f hf => ?_⟩
            obtain ⟨s, hs, hfs⟩ := List.mem_filterMap.1 hf
            obtain ⟨f1, f2⟩ := f
            obtain ⟨k1, k2, k3, k4, k5⟩ := field_good hfs
            have hsl : s.length ≤ l.length := by
              have hm : s ∈ lines [] l := by
                rw [hb] at hs
                exact List.mem_of_mem_tail (List.mem_of_mem_take hs)
              simpa using hlin s hm
            exact ⟨k1, k2, k3, by simp only; omega, by simp only; omega⟩
          · cases hp
end Go.Proofs.YtabecgdaiakgiaaDoor
