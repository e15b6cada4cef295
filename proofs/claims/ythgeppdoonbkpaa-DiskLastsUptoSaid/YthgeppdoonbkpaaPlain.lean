/- Plain words on bytes: tokens, folding, trimming. No program in sight. No condition. -/
import Derived.Lib.Split
import Derived.Lib.SplitLaws
import Derived.Lib.SlTrimSet
import Derived.Lib.IndexLaws
import Derived.Lib.IndexAny
namespace Go.Proofs.Ythgeppdoonbkpaa
abbrev Bs := List UInt8

/-- bytes of a token (P22.4) -/
def marks : Bs := [33, 35, 36, 37, 38, 39, 42, 43, 45, 46, 94, 95, 124, 126, 96]
def isTok (c : UInt8) : Bool := (97 ≤ c && c ≤ 122) || (65 ≤ c && c ≤ 90) || (48 ≤ c && c ≤ 57) || marks.contains c
def token (l : Bs) : Bool := !l.isEmpty && l.all isTok
def small (c : UInt8) : UInt8 := if 65 ≤ c && c ≤ 90 then c + 32 else c
def fold (l : Bs) : Bs := l.map small
def isBlank (c : UInt8) : Bool := c == 32 || c == 9
def trim (l : Bs) : Bs := ((l.reverse.dropWhile isBlank).reverse).dropWhile isBlank

theorem trimS_trim (l : Bs) : Lib.trimS l [32, 9] = trim l := by
  have e : (fun c : UInt8 => ([32, 9] : Bs).contains c) = isBlank := by
    funext c
    rw [Bool.eq_iff_iff]
    simp [isBlank]
  simp only [Lib.trimS, Lib.trimLeftS, Lib.trimRightS, trim, e]

/-- the tests on a byte, as the walk asks them of its number -/
def letterI (x : Nat) : Prop := (97 ≤ x ∧ x ≤ 122) ∨ (65 ≤ x ∧ x ≤ 90) ∨ (48 ≤ x ∧ x ≤ 57)
instance (x : Nat) : Decidable (letterI x) := by unfold letterI; infer_instance
theorem isTok_eq (c : UInt8) : isTok c = (decide (letterI c.toNat) || marks.contains c) := by
  simp only [isTok, UInt8.le_iff_toNat_le]
  have e1 : (97 : UInt8).toNat = 97 := rfl
  have e2 : (122 : UInt8).toNat = 122 := rfl
  have e3 : (65 : UInt8).toNat = 65 := rfl
  have e4 : (90 : UInt8).toNat = 90 := rfl
  have e5 : (48 : UInt8).toNat = 48 := rfl
  have e6 : (57 : UInt8).toNat = 57 := rfl
  rw [Bool.eq_iff_iff]
  simp only [e1, e2, e3, e4, e5, e6, Bool.or_eq_true, Bool.and_eq_true, decide_eq_true_eq]
  unfold letterI
  simp only [or_assoc]
theorem small_toNat (c : UInt8) : (small c).toNat = if 65 ≤ c.toNat ∧ c.toNat ≤ 90 then c.toNat + 32 else c.toNat := by
  simp only [small, UInt8.le_iff_toNat_le]
  have e3 : (65 : UInt8).toNat = 65 := rfl
  have e4 : (90 : UInt8).toNat = 90 := rfl
  simp only [e3, e4]
  by_cases h : 65 ≤ c.toNat ∧ c.toNat ≤ 90
  · have h1 : (decide (65 ≤ c.toNat) && decide (c.toNat ≤ 90)) = true := by simp [h]
    rw [if_pos h1, if_pos h, UInt8.toNat_add]
    have : (32 : UInt8).toNat = 32 := rfl
    rw [this]
    omega
  · have h1 : ¬ (decide (65 ≤ c.toNat) && decide (c.toNat ≤ 90)) = true := by simp only [Bool.and_eq_true, decide_eq_true_eq]; exact h
    rw [if_neg h1, if_neg h]

theorem fold_snoc (l : Bs) (c : UInt8) : fold (l ++ [c]) = fold l ++ [small c] := by simp [fold]
theorem fold_len (l : Bs) : (fold l).length = l.length := by simp [fold]

/-- Lib.indexByte on marks -/
theorem index_marks (c : UInt8) : decide (0 ≤ Lib.indexByte marks c) = marks.contains c := (Lib.contains_iff_indexByte marks c).symm

def trimL (l : Bs) : Bs := l.dropWhile isBlank
def trimR (l : Bs) : Bs := (l.reverse.dropWhile isBlank).reverse
theorem trim_eq (l : Bs) : trim l = trimL (trimR l) := rfl
theorem trimR_cons (c : UInt8) (t : Bs) : trimR (c :: t) = if trimR t = [] ∧ isBlank c = true then [] else c :: trimR t := by
  unfold trimR
  rw [List.reverse_cons, List.dropWhile_append]
  by_cases h : (t.reverse.dropWhile isBlank).isEmpty = true
  · have h' : t.reverse.dropWhile isBlank = [] := by simpa using h
    rw [if_pos h, h']
    by_cases hc : isBlank c = true
    · simp [hc]
    · simp [hc]
  · have h' : t.reverse.dropWhile isBlank ≠ [] := by simpa using h
    rw [if_neg h, if_neg (by simp [h'])]
    simp
theorem trim_comm (l : Bs) : trimR (trimL l) = trimL (trimR l) := by
  induction l with
  | nil => rfl
  | cons c t ih =>
    by_cases hc : isBlank c = true
    · have e : trimL (c :: t) = trimL t := by simp [trimL, hc]
      rw [e, ih, trimR_cons]
      by_cases h : trimR t = []
      · rw [if_pos ⟨h, hc⟩, h]
      · rw [if_neg (fun x => h x.1)]; simp [trimL, hc]
    · have e : trimL (c :: t) = c :: t := by simp [trimL, hc]
      rw [e, trimR_cons, if_neg (fun x => hc x.2)]
      simp [trimL, hc]
theorem trimL_step (c : UInt8) (t : Bs) (h : isBlank c = true) : trimL (c :: t) = trimL t := by simp [trimL, h]
theorem trimL_stop (c : UInt8) (t : Bs) (h : isBlank c = false) : trimL (c :: t) = c :: t := by simp [trimL, h]
theorem trimR_step (l : Bs) (c : UInt8) (h : isBlank c = true) : trimR (l ++ [c]) = trimR l := by simp [trimR, h]
theorem trimR_stop (l : Bs) (c : UInt8) (h : isBlank c = false) : trimR (l ++ [c]) = l ++ [c] := by simp [trimR, h]
theorem trim_le (l : Bs) : (trim l).length ≤ l.length := by
  unfold trim
  exact Nat.le_trans (List.dropWhile_sublist _).length_le (by simpa using (List.dropWhile_sublist (p := isBlank) (l := l.reverse)).length_le)
end Go.Proofs.Ythgeppdoonbkpaa
