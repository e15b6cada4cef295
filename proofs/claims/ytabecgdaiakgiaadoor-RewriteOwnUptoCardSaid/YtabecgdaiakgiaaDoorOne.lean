/- the law HeadOne. Conditions: the size, the library's variables. -/
import Derived.Test.YtabecgdaiakgiaaDoorWrites
import Derived.Test.YtabecgdaiakgiaaDoorAwake
namespace Go.Proofs.YtabecgdaiakgiaaDoor
open Go.RowKit

theorem parse_err {l : Bs} {rq : Bool} {h : Hd} {e : Nat} (hp : parseP l rq = (h, e)) (he : e ≠ 0) : h = {} := by
  unfold parseP at hp
  split at hp
  · cases hp; rfl
  · split at hp
    · cases hp; rfl
    · split at hp
      · cases hp; rfl
      · cases hf : firstP rq ((lines [] l).headD []) with
        | none => rw [hf] at hp; cases hp; rfl
        | some g =>
          rw [hf] at hp
          simp only at hp
          split at hp
          · cases hp; exact absurd rfl he
          · cases hp; rfl
theorem first_nums {rq : Bool} {l : Bs} {h : Hd} (hf : firstP rq l = some h) : h.st ≤ 599 ∧ h.mn ≤ 1 := by
  have hm : ∀ (c : Bs) (k : Nat), minorP c = some k → k ≤ 1 := fun c k h => by
    rcases minor_shape h with ⟨e, _⟩ | ⟨e, _⟩ <;> omega
  unfold firstP at hf
  cases h1 : cutAt 32 l with
  | none => rw [h1] at hf; cases hf
  | some p =>
    obtain ⟨a, r⟩ := p
    rw [h1] at hf
    simp only at hf
    cases h2 : cutAt 32 r with
    | none => rw [h2] at hf; cases hf
    | some p =>
      obtain ⟨b, c⟩ := p
      rw [h2] at hf
      simp only at hf
      cases rq with
      | true =>
        simp only [if_true] at hf
        cases h3 : minorP c with
        | none => rw [h3] at hf; cases hf
        | some k =>
          rw [h3] at hf
          simp only at hf
          split at hf
          · cases hf; exact ⟨Nat.zero_le _, hm c k h3⟩
          · cases hf
      | false =>
        simp only [Bool.false_eq_true, if_false] at hf
        cases h3 : minorP a with
        | none => rw [h3] at hf; cases hf
        | some k =>
          rw [h3] at hf
          simp only at hf
          split at hf
          · rename_i c4; cases hf; exact ⟨c4.2.2.2.2, hm a k h3⟩
          · cases hf
theorem parse_nums {l : Bs} {rq : Bool} {h : Hd} {e : Nat} (hp : parseP l rq = (h, e)) : h.st ≤ 599 ∧ h.mn ≤ 1 := by
  by_cases he : e = 0
  · subst he
    obtain ⟨h0, hf, hh, _, _⟩ := parse_inv hp
    obtain ⟨k1, k2⟩ := first_nums hf
    rw [hh]; exact ⟨k1, k2⟩
  · rw [parse_err hp he]; exact ⟨Nat.zero_le _, Nat.zero_le _⟩
/-- sizes of what is parsed -/
theorem parse_sizes {l : Bs} {rq : Bool} {h : Hd} {e : Nat} (hp : parseP l rq = (h, e)) : h.m.length + h.t.length + h.rs.length ≤ 49152 ∧ flSize (flB h.fs) ≤ 2097408 ∧ h.fs.length ≤ 64 := by
  by_cases he : e = 0
  · subst he
    obtain ⟨_, k2, _, _, _, k6, k7, k8, k9⟩ := smuggle hp
    have hl : l.length ≤ 16384 := (parse_yes (by rw [hp])).1
    refine ⟨by omega, ?_, k2⟩
    have key : ∀ fs : List (Bs × Bs), (∀ f ∈ fs, f.1.length ≤ 16384 ∧ f.2.length ≤ 16384) → flSize (flB fs) ≤ fs.length * 32772 := by
      intro fs
      induction fs with
      | nil => intro _; exact Nat.zero_le _
      | cons f fs ih =>
        intro hf
        have h1 := ih fun g hg => hf g (by simp [hg])
        have h2 := hf f (by simp)
        have e : flSize (flB (f :: fs)) = (f.1.length + f.2.length + 4) + flSize (flB fs) := rfl
        rw [e, List.length_cons]
        omega
    have := key h.fs fun f hf => by have := k9 f hf; omega
    omega
  · rw [parse_err hp he]; exact ⟨Nat.zero_le _, Nat.zero_le _, Nat.zero_le _⟩
theorem hiOf_up (h : Hd) : hiOf h.rq ⟨h.m.toArray⟩ ⟨h.t.toArray⟩ (h.st : Int) ⟨h.rs.toArray⟩ (h.mn : Int) (flB h.fs) = h.up := by
  have := eqH_up h h.rq ⟨h.m.toArray⟩ ⟨h.t.toArray⟩ (h.st : Int) ⟨h.rs.toArray⟩ (h.mn : Int) (flB h.fs)
  have e : eqH h.rq h.rq ⟨h.m.toArray⟩ ⟨h.m.toArray⟩ ⟨h.t.toArray⟩ ⟨h.t.toArray⟩ (h.st : Int) h.st ⟨h.rs.toArray⟩ ⟨h.rs.toArray⟩ (h.mn : Int) h.mn (flB h.fs) (flB h.fs) = true := by unfold eqH; simp
  rw [e] at this
  exact (of_decide_eq_true this.symm).symm
theorem isInt_small (n : Nat) (h : n ≤ 1000000) : isInt (n : Int) := by unfold isInt; omega
/-- head.Write of what was parsed -/
theorem hWrite_hd {l : Bs} {rq : Bool} {h : Hd} {e : Nat} (hp : parseP l rq = (h, e)) (A : Option Addr) (c : Nat) (w : World) (hsh : w.ShapedOpen Tryd.prog) (htab : Tab w) (hrd : Rd w w.heap.size 2 A h.fs.length (fieldsV (flB h.fs))) :
    Calls Tryd.prog 36 #[.agg #[.bool h.rq, .string ⟨h.m.toArray⟩, .string ⟨h.t.toArray⟩, .int .i64 (h.st : Int), .string ⟨h.rs.toArray⟩, .int .i64 (h.mn : Int), .slice A h.fs.length c]] w (WritePost w h.up) := by
  obtain ⟨k1, k2⟩ := parse_nums hp
  obtain ⟨k3, k4, k5⟩ := parse_sizes hp
  have := hWrite_any h.rq ⟨h.m.toArray⟩ ⟨h.t.toArray⟩ (h.st : Int) ⟨h.rs.toArray⟩ (h.mn : Int) A h.fs.length c (flB h.fs) w hsh htab hrd (isInt_small _ (by omega)) (isInt_small _ (by omega)) (by omega) (by show h.m.length + h.t.length + h.rs.length ≤ _; omega) (by omega)
  rw [hiOf_up] at this
  exact this

end Go.Proofs.YtabecgdaiakgiaaDoor
