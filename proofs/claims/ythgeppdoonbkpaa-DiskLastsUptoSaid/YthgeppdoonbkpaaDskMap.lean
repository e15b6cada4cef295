/- A directory as a map's datum. No condition. -/
import Derived.Test.YthgeppdoonbkpaaDsk
import Derived.Maps.OwnSet
namespace Go.Proofs.Ythgeppdoonbkpaa
namespace Dsk
open Go
theorem before_lt : ∀ (a b : Bs), bytesBefore a b = decide (a < b)
  | [], [] => by simp [bytesBefore]
  | [], _ :: _ => by simp [bytesBefore]
  | _ :: _, [] => by simp [bytesBefore]
  | x :: a, y :: b => by
    have ih := before_lt a b
    unfold bytesBefore
    rw [ih, Bool.eq_iff_iff]
    simp only [Bool.or_eq_true, Bool.and_eq_true, decide_eq_true_eq, beq_iff_eq]
    rw [List.cons_lt_cons_iff]
/-- block F i is what the file i is -/
def ent (F : Nat → Nat) (p : Bs × Nat) : Lit × DataW Unit := (.string p.1, .lit (.int .i64 (F p.2 : Nat)))
def mapD (F : Nat → Nat) (l : Dir) : DataW Unit := .map (l.map (ent F))
theorem same_key (F : Nat → Nat) (p : Bs × Nat) (n : Bs) : (ent F p).1.sameKey (.string n) = decide (p.1 = n) := by
  unfold ent Lit.sameKey
  simp
  by_cases h : p.1 = n <;> simp [h]
theorem mapD_get (F : Nat → Nat) (l : Dir) (n : Bs) (z : DataW Unit) : (mapD F l).atKey (.string n) z = match get l n with | some i => .lit (.int .i64 (F i : Nat)) | none => z := by
  unfold mapD DataW.atKey
  dsimp only
  induction l with
  | nil => rfl
  | cons p l ih =>
    obtain ⟨x, i⟩ := p
    rw [List.map_cons, List.find?_cons, same_key]
    unfold get
    by_cases h : x = n
    · simp [h, ent]
    · simp only [h, decide_false, if_false]
      exact ih
theorem mapD_del (F : Nat → Nat) (l : Dir) (n : Bs) : (mapD F l).del (.string n) = mapD F (del l n) := by
  unfold mapD DataW.del del
  dsimp only
  rw [List.filter_map]
  congr 2
  apply List.filter_congr
  intro p _
  simp only [Function.comp, same_key]
  by_cases h : p.1 = n <;> simp [h]
theorem ins_map (F : Nat → Nat) (l : Dir) (n : Bs) (i : Nat) : DataW.insert (ent F (n, i)) (l.map (ent F)) = (ins l n i).map (ent F) := by
  induction l with
  | nil => rfl
  | cons p l ih =>
    obtain ⟨x, j⟩ := p
    rw [List.map_cons]
    unfold DataW.insert ins
    have e : (ent F (n, i)).1.before (ent F (x, j)).1 = decide (n < x) := before_lt n x
    rw [e]
    by_cases h : n < x
    · simp [h]
    · simp [h, ih]
theorem mapD_put (F : Nat → Nat) (l : Dir) (n : Bs) (i : Nat) : (mapD F l).put (.string n) (.lit (.int .i64 (F i : Nat))) = mapD F (put l n i) := by
  have h := mapD_del F l n
  unfold mapD DataW.del at h
  dsimp only at h
  injection h with h
  unfold mapD DataW.put put
  dsimp only
  rw [h]
  exact congrArg DataW.map (ins_map F (del l n) n i)
theorem mapD_size (F : Nat → Nat) (l : Dir) : Maps.size (mapD F l) = l.length := by unfold mapD; rw [Maps.size_eq, List.length_map]
theorem mapD_congr {F F' : Nat → Nat} {l : Dir} (h : ∀ p ∈ l, F p.2 = F' p.2) : mapD F l = mapD F' l := by
  unfold mapD
  congr 1
  apply List.map_congr_left
  intro p hp
  unfold ent
  rw [h p hp]
end Dsk
end Go.Proofs.Ythgeppdoonbkpaa
