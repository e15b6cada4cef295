/- the reference's Lines: what stands between pairs of 13, 10. Conditions: the size, and that the bytes can be read. -/
import Derived.Test.YtklmpadcfioefaaDoorMB
import Derived.Test.YtklmpadcfioefaaDoorMA
namespace Go.Proofs.YtklmpadcfioefaaDoor
open Go.RowKit

theorem lines_end (l : Bs) (f q : Nat) (hf : f ≤ q) (hq : q ≤ l.length) (h : l.length ≤ q + 1) : lines (cur l f q) (l.drop q) = [l.drop f] := by
  by_cases e : q = l.length
  · subst e
    rw [List.drop_length, lines, cur, List.take_of_length_le (by rw [List.length_drop]; omega)]
  · have hlt : q < l.length := by omega
    rw [List.drop_eq_getElem_cons hlt, show l.drop (q + 1) = [] from List.drop_of_length_le (by omega), lines, ← cur_next l f q hf hlt, cur, List.take_of_length_le (by rw [List.length_drop]; omega)]
theorem lines_hit (l : Bs) (f q : Nat) (hq : q + 1 < l.length) (h1 : l[q] = 13) (h2 : l[q + 1] = 10) : lines (cur l f q) (l.drop q) = cur l f q :: lines (cur l (q + 2) (q + 2)) (l.drop (q + 2)) := by
  rw [List.drop_eq_getElem_cons (show q < l.length by omega), List.drop_eq_getElem_cons hq, lines, if_pos ⟨h1, h2⟩]
  simp [cur]
theorem lines_no (l : Bs) (f q : Nat) (hf : f ≤ q) (hq : q + 1 < l.length) (h : ¬ (l[q] = 13 ∧ l[q + 1] = 10)) : lines (cur l f q) (l.drop q) = lines (cur l f (q + 1)) (l.drop (q + 1)) := by
  rw [List.drop_eq_getElem_cons (show q < l.length by omega), List.drop_eq_getElem_cons hq, lines, if_neg h, cur_next l f q hf (by omega)]
theorem linesLen (l : Bs) (f q : Nat) (x : List Bs) (h : x ++ lines (cur l f q) (l.drop q) = lines [] l) : x.length ≤ l.length + 1 := by
  have := congrArg List.length h
  rw [List.length_append] at this
  have h2 := lines_len l []
  omega

/-- a part of bytes, as a string -/
theorem part_str {w : World} {B : Nat} {g o n c : Nat} {l : Bs} (hr : Rd w B 1 (some ⟨g, o, none⟩) n (bytesV l)) (f q : Nat) (hfq : f ≤ q) (hq : q ≤ n) (hfc : f < c) (hnc : n ≤ c) :
    (convert 22 9 (.slice (some ⟨g, o + f, none⟩) (q - f) (c - f))).run Tryd.prog w = .ok (.string ⟨(cur l f q).toArray⟩) w := by
  have h := hr.pre (k := q) hq
  have h2 := h.shift (k := f) (cap := c) hfq (by omega)
  rw [if_neg (by omega)] at h2
  simp only [Nat.mul_one, Option.map_some, Addr.add_lit, bytesV_take, bytesV_drop] at h2
  have e : (l.take q).drop f = cur l f q := by rw [cur, List.drop_take]
  rw [e] at h2
  exact conv_str (P := Tryd.prog) 22 9 5 Tryd.underlying22 Tryd.underlying5 Tryd.underlying9 h2 (fun e => by cases e)

end Go.Proofs.YtklmpadcfioefaaDoor
