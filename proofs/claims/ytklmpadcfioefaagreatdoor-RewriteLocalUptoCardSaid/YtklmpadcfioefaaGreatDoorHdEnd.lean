/- Plain law: the text of a head ends where the reader of streams says. No program in sight. No condition. -/
import Derived.Test.YtklmpadcfioefaaGreatDoorMX0
import Derived.Test.YtklmpadcfioefaaGreatDoorMB
namespace Go.Proofs.YtklmpadcfioefaaGreatDoor
namespace Strm
theorem occ_line (r : Bs) : ∀ (x : Bs), (13 : UInt8) ∉ x → ∀ j, Lib.occAt (x ++ 13 :: 10 :: r) crlf2 j = if j < x.length then false else if j = x.length then ([13, 10] : Bs).isPrefixOf r else if j = x.length + 1 then false else Lib.occAt r crlf2 (j - (x.length + 2))
  | [], _, 0 => by unfold Lib.occAt crlf2; simp [List.isPrefixOf]
  | [], _, 1 => by unfold Lib.occAt crlf2; simp [List.isPrefixOf]
  | [], _, j + 2 => by
    rw [if_neg (by simp), if_neg (by simp), if_neg (by simp)]
    unfold Lib.occAt
    simp
  | a :: x, h, 0 => by
    have ha : (13 : UInt8) ≠ a := fun e => h (by rw [e]; exact List.mem_cons_self)
    rw [if_pos (by simp)]
    unfold Lib.occAt crlf2
    simp [List.isPrefixOf, ha]
  | a :: x, h, j + 1 => by
    have ih := occ_line r x (fun e => h (List.mem_cons_of_mem _ e)) j
    have e : Lib.occAt (a :: x ++ 13 :: 10 :: r) crlf2 (j + 1) = Lib.occAt (x ++ 13 :: 10 :: r) crlf2 j := rfl
    have e2 : j + 1 - (x.length + 1 + 2) = j - (x.length + 2) := by omega
    rw [e, ih, List.length_cons]
    simp only [Nat.add_lt_add_iff_right, Nat.add_right_cancel_iff, e2]
theorem line_end (x r : Bs) (hx : (13 : UInt8) ∉ x) : headEnd (x ++ 13 :: 10 :: 13 :: 10 :: r) = some (x.length + 4) := by
  have e : Lib.index (x ++ 13 :: 10 :: 13 :: 10 :: r) crlf2 = (x.length : Nat) := Lib.index_hit (fun j hj => by
    rw [occ_line _ x hx, if_pos hj]) (by rw [List.length_append]; omega) (by
    rw [occ_line _ x hx, if_neg (by omega), if_pos rfl]
    simp [List.isPrefixOf])
  unfold headEnd
  rw [e, if_neg (by omega)]
  rfl
theorem line_more (x r : Bs) (hx : (13 : UInt8) ∉ x) (hr : ([13, 10] : Bs).isPrefixOf r = false) {n : Nat} (h : headEnd r = some n) : headEnd (x ++ 13 :: 10 :: r) = some (x.length + 2 + n) := by
  rcases headEnd_spec r with ⟨h1, _⟩ | ⟨i, h1, _, ho, hn, hl⟩
  · rw [h1] at h; cases h
  · rw [h1] at h
    injection h with h
    have e : Lib.index (x ++ 13 :: 10 :: r) crlf2 = ((x.length + 2 + i : Nat) : Int) := Lib.index_hit (fun j hj => by
      rw [occ_line _ x hx]
      by_cases h1 : j < x.length
      · rw [if_pos h1]
      · rw [if_neg h1]
        by_cases h2 : j = x.length
        · rw [if_pos h2]; exact hr
        · rw [if_neg h2]
          by_cases h3 : j = x.length + 1
          · rw [if_pos h3]
          · rw [if_neg h3]
            exact hn _ (by omega)) (by rw [List.length_append]; simp only [List.length_cons]; omega) (by
      rw [occ_line _ x hx, if_neg (by omega), if_neg (by omega), if_neg (by omega)]
      have e : x.length + 2 + i - (x.length + 2) = i := by omega
      rw [e]
      exact ho)
    unfold headEnd
    rw [e, if_neg (by omega), ← h]
    rfl
theorem fieldT_shape (f : Bs × Bs) (h : (13 : UInt8) ∉ fieldT f) (r : Bs) : ([13, 10] : Bs).isPrefixOf (fieldT f ++ r) = false := by
  unfold fieldT at h ⊢
  obtain ⟨a, b⟩ := f
  cases a with
  | nil => simp [List.isPrefixOf]
  | cons c a =>
    have hc : (13 : UInt8) ≠ c := fun e => h (by rw [e]; simp)
    simp [List.isPrefixOf, hc]
theorem headEnd_text (fs : List (Bs × Bs)) : (∀ f ∈ fs, (13 : UInt8) ∉ fieldT f) → ∀ p : Bs, (13 : UInt8) ∉ p → headEnd (p ++ 13 :: 10 :: (fieldsT fs ++ [13, 10])) = some (p ++ 13 :: 10 :: (fieldsT fs ++ [13, 10])).length := by
  induction fs with
  | nil =>
    intro _ p hp
    have := line_end p [] hp
    simpa [fieldsT] using this
  | cons f fs ih =>
    intro hf p hp
    have h0 := hf f List.mem_cons_self
    have h1 := ih (fun g hg => hf g (List.mem_cons_of_mem _ hg)) (fieldT f) h0
    have e : fieldsT (f :: fs) ++ [13, 10] = fieldT f ++ 13 :: 10 :: (fieldsT fs ++ [13, 10]) := by
      have e : fieldsT (f :: fs) = (fieldT f ++ [13, 10]) ++ fieldsT fs := rfl
      rw [e]; simp
    rw [e, line_more p _ hp (fieldT_shape f h0 _) h1]
    congr 1
    simp only [List.length_append, List.length_cons]
    omega
/-- of a head that reads back -/
theorem headEnd_back {g : Hd} {rq : Bool} (hp : parseP (textP g.up) rq = (g, 0)) : headEnd (textP g.up) = some (textP g.up).length := by
  obtain ⟨h0, hf, hg, hfs, _⟩ := parse_inv hp
  obtain ⟨hl, _, h13⟩ := first_line hf
  have e : lineT g.up = lineT h0.up := by rw [hg]; rfl
  refine headEnd_text g.fs (fun f hf => ?_) (lineT g.up) (by rw [e, hl]; exact h13)
  obtain ⟨s, hs⟩ := hfs f hf
  obtain ⟨a, b⟩ := f
  exact (field_back hs).2
end Strm
end Go.Proofs.YtklmpadcfioefaaGreatDoor
