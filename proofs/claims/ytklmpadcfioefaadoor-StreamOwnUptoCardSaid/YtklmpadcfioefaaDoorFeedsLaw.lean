/- Plain words on readers that are fed piece by piece: the program's and the document's. No program in sight. No condition. -/
import Derived.Test.YtklmpadcfioefaaDoorChunk
namespace Go.Proofs.YtklmpadcfioefaaDoor
namespace Chunk

theorem feed_kind' (l : Bs) : ∀ s : St, (feed s l 0 []).2.2.2 = 0 ∨ (feed s l 0 []).2.2.2 = 1 ∨ (feed s l 0 []).2.2.2 = 2 := by
  induction l with
  | nil => intro s; simp [feed]
  | cons c l ih =>
    intro s
    rw [feed]
    split
    · rw [feed_acc]; exact ih _
    · split
      · simp
      · split
        · simp
        · rw [feed_acc]; exact ih _
/-- where a reader stands behind a piece -/
theorem feed_at (l : Bs) : ∀ s : St, s.at_ ≠ 11 → ((feed s l 0 []).2.2.2 = 0 → (feed s l 0 []).1.at_ ≠ 11) ∧ ((feed s l 0 []).2.2.2 = 1 → (feed s l 0 []).1.at_ = 11) ∧ ((feed s l 0 []).2.2.2 = 2 → (feed s l 0 []).1.at_ = 12) := by
  induction l with
  | nil => intro s h; simp [feed, h]
  | cons c l ih =>
    intro s h
    rw [feed]
    split
    · rw [feed_acc]; exact ih _ (by simp only; split <;> omega)
    · split
      · simp
      · split
        · rename_i h1; simp [h1]
        · rename_i h1; rw [feed_acc]; exact ih _ h1
/-- what Feed does, wherever the reader stands -/
def feedA (s : St) (p : Bs) : St × Bs × Nat × Nat := if s.at_ = 11 then (s, [], 0, 1) else if s.at_ = 12 then (s, [], 0, 2) else feed s p 0 []
/-- what holds of a reader -/
def Good (s : St) (T : Nat) : Prop := s.at_ = 12 ∨ Ok s T
theorem Good.init : Good {} 0 := Or.inr Ok.init
theorem Good.mono {s : St} {T T' : Nat} (h : Good s T) (hT : T ≤ T') : Good s T' := h.imp id (·.mono hT)
theorem Good.few {s : St} {T : Nat} (h : Good s T) (h11 : s.at_ = 11) : s.trailers.length ≤ 64 := by
  rcases h with h | h
  · omega
  · exact h.trailers
theorem Good.goes {s : St} {T : Nat} (h : Good s T) (p : Bs) : Good (feedA s p).1 (T + p.length) := by
  unfold feedA
  by_cases h11 : s.at_ = 11
  · rw [if_pos h11]; exact h.mono (by omega)
  · rw [if_neg h11]
    by_cases h12 : s.at_ = 12
    · rw [if_pos h12]; exact Or.inl h12
    · rw [if_neg h12]
      rcases feed_kind' p s with e | e | e
      · rcases h with h | h
        · exact absurd h h12
        · exact Or.inr (feed_ok p s T h (by omega))
      · rcases h with h | h
        · exact absurd h h12
        · exact Or.inr (feed_ok p s T h (by omega))
      · exact Or.inl ((feed_at p s h11).2.2 e)

/-- the document's reader: all bytes so far, done, dead -/
structure Doc where
  all : Bs
  done : Bool
  dead : Bool
/-- what the document's reader does with a piece -/
def docFeed (d : Doc) (p : Bs) : Doc × Bs × Nat × Bool × Nat :=
  if d.done = true then (d, [], 0, true, 0)
  else if d.dead = true then (d, [], 0, false, 230)
  else (⟨(d.all ++ p).take (readOf (d.all ++ p)).read, (readOf (d.all ++ p)).done, (readOf (d.all ++ p)).wrong⟩, (readOf (d.all ++ p)).body.drop (readOf d.all).body.length, (readOf (d.all ++ p)).read - d.all.length, (readOf (d.all ++ p)).done, if (readOf (d.all ++ p)).wrong = true then 230 else 0)
/-- both have come to the same -/
def Both (d : Doc) (s : St) (b : Bs) : Prop :=
  (d.done = false ∧ d.dead = false ∧ Alive d.all s b ∧ s.at_ ≠ 11) ∨
  (d.done = true ∧ s.at_ = 11 ∧ readOf d.all = ⟨b, d.all.length, true, false, s.trailers⟩ ∧ s.total = b.length) ∨
  (d.done = false ∧ d.dead = true ∧ s.at_ = 12 ∧ readOf d.all = ⟨b, d.all.length, false, false, []⟩ ∧ s.total = b.length)
theorem Both.init : Both ⟨[], false, false⟩ {} [] := Or.inl ⟨rfl, rfl, Alive.init, by decide⟩
theorem Both.total {d : Doc} {s : St} {b : Bs} (h : Both d s b) : (readOf d.all).body.length = s.total := by
  rcases h with ⟨_, _, h, _⟩ | ⟨_, _, h, e⟩ | ⟨_, _, _, h, e⟩
  · rw [h.read, h.total]
  · rw [h, e]
  · rw [h, e]
theorem Both.done {d : Doc} {s : St} {b : Bs} (h : Both d s b) : d.done = decide (s.at_ = 11) := by
  rcases h with ⟨e, _, _, h⟩ | ⟨e, h, _⟩ | ⟨e, _, h, _⟩
  · rw [e]; simp [h]
  · rw [e]; simp [h]
  · rw [e]; simp [h]
theorem Both.trailers {d : Doc} {s : St} {b : Bs} (h : Both d s b) (h11 : s.at_ = 11) : (readOf d.all).trailers = s.trailers ∧ (readOf d.all).done = true := by
  rcases h with ⟨_, _, _, h⟩ | ⟨_, _, h, _⟩ | ⟨_, _, h, _⟩
  · exact absurd h11 h
  · rw [h]; exact ⟨rfl, rfl⟩
  · omega
theorem Alive.at12 {all : Bs} {s : St} {b : Bs} (h : Alive all s b) : s.at_ ≠ 12 := by have := h.ok.at_; omega
/-- THE NEXT PIECE: both answer the same, and have come to the same -/
theorem Both.next {d : Doc} {s : St} {b : Bs} (h : Both d s b) (p : Bs) :
    (docFeed d p).2 = ((feedA s p).2.1, (feedA s p).2.2.1, decide ((feedA s p).2.2.2 = 1), if (feedA s p).2.2.2 = 2 then 230 else 0) ∧ Both (docFeed d p).1 (feedA s p).1 (b ++ (feedA s p).2.1) := by
  have h0 := h
  rcases h with ⟨e1, e2, h, h11⟩ | ⟨e1, h11, h, e⟩ | ⟨e1, e2, h12, h, e⟩
  · have hd : docFeed d p = (⟨(d.all ++ p).take (readOf (d.all ++ p)).read, (readOf (d.all ++ p)).done, (readOf (d.all ++ p)).wrong⟩, (readOf (d.all ++ p)).body.drop (readOf d.all).body.length, (readOf (d.all ++ p)).read - d.all.length, (readOf (d.all ++ p)).done, if (readOf (d.all ++ p)).wrong = true then 230 else 0) := by
      rw [docFeed, e1, e2, if_neg (by simp), if_neg (by simp)]
    have ha : feedA s p = feed s p 0 [] := by rw [feedA, if_neg h11, if_neg h.at12]
    have hn := h.next p
    have hc := h.cut p
    have hg := h.goes p
    have ht := h.dead_total p
    have hat := feed_at p s h11
    have hle := feed_read_le p s
    have hk := feed_kind' p s
    have hm := feed_more p s
    rw [hd, ha, hn, h.read]
    generalize feed s p 0 [] = r at hn hc hg ht hat hle hk hm ⊢
    obtain ⟨s', o, j, q⟩ := r
    simp only at hn hc hg ht hat hle hk hm ⊢
    have htk : (d.all ++ p).take (d.all.length + j) = d.all ++ p.take j := by
      rw [List.take_append, List.take_of_length_le (by omega)]; simp
    have hlen : (d.all ++ p.take j).length = d.all.length + j := by rw [List.length_append, List.length_take]; omega
    rw [htk]
    refine ⟨?_, ?_⟩
    · simp only [List.drop_left, Nat.add_sub_cancel_left, decide_eq_true_eq]
    · rcases hk with rfl | rfl | rfl
      · have hj : p.take j = p := by rw [hm rfl, List.take_length]
        refine Or.inl ⟨by simp, by simp, ?_, hat.1 rfl⟩
        simp only
        rw [hj]
        exact hg rfl
      · refine Or.inr (Or.inl ⟨by simp, hat.2.1 rfl, ?_, ht⟩)
        simp only
        rw [hc, hlen]; simp
      · refine Or.inr (Or.inr ⟨by simp, by simp, hat.2.2 rfl, ?_, ht⟩)
        simp only
        rw [hc, hlen]; simp
  · have hd : docFeed d p = (d, [], 0, true, 0) := by rw [docFeed, if_pos e1]
    have ha : feedA s p = (s, [], 0, 1) := by rw [feedA, if_pos h11]
    rw [hd, ha]
    exact ⟨rfl, by simpa using h0⟩
  · have hd : docFeed d p = (d, [], 0, false, 230) := by rw [docFeed, if_neg (by simp [e1]), if_pos e2]
    have ha : feedA s p = (s, [], 0, 2) := by rw [feedA, if_neg (by omega), if_pos h12]
    rw [hd, ha]
    exact ⟨rfl, by simpa using h0⟩
end Chunk
end Go.Proofs.YtklmpadcfioefaaDoor
