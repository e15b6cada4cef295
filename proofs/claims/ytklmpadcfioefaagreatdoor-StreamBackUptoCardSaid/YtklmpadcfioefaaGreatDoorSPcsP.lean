/- Plain bounds on what a reader of streams hands out: how many events, how long the bodies are together, how many fields. No program in sight. No condition. -/
import Derived.Test.YtklmpadcfioefaaGreatDoorSSmgP
import Derived.Test.YtklmpadcfioefaaGreatDoorSChk
namespace Go.Proofs.YtklmpadcfioefaaGreatDoor
namespace Strm
def bodySum (l : List E1) : Nat := (l.map fun e => (eData e).length).sum
theorem bodySum_app (a b : List E1) : bodySum (a ++ b) = bodySum a + bodySum b := by unfold bodySum; rw [List.map_append, List.sum_append]
theorem bodySum_data (p : Bs) : bodySum (data p) = p.length := by
  unfold data bodySum
  split
  · rename_i h; rw [h]; rfl
  · simp [eData]
theorem bodySum_one {e : E1} {l : List E1} (h : e ∈ l) : (eData e).length ≤ bodySum l := by
  unfold bodySum
  induction l with
  | nil => cases h
  | cons a r ih =>
    rw [List.map_cons, List.sum_cons]
    rcases List.mem_cons.1 h with h | h
    · rw [h]; omega
    · have := ih h; omega
theorem head_sum (s : S) (b : Bs) : bodySum (headS s b).1 = 0 := by
  unfold headS
  dsimp only
  split
  · rfl
  · split <;> rfl
theorem feedA_out {s : Chunk.St} {T : Nat} (h11 : s.at_ ≠ 11) (h : Chunk.Ok s T) (p : Bs) : (Chunk.feedA s p).2.1.length ≤ p.length ∧ ((Chunk.feedA s p).2.2.2 = 1 → (Chunk.feedA s p).2.1.length ≤ (Chunk.feedA s p).2.2.1) := by
  rw [feedA_feed h11 h p]
  refine ⟨Chunk.feed_out_le2 p s, fun h1 => ?_⟩
  have h2 := Chunk.feed_take p s (by omega)
  have h3 := Chunk.feed_out_le2 (p.take (Chunk.feed s p 0 []).2.2.1) s
  rw [h2, List.length_take] at h3
  omega
/-- the bodies are no longer than what was taken -/
theorem call_sum {s : S} {T : Nat} (hi : Inv s T) (p : Bs) : bodySum (callS s p).1 ≤ p.length ∧ ((callS s p).2.2.2 = 0 → bodySum (callS s p).1 ≤ (callS s p).2.1) := by
  unfold callS
  by_cases p0 : s.ph = 0
  · rw [if_pos p0]
    dsimp only
    split
    · split <;> exact ⟨Nat.zero_le _, fun _ => Nat.zero_le _⟩
    · rw [head_sum]; exact ⟨Nat.zero_le _, fun _ => Nat.zero_le _⟩
  · rw [if_neg p0]
    by_cases p1 : s.ph = 1
    · rw [if_pos p1]; exact ⟨Nat.zero_le _, fun _ => Nat.zero_le _⟩
    · rw [if_neg p1]
      by_cases p2 : s.ph = 2
      · rw [if_pos p2]
        dsimp only
        split
        · dsimp only; rw [bodySum_data, List.length_take]; exact ⟨by omega, fun _ => by omega⟩
        · dsimp only; rw [bodySum_data, List.length_take]; exact ⟨by omega, fun _ => by omega⟩
      · rw [if_neg p2]
        by_cases p3 : s.ph = 3
        · rw [if_pos p3]
          obtain ⟨h11, hok⟩ := hi.body p3
          obtain ⟨k1, k2⟩ := feedA_out h11 hok p
          dsimp only
          split
          · rename_i h1
            dsimp only
            rw [bodySum_data]
            exact ⟨k1, fun _ => k2 h1⟩
          · dsimp only
            rw [bodySum_data]
            exact ⟨k1, fun _ => k1⟩
        · rw [if_neg p3]
          dsimp only
          rw [bodySum_data]
          exact ⟨Nat.le_refl _, fun _ => Nat.le_refl _⟩
theorem feeds_sum {s u : S} {p : Bs} {es : List E1} {r T : Nat} (h : Feeds s p u es r) (hi : Inv s T) : bodySum es ≤ p.length := by
  induction h generalizing T with
  | stop => exact Nat.le_refl _
  | err s p _ _ => exact (call_sum hi p).1
  | go s p u es r _ h0 _ ih =>
    obtain ⟨k1, k2⟩ := call_inv hi h0
    have h1 := (call_sum hi p).2 h0
    have h2 := ih k1
    rw [bodySum_app]
    rw [List.length_drop] at h2
    omega
theorem feeds_few {s u : S} {p : Bs} {es : List E1} {r T : Nat} (h : Feeds s p u es r) (hi : Inv s T) : es.length ≤ 3 * p.length + rk s + 1 := by
  induction h generalizing T with
  | stop => exact Nat.zero_le _
  | err s p _ _ => have := call_one s p; omega
  | go s p u es r hp h0 _ ih =>
    have h1 := call_one s p
    have h2 := call_less hi hp h0
    have h3 := ih (call_inv hi h0).1
    rw [List.length_append]
    omega
/-- what is put together is no longer -/
theorem put_sum (acc : List E1) (x : E1) : bodySum (put acc x) = bodySum acc + (eData x).length := by
  unfold put
  rcases List.eq_nil_or_concat acc with h0 | ⟨a, y, h0⟩
  · subst h0; simp [bodySum]
  · rw [List.concat_eq_append] at h0
    subst h0
    rw [List.getLast?_append, List.getLast?_singleton]
    cases y with
    | head _ _ _ => simp [bodySum_app]; simp [bodySum]; omega
    | fin => simp [bodySum_app]; simp [bodySum]; omega
    | body w =>
      cases x with
      | head _ _ _ => simp [bodySum_app]; simp [bodySum]; omega
      | fin => simp [bodySum_app]; simp [bodySum]; omega
      | body d => simp [bodySum_app]; simp [bodySum, eData]; omega
theorem foldl_sum (l : List E1) : ∀ acc, bodySum (l.foldl put acc) = bodySum acc + bodySum l := by
  induction l with
  | nil => intro acc; simp [bodySum]
  | cons x l ih => intro acc; rw [List.foldl_cons, ih, put_sum]; unfold bodySum; simp; omega
theorem take_sum (l : List E1) (k : Nat) : bodySum (l.take k) ≤ bodySum l := by
  have h := bodySum_app (l.take k) (l.drop k)
  rw [List.take_append_drop] at h
  omega
theorem feeds_inv {s u : S} {p : Bs} {es : List E1} {r T : Nat} (h : Feeds s p u es r) (hi : Inv s T) (h0 : r = 0) : Inv u (T + p.length) := by
  induction h generalizing T with
  | stop s hd => exact hi
  | err s p _ h2 => exact absurd h0 h2
  | go s p u es r _ h2 _ ih =>
    obtain ⟨k1, k2⟩ := call_inv hi h2
    have := ih k1 h0
    rw [List.length_drop] at this
    exact this.mono (by omega)
/-- the reader that is fed pieces, so far -/
structure PcP (rq : Bool) (l : Bs) (at_ : Nat) (s2 : S) (f : Nat) (Bx : List E1) : Prop where
  ok : f = 0 → ∃ es, Feeds { rq := rq } (l.take at_) s2 es 0 ∧ Sim es Bx ∧ Inv s2 at_ ∧ s2.due = false ∧ s2.dead = 0
  no : f ≠ 0 → ∃ u es, Feeds { rq := rq } l u es f ∧ Sim es Bx
theorem PcP.init (rq : Bool) (l : Bs) : PcP rq l 0 { rq := rq } 0 [] :=
  ⟨fun _ => ⟨[], by rw [List.take_zero]; exact Feeds.stop _ rfl, Sim.refl _, Inv.init rq, rfl, rfl⟩, fun h => absurd rfl h⟩
theorem PcP.step {rq : Bool} {l : Bs} {at_ m g : Nat} {s2 v : S} {Bx eb : List E1} (h : PcP rq l at_ s2 0 Bx) (k : Feeds s2 ((l.drop at_).take m) v eb g) (hd : g = 0 → v.dead = s2.dead) : PcP rq l (at_ + m) v g (Bx ++ eb) := by
  obtain ⟨es, h1, h2, h3, h4, h5⟩ := h.ok rfl
  obtain ⟨es', k1, k2⟩ := h1.app rfl (Inv.init rq) k
  rw [← List.take_add] at k1
  have k3 : Sim es' (Bx ++ eb) := k2.trans (h2.app (Sim.refl eb))
  refine ⟨fun hg => ?_, fun hg => ?_⟩
  · subst hg
    have hi := feeds_inv k1 (Inv.init rq) rfl
    rw [Nat.zero_add, List.length_take] at hi
    exact ⟨es', k1, k3, hi.mono (Nat.min_le_left _ _), k1.due rfl, (hd rfl).trans h5⟩
  · obtain ⟨u, k4⟩ := k1.wrong (b := l.drop (at_ + m)) hg (Inv.init rq)
    rw [List.take_append_drop] at k4
    exact ⟨u, es', k4, k3⟩
end Strm
end Go.Proofs.YtklmpadcfioefaaGreatDoor
