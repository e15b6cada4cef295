/- Plain laws on the reader of streams: a stream that comes in two pieces. No program in sight. No condition. -/
import Derived.Test.YtklmpadcfioefaaDoorStrmP
import Derived.Lib.IndexLaws
namespace Go.Proofs.YtklmpadcfioefaaDoor
namespace Strm

/-- bodies that meet are one -/
def put (acc : List E1) (x : E1) : List E1 :=
  match acc.getLast?, x with
  | some (.body y), .body d => acc.dropLast ++ [.body (y ++ d)]
  | _, _ => acc ++ [x]
def whole (l : List E1) : List E1 := l.foldl put []
def Sim (a b : List E1) : Prop := ∀ acc, a.foldl put acc = b.foldl put acc
theorem Sim.refl (a : List E1) : Sim a a := fun _ => rfl
theorem Sim.symm {a b : List E1} (h : Sim a b) : Sim b a := fun acc => (h acc).symm
theorem Sim.trans {a b c : List E1} (h : Sim a b) (k : Sim b c) : Sim a c := fun acc => (h acc).trans (k acc)
theorem Sim.app {a b c d : List E1} (h : Sim a b) (k : Sim c d) : Sim (a ++ c) (b ++ d) := fun acc => by
  rw [List.foldl_append, List.foldl_append, h acc, k]
theorem Sim.whole {a b : List E1} (h : Sim a b) : whole a = whole b := h []
theorem put_body (acc : List E1) (x y : Bs) : put (put acc (.body x)) (.body y) = put acc (.body (x ++ y)) := by
  unfold put
  cases h : acc.getLast? with
  | none => simp
  | some z =>
    cases z with
    | head _ _ _ => simp
    | fin => simp
    | body w => simp
theorem data_app (x y : Bs) : Sim (data (x ++ y)) (data x ++ data y) := by
  intro acc
  unfold data
  by_cases hx : x = []
  · subst hx; simp
  · by_cases hy : y = []
    · subst hy; simp
    · rw [if_neg (by simp [hx]), if_neg hx, if_neg hy]
      simp [put_body]

/-! ### the end of a head -/
theorem occ_app {x y sub : Bs} {i : Nat} (h : Lib.occAt x sub i = true) : Lib.occAt (x ++ y) sub i = true := by
  unfold Lib.occAt at *
  rw [List.isPrefixOf_iff_prefix] at *
  obtain ⟨t, ht⟩ := h
  by_cases hi : i ≤ x.length
  · rw [List.drop_append_of_le_length hi, ← ht, List.append_assoc]
    exact List.prefix_append _ _
  · rw [List.drop_eq_nil_of_le (by omega)] at ht
    have : sub = [] := by
      cases sub with
      | nil => rfl
      | cons a b => simp at ht
    rw [this]
    exact List.nil_prefix
theorem occ_back {x y sub : Bs} {i : Nat} (h : Lib.occAt (x ++ y) sub i = true) (hi : i + sub.length ≤ x.length) : Lib.occAt x sub i = true := by
  unfold Lib.occAt at *
  rw [List.isPrefixOf_iff_prefix] at *
  rw [List.drop_append_of_le_length (by omega)] at h
  exact List.prefix_of_prefix_length_le h (List.prefix_append _ _) (by rw [List.length_drop]; omega)
theorem occ_len {x sub : Bs} {i : Nat} (h : Lib.occAt x sub i = true) (hs : sub ≠ []) : i + sub.length ≤ x.length := by
  unfold Lib.occAt at h
  rw [List.isPrefixOf_iff_prefix] at h
  have := h.length_le
  rw [List.length_drop] at this
  have : 0 < sub.length := List.length_pos_iff.2 hs
  omega
/-- where the first one is -/
theorem index_spec (x sub : Bs) (hs : sub ≠ []) : (Lib.index x sub = -1 ∧ ∀ i, Lib.occAt x sub i = false) ∨ ∃ i : Nat, Lib.index x sub = i ∧ Lib.occAt x sub i = true ∧ (∀ j, j < i → Lib.occAt x sub j = false) ∧ i + sub.length ≤ x.length := by
  by_cases h : ∃ i, Lib.occAt x sub i = true
  · right
    obtain ⟨i0, h0⟩ := h
    have hex : ∃ i, Lib.occAt x sub i = true := ⟨i0, h0⟩
    have key : ∀ n i, i ≤ n → Lib.occAt x sub i = true → ∃ k, Lib.occAt x sub k = true ∧ ∀ j, j < k → Lib.occAt x sub j = false := by
      intro n
      induction n with
      | zero => intro i hi ho; exact ⟨i, ho, fun j hj => by omega⟩
      | succ n ih =>
        intro i hi ho
        by_cases hq : ∃ j, j < i ∧ Lib.occAt x sub j = true
        · obtain ⟨j, hj, hoj⟩ := hq
          exact ih j (by omega) hoj
        · exact ⟨i, ho, fun j hj => by
            cases hb : Lib.occAt x sub j with
            | false => rfl
            | true => exact absurd ⟨j, hj, hb⟩ hq⟩
    obtain ⟨k, hk, hn⟩ := key i0 i0 (Nat.le_refl _) h0
    have hl := occ_len hk hs
    exact ⟨k, Lib.index_hit hn (by omega) hk, hk, hn, hl⟩
  · left
    have hn : ∀ i, Lib.occAt x sub i = false := fun i => by
      cases hb : Lib.occAt x sub i with
      | false => rfl
      | true => exact absurd ⟨i, hb⟩ h
    refine ⟨Lib.index_past (i := x.length) hs (fun j _ => hn j) ?_, hn⟩
    have : 0 < sub.length := List.length_pos_iff.2 hs
    omega
theorem headEnd_spec (x : Bs) : (headEnd x = none ∧ Lib.index x crlf2 = -1 ∧ ∀ i, Lib.occAt x crlf2 i = false) ∨ ∃ i : Nat, headEnd x = some (i + 4) ∧ Lib.index x crlf2 = i ∧ Lib.occAt x crlf2 i = true ∧ (∀ j, j < i → Lib.occAt x crlf2 j = false) ∧ i + 4 ≤ x.length := by
  rcases index_spec x crlf2 (by decide) with ⟨h, hn⟩ | ⟨i, h, ho, hn, hl⟩
  · exact .inl ⟨by unfold headEnd; rw [h]; rfl, h, hn⟩
  · refine .inr ⟨i, ?_, h, ho, hn, hl⟩
    unfold headEnd
    rw [h, if_neg (by omega)]
    rfl
theorem headEnd_app {x : Bs} {n : Nat} (h : headEnd x = some n) (y : Bs) : headEnd (x ++ y) = some n ∧ n ≤ x.length := by
  rcases headEnd_spec x with ⟨h1, _⟩ | ⟨i, h1, _, ho, hn, hl⟩
  · rw [h1] at h; cases h
  · rw [h1] at h
    injection h with h
    refine ⟨?_, by omega⟩
    have e : Lib.index (x ++ y) crlf2 = i := Lib.index_hit (fun j hj => by
      cases hb : Lib.occAt (x ++ y) crlf2 j with
      | false => rfl
      | true =>
        have := occ_back hb (by simp [crlf2]; omega)
        rw [hn j hj] at this
        cases this) (by rw [List.length_append]; omega) (occ_app ho)
    unfold headEnd
    rw [e, if_neg (by omega), ← h]
    rfl
theorem headEnd_late {x y : Bs} {n : Nat} (h : headEnd x = none) (h2 : headEnd (x ++ y) = some n) : x.length < n ∧ n ≤ (x ++ y).length := by
  rcases headEnd_spec x with ⟨_, _, hn⟩ | ⟨i, h1, _⟩
  · rcases headEnd_spec (x ++ y) with ⟨h3, _⟩ | ⟨i, h3, _, ho, _, hl⟩
    · rw [h3] at h2; cases h2
    · rw [h3] at h2
      injection h2 with h2
      refine ⟨?_, by omega⟩
      by_cases hc : i + 4 ≤ x.length
      · have := occ_back ho (by simp [crlf2]; omega)
        rw [hn i] at this
        cases this
      · omega
  · rw [h1] at h; cases h

theorem headEnd_nil : headEnd [] = none ∧ ([] : Bs).length < 16384 := by decide
/-! ### what is right of a reader -/
structure Inv (s : S) (T : Nat) : Prop where
  ph : s.ph ≤ 4
  due : s.due = true → s.ph = 1 ∨ s.ph = 2 ∧ s.left = 0
  end_ : s.ph = 1 → s.due = true
  blk : s.ph = 0 → headEnd s.blk = none ∧ s.blk.length < 16384
  nil : s.ph ≠ 0 → s.blk = []
  left : s.ph = 2 → s.due = false → 0 < s.left
  room : s.left < 1000000000000000
  body : s.ph = 3 → s.body.at_ ≠ 11 ∧ Chunk.Ok s.body T
  fr : s.fr = 3 ↔ s.ph = 4
  fr4 : s.fr ≤ 3
  win : s.win = false → s.ph = 0 ∧ s.blk = []
theorem Inv.init (rq : Bool) : Inv { rq := rq } 0 := ⟨Nat.zero_le _, (fun h => by cases h), (fun h => by cases h), (fun _ => headEnd_nil), (fun h => absurd rfl h), (fun h => by cases h), (show (0 : Nat) < 1000000000000000 by decide), (fun h => by cases h), (by simp), Nat.zero_le _, (fun _ => ⟨rfl, rfl⟩)⟩
theorem Inv.mono {s : S} {T T' : Nat} (h : Inv s T) (hT : T ≤ T') : Inv s T' := ⟨h.ph, h.due, h.end_, h.blk, h.nil, h.left, h.room, fun h3 => ⟨(h.body h3).1, (h.body h3).2.mono hT⟩, h.fr, h.fr4, h.win⟩
theorem num_step (n c : Nat) (hc : c ≤ 57) (k : Nat) (hn : n < 10 ^ k) : 10 * n + (c - 48) < 10 ^ (k + 1) := by
  rw [Nat.pow_succ]; omega
theorem num_fold : ∀ (l : Bs) (n k : Nat), l.all isDigit = true → n < 10 ^ k → l.foldl (fun n c => 10 * n + (c.toNat - 48)) n < 10 ^ (k + l.length)
  | [], n, k, _, h => by simpa using h
  | c :: l, n, k, hl, h => by
    rw [List.all_cons, Bool.and_eq_true] at hl
    have hc : c.toNat ≤ 57 := by
      have := hl.1
      unfold isDigit at this
      simp only [Bool.and_eq_true, decide_eq_true_eq, UInt8.le_iff_toNat_le] at this
      exact this.2
    have := num_fold l _ (k + 1) hl.2 (num_step n c.toNat hc k h)
    rw [List.foldl_cons, List.length_cons]
    rw [show k + (l.length + 1) = k + 1 + l.length by omega]
    exact this
theorem length_lt {l : List ByteArray} {n : Nat} (h : lengthP l = some n) : n < 1000000000000000 := by
  cases l with
  | nil => cases h
  | cons a r =>
    rw [lengthP_cons] at h
    split at h
    · cases h
    · rename_i h15
      split at h
      · rename_i hd
        injection h with h
        rw [← h]
        have := num_fold a.data.toList 0 0 hd.1 (by decide)
        have h2 : a.data.toList.length ≤ 15 := by rw [Array.length_toList]; exact Nat.le_of_not_lt h15
        have h3 : (10 : Nat) ^ (0 + a.data.toList.length) ≤ 10 ^ 15 := Nat.pow_le_pow_right (by decide) (by omega)
        exact Nat.lt_of_lt_of_le this h3
      · cases h
theorem framing_le (rq hd : Bool) (st mn : Int) (fs : List Fl) : (framingP rq hd st mn fs).1 ≤ 3 ∧ (framingP rq hd st mn fs).2.1 < 1000000000000000 := by
  unfold framingP
  split
  · simp
  · split
    · simp
    · split
      · split <;> simp
      · split
        · cases h : lengthP (listed (vals fs sLen)) with
          | none => simp
          | some n => exact ⟨by simp, length_lt h⟩
        · split <;> simp
theorem headS_inv {s : S} {b : Bs} (hw : s.win = true) (h0 : (headS s b).2.2 = 0) (T : Nat) : Inv (headS s b).2.1 T := by
  unfold headS at *
  by_cases h1 : (parseP b s.rq).2 ≠ 0
  · rw [if_pos h1] at h0; exact absurd h0 h1
  · rw [if_neg h1] at h0 ⊢
    dsimp only at h0 ⊢
    by_cases h2 : (headFr s (parseP b s.rq).1).2.2 ≠ 0
    · rw [if_pos h2] at h0; exact absurd h0 h2
    · rw [if_neg h2]
      obtain ⟨hle, hlt⟩ := framing_le (parseP b s.rq).1.rq (decide (method s (parseP b s.rq).1 = bHEAD)) (parseP b s.rq).1.st (parseP b s.rq).1.mn (flB (parseP b s.rq).1.fs)
      change (headFr s (parseP b s.rq).1).1 ≤ 3 at hle
      change (headFr s (parseP b s.rq).1).2.1 < _ at hlt
      refine ⟨by dsimp only; omega, ?_, ?_, ?_, fun _ => rfl, ?_, hlt, fun _ => ⟨show ({} : Chunk.St).at_ ≠ 11 by decide, Chunk.Ok.init.mono (Nat.zero_le _)⟩, by dsimp only; omega, hle, ?_⟩
      · intro hd
        simp only [decide_eq_true_eq] at hd
        rcases hd with hd | ⟨hd, hd2⟩
        · left; dsimp only; omega
        · right; exact ⟨by dsimp only; omega, hd2⟩
      · intro hp
        simp only [decide_eq_true_eq]
        dsimp only at hp
        left; omega
      · intro hp; dsimp only at hp; omega
      · intro hp hd
        dsimp only at hp hd ⊢
        simp only [decide_eq_false_iff_not] at hd
        omega
      · intro hq
        dsimp only at hq
        rw [hw] at hq
        cases hq

/-! ### one call -/
theorem feedA_feed {s : Chunk.St} (h11 : s.at_ ≠ 11) {T : Nat} (h : Chunk.Ok s T) (p : Bs) : Chunk.feedA s p = Chunk.feed s p 0 [] := by
  have := h.at_
  unfold Chunk.feedA
  rw [if_neg h11, if_neg (by omega)]
theorem call_inv {s : S} {T : Nat} (hi : Inv s T) {p : Bs} (h0 : (callS s p).2.2.2 = 0) : Inv (callS s p).2.2.1 (T + (callS s p).2.1) ∧ (callS s p).2.1 ≤ p.length := by
  unfold callS at *
  by_cases p0 : s.ph = 0
  · rw [if_pos p0] at h0 ⊢
    dsimp only at h0 ⊢
    obtain ⟨hb, hl⟩ := hi.blk p0
    cases he : headEnd (s.blk ++ p.take (16384 - s.blk.length)) with
    | none =>
      rw [he] at h0
      dsimp only at h0 ⊢
      by_cases hs : (s.blk ++ p.take (16384 - s.blk.length)).length < 16384
      · rw [if_pos hs]
        refine ⟨⟨hi.ph, hi.due, hi.end_, fun _ => ⟨he, hs⟩, fun h => absurd p0 h, hi.left, hi.room, fun h3 => ?_, hi.fr, hi.fr4, fun hw => by cases hw⟩, Nat.le_refl _⟩
        dsimp only at h3; omega
      · rw [if_neg hs] at h0
        dsimp only [refuseP] at h0
        split at h0 <;> cases h0
    | some n =>
      rw [he] at h0
      dsimp only at h0 ⊢
      have h3 := headEnd_late hb he
      rw [List.length_append, List.length_take] at h3
      exact ⟨headS_inv rfl h0 _, by omega⟩
  · rw [if_neg p0] at h0 ⊢
    by_cases p1 : s.ph = 1
    · rw [if_pos p1]
      have hf := hi.fr
      refine ⟨⟨by dsimp only; omega, fun hd => (by cases hd), fun h1 => (by cases h1), fun _ => ?_, fun h => absurd rfl h, fun h2 => (by cases h2), hi.room, fun h3 => (by cases h3), by dsimp only; omega, hi.fr4, fun _ => ⟨rfl, hi.nil p0⟩⟩, Nat.zero_le _⟩
      dsimp only
      rw [hi.nil p0]
      exact headEnd_nil
    · rw [if_neg p1] at h0 ⊢
      have hw : s.win = false → False := fun h => p0 (hi.win h).1
      have hf := hi.fr
      by_cases p2 : s.ph = 2
      · rw [if_pos p2]
        dsimp only
        by_cases hn : s.left - min s.left p.length = 0
        · rw [if_pos hn]
          exact ⟨⟨by dsimp only; omega, fun _ => .inl rfl, fun _ => rfl, fun h => (by cases h), fun _ => hi.nil p0, fun h => (by cases h), (show (0 : Nat) < 1000000000000000 by decide), fun h => (by cases h), by dsimp only; omega, hi.fr4, fun h => (hw h).elim⟩, by dsimp only; omega⟩
        · rw [if_neg hn]
          refine ⟨⟨hi.ph, fun h => ?_, hi.end_, fun h => absurd h p0, fun _ => hi.nil p0, fun _ _ => by dsimp only; omega, by have := hi.room; dsimp only; omega, fun h => (by dsimp only at h; omega), hi.fr, hi.fr4, fun h => (hw h).elim⟩, Nat.le_refl _⟩
          have := hi.due h
          dsimp only
          omega
      · rw [if_neg p2] at h0 ⊢
        by_cases p3 : s.ph = 3
        · rw [if_pos p3] at h0 ⊢
          obtain ⟨h11, hok⟩ := hi.body p3
          have hfd := feedA_feed h11 hok p
          dsimp only at h0 ⊢
          rw [hfd] at h0 ⊢
          by_cases hq : (Chunk.feed s.body p 0 []).2.2.2 = 1
          · rw [if_pos hq]
            exact ⟨⟨by dsimp only; omega, fun _ => .inl rfl, fun _ => rfl, fun h => (by cases h), fun _ => hi.nil p0, fun h => (by cases h), hi.room, fun h => (by cases h), by dsimp only; omega, hi.fr4, fun h => (hw h).elim⟩, Chunk.feed_read_le p _⟩
          · rw [if_neg hq] at h0 ⊢
            dsimp only at h0 ⊢
            have hq2 : (Chunk.feed s.body p 0 []).2.2.2 ≠ 2 := fun e => by rw [if_pos e] at h0; cases h0
            have hq0 : (Chunk.feed s.body p 0 []).2.2.2 = 0 := by
              rcases Chunk.feed_kind' p s.body with e | e | e
              · exact e
              · exact absurd e hq
              · exact absurd e hq2
            refine ⟨⟨hi.ph, fun h => ?_, hi.end_, fun h => absurd h p0, fun _ => hi.nil p0, fun h => absurd h p2, hi.room, fun _ => ⟨(Chunk.feed_at p s.body h11).1 hq0, Chunk.feed_ok p s.body T hok hq2⟩, hi.fr, hi.fr4, fun h => (hw h).elim⟩, Nat.le_refl _⟩
            have := hi.due h
            dsimp only
            omega
        · rw [if_neg p3]
          exact ⟨hi.mono (Nat.le_add_right _ _), Nat.le_refl _⟩
/-- one call, of two pieces: either the first one was enough, or all of it was taken -/
def Split (s : S) (a b : Bs) : Prop :=
  ((callS s a).2.2.2 ≠ 0 ∧ (callS s (a ++ b)).1 = (callS s a).1 ∧ (callS s (a ++ b)).2.2.2 = (callS s a).2.2.2) ∨
  ((callS s a).2.2.2 = 0 ∧ callS s (a ++ b) = callS s a) ∨
  ((callS s a).2.2.2 = 0 ∧ (callS s a).2.1 = a.length ∧ (callS s a).2.2.1.due = false ∧
    (callS s (a ++ b)).2.2 = (callS (callS s a).2.2.1 b).2.2 ∧ (b ≠ [] → (callS (callS s a).2.2.1 b).2.2.2 = 0 → (callS s (a ++ b)).2.1 = a.length + (callS (callS s a).2.2.1 b).2.1) ∧ Sim (callS s (a ++ b)).1 ((callS s a).1 ++ (callS (callS s a).2.2.1 b).1))
theorem headS_blk (s : S) (x y b : Bs) : (headS { s with blk := x } b).1 = (headS { s with blk := y } b).1 ∧ (headS { s with blk := x } b).2.2 = (headS { s with blk := y } b).2.2 ∧ ((headS { s with blk := x } b).2.2 = 0 → headS { s with blk := x } b = headS { s with blk := y } b) := by
  unfold headS
  by_cases h1 : (parseP b s.rq).2 ≠ 0
  · simp only [if_pos h1]
    exact ⟨trivial, trivial, fun h => absurd h h1⟩
  · simp only [if_neg h1]
    by_cases h2 : (headFr s (parseP b s.rq).1).2.2 ≠ 0
    · have e1 : (headFr { s with blk := x } (parseP b s.rq).1).2.2 ≠ 0 := h2
      have e2 : (headFr { s with blk := y } (parseP b s.rq).1).2.2 ≠ 0 := h2
      rw [if_pos e1, if_pos e2]
      exact ⟨rfl, rfl, fun h => absurd h h2⟩
    · have e1 : ¬ (headFr { s with blk := x } (parseP b s.rq).1).2.2 ≠ 0 := h2
      have e2 : ¬ (headFr { s with blk := y } (parseP b s.rq).1).2.2 ≠ 0 := h2
      rw [if_neg e1, if_neg e2]
      exact ⟨rfl, rfl, fun _ => rfl⟩
theorem call0 {s : S} (p0 : s.ph = 0) (q : Bs) : callS s q = (match headEnd (s.blk ++ q.take (16384 - s.blk.length)) with
    | none => if (s.blk ++ q.take (16384 - s.blk.length)).length < 16384 then ([], q.length, { s with win := true, blk := s.blk ++ q.take (16384 - s.blk.length) }, 0) else ([], 0, { s with win := true, blk := s.blk ++ q.take (16384 - s.blk.length) }, refuseP (s.blk ++ q.take (16384 - s.blk.length)))
    | some n => ((headS { s with win := true, blk := s.blk ++ q.take (16384 - s.blk.length) } ((s.blk ++ q.take (16384 - s.blk.length)).take n)).1, n - s.blk.length, (headS { s with win := true, blk := s.blk ++ q.take (16384 - s.blk.length) } ((s.blk ++ q.take (16384 - s.blk.length)).take n)).2)) := by
  unfold callS; rw [if_pos p0]; rfl
theorem refuse_pos (b : Bs) : refuseP b ≠ 0 := by unfold refuseP; split <;> decide
theorem call_split {s : S} {T : Nat} (hi : Inv s T) (a b : Bs) : Split s a b := by
  by_cases p0 : s.ph = 0
  · have hd : s.due = false := by
      cases e : s.due with
      | false => rfl
      | true => have := hi.due e; omega
    obtain ⟨hb, hl⟩ := hi.blk p0
    have eAB : s.blk ++ (a ++ b).take (16384 - s.blk.length) = (s.blk ++ a.take (16384 - s.blk.length)) ++ b.take (16384 - s.blk.length - a.length) := by
      rw [List.take_append, List.append_assoc]
    cases he : headEnd (s.blk ++ a.take (16384 - s.blk.length)) with
    | some n =>
      obtain ⟨h1, h2⟩ := headEnd_app he (b.take (16384 - s.blk.length - a.length))
      have e1 := call0 p0 a
      rw [he] at e1
      have e2 := call0 p0 (a ++ b)
      rw [eAB, h1] at e2
      dsimp only at e1 e2
      rw [List.take_append_of_le_length h2] at e2
      obtain ⟨k1, k2, k3⟩ := headS_blk { s with win := true } (s.blk ++ a.take (16384 - s.blk.length)) ((s.blk ++ a.take (16384 - s.blk.length)) ++ b.take (16384 - s.blk.length - a.length)) ((s.blk ++ a.take (16384 - s.blk.length)).take n)
      by_cases h0 : (callS s a).2.2.2 = 0
      · right; left
        refine ⟨h0, ?_⟩
        rw [e1] at h0
        rw [e1, e2, ← k3 h0]
      · left
        refine ⟨h0, ?_, ?_⟩
        · rw [e1, e2]; exact k1.symm
        · rw [e1, e2]; exact k2.symm
    | none =>
      have e1 := call0 p0 a
      rw [he] at e1
      dsimp only at e1
      by_cases hs : (s.blk ++ a.take (16384 - s.blk.length)).length < 16384
      · rw [if_pos hs] at e1
        have hs2 := hs
        rw [List.length_append, List.length_take] at hs2
        have hal : a.length < 16384 - s.blk.length := by omega
        have eA : a.take (16384 - s.blk.length) = a := List.take_of_length_le (by omega)
        rw [eA] at e1 eAB he hs
        have e2 := call0 p0 (a ++ b)
        have e3 := call0 (s := { s with win := true, blk := s.blk ++ a }) p0 b
        have eM : 16384 - (s.blk ++ a).length = 16384 - s.blk.length - a.length := by rw [List.length_append]; omega
        dsimp only at e3
        rw [eM, ← eAB] at e3
        right; right
        rw [e1]
        refine ⟨rfl, rfl, hd, ?_, ?_, ?_⟩
        · dsimp only
          rw [e2, e3]
          cases h : headEnd (s.blk ++ (a ++ b).take (16384 - s.blk.length)) with
          | none => dsimp only; split <;> rfl
          | some n => rfl
        · intro _ h0
          dsimp only at h0 ⊢
          rw [e3] at h0
          rw [e2, e3]
          cases h : headEnd (s.blk ++ (a ++ b).take (16384 - s.blk.length)) with
          | none =>
            rw [h] at h0
            dsimp only at h0 ⊢
            split
            · exact List.length_append
            · rename_i hx
              rw [if_neg hx] at h0
              exact absurd h0 (refuse_pos _)
          | some n =>
            rw [eAB] at h
            have := (headEnd_late he h).1
            rw [List.length_append] at this
            dsimp only
            rw [List.length_append]
            omega
        · dsimp only
          rw [e2, e3]
          cases h : headEnd (s.blk ++ (a ++ b).take (16384 - s.blk.length)) with
          | none => dsimp only; split <;> exact Sim.refl _
          | some n => exact Sim.refl _
      · rw [if_neg hs] at e1
        have hs2 := hs
        rw [List.length_append, List.length_take] at hs2
        have e0 : 16384 - s.blk.length - a.length = 0 := by omega
        rw [e0, List.take_zero, List.append_nil] at eAB
        have e2 := call0 p0 (a ++ b)
        rw [eAB, he] at e2
        dsimp only at e2
        rw [if_neg hs] at e2
        left
        rw [e1, e2]
        exact ⟨refuse_pos _, rfl, rfl⟩
  · by_cases p1 : s.ph = 1
    · right; left
      have e : ∀ q : Bs, callS s q = ([.fin], 0, { s with win := false, due := false, ph := 0 }, 0) := fun q => by unfold callS; rw [if_neg p0, if_pos p1]
      rw [e, e]
      exact ⟨rfl, rfl⟩
    · by_cases p2 : s.ph = 2
      · have e : ∀ (s : S), s.ph = 2 → ∀ q : Bs, callS s q = if s.left - min s.left q.length = 0 then (data (q.take (min s.left q.length)), min s.left q.length, { s with left := 0, due := true, ph := 1 }, 0)
            else (data (q.take (min s.left q.length)), q.length, { s with left := s.left - min s.left q.length }, 0) := fun s p2 q => by
          unfold callS; rw [if_neg (by omega), if_neg (by omega), if_pos p2]
        by_cases hn : s.left - min s.left a.length = 0
        · right; left
          have e1 : min s.left (a ++ b).length = min s.left a.length := by rw [List.length_append]; omega
          rw [e s p2, e s p2, e1, if_pos hn, if_pos hn, List.take_append_of_le_length (by omega)]
          exact ⟨rfl, rfl⟩
        · right; right
          have hd : s.due = false := by
            cases e : s.due with
            | false => rfl
            | true => have := hi.due e; omega
          have e1 : min s.left a.length = a.length := by omega
          have e2 : min s.left (a ++ b).length = a.length + min (s.left - a.length) b.length := by rw [List.length_append]; omega
          have ea := e s p2 a
          rw [if_neg hn, e1, List.take_length] at ea
          have eb := e { s with left := s.left - a.length } p2 b
          have eab := e s p2 (a ++ b)
          rw [e2, List.take_length_add_append] at eab
          dsimp only at eb
          rw [ea]
          refine ⟨rfl, rfl, hd, ?_, ?_, ?_⟩
          · dsimp only
            rw [eab, eb, show s.left - (a.length + min (s.left - a.length) b.length) = s.left - a.length - min (s.left - a.length) b.length by omega]
            split <;> rfl
          · intro _ _
            dsimp only
            rw [eab, eb, show s.left - (a.length + min (s.left - a.length) b.length) = s.left - a.length - min (s.left - a.length) b.length by omega]
            split
            · rfl
            · exact List.length_append
          · dsimp only
            rw [eab, eb, show s.left - (a.length + min (s.left - a.length) b.length) = s.left - a.length - min (s.left - a.length) b.length by omega]
            split <;> exact data_app _ _
      · by_cases p3 : s.ph = 3
        · obtain ⟨h11, hok⟩ := hi.body p3
          have hd : s.due = false := by
            cases e : s.due with
            | false => rfl
            | true => have := hi.due e; omega
          have e : ∀ (s : S) (T : Nat), s.ph = 3 → s.body.at_ ≠ 11 → Chunk.Ok s.body T → ∀ q : Bs, callS s q = if (Chunk.feed s.body q 0 []).2.2.2 = 1 then (data (Chunk.feed s.body q 0 []).2.1, (Chunk.feed s.body q 0 []).2.2.1, { s with body := (Chunk.feed s.body q 0 []).1, due := true, ph := 1 }, 0)
              else (data (Chunk.feed s.body q 0 []).2.1, q.length, { s with body := (Chunk.feed s.body q 0 []).1 }, if (Chunk.feed s.body q 0 []).2.2.2 = 2 then 230 else 0) := fun s T p3 h11 hok q => by
            unfold callS; rw [if_neg (by omega), if_neg (by omega), if_neg (by omega), if_pos p3, feedA_feed h11 hok]
          have happ := Chunk.feed_app a b s.body 0 []
          have ea := e s T p3 h11 hok a
          have eab := e s T p3 h11 hok (a ++ b)
          rcases Chunk.feed_kind' a s.body with hq | hq | hq
          · right; right
            rw [if_pos hq] at happ
            have hm := Chunk.feed_more a s.body hq
            have hok2 := Chunk.feed_ok a s.body T hok (by omega)
            have h112 := (Chunk.feed_at a s.body h11).1 hq
            rw [Chunk.feed_acc b (Chunk.feed s.body a 0 []).1 (Chunk.feed s.body a 0 []).2.2.1 (Chunk.feed s.body a 0 []).2.1, hm] at happ
            rw [if_neg (by omega), if_neg (by omega)] at ea
            have eb := e { s with body := (Chunk.feed s.body a 0 []).1 } _ p3 h112 hok2 b
            dsimp only at eb
            rw [happ] at eab
            dsimp only at eab
            rw [ea]
            refine ⟨rfl, rfl, hd, ?_, ?_, ?_⟩
            · dsimp only
              rw [eab, eb]
              split <;> rfl
            · intro _ _
              dsimp only
              rw [eab, eb]
              split
              · rfl
              · exact List.length_append
            · dsimp only
              rw [eab, eb]
              split <;> exact data_app _ _
          · right; left
            rw [if_neg (by omega)] at happ
            rw [happ, if_pos hq] at eab
            rw [if_pos hq] at ea
            rw [eab, ea]
            exact ⟨rfl, rfl⟩
          · left
            rw [if_neg (by omega)] at happ
            rw [happ, if_neg (by omega), if_pos hq] at eab
            rw [if_neg (by omega), if_pos hq] at ea
            rw [eab, ea]
            exact ⟨(by decide : (230 : Nat) ≠ 0), rfl, rfl⟩
        · right; right
          have e : ∀ q : Bs, callS s q = (data q, q.length, s, 0) := fun q => by unfold callS; rw [if_neg p0, if_neg p1, if_neg p2, if_neg p3]
          have hd : s.due = false := by
            cases e : s.due with
            | false => rfl
            | true => have := hi.due e; omega
          rw [e, e, e]
          exact ⟨rfl, rfl, hd, rfl, fun _ _ => List.length_append, data_app _ _⟩

theorem data_one (p : Bs) : (data p).length ≤ 1 := by unfold data; split <;> simp
theorem call_one (s : S) (p : Bs) : (callS s p).1.length ≤ 1 := by
  unfold callS
  split
  · dsimp only
    split
    · split <;> exact Nat.zero_le _
    · unfold headS
      split
      · exact Nat.zero_le _
      · dsimp only
        split
        · exact Nat.zero_le _
        · exact Nat.le_refl _
  · split
    · exact Nat.le_refl _
    · split
      · dsimp only
        split <;> exact data_one _
      · split
        · dsimp only
          split <;> exact data_one _
        · exact data_one _
theorem headS_dead (s : S) (b : Bs) : (headS s b).2.1.dead = s.dead := by
  unfold headS
  split
  · rfl
  · dsimp only
    split <;> rfl
theorem call_dead (s : S) (p : Bs) : (callS s p).2.2.1.dead = s.dead := by
  unfold callS
  split
  · dsimp only
    split
    · split <;> rfl
    · exact headS_dead _ _
  · split
    · rfl
    · split
      · dsimp only
        split <;> rfl
      · split
        · dsimp only
          split <;> rfl
        · rfl
/-- an end that is due costs a call, or two -/
def rk (s : S) : Nat := if s.due = true then (if s.ph = 2 then 2 else 1) else 0
theorem feed_one (p : Bs) (s : Chunk.St) (h : (Chunk.feed s p 0 []).2.2.2 = 1) : 1 ≤ (Chunk.feed s p 0 []).2.2.1 := by
  cases p with
  | nil => simp [Chunk.feed] at h
  | cons c l =>
    rw [Chunk.feed] at h ⊢
    split
    · rw [Chunk.feed_acc]; dsimp only; omega
    · split
      · rename_i h1 h2
        rw [if_neg h1, if_pos h2] at h
        simp at h
      · split
        · simp
        · rw [Chunk.feed_acc]; dsimp only; omega
theorem rk_le (s : S) : rk s ≤ 2 := by unfold rk; split <;> (try split) <;> omega
theorem rk_no {s : S} (h : s.due = false) : rk s = 0 := by unfold rk; rw [h]; rfl
theorem call_less {s : S} {T : Nat} (hi : Inv s T) {p : Bs} (hp : ¬ (p = [] ∧ s.due = false)) (h0 : (callS s p).2.2.2 = 0) : 3 * (p.drop (callS s p).2.1).length + rk (callS s p).2.2.1 < 3 * p.length + rk s := by
  have hm := (call_inv hi h0).2
  rw [List.length_drop]
  have hne : s.due = false → 1 ≤ p.length := fun hd => by
    cases p with
    | nil => exact absurd ⟨rfl, hd⟩ hp
    | cons c l => simp
  have h2 := rk_le (callS s p).2.2.1
  by_cases p1 : s.ph = 1
  · have e : callS s p = ([.fin], 0, { s with win := false, due := false, ph := 0 }, 0) := by unfold callS; rw [if_neg (by omega), if_pos p1]
    have hd := hi.end_ p1
    rw [e]
    have e1 : rk s = 1 := by unfold rk; rw [if_pos hd, if_neg (by omega)]
    have e2 : rk { s with win := false, due := false, ph := 0 } = 0 := rfl
    rw [e1, e2]
    dsimp only
    omega
  · by_cases p2 : s.ph = 2
    · have e : callS s p = if s.left - min s.left p.length = 0 then (data (p.take (min s.left p.length)), min s.left p.length, { s with left := 0, due := true, ph := 1 }, 0)
          else (data (p.take (min s.left p.length)), p.length, { s with left := s.left - min s.left p.length }, 0) := by
        unfold callS; rw [if_neg (by omega), if_neg (by omega), if_pos p2]
      by_cases hn : s.left - min s.left p.length = 0
      · rw [if_pos hn] at e
        rw [e]
        have e2 : rk { s with left := 0, due := true, ph := 1 } = 1 := rfl
        rw [e2]
        dsimp only
        cases hd : s.due with
        | false =>
          have := hi.left p2 hd
          have := hne hd
          omega
        | true =>
          have e1 : rk s = 2 := by unfold rk; rw [if_pos hd, if_pos p2]
          omega
      · rw [if_neg hn] at e
        have hd : s.due = false := by
          cases hd : s.due with
          | false => rfl
          | true => have := hi.due hd; omega
        rw [e]
        have e2 : rk { s with left := s.left - min s.left p.length } = 0 := rk_no hd
        rw [e2]
        dsimp only
        have := hne hd
        omega
    · have hd : s.due = false := by
        cases hd : s.due with
        | false => rfl
        | true => have := hi.due hd; omega
      have hl := hne hd
      by_cases hq : 1 ≤ (callS s p).2.1
      · omega
      · exfalso
        apply hq
        by_cases p0 : s.ph = 0
        · obtain ⟨hb, hbl⟩ := hi.blk p0
          have e := call0 p0 p
          cases he : headEnd (s.blk ++ p.take (16384 - s.blk.length)) with
          | none =>
            rw [he] at e
            dsimp only at e
            split at e
            · rw [e]; exact hl
            · rw [e] at h0; exact absurd h0 (refuse_pos _)
          | some n =>
            have := (headEnd_late hb he).1
            rw [he] at e
            rw [e]
            dsimp only
            omega
        · by_cases p3 : s.ph = 3
          · obtain ⟨h11, hok⟩ := hi.body p3
            have e : callS s p = if (Chunk.feed s.body p 0 []).2.2.2 = 1 then (data (Chunk.feed s.body p 0 []).2.1, (Chunk.feed s.body p 0 []).2.2.1, { s with body := (Chunk.feed s.body p 0 []).1, due := true, ph := 1 }, 0)
              else (data (Chunk.feed s.body p 0 []).2.1, p.length, { s with body := (Chunk.feed s.body p 0 []).1 }, if (Chunk.feed s.body p 0 []).2.2.2 = 2 then 230 else 0) := by
              unfold callS; rw [if_neg (by omega), if_neg (by omega), if_neg (by omega), if_pos p3, feedA_feed h11 hok]
            rw [e]
            split
            · rename_i h1; exact feed_one p _ h1
            · exact hl
          · have e : callS s p = (data p, p.length, s, 0) := by unfold callS; rw [if_neg p0, if_neg p1, if_neg p2, if_neg p3]
            rw [e]; exact hl

/-! ### a piece that is fed -/
theorem Feeds.det {s u v : S} {p : Bs} {es fs : List E1} {r q : Nat} (h : Feeds s p u es r) (k : Feeds s p v fs q) : u = v ∧ es = fs ∧ r = q := by
  induction h generalizing v fs q with
  | stop s hd =>
    cases k with
    | stop => exact ⟨rfl, rfl, rfl⟩
    | err _ _ h1 => exact absurd ⟨rfl, hd⟩ h1
    | go _ _ _ _ _ h1 => exact absurd ⟨rfl, hd⟩ h1
  | err s p h1 h2 =>
    cases k with
    | stop _ hd => exact absurd ⟨rfl, hd⟩ h1
    | err _ _ _ _ => exact ⟨rfl, rfl, rfl⟩
    | go _ _ _ _ _ _ h3 => exact absurd h3 h2
  | go s p u es r h1 h2 _ ih =>
    cases k with
    | stop _ hd => exact absurd ⟨rfl, hd⟩ h1
    | err _ _ _ h3 => exact absurd h2 h3
    | go _ _ _ _ _ _ _ h3 =>
      obtain ⟨e1, e2, e3⟩ := ih h3
      exact ⟨e1, by rw [e2], e3⟩
theorem Feeds.due {s u : S} {p : Bs} {es : List E1} {r : Nat} (h : Feeds s p u es r) (h0 : r = 0) : u.due = false := by
  induction h with
  | stop s hd => exact hd
  | err s p _ h2 => exact absurd h0 h2
  | go s p u es r _ _ _ ih => exact ih h0
theorem Feeds.inv {s u : S} {p : Bs} {es : List E1} {r T : Nat} (h : Feeds s p u es r) (hi : Inv s T) (h0 : r = 0) : ∃ T', Inv u T' := by
  induction h generalizing T with
  | stop s hd => exact ⟨T, hi⟩
  | err s p _ h2 => exact absurd h0 h2
  | go s p u es r _ h2 _ ih => exact ih (call_inv hi h2).1 h0
/-- behind a piece that is right comes another one -/
theorem Feeds.app {s u v : S} {a b : Bs} {ea eb : List E1} {r q T : Nat} (h : Feeds s a u ea r) (h0 : r = 0) (hi : Inv s T) (k : Feeds u b v eb q) : ∃ es, Feeds s (a ++ b) v es q ∧ Sim es (ea ++ eb) := by
  induction h generalizing T with
  | stop s hd => exact ⟨eb, k, Sim.refl _⟩
  | err s p _ h2 => exact absurd h0 h2
  | go s p u es r h1 h2 h3 ih =>
    obtain ⟨hi2, hm⟩ := call_inv hi h2
    rcases call_split hi p b with ⟨x, _⟩ | ⟨_, x⟩ | ⟨_, x1, x2, x3, x4, x5⟩
    · exact absurd h2 x
    · obtain ⟨fs, f1, f2⟩ := ih h0 hi2 k
      refine ⟨(callS s p).1 ++ fs, ?_, ?_⟩
      · have hg := Feeds.go s (p ++ b) v fs q (fun e => h1 ⟨(List.append_eq_nil_iff.1 e.1).1, e.2⟩) (by rw [x]; exact h2) (by
          rw [x, List.drop_append_of_le_length hm]; exact f1)
        rw [x] at hg
        exact hg
      · rw [List.append_assoc]; exact Sim.app (Sim.refl _) f2
    · rw [x1, List.drop_length] at h3
      cases h3 with
      | err _ _ y => exact absurd ⟨rfl, x2⟩ y
      | go _ _ _ _ _ y => exact absurd ⟨rfl, x2⟩ y
      | stop _ _ =>
        rw [List.append_nil]
        by_cases hb : b = []
        · subst hb
          cases k with
          | err _ _ y => exact absurd ⟨rfl, x2⟩ y
          | go _ _ _ _ _ y => exact absurd ⟨rfl, x2⟩ y
          | stop _ _ =>
            refine ⟨(callS s p).1 ++ [], ?_, Sim.refl _⟩
            rw [List.append_nil]
            exact Feeds.go s p _ [] 0 h1 h2 (by rw [x1, List.drop_length]; exact Feeds.stop _ x2)
        · have hne : ¬ (p ++ b = [] ∧ s.due = false) := fun e => hb (List.append_eq_nil_iff.1 e.1).2
          cases k with
          | stop => exact absurd rfl hb
          | err _ _ y1 y2 =>
            refine ⟨(callS s (p ++ b)).1, ?_, x5⟩
            have hg := Feeds.err s (p ++ b) hne (by rw [x3]; exact y2)
            rw [x3] at hg
            exact hg
          | go _ _ _ es2 _ y1 y2 y3 =>
            refine ⟨(callS s (p ++ b)).1 ++ es2, ?_, ?_⟩
            · refine Feeds.go s (p ++ b) v es2 q hne (by rw [x3]; exact y2) ?_
              rw [x3, x4 hb y2, List.drop_length_add_append]
              exact y3
            · rw [← List.append_assoc]; exact Sim.app x5 (Sim.refl _)
/-- behind a wrong piece nothing counts -/
theorem Feeds.wrong {s u : S} {a b : Bs} {ea : List E1} {r T : Nat} (h : Feeds s a u ea r) (h0 : r ≠ 0) (hi : Inv s T) : ∃ v, Feeds s (a ++ b) v ea r := by
  induction h generalizing T with
  | stop s hd => exact absurd rfl h0
  | err s p h1 h2 =>
    rcases call_split hi p b with ⟨_, x1, x2⟩ | ⟨x, _⟩ | ⟨x, _⟩
    · have hg := Feeds.err s (p ++ b) (fun e => h1 ⟨(List.append_eq_nil_iff.1 e.1).1, e.2⟩) (by rw [x2]; exact h2)
      rw [x1, x2] at hg
      exact ⟨_, hg⟩
    · exact absurd x h2
    · exact absurd x h2
  | go s p u es r h1 h2 h3 ih =>
    obtain ⟨hi2, hm⟩ := call_inv hi h2
    rcases call_split hi p b with ⟨x, _⟩ | ⟨_, x⟩ | ⟨_, x1, x2, _⟩
    · exact absurd h2 x
    · obtain ⟨v, f1⟩ := ih h0 hi2
      have hg := Feeds.go s (p ++ b) v es r (fun e => h1 ⟨(List.append_eq_nil_iff.1 e.1).1, e.2⟩) (by rw [x]; exact h2) (by
        rw [x, List.drop_append_of_le_length hm]; exact f1)
      rw [x] at hg
      exact ⟨v, hg⟩
    · rw [x1, List.drop_length] at h3
      cases h3 with
      | err _ _ y => exact absurd ⟨rfl, x2⟩ y
      | go _ _ _ _ _ y => exact absurd ⟨rfl, x2⟩ y
      | stop _ _ => exact absurd rfl h0
end Strm
end Go.Proofs.YtklmpadcfioefaaDoor
