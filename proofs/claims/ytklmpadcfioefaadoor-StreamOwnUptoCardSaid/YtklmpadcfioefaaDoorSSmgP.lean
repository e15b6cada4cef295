/- Plain law: no head that a reader of requests hands out can smuggle. No program in sight. No condition. -/
import Derived.Test.YtklmpadcfioefaaDoorSHead2
import Derived.Test.YtklmpadcfioefaaDoorMB
namespace Go.Proofs.YtklmpadcfioefaaDoor
namespace Strm
structure NoSmug (h : Hd) (fr : Nat) : Prop where
  few : h.fs.length ≤ 64
  size : flSize (flB h.fs) ≤ 2097408
  host : h.mn = 1 → (vals (flB h.fs) sHost).length = 1
  cod : vals (flB h.fs) sCod ≠ [] → vals (flB h.fs) sLen = [] ∧ fr = 2 ∧ h.mn = 1
  no : vals (flB h.fs) sCod = [] → fr ≠ 2 ∧ fr ≠ 3 ∧ (listed (vals (flB h.fs) sLen) ≠ [] ↔ fr = 1)
  eq : ∀ a ∈ listed (vals (flB h.fs) sLen), ∀ b ∈ listed (vals (flB h.fs) sLen), a = b
theorem hosted_one {mn : Int} {L : List ByteArray} (h : hostedL mn L = true) (h1 : mn = 1) : L.length = 1 := by
  rcases L with _ | ⟨a, _ | ⟨b, r⟩⟩
  · simp [hostedL, h1] at h
  · rfl
  · simp [hostedL] at h
theorem length_eq {l : List ByteArray} {n : Nat} (h : lengthP l = some n) : l ≠ [] ∧ ∀ a ∈ l, ∀ b ∈ l, a = b := by
  cases l with
  | nil => cases h
  | cons x r =>
    rw [lengthP_cons] at h
    split at h
    · cases h
    · split at h
      · rename_i hd
        have e : ∀ a ∈ x :: r, a = x := fun a ha => by
          rcases List.mem_cons.1 ha with ha | ha
          · exact ha
          · exact hd.2 a ha
        exact ⟨by simp, fun a ha b hb => (e a ha).trans (e b hb).symm⟩
      · cases h
theorem framing_smug {hd : Bool} {st : Int} {h : Hd} {fr ln : Nat} (hf : h.fs.length ≤ 64) (hz : flSize (flB h.fs) ≤ 2097408) (e : framingP true hd st h.mn (flB h.fs) = (fr, ln, 0)) : NoSmug h fr := by
  unfold framingP at e
  split at e
  · injection e with _ e; injection e with _ e; cases e
  · rename_i hh
    have hho : hostedP h.mn (flB h.fs) = true := by
      cases hq : hostedP h.mn (flB h.fs) with
      | true => rfl
      | false => exact absurd ⟨rfl, hq⟩ hh
    rw [if_neg (by rintro ⟨h1, _⟩; cases h1)] at e
    have H : (h.mn = 1 → (vals (flB h.fs) sHost).length = 1) := fun h1 => hosted_one (mn := h.mn) hho (by omega)
    by_cases hc : vals (flB h.fs) sCod ≠ []
    · rw [if_pos hc] at e
      split at e
      · rename_i hcd
        injection e with e1 _
        unfold codedP at hcd
        rw [Bool.and_eq_true, Bool.and_eq_true, decide_eq_true_eq] at hcd
        have hl : vals (flB h.fs) sLen = [] := by simpa using hcd.1.2
        refine ⟨hf, hz, H, fun _ => ⟨hl, e1.symm, by have := hcd.1.1; omega⟩, fun h0 => absurd h0 hc, ?_⟩
        rw [hl]
        intro a ha
        exact absurd ha (by simp [listed])
      · injection e with _ e; injection e with _ e; cases e
    · rw [if_neg hc] at e
      by_cases hl : vals (flB h.fs) sLen ≠ []
      · rw [if_pos hl] at e
        cases hn : lengthP (listed (vals (flB h.fs) sLen)) with
        | none => rw [hn] at e; injection e with _ e; injection e with _ e; cases e
        | some n =>
          rw [hn] at e
          injection e with e1 _
          obtain ⟨h1, h2⟩ := length_eq hn
          exact ⟨hf, hz, H, fun h0 => absurd h0 hc, fun _ => ⟨by omega, by omega, fun _ => e1.symm, fun _ => h1⟩, h2⟩
      · rw [if_neg hl, if_pos rfl] at e
        injection e with e1 _
        have hl : vals (flB h.fs) sLen = [] := Classical.not_not.1 hl
        have hll : listed (vals (flB h.fs) sLen) = [] := by rw [hl]; simp [listed]
        refine ⟨hf, hz, H, fun h0 => absurd h0 hc, fun _ => ⟨by omega, by omega, fun h0 => absurd hll h0, fun h0 => by omega⟩, ?_⟩
        rw [hll]
        intro a ha
        cases ha
theorem call_rq (s : S) (p : Bs) : (callS s p).2.2.1.rq = s.rq := by
  unfold callS headS
  dsimp only
  repeat' split
  all_goals rfl
theorem data_head {p : Bs} {h : Hd} {fr ln : Nat} : E1.head h fr ln ∉ data p := by
  unfold data
  split
  · simp
  · simp
theorem call_head {s : S} {p : Bs} {h : Hd} {fr ln : Nat} (hm : E1.head h fr ln ∈ (callS s p).1) : ∃ b t, parseP b s.rq = (h, 0) ∧ headFr t h = (fr, ln, 0) := by
  unfold callS at hm
  split at hm
  · dsimp only at hm
    split at hm
    · split at hm <;> cases hm
    · rename_i n hn
      unfold headS at hm
      dsimp only at hm
      split at hm
      · cases hm
      · rename_i hp
        split at hm
        · cases hm
        · rename_i hf
          simp only [List.mem_cons, List.not_mem_nil, or_false] at hm
          injection hm with h1 h2 h3
          refine ⟨List.take n (s.blk ++ List.take (16384 - List.length s.blk) p), { rq := s.rq, ms := s.ms, ph := s.ph, blk := s.blk ++ List.take (16384 - List.length s.blk) p, left := s.left, body := s.body, fr := s.fr, win := true, due := s.due, dead := s.dead }, ?_, ?_⟩
          · rw [h1]
            exact Prod.ext rfl (Classical.not_not.1 hp)
          · rw [h1, h2, h3]
            exact Prod.ext rfl (Prod.ext rfl (Classical.not_not.1 hf))
  · split at hm
    · simp at hm
    · split at hm
      · dsimp only at hm
        split at hm <;> exact absurd hm data_head
      · split at hm
        · dsimp only at hm
          split at hm <;> exact absurd hm data_head
        · exact absurd hm data_head
theorem feeds_smug {s u : S} {p : Bs} {es : List E1} {r : Nat} (hf : Feeds s p u es r) (hq : s.rq = true) : ∀ h fr ln, E1.head h fr ln ∈ es → NoSmug h fr := by
  have K : ∀ (s : S) (p : Bs), s.rq = true → ∀ h fr ln, E1.head h fr ln ∈ (callS s p).1 → NoSmug h fr := by
    intro s p hq h fr ln hm
    obtain ⟨b, t, hp, hfr⟩ := call_head hm
    rw [hq] at hp
    obtain ⟨h0, hf0, hh, _⟩ := parse_inv hp
    have hrq : h.rq = true := by rw [hh]; exact (first_line hf0).2.1
    obtain ⟨_, z2, z3⟩ := hparse_sizes hp
    unfold headFr at hfr
    rw [hrq] at hfr
    exact framing_smug z3 z2 hfr
  induction hf with
  | stop => intro h fr ln hm; cases hm
  | err s p _ _ => exact K s p hq
  | go s p u es r _ _ _ ih =>
    intro h fr ln hm
    rcases List.mem_append.1 hm with hm | hm
    · exact K s p hq h fr ln hm
    · exact ih (by rw [call_rq]; exact hq) h fr ln hm
end Strm
end Go.Proofs.YtklmpadcfioefaaDoor
