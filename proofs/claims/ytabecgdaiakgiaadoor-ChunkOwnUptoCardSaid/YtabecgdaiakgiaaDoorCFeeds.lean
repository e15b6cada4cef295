/- the law ChunkFeeds. Conditions: sizes, the world's shape. -/
import Derived.Test.YtabecgdaiakgiaaDoorTrio
namespace Go.Proofs.YtabecgdaiakgiaaDoor
open Go.RowKit

theorem Rdr.mono {w : World} {base base' b : Nat} {s : Chunk.St} {vl vt : Value} (h : Rdr w base b s vl vt) (hb : base' ≤ base) : Rdr w base' b s vl vt :=
  ⟨h.mid.var, h.mid.line.mono hb, h.mid.tr.mono hb, Chg.refl _ _, Or.inl rfl, h.mid.nl, h.mid.nt, h.mid.lt, Nat.le_trans hb h.mid.le⟩
theorem Rdr.below {w w' : World} {base b : Nat} {s : Chunk.St} {vl vt : Value} (h : Rdr w base b s vl vt) (hb : Below w.heap.size w w') : Rdr w' base b s vl vt :=
  h.chg (S := fun _ => False) (Chg.of_below hb) (fun _ _ e => e)
namespace Chunk
theorem feed_body_le (l : Bs) : ∀ (s : St), (feed s l 0 []).2.1.length ≤ l.length := by
  induction l with
  | nil => intro s; simp [feed]
  | cons c l ih =>
    intro s
    rw [feed]
    split
    · rw [feed_acc]; have := ih { s with at_ := if s.left - 1 = 0 then 4 else 3, left := s.left - 1, total := s.total + 1 }; simp only [List.length_cons, List.length_append, List.length_nil]; omega
    · split
      · simp
      · split
        · simp
        · rw [feed_acc]; have := ih (step s c).1; simp only [List.length_cons, List.length_append, List.length_nil]; omega
theorem feedA_le (s : St) (l : Bs) : (feedA s l).2.1.length ≤ l.length := by
  unfold feedA
  by_cases h11 : s.at_ = 11
  · rw [if_pos h11]; exact Nat.zero_le _
  · rw [if_neg h11]
    by_cases h12 : s.at_ = 12
    · rw [if_pos h12]; exact Nat.zero_le _
    · rw [if_neg h12]; exact feed_body_le l s
end Chunk
end Go.Proofs.YtabecgdaiakgiaaDoor
