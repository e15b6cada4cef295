/- the document's reader: Feed, Trailers, Total. Conditions: sizes. -/
import Derived.Test.YtabecgdaiakgiaaDoorMLent
import Derived.Test.YtabecgdaiakgiaaDoorFeedsLaw
namespace Go.Proofs.YtabecgdaiakgiaaDoor
open Go.RowKit

theorem Row.head {w : World} {base sz n c k : Nat} {A : Option Addr} {xs : List Value} (h : Row w base sz (.slice A n c) n xs) (hk : k ≤ n) : Row w base sz (.slice A k c) k (xs.take (k * sz)) := by
  refine ⟨by rw [List.length_take, h.1]; exact Nat.min_eq_left (Nat.mul_le_mul_right _ hk), ?_⟩
  rcases h.2 with ⟨e, rfl⟩ | ⟨g, o, cap, cur, t, fr, he, hb, hg, hnc, hm, hs, hf, ht⟩
  · injection e with e1 _ e3
    subst e1 e3
    obtain rfl : k = 0 := by omega
    exact .inl ⟨rfl, rfl⟩
  · injection he with e1 _ e3
    subst e1 e3
    refine .inr ⟨g, o, c, cur, t, fr, rfl, hb, hg, by omega, hm, hs, hf, ?_⟩
    rw [← ht, List.take_take, Nat.min_eq_left (Nat.mul_le_mul_right _ hk)]
theorem RowB.head {w : World} {base c : Nat} {A : Option Addr} {L : Bs} (h : RowB w base (.slice A L.length c) L) (k : Nat) (hk : k ≤ L.length) : RowB w base (.slice A k c) (L.take k) := by
  have h1 := Row.head h hk
  rw [Nat.mul_one, bytesV_take] at h1
  unfold RowB
  rw [List.length_take, Nat.min_eq_left hk]
  exact h1

theorem Chunk.readOf_le (l : Bs) : (Chunk.readOf l).read ≤ l.length := by
  rw [Chunk.readOf_feed]; exact Chunk.feed_read_le l {}

theorem own_len (A : Option Addr) (n m c d : Nat) : (Value.slice A n c).ownBlock = (Value.slice A m d).ownBlock := by cases A <;> rfl
end Go.Proofs.YtabecgdaiakgiaaDoor
