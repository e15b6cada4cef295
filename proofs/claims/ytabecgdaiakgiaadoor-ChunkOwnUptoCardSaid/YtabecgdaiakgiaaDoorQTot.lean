/- the document's reader: Trailers, Total; the program's Feed wherever it stands. Conditions: sizes, the world's shape. -/
import Derived.Test.YtabecgdaiakgiaaDoorQFeed
namespace Go.Proofs.YtabecgdaiakgiaaDoor
open Go.RowKit

/-- Feed, wherever the reader stands -/
theorem feedA_any {s : Chunk.St} {T : Nat} (A : Option Addr) (n c : Nat) (l : Bs) {w : World} {base b : Nat} {vl vt : Value} (hsh : Shp base w) (h : Rdr w base b s vl vt) (hok : Chunk.Good s T) (hT : T + n ≤ 1000000000000)
    (hn : n ≤ 100000000) (hnc : n ≤ c) (hA : A = none → n = 0) (hrd : Rd w w.heap.size 1 A n (bytesV l)) (hsep : 0 < n → ∀ g o, A = some ⟨g, o, none⟩ → ¬ foot b vl vt g) :
    Calls Tryd.prog 23 #[.pointer (some ⟨b, 0, none⟩), .slice A n c] w (FeedPost w base b vl vt (Chunk.feedA s l)) := by
  have same : ∀ (dn : Bool) (q : Nat) (er : Int), dn = decide (q = 1) → er = (if q = 2 then 230 else 0) → FeedPost w base b vl vt (s, [], 0, q) (.returned (.tuple #[.slice none 0 0, .int .i64 0, .bool dn, .int .i64 er])) w := by
    intro dn q er e1 e2
    subst e1 e2
    exact ⟨_, rfl, RowB.nil _ _, vl, vt, h, Chg.refl _ _, fun k hk => Or.inl hk, fun k hk => Or.inl hk, fun k hk => by simp [Value.ownBlock] at hk⟩
  by_cases h11 : s.at_ = 11
  · rw [Chunk.feedA, if_pos h11]
    refine (feed_over A n c h h11).mono ?_
    rintro _ _ ⟨rfl, rfl⟩
    exact same true 1 0 rfl rfl
  · by_cases h12 : s.at_ = 12
    · rw [Chunk.feedA, if_neg h11, if_pos h12]
      refine (feed_dead h h12).mono ?_
      rintro _ _ ⟨rfl, rfl⟩
      exact same false 2 230 rfl rfl
    · rw [Chunk.feedA, if_neg h11, if_neg h12]
      rcases hok with hok | hok
      · exact absurd hok h12
      · exact feed_any A n c l hsh h hok h11 hT hn hnc hA hrd hsep
end Go.Proofs.YtabecgdaiakgiaaDoor
