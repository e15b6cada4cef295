/- A chunk reader behind a change elsewhere. No condition. -/
import Derived.Test.YtklmpadcfioefaaGreatDoorFeed
import Derived.Test.YtklmpadcfioefaaGreatDoorMX0
namespace Go.Proofs.YtklmpadcfioefaaGreatDoor
open Go.RowKit

theorem Rdr.chgd {S : Nat → Prop} {w w' : World} {base b : Nat} {s : Chunk.St} {vl vt : Value} (h : Rdr w base b s vl vt) (hc : Chg S w w') (hS : ∀ k, foot b vl vt k → ¬ S k) : Rdr w' base b s vl vt :=
  ⟨h.mid.var.chg hc (hS b (Or.inl rfl)), h.mid.line.chg hc (fun k hk => hS k (Or.inr (Or.inl hk))), h.mid.tr.chg hc (fun k hk => hS k (Or.inr (Or.inr hk))), Chg.refl _ _, Or.inl rfl, h.mid.nl, h.mid.nt, h.mid.lt, h.mid.le⟩
theorem Rdr.foot_in {w : World} {base b : Nat} {s : Chunk.St} {vl vt : Value} (h : Rdr w base b s vl vt) : ∀ k, foot b vl vt k → base ≤ k ∧ k < w.heap.size :=
  fun k hk => ⟨h.mid.foot_ge k hk, h.mid.foot_lt k hk⟩
theorem rdr_new2 (w : World) : Rdr (w.alloc (.cells #[.int .i64 0, .int .i64 0, .slice none 0 0, .int .i64 0, .int .i64 0, .int .i64 0, .int .i64 0, .slice none 0 0] 111)) w.heap.size w.heap.size {} (.slice none 0 0) (.slice none 0 0) :=
  ⟨Var.new w 111 [.int .i64 0, .int .i64 0, .slice none 0 0, .int .i64 0, .int .i64 0, .int .i64 0, .int .i64 0, .slice none 0 0], Row.nil _ _ _, Row.nil _ _ _, Chg.refl _ _, Or.inl rfl, by simp [Value.ownBlock], by simp [Value.ownBlock], fun k hk => by simp [Value.ownBlock] at hk, Nat.le_refl _⟩
theorem Rdr.mono2 {w : World} {base base' b : Nat} {s : Chunk.St} {vl vt : Value} (h : Rdr w base b s vl vt) (hb : base' ≤ base) : Rdr w base' b s vl vt :=
  ⟨h.mid.var, h.mid.line.mono hb, h.mid.tr.mono hb, Chg.refl _ _, Or.inl rfl, h.mid.nl, h.mid.nt, h.mid.lt, Nat.le_trans hb h.mid.le⟩
end Go.Proofs.YtklmpadcfioefaaGreatDoor
