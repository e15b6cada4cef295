/- Two readers and the document's, side by side in memory; pieces of bytes that came in. No condition. -/
import Derived.Test.YtabecgdaiakgiaaDoorQTot
import Derived.Test.YtabecgdaiakgiaaDoorCReads
import Derived.Deep.Matrix
namespace Go.Proofs.YtabecgdaiakgiaaDoor
open Go.RowKit

def qfoot (b : Nat) (va : Value) (k : Nat) : Prop := k = b ∨ va.ownBlock = some k
theorem Rdr.chg {S : Nat → Prop} {w w' : World} {base b : Nat} {s : Chunk.St} {vl vt : Value} (h : Rdr w base b s vl vt) (hc : Chg S w w') (hS : ∀ k, foot b vl vt k → ¬ S k) : Rdr w' base b s vl vt :=
  ⟨h.mid.var.chg hc (hS b (Or.inl rfl)), h.mid.line.chg hc (fun k hk => hS k (Or.inr (Or.inl hk))), h.mid.tr.chg hc (fun k hk => hS k (Or.inr (Or.inr hk))), Chg.refl _ _, Or.inl rfl, h.mid.nl, h.mid.nt, h.mid.lt, h.mid.le⟩
theorem Rdr.foot_lt {w : World} {base b : Nat} {s : Chunk.St} {vl vt : Value} (h : Rdr w base b s vl vt) : ∀ k, foot b vl vt k → base ≤ k ∧ k < w.heap.size :=
  fun k hk => ⟨h.mid.foot_ge k hk, h.mid.foot_lt k hk⟩

section
variable {B b1 b2 b3 : Nat} {w w' : World} {s1 s2 s' : Chunk.St} {d d' : Chunk.Doc} {vl1 vt1 vl2 vt2 va vl' vt' va' : Value}
/-- the blocks of the three -/
def three (b1 b2 b3 : Nat) (vl1 vt1 vl2 vt2 va : Value) (k : Nat) : Prop := foot b1 vl1 vt1 k ∨ foot b2 vl2 vt2 k ∨ qfoot b3 va k
end

/-- Trailers, wherever a reader stands -/
def trOf (s : Chunk.St) : List (Bs × Bs) := if s.at_ = 11 then s.trailers else []
theorem trOf_few {s : Chunk.St} {T : Nat} (h : Chunk.Good s T) : (trOf s).length ≤ 64 := by
  unfold trOf
  by_cases h11 : s.at_ = 11
  · rw [if_pos h11]; exact h.few h11
  · rw [if_neg h11]; exact Nat.zero_le _
theorem ctrail_any {s : Chunk.St} {T : Nat} {w : World} {base b : Nat} {vl vt : Value} (h : Rdr w base b s vl vt) (hg : Chunk.Good s T) : Calls Tryd.prog 26 #[.pointer (some ⟨b, 0, none⟩)] w fun e w' =>
    ∃ v, e = .returned v ∧ Row w' w.heap.size 2 v (trOf s).length (fieldsV (flB (trOf s))) ∧ Below w.heap.size w w' := by
  unfold trOf
  by_cases h11 : s.at_ = 11
  · rw [if_pos h11]; exact ctrail_yes h h11 (hg.few h11)
  · rw [if_neg h11]
    refine (ctrail_no h h11).mono ?_
    rintro _ _ ⟨rfl, rfl⟩
    exact ⟨_, rfl, Row.nil _ _ _, Below.refl _ _⟩
theorem Chunk.Both.alive {d : Chunk.Doc} {s : Chunk.St} {b : Bs} (h : Chunk.Both d s b) (h1 : d.done = false) (h2 : d.dead = false) : ∃ s b, Chunk.Alive d.all s b := by
  rcases h with ⟨_, _, h, _⟩ | ⟨e, _⟩ | ⟨_, e, _⟩
  · exact ⟨_, _, h⟩
  · rw [h1] at e; cases e
  · rw [h2] at e; cases e
theorem Chunk.docFeed_all (d : Chunk.Doc) (p : Bs) : (Chunk.docFeed d p).1.all.length ≤ d.all.length + p.length := by
  unfold Chunk.docFeed
  by_cases h1 : d.done = true
  · rw [if_pos h1]; simp
  · rw [if_neg h1]
    by_cases h2 : d.dead = true
    · rw [if_pos h2]; simp
    · rw [if_neg h2]; simp only [List.length_take, List.length_append]; omega

/-- pieces: a slice of slices of bytes, all below block B -/
structure Pcs (w : World) (B : Nat) (A : Option Addr) (n : Nat) (ps : List Bs) : Prop where
  len : ps.length = n
  get : ∀ k (hk : k < ps.length), ∃ g o a c, A = some ⟨g, o, none⟩ ∧ g < B ∧ w.cell? ⟨g, o + k, none⟩ = some (.slice a ps[k].length c) ∧ ps[k].length ≤ c ∧ (a = none → ps[k].length = 0) ∧ Rd w B 1 a ps[k].length (bytesV ps[k])
theorem Pcs.below {w w' : World} {B n : Nat} {A : Option Addr} {ps : List Bs} (h : Pcs w B A n ps) (hb : Below B w w') : Pcs w' B A n ps :=
  ⟨h.len, fun k hk => by
    obtain ⟨g, o, a, c, e, hg, hc, h1, h2, h3⟩ := h.get k hk
    exact ⟨g, o, a, c, e, hg, (hb.cell (p := ⟨g, o + k, none⟩) hg).trans hc, h1, h2, h3.below hb⟩⟩
def sizes (ps : List Bs) : Nat := (ps.map List.length).sum
theorem sizes_take (ps : List Bs) (k : Nat) (hk : k < ps.length) : sizes (ps.take (k + 1)) = sizes (ps.take k) + ps[k].length := by
  unfold sizes
  rw [List.take_succ_eq_append_getElem hk, List.map_append, List.sum_append]; simp
theorem sizes_le (ps : List Bs) (k : Nat) : sizes (ps.take k) ≤ sizes ps := by
  unfold sizes
  conv => rhs; rw [← List.take_append_drop k ps, List.map_append, List.sum_append]
  omega
end Go.Proofs.YtabecgdaiakgiaaDoor
