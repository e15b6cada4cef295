/- Two readers and the document's, side by side in memory; pieces of bytes that came in. No condition. -/
import Derived.Test.YthipgmnfokfaiaaDoorQTot
import Derived.Test.YthipgmnfokfaiaaDoorCReads
import Derived.Deep.Matrix
namespace Go.Proofs.YthipgmnfokfaiaaDoor
open Go.RowKit

def qfoot (b : Nat) (va : Value) (k : Nat) : Prop := k = b ∨ va.ownBlock = some k
structure Trio (B : Nat) (w : World) (b1 b2 b3 : Nat) (s1 s2 : Chunk.St) (d : Chunk.Doc) (vl1 vt1 vl2 vt2 va : Value) : Prop where
  r : Rdr w B b1 s1 vl1 vt1
  s : Rdr w B b2 s2 vl2 vt2
  q : QR w B b3 d va
  rs : ∀ k, foot b1 vl1 vt1 k → ¬ foot b2 vl2 vt2 k
  rq : ∀ k, foot b1 vl1 vt1 k → ¬ qfoot b3 va k
  sq : ∀ k, foot b2 vl2 vt2 k → ¬ qfoot b3 va k
theorem Rdr.chg {S : Nat → Prop} {w w' : World} {base b : Nat} {s : Chunk.St} {vl vt : Value} (h : Rdr w base b s vl vt) (hc : Chg S w w') (hS : ∀ k, foot b vl vt k → ¬ S k) : Rdr w' base b s vl vt :=
  ⟨h.mid.var.chg hc (hS b (Or.inl rfl)), h.mid.line.chg hc (fun k hk => hS k (Or.inr (Or.inl hk))), h.mid.tr.chg hc (fun k hk => hS k (Or.inr (Or.inr hk))), Chg.refl _ _, Or.inl rfl, h.mid.nl, h.mid.nt, h.mid.lt, h.mid.le⟩
theorem QR.chg' {S : Nat → Prop} {w w' : World} {base b : Nat} {d : Chunk.Doc} {va : Value} (h : QR w base b d va) (hc : Chg S w w') (hS : ∀ k, qfoot b va k → ¬ S k) : QR w' base b d va :=
  h.chg hc (hS b (Or.inl rfl)) (fun k hk => hS k (Or.inr hk))
theorem QR.foot_lt {w : World} {base b : Nat} {d : Chunk.Doc} {va : Value} (h : QR w base b d va) : ∀ k, qfoot b va k → base ≤ k ∧ k < w.heap.size := by
  intro k hk
  rcases hk with x | x
  · subst x; exact ⟨h.le, h.var.lt⟩
  · exact RowB.lt h.row k x
theorem Rdr.foot_lt {w : World} {base b : Nat} {s : Chunk.St} {vl vt : Value} (h : Rdr w base b s vl vt) : ∀ k, foot b vl vt k → base ≤ k ∧ k < w.heap.size :=
  fun k hk => ⟨h.mid.foot_ge k hk, h.mid.foot_lt k hk⟩

section
variable {B b1 b2 b3 : Nat} {w w' : World} {s1 s2 s' : Chunk.St} {d d' : Chunk.Doc} {vl1 vt1 vl2 vt2 va vl' vt' va' : Value}
/-- the blocks of the three -/
def three (b1 b2 b3 : Nat) (vl1 vt1 vl2 vt2 va : Value) (k : Nat) : Prop := foot b1 vl1 vt1 k ∨ foot b2 vl2 vt2 k ∨ qfoot b3 va k
theorem Trio.lt (h : Trio B w b1 b2 b3 s1 s2 d vl1 vt1 vl2 vt2 va) : ∀ k, three b1 b2 b3 vl1 vt1 vl2 vt2 va k → B ≤ k ∧ k < w.heap.size := by
  intro k hk
  rcases hk with x | x | x
  · exact h.r.foot_lt k x
  · exact h.s.foot_lt k x
  · exact h.q.foot_lt k x
theorem Trio.chg {S : Nat → Prop} (h : Trio B w b1 b2 b3 s1 s2 d vl1 vt1 vl2 vt2 va) (hc : Chg S w w') (hS : ∀ k, three b1 b2 b3 vl1 vt1 vl2 vt2 va k → ¬ S k) : Trio B w' b1 b2 b3 s1 s2 d vl1 vt1 vl2 vt2 va :=
  ⟨h.r.chg hc (fun k x => hS k (Or.inl x)), h.s.chg hc (fun k x => hS k (Or.inr (Or.inl x))), h.q.chg' hc (fun k x => hS k (Or.inr (Or.inr x))), h.rs, h.rq, h.sq⟩
theorem Trio.below (h : Trio B w b1 b2 b3 s1 s2 d vl1 vt1 vl2 vt2 va) (hb : Below w.heap.size w w') : Trio B w' b1 b2 b3 s1 s2 d vl1 vt1 vl2 vt2 va :=
  h.chg (S := fun _ => False) (Chg.of_below hb) (fun _ _ e => e)
theorem Trio.grown {row : Option Nat} (h : Trio B w b1 b2 b3 s1 s2 d vl1 vt1 vl2 vt2 va) (hg : w.grownBy w' row) (hS : ∀ k, row = some k → ¬ three b1 b2 b3 vl1 vt1 vl2 vt2 va k) : Trio B w' b1 b2 b3 s1 s2 d vl1 vt1 vl2 vt2 va :=
  h.chg (S := fun k => row = some k) ((Chg.refl _ w).grown hg (fun _ _ e => e)) (fun k hk e => hS k e hk)
/-- the first is fed -/
theorem Trio.fed1 (h : Trio B w b1 b2 b3 s1 s2 d vl1 vt1 vl2 vt2 va) (hc : Chg (foot b1 vl1 vt1) w w') (hr : Rdr w' B b1 s' vl' vt') (k1 : ∀ k, vl'.ownBlock = some k → vl1.ownBlock = some k ∨ w.heap.size ≤ k) (k2 : ∀ k, vt'.ownBlock = some k → vt1.ownBlock = some k ∨ w.heap.size ≤ k) :
    Trio B w' b1 b2 b3 s' s2 d vl' vt' vl2 vt2 va := by
  have hf : ∀ k, foot b1 vl' vt' k → foot b1 vl1 vt1 k ∨ w.heap.size ≤ k := by
    intro k hk
    rcases hk with x | x | x
    · exact Or.inl (Or.inl x)
    · rcases k1 k x with y | y
      · exact Or.inl (Or.inr (Or.inl y))
      · exact Or.inr y
    · rcases k2 k x with y | y
      · exact Or.inl (Or.inr (Or.inr y))
      · exact Or.inr y
  refine ⟨hr, h.s.chg hc (fun k x e => h.rs k e x), h.q.chg' hc (fun k x e => h.rq k e x), ?_, ?_, h.sq⟩
  · intro k x y
    rcases hf k x with z | z
    · exact h.rs k z y
    · have := (h.s.foot_lt k y).2; omega
  · intro k x y
    rcases hf k x with z | z
    · exact h.rq k z y
    · have := (h.q.foot_lt k y).2; omega
/-- the second is fed -/
theorem Trio.fed2 (h : Trio B w b1 b2 b3 s1 s2 d vl1 vt1 vl2 vt2 va) (hc : Chg (foot b2 vl2 vt2) w w') (hr : Rdr w' B b2 s' vl' vt') (k1 : ∀ k, vl'.ownBlock = some k → vl2.ownBlock = some k ∨ w.heap.size ≤ k) (k2 : ∀ k, vt'.ownBlock = some k → vt2.ownBlock = some k ∨ w.heap.size ≤ k) :
    Trio B w' b1 b2 b3 s1 s' d vl1 vt1 vl' vt' va := by
  have hf : ∀ k, foot b2 vl' vt' k → foot b2 vl2 vt2 k ∨ w.heap.size ≤ k := by
    intro k hk
    rcases hk with x | x | x
    · exact Or.inl (Or.inl x)
    · rcases k1 k x with y | y
      · exact Or.inl (Or.inr (Or.inl y))
      · exact Or.inr y
    · rcases k2 k x with y | y
      · exact Or.inl (Or.inr (Or.inr y))
      · exact Or.inr y
  refine ⟨h.r.chg hc (fun k x e => h.rs k x e), hr, h.q.chg' hc (fun k x e => h.sq k e x), ?_, h.rq, ?_⟩
  · intro k x y
    rcases hf k y with z | z
    · exact h.rs k x z
    · have := (h.r.foot_lt k x).2; omega
  · intro k x y
    rcases hf k x with z | z
    · exact h.sq k z y
    · have := (h.q.foot_lt k y).2; omega
/-- the document's is fed -/
theorem Trio.fedq (h : Trio B w b1 b2 b3 s1 s2 d vl1 vt1 vl2 vt2 va) (hc : Chg (fun k => k = b3) w w') (hr : QR w' B b3 d' va') (k1 : ∀ k, va'.ownBlock = some k → va.ownBlock = some k ∨ w.heap.size ≤ k) :
    Trio B w' b1 b2 b3 s1 s2 d' vl1 vt1 vl2 vt2 va' := by
  refine ⟨h.r.chg hc (fun k x e => h.rq k x (Or.inl e)), h.s.chg hc (fun k x e => h.sq k x (Or.inl e)), hr, h.rs, ?_, ?_⟩
  · intro k x y
    rcases y with y | y
    · exact h.rq k x (Or.inl y)
    · rcases k1 k y with z | z
      · exact h.rq k x (Or.inr z)
      · have := (h.r.foot_lt k x).2; omega
  · intro k x y
    rcases y with y | y
    · exact h.sq k x (Or.inl y)
    · rcases k1 k y with z | z
      · exact h.sq k x (Or.inr z)
      · have := (h.s.foot_lt k x).2; omega
end

/-- Trailers, wherever a reader stands -/
def trOf (s : Chunk.St) : List (Bs × Bs) := if s.at_ = 11 then s.trailers else []
theorem trOf_few {s : Chunk.St} {T : Nat} (h : Chunk.Good s T) : (trOf s).length ≤ 64 := by
  unfold trOf
  by_cases h11 : s.at_ = 11
  · rw [if_pos h11]; exact h.few h11
  · rw [if_neg h11]; exact Nat.zero_le _
theorem ctrail_any {s : Chunk.St} {T : Nat} {w : World} {base b : Nat} {vl vt : Value} (h : Rdr w base b s vl vt) (hg : Chunk.Good s T) : Calls Tryd.prog 32 #[.pointer (some ⟨b, 0, none⟩)] w fun e w' =>
    ∃ v, e = .returned v ∧ Row w' w.heap.size 2 v (trOf s).length (fieldsV (flB (trOf s))) ∧ Below w.heap.size w w' := by
  unfold trOf
  by_cases h11 : s.at_ = 11
  · rw [if_pos h11]; exact ctrail_yes h h11 (hg.few h11)
  · rw [if_neg h11]
    refine (ctrail_no h h11).mono ?_
    rintro _ _ ⟨rfl, rfl⟩
    exact ⟨_, rfl, Row.nil _ _ _, Below.refl _ _⟩
theorem qtrail_any {d : Chunk.Doc} {s : Chunk.St} {bd : Bs} {w : World} {base b : Nat} {va : Value} (h : QR w base b d va) (hb : Chunk.Both d s bd) (hn : d.all.length ≤ 100000000) : Calls Tryd.prog 33 #[.pointer (some ⟨b, 0, none⟩)] w fun e w' =>
    ∃ v, e = .returned v ∧ Row w' w.heap.size 2 v (trOf s).length (fieldsV (flB (trOf s))) ∧ Below w.heap.size w w' := by
  have hd := hb.done
  unfold trOf
  by_cases h11 : s.at_ = 11
  · obtain ⟨e1, e2⟩ := hb.trailers h11
    rw [if_pos h11, ← e1]
    exact qtrail_yes h (by rw [hd]; simpa using h11) hn e2
  · rw [if_neg h11]
    refine (qtrail_no h (by rw [hd]; simpa using h11)).mono ?_
    rintro _ _ ⟨rfl, rfl⟩
    exact ⟨_, rfl, Row.nil _ _ _, Below.refl _ _⟩
theorem Chunk.Both.alive {d : Chunk.Doc} {s : Chunk.St} {b : Bs} (h : Chunk.Both d s b) (h1 : d.done = false) (h2 : d.dead = false) : ∃ s b, Chunk.Alive d.all s b := by
  rcases h with ⟨_, _, h, _⟩ | ⟨e, _⟩ | ⟨_, e, _⟩
  · exact ⟨_, _, h⟩
  · rw [h1] at e; cases e
  · rw [h2] at e; cases e
theorem Chunk.docFeed_all (d : Chunk.Doc) (p : Bs) : (Chunk.docFeed d p).1.all.length ≤ d.all.length + p.length := by
  unfold Chunk.docFeed
  by_cases h1 : d.done = true
  · rw [if_pos h1]; simp
  · rw [if_neg h1]
    by_cases h2 : d.dead = true
    · rw [if_pos h2]; simp
    · rw [if_neg h2]; simp only [List.length_take, List.length_append]; omega

/-- pieces: a slice of slices of bytes, all below block B -/
structure Pcs (w : World) (B : Nat) (A : Option Addr) (n : Nat) (ps : List Bs) : Prop where
  len : ps.length = n
  get : ∀ k (hk : k < ps.length), ∃ g o a c, A = some ⟨g, o, none⟩ ∧ g < B ∧ w.cell? ⟨g, o + k, none⟩ = some (.slice a ps[k].length c) ∧ ps[k].length ≤ c ∧ (a = none → ps[k].length = 0) ∧ Rd w B 1 a ps[k].length (bytesV ps[k])
theorem Pcs.below {w w' : World} {B n : Nat} {A : Option Addr} {ps : List Bs} (h : Pcs w B A n ps) (hb : Below B w w') : Pcs w' B A n ps :=
  ⟨h.len, fun k hk => by
    obtain ⟨g, o, a, c, e, hg, hc, h1, h2, h3⟩ := h.get k hk
    exact ⟨g, o, a, c, e, hg, (hb.cell (p := ⟨g, o + k, none⟩) hg).trans hc, h1, h2, h3.below hb⟩⟩
def sizes (ps : List Bs) : Nat := (ps.map List.length).sum
theorem sizes_take (ps : List Bs) (k : Nat) (hk : k < ps.length) : sizes (ps.take (k + 1)) = sizes (ps.take k) + ps[k].length := by
  unfold sizes
  rw [List.take_succ_eq_append_getElem hk, List.map_append, List.sum_append]; simp
theorem sizes_le (ps : List Bs) (k : Nat) : sizes (ps.take k) ≤ sizes ps := by
  unfold sizes
  conv => rhs; rw [← List.take_append_drop k ps, List.map_append, List.sum_append]
  omega
end Go.Proofs.YthipgmnfokfaiaaDoor
