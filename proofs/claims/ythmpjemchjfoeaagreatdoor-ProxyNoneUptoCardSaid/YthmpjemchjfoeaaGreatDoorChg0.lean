/- What a call has turned: its own blocks, and new ones. No condition. -/
import Derived.Test.YthmpjemchjfoeaaGreatDoorVars
namespace Go.Proofs.YthmpjemchjfoeaaGreatDoor
open Go.RowKit

/-- w' is w but for the blocks of S, and new ones -/
structure Chg (S : Nat → Prop) (w w' : World) : Prop where
  os : w'.os = w.os
  tape : w'.tape = w.tape
  output : w'.output = w.output
  size : w.heap.size ≤ w'.heap.size
  block : ∀ k, k < w.heap.size → ¬ S k → w'.heap[k]? = w.heap[k]?

section
variable {S S' : Nat → Prop} {w w' w1 w2 : World} {B base sz n b : Nat} {v : Value} {xs cs : List Value} {t : TypeId} {A : Option Addr}
theorem Chg.refl (S : Nat → Prop) (w : World) : Chg S w w := ⟨rfl, rfl, rfl, Nat.le_refl _, fun _ _ _ => rfl⟩
theorem Chg.trans (h : Chg S w w1) (k : Chg S' w1 w2) (hs : ∀ j, j < w.heap.size → S' j → S j) : Chg S w w2 :=
  ⟨k.os.trans h.os, k.tape.trans h.tape, k.output.trans h.output, Nat.le_trans h.size k.size, fun j hj hn => (k.block j (Nat.lt_of_lt_of_le hj h.size) (fun e => hn (hs j hj e))).trans (h.block j hj hn)⟩
theorem Chg.more (h : Chg S w w') (hs : ∀ j, j < w.heap.size → S j → S' j) : Chg S' w w' :=
  ⟨h.os, h.tape, h.output, h.size, fun j hj hn => h.block j hj (fun e => hn (hs j hj e))⟩
theorem Chg.drew (h : Chg S w w') : Chg S w w'.drew := ⟨h.os, h.tape, h.output, h.size, h.block⟩
theorem Chg.drewN (h : Chg S w w') (q : Nat) : Chg S w (w'.drewN q) := ⟨h.os, h.tape, h.output, h.size, h.block⟩
theorem Chg.alloc (h : Chg S w w') (o : Obj) : Chg S w (w'.alloc o) :=
  h.trans (S' := fun _ => False) ⟨rfl, rfl, rfl, by simp, fun k hk _ => Below.heap_alloc w' o k hk⟩ (fun _ _ e => e.elim)
theorem Chg.setCell (h : Chg S w w') {p : Addr} (hp : p.block < w.heap.size → S p.block) (u : Value) : Chg S w (w'.setCell p u) :=
  h.trans (S' := fun k => k = p.block) ⟨rfl, rfl, rfl, by simp, fun k _ hn => Below.heap_setCell _ _ _ _ hn⟩ (fun j hj e => by subst e; exact hp hj)
theorem Chg.grown {row : Option Nat} (h : Chg S w w') (hg : w'.grownBy w1 row) (hr : ∀ k, k < w.heap.size → row = some k → S k) : Chg S w w1 :=
  h.trans (S' := fun k => row = some k) ⟨hg.os, hg.tape, hg.output, hg.size, fun k hk hn => hg.block k hk (fun e => hn e.symm)⟩ hr
theorem Chg.then_below (h : Chg S w w') (hb : Below w'.heap.size w' w1) : Chg S w w1 :=
  h.trans (S' := fun _ => False) ⟨hb.os, hb.tape, hb.output, hb.size, fun k hk _ => hb.block k hk⟩ (fun _ _ e => e.elim)
theorem Chg.of_below (hb : Below w.heap.size w w') : Chg S w w' := (Chg.refl S w).then_below hb
theorem Chg.below (h : Chg S w w') (hB : B ≤ w.heap.size) (hS : ∀ k, S k → B ≤ k) : Below B w w' :=
  ⟨h.os, h.tape, h.output, h.size, fun k hk => h.block k (by omega) (fun e => by have := hS k e; omega)⟩
theorem Below.chg (h0 : Below B w w1) (h : Chg S w1 w2) (hB : B ≤ w1.heap.size) (hS : ∀ k, S k → B ≤ k) : Below B w w2 := h0.trans (h.below hB hS)
theorem Row.chg (h : Row w base sz v n xs) (hc : Chg S w w') (hs : ∀ k, v.ownBlock = some k → ¬ S k) : Row w' base sz v n xs :=
  h.block_eq fun k hk => hc.block k (h.lt k hk).2 (hs k hk)
theorem Var.chg (h : Var w b t cs) (hc : Chg S w w') (hs : ¬ S b) : Var w' b t cs := (hc.block b h.lt hs).trans h
theorem Rd.chg (h : Rd w B sz A n xs) (hc : Chg S w w') (hB : B ≤ w.heap.size) (hs : ∀ k, k < B → ¬ S k) : Rd w' B sz A n xs :=
  h.keep fun g o hg => World.cell?_of_block (w := w) (a := ⟨g, o, none⟩) (hc.block g (by omega) (hs g hg))
end
end Go.Proofs.YthmpjemchjfoeaaGreatDoor
