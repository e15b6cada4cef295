/- A law's own memory beside its disk: rows by their roles. No condition. -/
import Derived.Test.YthgeppdoonbkpaaDskOps
namespace Go.Proofs.Ythgeppdoonbkpaa
open Go.RowKit
/-- a disk, and the blocks of a law's own -/
structure Mine (w0 W : World) (own : Roles) (db : Nat) (s : Dsk.St) (T : Nat) : Prop where
  live : Live w0 (Own own) W db s T
  old : ∀ b r, own b = some r → w0.heap.size ≤ b
/-- a row of the law's own -/
structure OwnRow (w0 W : World) (own : Roles) (r : Role) (sz : Nat) (v : Value) (n : Nat) (xs : List Value) : Prop where
  row : Row W w0.heap.size sz v n xs
  role : ∀ b, v.ownBlock = some b → own b = some r
section
variable {w0 W W' : World} {own own' : Roles} {db : Nat} {s s' : Dsk.St} {T T' : Nat} {Q : Role → Prop} {r : Role} {sz n m : Nat} {v v' : Value} {xs ys : List Value}
theorem Own.of {b : Nat} (h : own b = some r) : Own own b := by unfold Own; rw [h]; intro e; cases e
theorem grown_ge {a b k : Nat} {f : Nat → Role} (h : ∀ c x, own c = some x → k ≤ c) (ha : k ≤ a) (c : Nat) (x : Role) (e : grow own a b f c = some x) : k ≤ c := by
  unfold grow at e
  split at e
  · exact h c x e
  · omega
theorem Mine.start {O : Nat → Prop} (h : Live w0 O W db s T) : Mine w0 W (fun _ => none) db s T := ⟨h.less (fun _ e => absurd rfl e), fun b r e => by cases e⟩
theorem Mine.grow (h : Mine w0 W own db s T) (hb : Below W.heap.size W W') (f : Nat → Role) : Mine w0 W' (_root_.Go.Proofs.Ythgeppdoonbkpaa.grow own W.heap.size W'.heap.size f) db s T :=
  ⟨h.live.own hb (fun _ e => grow_own e hb.size), fun b r e => grown_ge h.old h.live.bel.size b r e⟩
theorem Mine.past (h : Mine w0 W own db s T) (hb : Below W.heap.size W W') : Mine w0 W' own db s T := ⟨h.live.grow hb, h.old⟩
theorem Mine.call (h : Mine w0 W own db s T) (hl : Live w0 (Own own) W' db s' T') : Mine w0 W' own db s' T' := ⟨hl, h.old⟩
theorem Mine.more (h : Mine w0 W own db s T) (hT : T ≤ T') : Mine w0 W own db s T' := ⟨h.live.more hT, h.old⟩
theorem Mine.push (h : Mine w0 W own db s T) {S : Nat → Prop} (hc : Chg S W W') (hS : ∀ b, S b → own b = some r) (f : Nat → Role) : Mine w0 W' (_root_.Go.Proofs.Ythgeppdoonbkpaa.grow own W.heap.size W'.heap.size f) db s T :=
  ⟨h.live.turn hc (fun b _ e => ⟨Own.of (hS b e), h.old _ _ (hS b e)⟩) (fun _ e => grow_own e hc.size), fun b r e => grown_ge h.old h.live.bel.size b r e⟩
theorem Mine.put (h : Mine w0 W own db s T) {S : Nat → Prop} (hc : Chg S W W') (hS : ∀ b, S b → own b = some r) : Mine w0 W' own db s T :=
  ⟨h.live.turn hc (fun b _ e => ⟨Own.of (hS b e), h.old _ _ (hS b e)⟩) (fun _ e => .inl e), h.old⟩
theorem push_lies {S : Nat → Prop} (hc : Chg S W W') (hS : ∀ b, S b → own b = some r) (f : Nat → Role) : Lies own (grow own W.heap.size W'.heap.size f) (fun x => x = r) W W' :=
  grow_lies (chg_lies hc (fun b x _ e eb => by rw [hS b eb] at e; injection e with e; exact e.symm)) f
theorem put_lies {S : Nat → Prop} (hc : Chg S W W') (hS : ∀ b, S b → own b = some r) : Lies own own (fun x => x = r) W W' :=
  chg_lies hc (fun b x _ e eb => by rw [hS b eb] at e; injection e with e; exact e.symm)
theorem OwnRow.keep (h : OwnRow w0 W own r sz v n xs) (hl : Lies own own' Q W W') (hq : ¬ Q r) : OwnRow w0 W' own' r sz v n xs :=
  ⟨h.row.block_eq (fun b e => hl.block (h.row.lt b e).2 (h.role b e) hq), fun b e => (hl.ext b (h.row.lt b e).2).trans (h.role b e)⟩
theorem OwnRow.nil (w0 W : World) (own : Roles) (r : Role) (sz : Nat) : OwnRow w0 W own r sz (.slice none 0 0) 0 [] := ⟨Row.nil _ _ _, fun b e => by simp [Value.ownBlock] at e⟩
/-- what was just made -/
theorem OwnRow.made (h : Row W' W.heap.size sz v n xs) (hb : w0.heap.size ≤ W.heap.size) : OwnRow w0 W' (grow own W.heap.size W'.heap.size (fun _ => r)) r sz v n xs :=
  ⟨h.mono hb, fun b e => grow_new own (fun _ => r) (h.lt b e).1 (h.lt b e).2⟩
/-- an append -/
theorem OwnRow.push (h : OwnRow w0 W own r sz v n xs) (_hc : Chg (fun k => v.ownBlock = some k) W W') (hr : Row W' w0.heap.size sz v' m ys) (ho : v'.ownBlock = v.ownBlock ∨ ∀ b, v'.ownBlock = some b → W.heap.size ≤ b) :
    OwnRow w0 W' (grow own W.heap.size W'.heap.size (fun _ => r)) r sz v' m ys := by
  refine ⟨hr, fun b e => ?_⟩
  rcases ho with ho | ho
  · rw [ho] at e
    exact (grow_old own _ _ (h.row.lt b e).2).trans (h.role b e)
  · exact grow_new own (fun _ => r) (ho b e) (hr.lt b e).2
theorem OwnRow.form (h : OwnRow w0 W own r sz v n xs) : ∃ A c, v = .slice A n c := by
  obtain ⟨A, c, e, _⟩ := h.row.form
  exact ⟨A, c, e⟩
end
end Go.Proofs.Ythgeppdoonbkpaa
