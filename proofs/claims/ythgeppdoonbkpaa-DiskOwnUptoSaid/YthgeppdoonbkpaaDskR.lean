/- What a failure of the power turns in memory, step by step. No condition. -/
import Derived.Test.YthgeppdoonbkpaaDskK
namespace Go.Proofs.Ythgeppdoonbkpaa
open Go.RowKit Go.Maps Go.WideMaps
/-- what a failure turns of the disk's own -/
def QC (r : Role) : Prop := r = .lasts ∨ r = .tmp ∨ ∃ i, r = .file i
/-- roles while a failure is played: block n0 is the box of the choices -/
def crR (ρ : Roles) (n0 n : Nat) : Roles := grow ρ n0 n (fun b => if b = n0 then .tmp else .data)
theorem crR_old {ρ : Roles} {n0 n b : Nat} (h : b < n0) : crR ρ n0 n b = ρ b := grow_old ρ n _ h
theorem crR_box {ρ : Roles} {n0 n : Nat} (h : n0 < n) : crR ρ n0 n n0 = some .tmp := by unfold crR; rw [grow_new ρ _ (Nat.le_refl _) h, if_pos rfl]
theorem crR_new {ρ : Roles} {n0 n b : Nat} (h : n0 < b) (h2 : b < n) : crR ρ n0 n b = some .data := by unfold crR; rw [grow_new ρ _ (by omega) h2, if_neg (by omega)]
theorem crR_ext (ρ : Roles) {n0 n n' b : Nat} (h : b < n) (hn : n ≤ n') : crR ρ n0 n' b = crR ρ n0 n b := by
  unfold crR
  by_cases hb : b < n0
  · rw [grow_old ρ _ _ hb, grow_old ρ _ _ hb]
  · rw [grow_new ρ _ (by omega) h, grow_new ρ _ (by omega) (by omega)]
/-- the state of a failure that is played: files are g, their bytes now are b, the choices left are cs -/
structure CrS (w0 : World) (ρ : Roles) (F : Nat → Nat) (R : Nat → Prop) (g : Nat → Dsk.Fi) (b : Nat → Bs) (cs : List Int) (w : World) : Prop where
  lt : w0.heap.size < w.heap.size
  step : Step ρ (crR ρ w0.heap.size w.heap.size) QC w0 w
  box : Box (fun k => k < w0.heap.size ∧ ¬ On ρ QC k) w w0.heap.size cs
  file : ∀ i, R i → FileN w (crR ρ w0.heap.size w.heap.size) F (g i) (b i) i
section
variable {w0 w w' : World} {ρ : Roles} {F : Nat → Nat} {R : Nat → Prop} {g : Nat → Dsk.Fi} {b : Nat → Bs} {cs cs' : List Int}
theorem CrS.lies (_h : CrS w0 ρ F R g b cs w) {Q : Role → Prop} {S : Nat → Prop} (hc : Chg S w w') (hS : ∀ k, k < w.heap.size → S k → On (crR ρ w0.heap.size w.heap.size) Q k) : Lies (crR ρ w0.heap.size w.heap.size) (crR ρ w0.heap.size w'.heap.size) Q w w' :=
  ⟨hc.size, fun {k} hk {r} hr hq => hc.block k hk (fun hs => by
    obtain ⟨r', e, q⟩ := hS k hk hs
    rw [hr] at e
    injection e with e
    rw [← e] at q
    exact hq q), fun k hk => crR_ext ρ hk hc.size⟩
theorem CrS.step' (h : CrS w0 ρ F R g b cs w) {Q : Role → Prop} {S : Nat → Prop} (hc : Chg S w w') (hS : ∀ k, k < w.heap.size → S k → On (crR ρ w0.heap.size w.heap.size) Q k) (hQ : ∀ r, Q r → QC r) : Step ρ (crR ρ w0.heap.size w'.heap.size) QC w0 w' := by
  have hz := h.step.chg.size
  refine ⟨h.step.chg.trans hc (fun k hk hs => ?_), fun k hk => crR_old hk⟩
  obtain ⟨r, e, q⟩ := hS k (by omega) hs
  rw [crR_old hk] at e
  exact ⟨r, e, hQ r q⟩
theorem CrS.out_box (h : CrS w0 ρ F R g b cs w) {Q : Role → Prop} {S : Nat → Prop} (hc : Chg S w w') (hS : ∀ k, k < w.heap.size → S k → On (crR ρ w0.heap.size w.heap.size) Q k) (hQ : ∀ r, Q r → QC r) (ht : ¬ Q .tmp) : Box (fun k => k < w0.heap.size ∧ ¬ On ρ QC k) w' w0.heap.size cs := by
  refine h.box.keep ((h.lies hc hS).block h.lt (crR_box h.lt) ht) hc.size (fun k hk hp => ?_)
  refine hc.block k hk (fun hs => ?_)
  obtain ⟨r, e, q⟩ := hS k hk hs
  rw [crR_old hp.1] at e
  exact hp.2 ⟨r, e, hQ r q⟩
/-- what turns old blocks of Q alone, no file of R being among these -/
theorem CrS.turn (h : CrS w0 ρ F R g b cs w) {Q : Role → Prop} {S : Nat → Prop} (hc : Chg S w w') (hS : ∀ k, k < w.heap.size → S k → On (crR ρ w0.heap.size w.heap.size) Q k) (hQ : ∀ r, Q r → QC r) (hd : ¬ Q .data) (hf : ∀ i, ¬ Q (.file i)) (hg : ∀ i, ¬ Q (.chg i))
    (hb : Box (fun k => k < w0.heap.size ∧ ¬ On ρ QC k) w' w0.heap.size cs') : CrS w0 ρ F R g b cs' w' :=
  ⟨Nat.lt_of_lt_of_le h.lt hc.size, h.step' hc hS hQ, hb, fun i hi => (h.file i hi).keep (h.lies hc hS) hd (hf i) (hg i)⟩
theorem CrS.below (h : CrS w0 ρ F R g b cs w) (hb : Below w.heap.size w w') : CrS w0 ρ F R g b cs w' :=
  h.turn (Q := fun _ => False) (S := fun _ => False) (Chg.of_below hb |>.more (fun _ _ e => e)) (fun _ _ e => e.elim) (fun _ e => e.elim) id (fun _ => id) (fun _ => id) (h.out_box (Q := fun _ => False) (S := fun _ => False) (Chg.of_below hb) (fun _ _ e => e.elim) (fun _ e => e.elim) id)
theorem CrS.choose (h : CrS w0 ρ F R g b cs w) (hc : Chg (fun k => k = w0.heap.size) w w') (hb : Box (fun k => k < w0.heap.size ∧ ¬ On ρ QC k) w' w0.heap.size cs') : CrS w0 ρ F R g b cs' w' :=
  h.turn (Q := fun r => r = .tmp) hc (fun k _ e => by subst e; exact ⟨_, crR_box h.lt, rfl⟩) (fun r e => .inr (.inl e)) (by intro e; cases e) (fun i e => by cases e) (fun i e => by cases e) hb
theorem CrS.lasts (h : CrS w0 ρ F R g b cs w) {lb : Nat} (hl : lb < w0.heap.size) (hr : ρ lb = some .lasts) (hc : Chg (fun k => k = lb) w w') : CrS w0 ρ F R g b cs w' := by
  have hS : ∀ k, k < w.heap.size → k = lb → On (crR ρ w0.heap.size w.heap.size) (fun r => r = .lasts) k := fun k _ e => by subst e; exact ⟨_, (crR_old hl).trans hr, rfl⟩
  exact h.turn hc hS (fun r e => .inl e) (by intro e; cases e) (fun i e => by cases e) (fun i e => by cases e) (h.out_box hc hS (fun r e => .inl e) (by intro e; cases e))
theorem CrS.dir (_h : CrS w0 ρ F R g b cs w) {lb n : Nat} {l : Dsk.Dir} (_hl : lb < w0.heap.size) (_hr : ρ lb = some .lasts) (hd : Dirm w lb n F l) {S : Nat → Prop} (hc : Chg S w w') (hS : ¬ S lb) : Dirm w' lb n F l := hd.chg hc hS
/-- a file's bytes, or all of it, are set -/
theorem CrS.file' (h : CrS w0 ρ F R g b cs w) {i : Nat} (hi : R i) (hc : Chg (fun k => k = F i) w w') {g' : Nat → Dsk.Fi} {b' : Nat → Bs} (hg : ∀ j, j ≠ i → g' j = g j ∧ b' j = b j)
    (hf : FileN w' (crR ρ w0.heap.size w'.heap.size) F (g' i) (b' i) i) : CrS w0 ρ F R g' b' cs w' := by
  have hS : ∀ k, k < w.heap.size → k = F i → On (crR ρ w0.heap.size w.heap.size) (fun r => r = .file i) k := fun k _ e => by subst e; exact ⟨_, (h.file i hi).role, rfl⟩
  refine ⟨Nat.lt_of_lt_of_le h.lt hc.size, h.step' hc hS (fun r e => .inr (.inr ⟨i, e⟩)), h.out_box hc hS (fun r e => .inr (.inr ⟨i, e⟩)) (by intro e; cases e), fun j hj => ?_⟩
  by_cases e : j = i
  · subst e; exact hf
  · rw [(hg j e).1, (hg j e).2]
    exact (h.file j hj).keep (h.lies hc hS) (by intro e; cases e) (fun e2 => by injection e2 with e2; exact e e2) (by intro e; cases e)
/-- f.now = v -/
theorem CrS.now (h : CrS w0 ρ F R g b cs w) {i : Nat} (hi : R i) {v : Value} {l : Bs} (hv : Byt w (crR ρ w0.heap.size w.heap.size) v l) : CrS w0 ρ F R g (fun j => if j = i then l else b j) cs (w.setCell ⟨F i, 1, none⟩ v) := by
  have hc : Chg (fun k => k = F i) w (w.setCell ⟨F i, 1, none⟩ v) := (show Chg (fun k => k = F i) w w from Chg.refl _ _).setCell (p := ⟨F i, 1, none⟩) (fun _ => rfl) _
  have hS : ∀ k, k < w.heap.size → k = F i → On (crR ρ w0.heap.size w.heap.size) (fun r => r = .file i) k := fun k _ e => by subst e; exact ⟨_, (h.file i hi).role, rfl⟩
  refine h.file' hi hc (fun j e => ⟨rfl, by exact if_neg e⟩) ?_
  obtain ⟨v0, v1, v2, hv2, h0, h1, h2⟩ := (h.file i hi).get
  have hl := h.lies hc hS
  refine ⟨?_, v0, v, v2, hv2.set 1 v, h0.keep hl (by intro e; cases e), ?_, h2.keep hl (by intro e; cases e) (by intro e; cases e)⟩
  · rw [hl.ext _ hv2.lt]; exact (h.file i hi).role
  · rw [if_pos rfl]; exact hv.keep hl (by intro e; cases e)
/-- f.last() -/
theorem CrS.last (h : CrS w0 ρ F R g b cs w) {i : Nat} (hi : R i) {v0 v1 v2 : Value} (hv : Var w (F i) 71 [v0, v1, v2]) (h1 : Byt w (crR ρ w0.heap.size w.heap.size) v1 (b i)) : CrS w0 ρ F R (fun j => if j = i then ⟨b i, []⟩ else g j) b cs ((w.setCell ⟨F i, 0, none⟩ v1).setCell ⟨F i, 2, none⟩ (.slice none 0 0)) := by
  have hc : Chg (fun k => k = F i) w ((w.setCell ⟨F i, 0, none⟩ v1).setCell ⟨F i, 2, none⟩ (.slice none 0 0)) := ((show Chg (fun k => k = F i) w w from Chg.refl _ _).setCell (p := ⟨F i, 0, none⟩) (fun _ => rfl) _).setCell (p := ⟨F i, 2, none⟩) (fun _ => rfl) _
  have hS : ∀ k, k < w.heap.size → k = F i → On (crR ρ w0.heap.size w.heap.size) (fun r => r = .file i) k := fun k _ e => by subst e; exact ⟨_, (h.file i hi).role, rfl⟩
  refine h.file' hi hc (fun j e => ⟨by exact if_neg e, rfl⟩) ?_
  have hl := h.lies hc hS
  refine ⟨?_, v1, v1, .slice none 0 0, (hv.set 0 v1).set 2 _, ?_, h1.keep hl (by intro e; cases e), ?_⟩
  · rw [hl.ext _ hv.lt]; exact (h.file i hi).role
  · rw [if_pos rfl]; exact h1.keep hl (by intro e; cases e)
  · rw [if_pos rfl]; exact ChRow.nil _ _ _
theorem CrS.again {i : Nat} {l l0 l' : Bs} (h : CrS w0 ρ F R g (fun x => if x = i then l else (if x = i then l0 else b x)) cs w) (e : l' = l) : CrS w0 ρ F R g (fun x => if x = i then l' else b x) cs w := by
  refine ⟨h.lt, h.step, h.box, fun j hj => ?_⟩
  have := h.file j hj
  by_cases e2 : j = i
  · rw [if_pos e2] at this ⊢
    rw [e]; exact this
  · rw [if_neg e2] at this ⊢
    rw [if_neg e2] at this
    exact this
theorem CrS.same (h : CrS w0 ρ F R g b cs w) {g' : Nat → Dsk.Fi} {b' : Nat → Bs} (hg : ∀ j, R j → g' j = g j ∧ b' j = b j) : CrS w0 ρ F R g' b' cs w :=
  ⟨h.lt, h.step, h.box, fun i hi => by rw [(hg i hi).1, (hg i hi).2]; exact h.file i hi⟩
end
end Go.Proofs.Ythgeppdoonbkpaa
