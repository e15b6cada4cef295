/- What DiskBegins holds beside its disk: the states that a file went through, and what was done. No condition. -/
import Derived.Test.YthgeppdoonbkpaaDskOps
import Derived.Test.YthgeppdoonbkpaaDskBg
namespace Go.Proofs.Ythgeppdoonbkpaa
open Go.RowKit
/-- a change as it was done -/
def OpC (c : Dsk.Ch) (o : OpV) : Prop :=
  match c with
  | .wr a d => o.kind = 1 ∧ o.n = (a : Nat) ∧ o.d = d
  | .cut _ => o.kind = 2
/-- the states: one behind each change -/
def StR (w0 W : World) (own : Roles) (base : Bs) (l : List Dsk.Ch) (v8 v9 : Value) : Prop :=
  ∃ vs : List Value, Row W w0.heap.size 1 v9 (l.length + 1) vs ∧ (∀ b, v9.ownBlock = some b → own b = some .lasts) ∧ (∀ (k : Nat) (v : Value), vs[k]? = some v → Byt W own v ((⟨base, l⟩ : Dsk.Fi).bytes k)) ∧ vs[l.length]? = some v8
/-- what was done -/
def DnR (w0 W : World) (own : Roles) (l : List Dsk.Ch) (v10 : Value) (ds : List OpV) : Prop :=
  ds.length = l.length ∧ Row W w0.heap.size 7 v10 l.length (opsV ds) ∧ (∀ b, v10.ownBlock = some b → own b = some .now) ∧ ∀ (k : Nat) (c : Dsk.Ch) (o : OpV), l[k]? = some c → ds[k]? = some o → OpC c o ∧ OpIn w0 o
structure BgS (w0 W : World) (own : Roles) (db : Nat) (s : Dsk.St) (T : Nat) (base : Bs) (ls ld : List Dsk.Ch) (v8 v9 v10 : Value) (ds : List OpV) : Prop where
  live : Live w0 (Own own) W db s T
  old : ∀ b r, own b = some r → w0.heap.size ≤ b
  st : StR w0 W own base ls v8 v9
  dn : DnR w0 W own ld v10 ds
section
variable {w0 W W' : World} {own own' : Roles} {db : Nat} {s s' : Dsk.St} {T T' : Nat} {base : Bs} {l ls ld : List Dsk.Ch} {v8 v9 v10 : Value} {ds : List OpV} {Q : Role → Prop}
theorem StR.keep (h : StR w0 W own base l v8 v9) (hs : Lies own own' Q W W') (hd : ¬ Q .data) (hl : ¬ Q .lasts) : StR w0 W' own' base l v8 v9 := by
  obtain ⟨vs, hr, ho, hb, he⟩ := h
  exact ⟨vs, hr.block_eq (fun b e => hs.block (hr.lt b e).2 (ho b e) hl), fun b e => (hs.ext b (hr.lt b e).2).trans (ho b e), fun k v e => (hb k v e).keep hs hd, he⟩
theorem DnR.keep (h : DnR w0 W own l v10 ds) (hs : Lies own own' Q W W') (hn : ¬ Q .now) : DnR w0 W' own' l v10 ds := by
  obtain ⟨e, hr, ho, hc⟩ := h
  exact ⟨e, hr.block_eq (fun b e => hs.block (hr.lt b e).2 (ho b e) hn), fun b e => (hs.ext b (hr.lt b e).2).trans (ho b e), hc⟩
theorem grow_old_ge {own : Roles} {a b n : Nat} {f : Nat → Role} (h : ∀ b r, own b = some r → n ≤ b) (ha : n ≤ a) (c : Nat) (r : Role) (e : grow own a b f c = some r) : n ≤ c := by
  unfold grow at e
  split at e
  · exact h c r e
  · omega
/-- new blocks are the law's own -/
theorem BgS.grow (h : BgS w0 W own db s T base ls ld v8 v9 v10 ds) (hb : Below W.heap.size W W') (f : Nat → Role) : BgS w0 W' (grow own W.heap.size W'.heap.size f) db s T base ls ld v8 v9 v10 ds :=
  ⟨h.live.own hb (fun _b e => grow_own e hb.size), fun b r e => grow_old_ge h.old h.live.bel.size b r e, h.st.keep (grow_lies (below_lies hb) f) id id, h.dn.keep (grow_lies (below_lies hb) f) id⟩
/-- a call that makes memory that nobody keeps -/
theorem BgS.past (h : BgS w0 W own db s T base ls ld v8 v9 v10 ds) (hb : Below W.heap.size W W') : BgS w0 W' own db s T base ls ld v8 v9 v10 ds :=
  ⟨h.live.grow hb, h.old, h.st.keep (below_lies hb) id id, h.dn.keep (below_lies hb) id⟩
/-- a call of the disk -/
theorem BgS.call (h : BgS w0 W own db s T base ls ld v8 v9 v10 ds) (hl : Live w0 (Own own) W' db s' T') (hk : Kept (Own own) W W') : BgS w0 W' own db s' T' base ls ld v8 v9 v10 ds :=
  ⟨hl, h.old, h.st.keep hk.lies id id, h.dn.keep hk.lies id⟩
/-- a store into a variable of the law's own -/
theorem BgS.put (h : BgS w0 W own db s T base ls ld v8 v9 v10 ds) {b o : Nat} (hr : own b = some .arm) (u : Value) : BgS w0 (W.setCell ⟨b, o, none⟩ u) own db s T base ls ld v8 v9 v10 ds := by
  have hc : Chg (fun k => k = b) W (W.setCell ⟨b, o, none⟩ u) := (Chg.refl (fun k => k = b) W).setCell (p := ⟨b, o, none⟩) (fun _ => rfl) u
  have hL : Lies own own (fun r => r = .arm) W (W.setCell ⟨b, o, none⟩ u) := chg_lies hc (fun k r _ e ek => by subst ek; rw [hr] at e; injection e with e; exact e.symm)
  exact ⟨h.live.turn hc (fun k _ ek => by subst ek; exact ⟨(by unfold Own; rw [hr]; intro e; cases e), h.old _ _ hr⟩) (fun k e => .inl e), h.old, h.st.keep hL (by intro e; cases e) (by intro e; cases e), h.dn.keep hL (by intro e; cases e)⟩
/-- one more state -/
theorem BgS.pushS (h : BgS w0 W own db s T base ls ld v8 v9 v10 ds) {c : Dsk.Ch} {v8' v9' : Value} {vs : List Value} (hvs : Row W w0.heap.size 1 v9 (ls.length + 1) vs ∧ (∀ b, v9.ownBlock = some b → own b = some .lasts) ∧ (∀ (k : Nat) (v : Value), vs[k]? = some v → Byt W own v ((⟨base, ls⟩ : Dsk.Fi).bytes k)) ∧ vs[ls.length]? = some v8)
    (hb : Byt W own v8' (⟨base, ls ++ [c]⟩ : Dsk.Fi).now) (hc : Chg (fun k => v9.ownBlock = some k) W W') (hr : Row W' w0.heap.size 1 v9' (ls.length + 1 + 1) (vs ++ [v8'])) (ho : v9'.ownBlock = v9.ownBlock ∨ ∀ b, v9'.ownBlock = some b → W.heap.size ≤ b) :
    BgS w0 W' (_root_.Go.Proofs.Ythgeppdoonbkpaa.grow own W.heap.size W'.heap.size (fun _ => .lasts)) db s T base (ls ++ [c]) ld v8' v9' v10 ds := by
  obtain ⟨h1, h2, h3, h4⟩ := hvs
  have hL : Lies own (_root_.Go.Proofs.Ythgeppdoonbkpaa.grow own W.heap.size W'.heap.size (fun _ => .lasts)) (fun r => r = .lasts) W W' := grow_lies (chg_lies hc (fun k r _ e ek => by rw [h2 k ek] at e; injection e with e; exact e.symm)) _
  have hlen : vs.length = ls.length + 1 := by have := h1.1; omega
  refine ⟨h.live.turn hc (fun k _ ek => ⟨(by unfold Own; rw [h2 k ek]; intro e; cases e), h.old _ _ (h2 k ek)⟩) (fun b e => grow_own e hc.size), fun b r e => grow_old_ge h.old h.live.bel.size b r e, ⟨vs ++ [v8'], ?_, fun b e => ?_, fun k v e => ?_, ?_⟩, h.dn.keep hL (by intro e; cases e)⟩
  · rw [List.length_append, List.length_singleton]; exact hr
  · rcases ho with ho | ho
    · rw [ho] at e
      exact (hL.ext b (h1.lt b e).2).trans (h2 b e)
    · exact grow_new own (fun _ => .lasts) (ho b e) (hr.lt b e).2
  · have hk := (List.getElem?_eq_some_iff.1 e).1
    rw [List.length_append, List.length_singleton] at hk
    by_cases hlt : k < vs.length
    · rw [List.getElem?_append_left hlt] at e
      rw [Dsk.bytes_pre base ls [c] k (by omega)]
      exact (h3 k v e).keep hL (by intro e; cases e)
    · obtain rfl : k = vs.length := by omega
      rw [List.getElem?_append_right (Nat.le_refl _), Nat.sub_self] at e
      injection e with e
      subst e
      have e2 : (⟨base, ls ++ [c]⟩ : Dsk.Fi).bytes vs.length = (⟨base, ls ++ [c]⟩ : Dsk.Fi).now := by
        rw [← Dsk.Fi.bytes_all, hlen]
        simp
      rw [e2]
      exact hb.keep hL (by intro e; cases e)
  · rw [List.length_append, List.length_singleton, List.getElem?_append_right (by omega), hlen]
    simp
/-- one more that was done -/
theorem BgS.pushD (h : BgS w0 W own db s T base ls ld v8 v9 v10 ds) {c : Dsk.Ch} {o : OpV} {v10' : Value} (hoc : OpC c o) (hoi : OpIn w0 o) (hc : Chg (fun k => v10.ownBlock = some k) W W') (hr : Row W' w0.heap.size 7 v10' (ld.length + 1) (opsV ds ++ opV o)) (ho : v10'.ownBlock = v10.ownBlock ∨ ∀ b, v10'.ownBlock = some b → W.heap.size ≤ b) :
    BgS w0 W' (_root_.Go.Proofs.Ythgeppdoonbkpaa.grow own W.heap.size W'.heap.size (fun _ => .now)) db s T base ls (ld ++ [c]) v8 v9 v10' (ds ++ [o]) := by
  obtain ⟨h1, h2, h3, h4⟩ := h.dn
  have hL : Lies own (_root_.Go.Proofs.Ythgeppdoonbkpaa.grow own W.heap.size W'.heap.size (fun _ => .now)) (fun r => r = .now) W W' := grow_lies (chg_lies hc (fun k r _ e ek => by rw [h3 k ek] at e; injection e with e; exact e.symm)) _
  refine ⟨h.live.turn hc (fun k _ ek => ⟨(by unfold Own; rw [h3 k ek]; intro e; cases e), h.old _ _ (h3 k ek)⟩) (fun b e => grow_own e hc.size), fun b r e => grow_old_ge h.old h.live.bel.size b r e, h.st.keep hL (by intro e; cases e) (by intro e; cases e), ⟨by rw [List.length_append, List.length_append, h1]; rfl, ?_, fun b e => ?_, fun k x y e1 e2 => ?_⟩⟩
  · rw [List.length_append, List.length_singleton, opsV_snoc]; exact hr
  · rcases ho with ho | ho
    · rw [ho] at e
      exact (hL.ext b (h2.lt b e).2).trans (h3 b e)
    · exact grow_new own (fun _ => .now) (ho b e) (hr.lt b e).2
  · have hk := (List.getElem?_eq_some_iff.1 e1).1
    rw [List.length_append, List.length_singleton] at hk
    by_cases hlt : k < ld.length
    · rw [List.getElem?_append_left hlt] at e1
      rw [List.getElem?_append_left (by omega)] at e2
      exact h4 k x y e1 e2
    · obtain rfl : k = ld.length := by omega
      rw [List.getElem?_append_right (Nat.le_refl _), Nat.sub_self] at e1
      rw [← h1, List.getElem?_append_right (Nat.le_refl _), Nat.sub_self] at e2
      injection e1 with e1
      injection e2 with e2
      subst e1 e2
      exact ⟨hoc, hoi⟩
/-- the first state -/
theorem BgS.start (hl : Live w0 (Own own) W db s T) (hold : ∀ b r, own b = some r → w0.heap.size ≤ b) (hb : Byt W own v8 base) (hbel : Below W.heap.size W W') (hr : Row W' w0.heap.size 1 v9 1 [v8]) (ho : ∀ b, v9.ownBlock = some b → W.heap.size ≤ b) :
    BgS w0 W' (_root_.Go.Proofs.Ythgeppdoonbkpaa.grow own W.heap.size W'.heap.size (fun _ => .lasts)) db s T base [] [] v8 v9 (.slice none 0 0) [] := by
  have hL : Lies own (_root_.Go.Proofs.Ythgeppdoonbkpaa.grow own W.heap.size W'.heap.size (fun _ => .lasts)) (fun _ => False) W W' := grow_lies (below_lies hbel) _
  refine ⟨hl.own hbel (fun b e => grow_own e hbel.size), fun b r e => grow_old_ge hold hl.bel.size b r e, ⟨[v8], hr, fun b e => grow_new own (fun _ => .lasts) (ho b e) (hr.lt b e).2, fun k v e => ?_, rfl⟩, ⟨rfl, Row.nil _ _ _, fun b e => by simp [Value.ownBlock] at e, fun k c o e => by cases e⟩⟩
  rcases k with _ | k
  · injection e with e
    subst e
    exact hb.keep hL id
  · cases e
theorem BgS.more (h : BgS w0 W own db s T base ls ld v8 v9 v10 ds) (hT : T ≤ T') : BgS w0 W own db s T' base ls ld v8 v9 v10 ds := ⟨h.live.more hT, h.old, h.st, h.dn⟩
theorem BgS.form8 (h : BgS w0 W own db s T base ls ld v8 v9 v10 ds) : ∃ A c, v8 = .slice A (⟨base, ls⟩ : Dsk.Fi).now.length c ∧ (⟨base, ls⟩ : Dsk.Fi).now.length ≤ c ∧ (A = none → (⟨base, ls⟩ : Dsk.Fi).now.length = 0 ∧ c = 0) ∧ Rd W W.heap.size 1 A (⟨base, ls⟩ : Dsk.Fi).now.length (bytesV (⟨base, ls⟩ : Dsk.Fi).now) := by
  obtain ⟨vs, _, _, hb, he⟩ := h.st
  have := hb _ _ he
  rw [show (⟨base, ls⟩ : Dsk.Fi).bytes ls.length = (⟨base, ls⟩ : Dsk.Fi).now from Dsk.Fi.bytes_all _] at this
  obtain ⟨A, c, e, h1, h2, h3, _⟩ := this
  exact ⟨A, c, e, h1, h2, h3⟩
theorem BgS.form9 (h : BgS w0 W own db s T base ls ld v8 v9 v10 ds) : ∃ A c, v9 = .slice A (ls.length + 1) c := by
  obtain ⟨vs, hr, _⟩ := h.st
  obtain ⟨A, c, e, _⟩ := hr.form
  exact ⟨A, c, e⟩
theorem BgS.form10 (h : BgS w0 W own db s T base ls ld v8 v9 v10 ds) : ∃ A c, v10 = .slice A ld.length c := by
  obtain ⟨_, hr, _⟩ := h.dn
  obtain ⟨A, c, e, _⟩ := hr.form
  exact ⟨A, c, e⟩
theorem BgS.rd8 {A : Option Addr} {n c : Nat} (h : BgS w0 W own db s T base ls ld (.slice A n c) v9 v10 ds) : Rd W W.heap.size 1 A n (bytesV (⟨base, ls⟩ : Dsk.Fi).now) := by
  obtain ⟨A', c', e, _, _, hr⟩ := h.form8
  injection e with e1 e2 _
  subst e1 e2
  exact hr
/-- a variable of the law's own stays -/
theorem BgS.var {b : Nat} {t : TypeId} {cs : List Value} (hk : Kept (Own own) W W') (hr : own b = some .arm) (hv : Var W b t cs) : Var W' b t cs := (hk.2 b (by unfold Own; rw [hr]; intro e; cases e)).trans hv
theorem BgS.lieD (h : BgS w0 W own db s T base ls ld v8 v9 v10 ds) (hc : Chg (fun k => v10.ownBlock = some k) W W') : Lies own (_root_.Go.Proofs.Ythgeppdoonbkpaa.grow own W.heap.size W'.heap.size (fun _ => .now)) (fun r => r = .now) W W' := by
  obtain ⟨h1, h2, h3, h4⟩ := h.dn
  exact grow_lies (chg_lies hc (fun k r _ e ek => by rw [h3 k ek] at e; injection e with e; exact e.symm)) _
theorem opC_in {w : World} {c : Dsk.Ch} {o : OpV} {k : Int} (hc : OpC c ⟨k, o.nm, o.tt, o.n, o.dA, o.dn, o.dc, o.d, o.cA, o.cn, o.cc, o.c, o.on⟩) (h : OpIn w o) : OpIn w ⟨k, o.nm, o.tt, o.n, o.dA, o.dn, o.dc, o.d, o.cA, o.cn, o.cc, o.c, o.on⟩ := by
  refine ⟨h.dle, h.dnil, h.drd, h.cle, h.cnil, h.crd, h.nwf, ?_⟩
  cases c with
  | wr a d => have := hc.1; dsimp only at this ⊢; omega
  | cut n => have : k = 2 := hc; dsimp only; omega
/-- what was done at place k -/
theorem BgS.done {A : Option Addr} {n c k : Nat} {ch : Dsk.Ch} (h : BgS w0 W own db s T base ls ld v8 v9 (.slice A n c) ds) (hk : ld[k]? = some ch) : ∃ o g f, A = some ⟨g, f, none⟩ ∧ OpC ch o ∧ OpIn w0 o ∧ ∀ j u, (opV o)[j]? = some u → W.cell? ⟨g, f + k * 7 + j, none⟩ = some u := by
  obtain ⟨d1, d2, _, d4⟩ := h.dn
  obtain ⟨_, _, e10, _, _, _, hrd⟩ := Row.form d2
  injection e10 with e1 _ _
  subst e1
  have hlt := (List.getElem?_eq_some_iff.1 hk).1
  have hdk : ds[k]? = some (ds[k]'(by omega)) := List.getElem?_eq_getElem _
  obtain ⟨hoc, hoi⟩ := d4 k ch _ hk hdk
  obtain ⟨g, f, rfl, _, hc⟩ := hrd.2 (by omega)
  exact ⟨_, g, f, rfl, hoc, hoi, fun j u hu => by rw [Nat.add_assoc]; exact hc _ u (opsV_get ds k _ hdk j u hu)⟩
def isWr (l : List Dsk.Ch) (k : Nat) : Bool := match l[k]? with | some (.wr _ _) => true | _ => false
end
end Go.Proofs.Ythgeppdoonbkpaa
