/- a move of the directory applied, all cases. Conditions: sizes. -/
import Derived.Test.YthgeppdoonbkpaaDskR
namespace Go.Proofs.Ythgeppdoonbkpaa
open Go.RowKit Go.Maps Go.WideMaps
theorem dapply_any {w : World} {b n : Nat} {F : Nat → Nat} {l : Dsk.Dir} (hd : Dirm w b n F l) (hn : n ≤ 1000000) (m : Dsk.Mv) (h1 : m.fr.length ≤ 64) (h2 : m.to.length ≤ 64) (h3 : m.nw ≠ none → m.to ≠ []) (h4 : m.nw = none → Dsk.get l m.fr ≠ none) :
    Calls Try.prog 43 #[.agg (mvV F m).toArray, .map (some b)] w fun e w' => e = .returned (.tuple #[]) ∧ Dirm w' b (n + 1) F (m.app l) ∧ Chg (fun k => k = b) w w' := by
  have hml : n < maxLen := by unfold maxLen; omega
  have s1 : (strB m.fr).size ≤ maxLen := by rw [strB_size]; unfold maxLen; omega
  have s2 : (strB m.to).size ≤ maxLen := by rw [strB_size]; unfold maxLen; omega
  have hne : ∀ {x : Bs}, x ≠ [] → (strB x).size ≠ 0 := fun {x} hx => by rw [strB_size]; intro e; exact hx (List.length_eq_zero_iff.1 e)
  obtain ⟨fr, tt, nw⟩ := m
  cases nw with
  | some i =>
    have ht := h3 (by simp)
    have e : (⟨fr, tt, some i⟩ : Dsk.Mv).app l = Dsk.put l tt i := by unfold Dsk.Mv.app; dsimp only; rw [if_neg ht]
    rw [e]
    exact dapply_made hd hml (strB fr) (strB tt) i s2 (hne ht)
  | none =>
    have hg := h4 rfl
    cases hgi : Dsk.get l fr with
    | none => exact absurd hgi hg
    | some i =>
      by_cases ht : tt = []
      · subst ht
        have e : (⟨fr, [], none⟩ : Dsk.Mv).app l = Dsk.del l fr := by unfold Dsk.Mv.app; dsimp only; rw [if_pos rfl]
        rw [e]
        refine (dapply_rem hd (strB fr) i s1 hgi).mono ?_
        rintro _ w' ⟨he, hd', hc⟩
        exact ⟨he, hd'.mono (Nat.le_succ _), hc⟩
      · have e : (⟨fr, tt, none⟩ : Dsk.Mv).app l = Dsk.put (Dsk.del l fr) tt i := by unfold Dsk.Mv.app; dsimp only; rw [if_neg ht, hgi]
        rw [e]
        exact dapply_ren hd hml (strB fr) (strB tt) i s1 s2 (hne ht) hgi
theorem ddoes_wr {w : World} {ρ : Roles} {a : Nat} {d l : Bs} {sz fv v : Value} (h : ChV w ρ (.wr a d) sz fv) (hv : Byt w ρ v l) (hf : Dsk.Ch.fits (.wr a d) l) (hl : l.length ≤ 1048576) (m : Nat) (hm : m ≤ d.length) :
    ∃ xa xo, sz = .int .i64 (d.length : Nat) ∧ fv = .func (.func 35) #[] #[.pointer (some ⟨xa, 0, none⟩), .pointer (some ⟨xo, 0, none⟩)] ∧
      Calls Try.prog 35 #[v, .int .i64 (m : Int), .pointer (some ⟨xa, 0, none⟩), .pointer (some ⟨xo, 0, none⟩)] w fun e w' => ∃ v', e = .returned v' ∧ RowB w' w.heap.size v' (Dsk.over l a d m) ∧ Below w.heap.size w w' := by
  obtain ⟨e1, xa, xo, vo, e2, _, _, ca, co, ⟨A2, c2, e3, g1, g2, g3, _⟩, _, _⟩ := h
  obtain ⟨A, c, e4, k1, k2, k3, _⟩ := hv
  rw [e3] at co
  subst e4
  have := hf.1
  have := hf.2
  exact ⟨xa, xo, e1, e2, dwriteC_any A l.length c l w k2 k3 k1 (by omega) xa xo a hf.1 ca A2 d.length c2 m d g2 g3 g1 (by omega) hm co⟩
theorem ddoes_cut {w : World} {ρ : Roles} {k : Nat} {l : Bs} {sz fv v : Value} (h : ChV w ρ (.cut k) sz fv) (hv : Byt w ρ v l) (hf : Dsk.Ch.fits (.cut k) l) (hl : l.length ≤ 1048576) (m : Int) :
    ∃ xa, sz = .int .i64 (-1) ∧ fv = .func (.func 46) #[] #[.pointer (some ⟨xa, 0, none⟩)] ∧
      Calls Try.prog 46 #[v, .int .i64 m, .pointer (some ⟨xa, 0, none⟩)] w fun e w' => ∃ v', e = .returned v' ∧ RowB w' w.heap.size v' (l.take k) ∧ Below w.heap.size w w' := by
  obtain ⟨e1, xa, e2, _, ca, _⟩ := h
  obtain ⟨A, c, e4, k1, k2, k3, _⟩ := hv
  subst e4
  exact ⟨xa, e1, e2, dcutC_any A l.length c l w k2 k3 k1 (by omega) xa k ca hf m⟩
/-- the same of any change, whole -/
theorem ddoes_all {w : World} {ρ : Roles} {ch : Dsk.Ch} {l : Bs} {sz fv v : Value} (h : ChV w ρ ch sz fv) (hv : Byt w ρ v l) (hf : ch.fits l) (hl : l.length ≤ 1048576) :
    ∃ z : Int, sz = .int .i64 z ∧ ((∃ xa xo, fv = .func (.func 35) #[] #[.pointer (some ⟨xa, 0, none⟩), .pointer (some ⟨xo, 0, none⟩)] ∧
      Calls Try.prog 35 #[v, .int .i64 z, .pointer (some ⟨xa, 0, none⟩), .pointer (some ⟨xo, 0, none⟩)] w fun e w' => ∃ v', e = .returned v' ∧ RowB w' w.heap.size v' (ch.all l) ∧ Below w.heap.size w w') ∨
      (∃ xa, fv = .func (.func 46) #[] #[.pointer (some ⟨xa, 0, none⟩)] ∧
      Calls Try.prog 46 #[v, .int .i64 z, .pointer (some ⟨xa, 0, none⟩)] w fun e w' => ∃ v', e = .returned v' ∧ RowB w' w.heap.size v' (ch.all l) ∧ Below w.heap.size w w')) := by
  cases ch with
  | wr a d =>
    obtain ⟨xa, xo, e1, e2, h3⟩ := ddoes_wr h hv hf hl d.length (Nat.le_refl _)
    exact ⟨_, e1, .inl ⟨xa, xo, e2, h3⟩⟩
  | cut k =>
    obtain ⟨xa, e1, e2, h3⟩ := ddoes_cut h hv hf hl (-1)
    exact ⟨_, e1, .inr ⟨xa, e2, h3⟩⟩
theorem Byt.slice {w : World} {ρ : Roles} {v : Value} {l : Bs} (h : Byt w ρ v l) : ∃ A c, v = .slice A l.length c := by
  obtain ⟨A, c, e, _⟩ := h
  exact ⟨A, c, e⟩
/-- the change number q of a file's loose ones -/
theorem ChRow.at {w : World} {ρ : Roles} {i : Nat} {v : Value} {l : List Dsk.Ch} (h : ChRow w ρ i v l) : ∃ A c, v = .slice A l.length c ∧ l.length ≤ c ∧ (A = none → l.length = 0 ∧ c = 0) ∧ ∀ q ch, l[q]? = some ch → ∃ g o sz fv, A = some ⟨g, o, none⟩ ∧ (g < w.heap.size ∧ ρ g = some (.chg i)) ∧ ChV w ρ ch sz fv ∧ w.cell? ⟨g, o + q * 2, none⟩ = some sz ∧ w.cell? ⟨g, o + q * 2 + 1, none⟩ = some fv := by
  obtain ⟨zs, e, hr, ho, hz⟩ := h
  obtain ⟨A, c, e1, h1, _, h3, h4⟩ := Row.form hr
  refine ⟨A, c, e1, h1, h3, fun q ch hq => ?_⟩
  have hql := (List.getElem?_eq_some_iff.1 hq).1
  obtain ⟨g, o, ea, hg, hc⟩ := h4.2 (by omega)
  obtain ⟨p, hp⟩ : ∃ p, zs[q]? = some p := ⟨_, List.getElem?_eq_getElem (by omega)⟩
  obtain ⟨g1, g2⟩ := zsV_get zs q p hp
  exact ⟨g, o, p.1, p.2, ea, ⟨hg, ho g (by rw [e1, ea]; rfl)⟩, hz q ch p hq hp, hc _ _ g1, by rw [Nat.add_assoc]; exact hc _ _ g2⟩
theorem CrS.start {w : World} {db : Nat} {F : Nat → Nat} {ρ : Roles} {s : Dsk.St} {T : Nat} (hm : Mem w db F ρ s T) {A : Option Addr} {n c : Nat} {cs : List Int} (hrd : Rd w w.heap.size 1 A n (intsV cs)) (hnc : n ≤ c) (hP : 0 < n → ∀ g o, A = some ⟨g, o, none⟩ → ¬ On ρ QC g) :
    CrS w ρ F (Dsk.Reach s) (Dsk.fil s) (fun i => (Dsk.fil s i).now) cs (w.alloc (.cells #[.slice A n c] 23)) := by
  have hl : cs.length = n := by have := hrd.1; unfold intsV at this; rw [List.length_map] at this; omega
  have hb := (Below.refl w.heap.size w).alloc (Nat.le_refl _) (.cells #[.slice A n c] 23)
  have hs : Step ρ (crR ρ w.heap.size (w.alloc (.cells #[.slice A n c] 23)).heap.size) QC w (w.alloc (.cells #[.slice A n c] 23)) := ⟨Chg.of_below hb, fun k hk => crR_old hk⟩
  refine ⟨by simp, hs, ⟨A, c, ?_, ?_, by omega, fun g o e h0 => ?_⟩, fun i hi => ?_⟩
  · rw [hl]; exact Var.new w 23 [.slice A n c]
  · rw [hl]; exact (hrd.below hb).more hb.size
  · obtain ⟨g', o', e', hg, _⟩ := hrd.2 (by omega)
    rw [e] at e'
    injection e' with e'
    injection e' with e1 _ _
    subst e1
    exact ⟨by omega, hg, hP (by omega) g o e⟩
  · have hs2 : Lies ρ (crR ρ w.heap.size (w.alloc (.cells #[.slice A n c] 23)).heap.size) (fun _ => False) w (w.alloc (.cells #[.slice A n c] 23)) := ⟨hb.size, fun hk _ _ _ => hb.block _ hk, fun k hk => crR_old hk⟩
    exact (hm.file i hi).keep hs2 id id id
theorem crash_out {w wr w4 : World} {db lb nb n : Nat} {vl va : Value} {F : Nat → Nat} {ρ : Roles} {s s' : Dsk.St} {T : Nat} {L : Dsk.Dir} {fs' : List Dsk.Fi} {cs' : List Int} (hm : Mem w db F ρ s T) (hs : CrS w ρ F (Dsk.Reach s) (fun i => fs'.getD i default) (fun i => (fs'.getD i default).now) cs' wr)
    (hb : Below wr.heap.size wr w4) (hn2 : wr.heap.size < w4.heap.size) (hlb : lb < w.heap.size) (hlr : ρ lb = some .lasts) (hl : Dirm wr lb n F L) (hnow : Dirm w4 wr.heap.size n F L) (hn : n ≤ T)
    (hv : Var wr db 65 [.int .i64 (s.room : Nat), .map (some lb), .map (some nb), vl, va, .bool false]) (hs' : s' = { s with fs := fs', dl := L, lm := [], arm := none, down := true }) (hfit : Dsk.Fit s' T) (hr : ∀ i, Dsk.Reach s' i → Dsk.Reach s i) :
    Out w db ρ s' T ((((w4.setCell ⟨db, 2, none⟩ (.map (some wr.heap.size))).setCell ⟨db, 3, none⟩ (.slice none 0 0)).setCell ⟨db, 4, none⟩ (.pointer none)).setCell ⟨db, 5, none⟩ (.bool true)) := by
  have hz := hs.step.chg.size
  have hdb : db < w.heap.size := hm.lt db _ hm.disk
  have hc1 : Chg (fun k => k = db) wr ((((w4.setCell ⟨db, 2, none⟩ (.map (some wr.heap.size))).setCell ⟨db, 3, none⟩ (.slice none 0 0)).setCell ⟨db, 4, none⟩ (.pointer none)).setCell ⟨db, 5, none⟩ (.bool true)) :=
    (((((show Chg (fun k => k = db) wr w4 from Chg.of_below hb)).setCell (p := ⟨db, 2, none⟩) (fun _ => rfl) _).setCell (p := ⟨db, 3, none⟩) (fun _ => rfl) _).setCell (p := ⟨db, 4, none⟩) (fun _ => rfl) _).setCell (p := ⟨db, 5, none⟩) (fun _ => rfl) _
  have hc2 : Chg (fun k => k = db) w4 ((((w4.setCell ⟨db, 2, none⟩ (.map (some wr.heap.size))).setCell ⟨db, 3, none⟩ (.slice none 0 0)).setCell ⟨db, 4, none⟩ (.pointer none)).setCell ⟨db, 5, none⟩ (.bool true)) :=
    (((((show Chg (fun k => k = db) w4 w4 from Chg.refl _ w4)).setCell (p := ⟨db, 2, none⟩) (fun _ => rfl) _).setCell (p := ⟨db, 3, none⟩) (fun _ => rfl) _).setCell (p := ⟨db, 4, none⟩) (fun _ => rfl) _).setCell (p := ⟨db, 5, none⟩) (fun _ => rfl) _
  have hv5 := ((((hv.below_all hb).set 2 (.map (some wr.heap.size))).set 3 (.slice none 0 0)).set 4 (.pointer none)).set 5 (.bool true)
  have hsz : ((((w4.setCell ⟨db, 2, none⟩ (.map (some wr.heap.size))).setCell ⟨db, 3, none⟩ (.slice none 0 0)).setCell ⟨db, 4, none⟩ (.pointer none)).setCell ⟨db, 5, none⟩ (.bool true)).heap.size = w4.heap.size := by simp
  generalize (((w4.setCell ⟨db, 2, none⟩ (.map (some wr.heap.size))).setCell ⟨db, 3, none⟩ (.slice none 0 0)).setCell ⟨db, 4, none⟩ (.pointer none)).setCell ⟨db, 5, none⟩ (.bool true) = wf at *
  obtain ⟨ρ', hρ⟩ : ∃ ρ' : Roles, ρ' = fun b => if b = wr.heap.size then some .now else crR ρ w.heap.size wf.heap.size b := ⟨_, rfl⟩
  have hext : ∀ b, b < wr.heap.size → ρ' b = crR ρ w.heap.size wr.heap.size b := fun b hb' => by
    rw [hρ]
    dsimp only
    rw [if_neg (by omega)]
    exact crR_ext ρ hb' hc1.size
  have hold : ∀ b, b < w.heap.size → ρ' b = ρ b := fun b hb' => by rw [hext b (by omega), crR_old hb']
  have hcrdb : crR ρ w.heap.size wr.heap.size db = some .disk := (crR_old hdb).trans hm.disk
  have hcrlb : crR ρ w.heap.size wr.heap.size lb = some .lasts := (crR_old hlb).trans hlr
  have hl5 : Lies (crR ρ w.heap.size wr.heap.size) ρ' (fun r => r = .disk) wr wf := ⟨hc1.size, fun {k} hk {r} hr' hq => hc1.block k hk (fun e => by rw [e, hcrdb] at hr'; injection hr' with hr'; exact hq hr'.symm), hext⟩
  have hst : Step ρ ρ' Mut w wf := by
    refine ⟨(hs.step.chg.more (S' := On ρ Mut) (fun j _ h => ?_)).trans hc1 (fun j hj e => ?_), hold⟩
    · obtain ⟨r, e, q⟩ := h
      exact ⟨r, e, by rcases q with q | q | ⟨i, q⟩ <;> (rw [q]; intro e; cases e)⟩
    · subst e; exact ⟨_, hm.disk, by intro e; cases e⟩
  have hrw : ρ' wr.heap.size = some .now := by rw [hρ]; exact if_pos rfl
  have hdw : db ≠ wr.heap.size := by omega
  have hne : ¬ lb = db := fun e => by rw [e, hm.disk] at hlr; injection hlr with hlr; cases hlr
  refine ⟨F, ρ', ⟨fun b r e => ?_, (hold db hdb).trans hm.disk, ?_, fun i hi => ?_, hfit⟩, hst⟩
  · by_cases h1 : b = wr.heap.size
    · omega
    · rw [hρ] at e
      dsimp only at e
      rw [if_neg h1] at e
      by_cases h2 : b < w.heap.size
      · omega
      · by_cases h3 : b < wf.heap.size
        · exact h3
        · unfold crR grow at e
          rw [if_neg h2, if_neg h3] at e
          cases e
  · subst hs'
    refine ⟨lb, wr.heap.size, n, n, .slice none 0 0, .pointer none, hv5, ⟨(hold lb hlb).trans hlr, hl.chg hc1 hne, by simpa using hn⟩, ⟨hrw, hnow.chg hc2 (fun e => hdw e.symm), hn⟩, ⟨Row.nil _ _ _, fun b hb' => by cases hb'⟩, rfl⟩
  · have hf : Dsk.fil s' i = fs'.getD i default := by rw [hs']; rfl
    rw [hf]
    exact (hs.file i (hr i hi)).keep hl5 (by intro e; cases e) (by intro e; cases e) (by intro e; cases e)
end Go.Proofs.Ythgeppdoonbkpaa
