/- law 24's whole: bodies that meet are one (printed by gen_swhole.py). Conditions: sizes. -/
import Derived.Test.YtklmpadcfioefaaGreatDoorMX2
namespace Go.Proofs.YtklmpadcfioefaaGreatDoor
open Go.RowKit

theorem evr_setCells {base sz n g o c : Nat} : ∀ (vs : List Value) (j : Nat) (w : World) (xs : List Value), Row w base sz (.slice (some ⟨g, o, none⟩) n c) n xs → j + vs.length ≤ xs.length →
    Row (w.setCells g (o + j) vs) base sz (.slice (some ⟨g, o, none⟩) n c) n (xs.take j ++ vs ++ xs.drop (j + vs.length)) ∧ w.grownBy (w.setCells g (o + j) vs) (some g)
  | [], j, w, xs, h, _ => ⟨by simpa [World.setCells] using h, World.grownBy.refl w _⟩
  | v :: r, j, w, xs, h, hl => by
    simp only [List.length_cons] at hl
    obtain ⟨h1, h2⟩ := evr_setCells r (j + 1) _ (xs.set j v) (h.set (j := j) (u := v) (by omega)) (by rw [List.length_set]; omega)
    refine ⟨?_, World.grownBy.comp (World.grownBy.set w ⟨g, o + j, none⟩ v) h2⟩
    have e : (xs.set j v).take (j + 1) ++ r ++ (xs.set j v).drop (j + 1 + r.length) = xs.take j ++ (v :: r) ++ xs.drop (j + (v :: r).length) := by
      have e1 : (xs.take j).length = j := by rw [List.length_take]; omega
      have e2 : (xs.set j v).take (j + 1) = xs.take j ++ [v] := by
        rw [List.take_set, List.take_succ_eq_append_getElem (by omega), List.set_append_right _ _ (by omega), e1, Nat.sub_self]; rfl
      have e3 : (xs.set j v).drop (j + 1 + r.length) = xs.drop (j + 1 + r.length) := List.drop_set_of_lt (by omega)
      have e3 : (xs.set j v).drop (j + 1 + r.length) = xs.drop (j + 1 + r.length) := List.drop_set_of_lt (by omega)
      rw [e2, e3, List.length_cons, show j + (r.length + 1) = j + 1 + r.length by omega]
      simp
    rw [e] at h1
    exact h1
/-- the out's state: what whole has put together -/
structure WOut (w0 w : World) (v : Value) (M : List EvE) : Prop where
  row : Row w w0.heap.size 11 v M.length (M.flatMap EvE.cells)
  el : ∀ e ∈ M, EvV w e
  ap : ∀ e ∈ M, ∀ k, v.ownBlock = some k → ¬ e.own k
  bl : Below w0.heap.size w0 w
/-- one event more, appended -/
theorem WOut.more {w0 w w1 w2 : World} {v v2 : Value} {M : List EvE} {e : EvE} (h : WOut w0 w v M) (hb : Below w.heap.size w w1) (hg : w1.grownBy w2 v.ownBlock) (hr : Row w2 w0.heap.size 11 v2 (M.length + 1) (M.flatMap EvE.cells ++ e.cells)) (ho : v2.ownBlock = v.ownBlock ∨ v2.ownBlock = some w1.heap.size)
    (he : EvV w e) (hx : ∀ k, v.ownBlock = some k → ¬ e.own k) : WOut w0 w2 v2 (M ++ [e]) := by
  have key : ∀ f, EvV w f → (∀ k, v.ownBlock = some k → ¬ f.own k) → EvV w2 f := fun f hf hx => (hf.below hb).chg ((show Chg (fun k => v.ownBlock = some k) w1 w1 from Chg.refl _ _).grown hg (fun k _ hk => hk)) (fun k hk e => hx k e hk)
  refine ⟨by simpa using hr, ?_, ?_, ?_⟩
  · intro f hf
    rcases List.mem_append.1 hf with hf | hf
    · exact key f (h.el f hf) (h.ap f hf)
    · rw [List.mem_singleton.1 hf]; exact key e he hx
  · intro f hf k hk hfk
    have hlt : k < w.heap.size := by
      rcases List.mem_append.1 hf with hf | hf
      · exact (h.el f hf).lt hfk
      · rw [List.mem_singleton.1 hf] at hfk; exact he.lt hfk
    have hz := hb.size
    rcases ho with e1 | e1
    · rw [e1] at hk
      rcases List.mem_append.1 hf with hf | hf
      · exact h.ap f hf k hk hfk
      · rw [List.mem_singleton.1 hf] at hfk; exact hx k hk hfk
    · rw [e1] at hk; injection hk with hk; omega
  · exact Below.grown (h.bl.trans (hb.mono h.bl.size)) hg (Nat.le_trans h.bl.size hb.size) (fun k hk => (h.row.lt k hk).1)
theorem WOut.nil (w : World) : WOut w w (.slice none 0 0) [] := ⟨Row.nil _ _ _, fun _ h => (List.not_mem_nil h).elim, fun _ h => (List.not_mem_nil h).elim, Below.refl _ _⟩
theorem WOut.last {w0 w w1 : World} {g o n c : Nat} {M0 : List EvE} {y y' : EvE} (h : WOut w0 w (.slice (some ⟨g, o, none⟩) n c) (M0 ++ [y])) (hn : n = M0.length + 1) (hb : Below w.heap.size w w1) (he : EvV w1 y') (hx : ¬ y'.own g) :
    WOut w0 (w1.setCells g (o + M0.length * 11) y'.cells) (.slice (some ⟨g, o, none⟩) n c) (M0 ++ [y']) := by
  have hl : (M0 ++ [y]).length = n := by rw [hn]; simp
  have r0 : Row w1 w0.heap.size 11 (.slice (some ⟨g, o, none⟩) n c) n ((M0 ++ [y]).flatMap EvE.cells) := by have := h.row.below_all hb; rw [hl] at this; exact this
  have hgl := h.row.lt g rfl
  obtain ⟨r1, g1⟩ := evr_setCells y'.cells (M0.length * 11) w1 _ r0 (by rw [evs_len, EvE.len, hl, hn]; omega)
  have e1 : ((M0 ++ [y]).flatMap EvE.cells).take (M0.length * 11) = M0.flatMap EvE.cells := by
    rw [List.flatMap_append, ← evs_len M0, List.take_left]
  have e2 : ((M0 ++ [y]).flatMap EvE.cells).drop (M0.length * 11 + y'.cells.length) = [] := List.drop_eq_nil_of_le (by rw [evs_len, EvE.len, hl, hn]; omega)
  rw [e1, e2, List.append_nil] at r1
  have hcg : Chg (fun k => k = g) w1 (w1.setCells g (o + M0.length * 11) y'.cells) := (show Chg (fun k => k = g) w1 w1 from Chg.refl _ _).grown g1 (fun k _ hk => (Option.some.inj hk).symm)
  refine ⟨?_, ?_, ?_, ?_⟩
  · rw [show (M0 ++ [y']).length = n by rw [hn]; simp, List.flatMap_append, List.flatMap_cons, List.flatMap_nil, List.append_nil]
    exact r1
  · intro f hf
    rcases List.mem_append.1 hf with hf | hf
    · exact ((h.el f (List.mem_append_left _ hf)).below hb).chg hcg (fun k hk e => h.ap f (List.mem_append_left _ hf) k (by rw [e]; rfl) hk)
    · rw [List.mem_singleton.1 hf]
      exact he.chg hcg (fun k hk e => hx (e ▸ hk))
  · intro f hf k hk hfk
    injection hk with hk
    dsimp only at hk
    subst hk
    rcases List.mem_append.1 hf with hf | hf
    · exact h.ap f (List.mem_append_left _ hf) _ rfl hfk
    · rw [List.mem_singleton.1 hf] at hfk; exact hx hfk
  · exact Below.grown (h.bl.trans (hb.mono h.bl.size)) g1 (Nat.le_trans h.bl.size hb.size) (fun k hk => by injection hk with hk; rw [← hk]; exact hgl.1)
theorem EvV.form {w : World} {e : EvE} (h : EvV w e) : ∃ ki hq sm st si sr mi Af nf cf kf kl Ad nd cd, e.cells = [.int .i64 ki, .bool hq, .string sm, .string st, .int .i64 si, .string sr, .int .i64 mi, .slice Af nf cf, .int .i64 kf, .int .i64 kl, .slice Ad nd cd] ∧ e.fv = .slice Af nf cf ∧ e.dv = .slice Ad nd cd ∧ ki = eKind e.x ∧ kf = (eFr e.x : Int) ∧ kl = (eLn e.x : Int) ∧ nd = (eData e.x).length ∧ (Ad = none → nd = 0) ∧ Rd w w.heap.size 1 Ad nd (bytesV (eData e.x)) := by
  obtain ⟨Af, cf, ef, _⟩ := h.f.form
  obtain ⟨Ad, cd, ed, _, _, hA, hr⟩ := Row.form h.d
  refine ⟨eKind e.x, (eHd e.x).rq, ⟨(eHd e.x).m.toArray⟩, ⟨(eHd e.x).t.toArray⟩, ((eHd e.x).st : Int), ⟨(eHd e.x).rs.toArray⟩, ((eHd e.x).mn : Int), Af, (eHd e.x).fs.length, cf, (eFr e.x : Int), (eLn e.x : Int), Ad, (eData e.x).length, cd, ?_, ef, ed, rfl, rfl, rfl, rfl, fun e => (hA e).1, hr⟩
  unfold EvE.cells
  rw [ef, ed]
end Go.Proofs.YtklmpadcfioefaaGreatDoor
