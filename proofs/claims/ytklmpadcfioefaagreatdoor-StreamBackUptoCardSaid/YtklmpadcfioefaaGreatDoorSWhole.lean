/- law 24's whole: bodies that meet are one (printed by gen_swhole.py). Conditions: sizes. -/
import Derived.Test.YtklmpadcfioefaaGreatDoorSBoth
namespace Go.Proofs.YtklmpadcfioefaaGreatDoor
open Go.RowKit

theorem evr_setCells {base sz n g o c : Nat} : ∀ (vs : List Value) (j : Nat) (w : World) (xs : List Value), Row w base sz (.slice (some ⟨g, o, none⟩) n c) n xs → j + vs.length ≤ xs.length →
    Row (w.setCells g (o + j) vs) base sz (.slice (some ⟨g, o, none⟩) n c) n (xs.take j ++ vs ++ xs.drop (j + vs.length)) ∧ w.grownBy (w.setCells g (o + j) vs) (some g)
  | [], j, w, xs, h, _ => ⟨by simpa [World.setCells] using h, World.grownBy.refl w _⟩
  | v :: r, j, w, xs, h, hl => by
    simp only [List.length_cons] at hl
    obtain ⟨h1, h2⟩ := evr_setCells r (j + 1) _ (xs.set j v) (h.set (j := j) (u := v) (by omega)) (by rw [List.length_set]; omega)
    refine ⟨?_, World.grownBy.comp (World.grownBy.set w ⟨g, o + j, none⟩ v) h2⟩
    have e : (xs.set j v).take (j + 1) ++ r ++ (xs.set j v).drop (j + 1 + r.length) = xs.take j ++ (v :: r) ++ xs.drop (j + (v :: r).length) := by
      have e1 : (xs.take j).length = j := by rw [List.length_take]; omega
      have e2 : (xs.set j v).take (j + 1) = xs.take j ++ [v] := by
        rw [List.take_set, List.take_succ_eq_append_getElem (by omega), List.set_append_right _ _ (by omega), e1, Nat.sub_self]; rfl
      have e3 : (xs.set j v).drop (j + 1 + r.length) = xs.drop (j + 1 + r.length) := List.drop_set_of_lt (by omega)
      have e3 : (xs.set j v).drop (j + 1 + r.length) = xs.drop (j + 1 + r.length) := List.drop_set_of_lt (by omega)
      rw [e2, e3, List.length_cons, show j + (r.length + 1) = j + 1 + r.length by omega]
      simp
    rw [e] at h1
    exact h1
theorem evr_there {w : World} {B n c g o k : Nat} {xs : List Value} (h : Row w B 11 (.slice (some ⟨g, o, none⟩) n c) n xs) (hk : k < n) : w.there g (o + k * 11) 11 := by
  obtain ⟨g', o', e, _, _, hc, hf⟩ := h.own (by omega)
  injection e with e
  injection e with e1 e2 _
  subst e1 e2
  have hl := h.1
  intro x hx
  rw [show o + k * 11 + x = o + (k * 11 + x) by omega]
  constructor
  · rw [hc (k * 11 + x) _ (List.getElem?_eq_getElem (by omega))]; rfl
  · exact hf _ (by omega)
/-- the out's state: what whole has put together -/
structure WOut (w0 w : World) (v : Value) (M : List EvE) : Prop where
  row : Row w w0.heap.size 11 v M.length (M.flatMap EvE.cells)
  el : ∀ e ∈ M, EvV w e
  ap : ∀ e ∈ M, ∀ k, v.ownBlock = some k → ¬ e.own k
  bl : Below w0.heap.size w0 w
theorem mrg_body (acc : List Strm.E1) (y d : Bs) : Strm.put (acc ++ [.body y]) (.body d) = acc ++ [.body (y ++ d)] := by
  unfold Strm.put; simp
def isBody : Strm.E1 → Bool
  | .body _ => true
  | _ => false
theorem mrg_no (acc : List Strm.E1) (x : Strm.E1) (h : isBody x = false ∨ (∀ a y, acc = a ++ [y] → isBody y = false)) : Strm.put acc x = acc ++ [x] := by
  unfold Strm.put
  rcases List.eq_nil_or_concat acc with h0 | ⟨a, y, h0⟩
  · subst h0; rfl
  · rw [List.concat_eq_append] at h0
    subst h0
    rw [List.getLast?_append, List.getLast?_singleton]
    rcases h with h | h
    · cases x with
      | body d => cases h
      | head _ _ _ => simp
      | fin => simp
    · have := h a y rfl
      cases y with
      | body d => cases this
      | head _ _ _ => simp
      | fin => simp
theorem mrg_cond {M : List EvE} {x : Strm.E1} (h : false = (isBody x && (match M.getLast? with | some y => isBody y.x | none => false))) : isBody x = false ∨ (∀ a y, M.map EvE.x = a ++ [y] → isBody y = false) := by
  cases hx : isBody x with
  | false => exact .inl rfl
  | true =>
    right
    intro a y hy
    rw [hx, Bool.true_and] at h
    rcases List.eq_nil_or_concat M with h0 | ⟨M0, y0, h0⟩
    · rw [h0] at hy; simp at hy
    · rw [List.concat_eq_append] at h0
      rw [h0] at h hy
      rw [List.getLast?_append, List.getLast?_singleton] at h
      rw [List.map_append] at hy
      have := List.append_inj_right' hy rfl
      simp only [List.map_cons, List.map_nil, List.cons.injEq, and_true] at this
      rw [← this]
      exact h.symm
theorem mrg_true {M : List EvE} {x : Strm.E1} (h : true = (isBody x && (match M.getLast? with | some y => isBody y.x | none => false))) : ∃ M0 y yb d, M = M0 ++ [y] ∧ y.x = .body yb ∧ x = .body d := by
  rcases List.eq_nil_or_concat M with h0 | ⟨M0, y, h0⟩
  · rw [h0] at h; simp at h
  · rw [List.concat_eq_append] at h0
    rw [h0, List.getLast?_append, List.getLast?_singleton] at h
    simp only [Option.some_or] at h
    have h := h.symm
    rw [Bool.and_eq_true] at h
    obtain ⟨h1, h2⟩ := h
    cases x with
    | head _ _ _ => cases h1
    | fin => cases h1
    | body d =>
      cases hy : y.x with
      | head _ _ _ => rw [hy] at h2; cases h2
      | fin => rw [hy] at h2; cases h2
      | body yb => exact ⟨M0, y, yb, d, h0, hy, rfl⟩
theorem kind_body (x : Strm.E1) : (eKind x == 2) = isBody x := by cases x <;> rfl
/-- one event more, appended -/
theorem WOut.more {w0 w w1 w2 : World} {v v2 : Value} {M : List EvE} {e : EvE} (h : WOut w0 w v M) (hb : Below w.heap.size w w1) (hg : w1.grownBy w2 v.ownBlock) (hr : Row w2 w0.heap.size 11 v2 (M.length + 1) (M.flatMap EvE.cells ++ e.cells)) (ho : v2.ownBlock = v.ownBlock ∨ v2.ownBlock = some w1.heap.size)
    (he : EvV w e) (hx : ∀ k, v.ownBlock = some k → ¬ e.own k) : WOut w0 w2 v2 (M ++ [e]) := by
  have key : ∀ f, EvV w f → (∀ k, v.ownBlock = some k → ¬ f.own k) → EvV w2 f := fun f hf hx => (hf.below hb).chg ((show Chg (fun k => v.ownBlock = some k) w1 w1 from Chg.refl _ _).grown hg (fun k _ hk => hk)) (fun k hk e => hx k e hk)
  refine ⟨by simpa using hr, ?_, ?_, ?_⟩
  · intro f hf
    rcases List.mem_append.1 hf with hf | hf
    · exact key f (h.el f hf) (h.ap f hf)
    · rw [List.mem_singleton.1 hf]; exact key e he hx
  · intro f hf k hk hfk
    have hlt : k < w.heap.size := by
      rcases List.mem_append.1 hf with hf | hf
      · exact (h.el f hf).lt hfk
      · rw [List.mem_singleton.1 hf] at hfk; exact he.lt hfk
    have hz := hb.size
    rcases ho with e1 | e1
    · rw [e1] at hk
      rcases List.mem_append.1 hf with hf | hf
      · exact h.ap f hf k hk hfk
      · rw [List.mem_singleton.1 hf] at hfk; exact hx k hk hfk
    · rw [e1] at hk; injection hk with hk; omega
  · exact Below.grown (h.bl.trans (hb.mono h.bl.size)) hg (Nat.le_trans h.bl.size hb.size) (fun k hk => (h.row.lt k hk).1)
theorem WOut.nil (w : World) : WOut w w (.slice none 0 0) [] := ⟨Row.nil _ _ _, fun _ h => (List.not_mem_nil h).elim, fun _ h => (List.not_mem_nil h).elim, Below.refl _ _⟩
theorem WOut.last {w0 w w1 : World} {g o n c : Nat} {M0 : List EvE} {y y' : EvE} (h : WOut w0 w (.slice (some ⟨g, o, none⟩) n c) (M0 ++ [y])) (hn : n = M0.length + 1) (hb : Below w.heap.size w w1) (he : EvV w1 y') (hx : ¬ y'.own g) :
    WOut w0 (w1.setCells g (o + M0.length * 11) y'.cells) (.slice (some ⟨g, o, none⟩) n c) (M0 ++ [y']) := by
  have hl : (M0 ++ [y]).length = n := by rw [hn]; simp
  have r0 : Row w1 w0.heap.size 11 (.slice (some ⟨g, o, none⟩) n c) n ((M0 ++ [y]).flatMap EvE.cells) := by have := h.row.below_all hb; rw [hl] at this; exact this
  have hgl := h.row.lt g rfl
  obtain ⟨r1, g1⟩ := evr_setCells y'.cells (M0.length * 11) w1 _ r0 (by rw [evs_len, EvE.len, hl, hn]; omega)
  have e1 : ((M0 ++ [y]).flatMap EvE.cells).take (M0.length * 11) = M0.flatMap EvE.cells := by
    rw [List.flatMap_append, ← evs_len M0, List.take_left]
  have e2 : ((M0 ++ [y]).flatMap EvE.cells).drop (M0.length * 11 + y'.cells.length) = [] := List.drop_eq_nil_of_le (by rw [evs_len, EvE.len, hl, hn]; omega)
  rw [e1, e2, List.append_nil] at r1
  have hcg : Chg (fun k => k = g) w1 (w1.setCells g (o + M0.length * 11) y'.cells) := (show Chg (fun k => k = g) w1 w1 from Chg.refl _ _).grown g1 (fun k _ hk => (Option.some.inj hk).symm)
  refine ⟨?_, ?_, ?_, ?_⟩
  · rw [show (M0 ++ [y']).length = n by rw [hn]; simp, List.flatMap_append, List.flatMap_cons, List.flatMap_nil, List.append_nil]
    exact r1
  · intro f hf
    rcases List.mem_append.1 hf with hf | hf
    · exact ((h.el f (List.mem_append_left _ hf)).below hb).chg hcg (fun k hk e => h.ap f (List.mem_append_left _ hf) k (by rw [e]; rfl) hk)
    · rw [List.mem_singleton.1 hf]
      exact he.chg hcg (fun k hk e => hx (e ▸ hk))
  · intro f hf k hk hfk
    injection hk with hk
    dsimp only at hk
    subst hk
    rcases List.mem_append.1 hf with hf | hf
    · exact h.ap f (List.mem_append_left _ hf) _ rfl hfk
    · rw [List.mem_singleton.1 hf] at hfk; exact hx hfk
  · exact Below.grown (h.bl.trans (hb.mono h.bl.size)) g1 (Nat.le_trans h.bl.size hb.size) (fun k hk => by injection hk with hk; rw [← hk]; exact hgl.1)
theorem EvV.form {w : World} {e : EvE} (h : EvV w e) : ∃ ki hq sm st si sr mi Af nf cf kf kl Ad nd cd, e.cells = [.int .i64 ki, .bool hq, .string sm, .string st, .int .i64 si, .string sr, .int .i64 mi, .slice Af nf cf, .int .i64 kf, .int .i64 kl, .slice Ad nd cd] ∧ e.fv = .slice Af nf cf ∧ e.dv = .slice Ad nd cd ∧ ki = eKind e.x ∧ kf = (eFr e.x : Int) ∧ kl = (eLn e.x : Int) ∧ nd = (eData e.x).length ∧ (Ad = none → nd = 0) ∧ Rd w w.heap.size 1 Ad nd (bytesV (eData e.x)) := by
  obtain ⟨Af, cf, ef, _⟩ := h.f.form
  obtain ⟨Ad, cd, ed, _, _, hA, hr⟩ := Row.form h.d
  refine ⟨eKind e.x, (eHd e.x).rq, ⟨(eHd e.x).m.toArray⟩, ⟨(eHd e.x).t.toArray⟩, ((eHd e.x).st : Int), ⟨(eHd e.x).rs.toArray⟩, ((eHd e.x).mn : Int), Af, (eHd e.x).fs.length, cf, (eFr e.x : Int), (eLn e.x : Int), Ad, (eData e.x).length, cd, ?_, ef, ed, rfl, rfl, rfl, rfl, fun e => (hA e).1, hr⟩
  unfold EvE.cells
  rw [ef, ed]
theorem ce_one (ki : Int) (hq : Bool) (sm st : ByteArray) (si : Int) (sr : ByteArray) (mi : Int) (Af : Option Addr) (nf cf : Nat) (kf kl : Int) (Ad : Option Addr) (nd cd : Nat) : ∀ u ∈ ([.int .i64 ki, .bool hq, .string sm, .string st, .int .i64 si, .string sr, .int .i64 mi, .slice Af nf cf, .int .i64 kf, .int .i64 kl, .slice Ad nd cd] : List Value), u.oneCell' = true := by
  intro u hu
  simp only [List.mem_cons, List.not_mem_nil, or_false] at hu
  rcases hu with rfl | rfl | rfl | rfl | rfl | rfl | rfl | rfl | rfl | rfl | rfl <;> rfl

set_option maxHeartbeats 1200000 in
set_option maxRecDepth 100000 in
theorem swhole_any (A : Option Addr) (n c : Nat) (L : List EvE) (w : World) (h1 : Rd w w.heap.size 11 A n (L.flatMap EvE.cells)) (v1 : ∀ e ∈ L, EvV w e) (hn : n ≤ 1000000000) (T : Nat) (hT : T ≤ 100000000) (hz : ∀ k, k ≤ n → ∀ y, Strm.E1.body y ∈ ((L.take k).map EvE.x).foldl Strm.put [] → y.length ≤ T) :
    Calls Tryz.prog 20 #[.slice A n c] w fun e w' => ∃ v M, e = .returned v ∧ WOut w w' v M ∧ M.map EvE.x = Strm.whole (L.map EvE.x) := by
  obtain ⟨i0, hi0, iz0, iz1, iz2⟩ := info_parts infoEv
  have hlen : L.length = n := by have := h1.1; rw [evs_len] at this; omega
  have H1 := Lib.hid h1
  have HV1 := Lib.hid v1
  have HZ := Lib.hid hz
  clear h1 v1 hz
  go_enter Tryz.func20, Tryz.ntmps20
  go_wp2
  go_loopw [3, 4] (fun v3 i wr => ∃ (k : Nat) (M : List EvE) (vo : Value), k ≤ n ∧ i = .int .i64 k ∧ v3 = vo ∧ WOut w wr vo M ∧ M.map EvE.x = ((L.take k).map EvE.x).foldl Strm.put [] ∧ M.length ≤ k) (fun _ i _ => n - (intOf i).toNat)
  case atStart => exact ⟨0, [], _, Nat.zero_le _, rfl, rfl, WOut.nil w, rfl, Nat.le_refl _⟩
  case round =>
    obtain ⟨k, M, v3, hk, rfl, rfl, ho, hM, hMk⟩ := hrel
    obtain ⟨Av, cv, rfl, hcv1, hcv2, hAv, hrv⟩ := ho.row.form
    obtain ⟨nM, hnM⟩ : ∃ nM, nM = M.length := ⟨_, rfl⟩
    rw [← hnM] at hMk hrv ho ⊢
    have HNM := Lib.hid hnM
    clear hnM
    by_cases hlt : k < n
    · obtain ⟨g, o, rfl, hg, hcell⟩ := H1.out.2 (by omega)
      have hkL : k < L.length := by omega
      have hst : ((L.take (k + 1)).map EvE.x).foldl Strm.put [] = Strm.put (M.map EvE.x) L[k].x := by
        rw [List.take_succ_eq_append_getElem hkL, List.map_append, List.foldl_append, ← hM]; rfl
      have K : ∀ j u, j < 11 → (L[k].cells)[j]? = some u → ∀ W, Below w.heap.size w W → W.cell? ⟨g, o + k * 11 + j, none⟩ = some u := fun j u hj hu W hW => (hW.cell (p := ⟨g, o + k * 11 + j, none⟩) hg).trans (by rw [Nat.add_assoc]; exact hcell _ _ ((evs_get L k j hkL hj).trans hu))
      have hv := HV1.out _ (List.getElem_mem hkL)
      clear hcell
      generalize L[k] = e at *
      clear hkL
      have hlt0 : ∀ q, e.own q → q < w.heap.size := fun q hq => hv.lt hq
      have hva : ∀ q, (Value.slice Av nM cv).ownBlock = some q → ¬ e.own q := fun q h1 h2 => by have := (ho.row.lt q h1).1; have := hlt0 q h2; omega
      have hw0 := ho.bl
      have c0 := K 0 _ (by decide) rfl wr hw0
      rw [Nat.add_zero] at c0
      change wr.cell? _ = some (.int .i64 (eKind e.x)) at c0
      have HR : World.rangeAt wr g (o + k * 11) e.cells := fun j u hj => K j u (by have := (List.getElem?_eq_some_iff.1 hj).1; rw [EvE.len] at this; exact this) hj wr hw0
      have HO := Lib.hid ho
      have HRe := Lib.hid HR
      have HK := Lib.hid K
      have HVE := Lib.hid hv
      have HVA := Lib.hid hva
      have HST := Lib.hid hst
      have HMM := Lib.hid hM
      have hmr : ∃ b : Bool, b = (isBody e.x && (match M.getLast? with | some y => isBody y.x | none => false)) := ⟨_, rfl⟩
      obtain ⟨b, hb⟩ := hmr
      have HBB := Lib.hid hb
      clear hb hM hst hva hv K HR hw0 hlt0 ho
      go_upto_region 5 with (fail)
      go_cut [32] (fun v wx => v = .bool b ∧ wx = wr)
      case first =>
        obtain ⟨ke, hke⟩ : ∃ ke, ke = eKind e.x := ⟨_, rfl⟩
        rw [← hke] at c0
        have hkb : (ke == 2) = isBody e.x := by rw [hke]; exact kind_body _
        clear hke
        rcases List.eq_nil_or_concat M with hM0 | ⟨M0, y, hM0⟩
        · have hb := HBB.out
          rw [hM0] at hb
          have hb0 : b = false := by rw [hb]; simp
          have hm0 : nM ≤ 0 := by rw [HNM.out, hM0]; exact Nat.le_refl _
          have hm1 : (nM : Int) ≤ 0 := by omega
          cases hq : isBody e.x
          · rw [hq] at hkb
            clear hb
            go_wp2
            go_meet
            exact ⟨by rw [hb0], rfl⟩
          · rw [hq] at hkb
            have hk2 : ke = 2 := by simpa using hkb
            rw [hk2] at c0
            clear hb hkb hk2
            go_wp2
            go_meet
            exact ⟨by rw [hb0], rfl⟩
        · rw [List.concat_eq_append] at hM0
          have hlM : nM = M0.length + 1 := by rw [HNM.out, hM0]; simp
          obtain ⟨g2, o2, hAe, hg2, hc2⟩ := hrv.2 (by omega)
          have d0 : wr.cell? ⟨g2, o2 + M0.length * 11, none⟩ = some (.int .i64 (eKind y.x)) := by
            have := hc2 (M0.length * 11) (.int .i64 (eKind y.x)) (by rw [hM0, List.flatMap_append, List.getElem?_append_right (by rw [evs_len]; omega), evs_len, Nat.sub_self]; rfl)
            exact this
          subst hAe
          have hb := HBB.out
          rw [hM0, List.getLast?_append, List.getLast?_singleton] at hb
          simp only [Option.some_or] at hb
          obtain ⟨m0, hm0⟩ : ∃ m0, m0 = M0.length := ⟨_, rfl⟩
          rw [← hm0] at d0 hlM
          have hm1 : nM ≤ 1000000000 := by omega
          obtain ⟨ky, hky⟩ : ∃ ky, ky = eKind y.x := ⟨_, rfl⟩
          rw [← hky] at d0
          have hyb : (ky == 2) = isBody y.x := by rw [hky]; exact kind_body _
          clear hky
          have hwr : IntKind.i64.wrap ((nM : Int) - 1) = (m0 : Int) := by rw [IntWalk.i64_in _ (by omega)]; omega
          have hp1 : (0 : Int) < (nM : Int) := by omega
          have hp2 : m0 < nM := by omega
          have hp3 : (m0 : Int) < (nM : Int) := by omega
          clear hlM hm0
          cases hq : isBody e.x
          · rw [hq] at hkb
            have hb0 : b = false := by rw [hb, hq]; rfl
            clear hb
            go_wp2
            go_meet
            exact ⟨by rw [hb0], rfl⟩
          · rw [hq] at hkb
            have hk2 : ke = 2 := by simpa using hkb
            rw [hk2] at c0
            cases hq2 : isBody y.x
            · rw [hq2] at hyb
              have hb0 : b = false := by rw [hb, hq, hq2]; rfl
              clear hb hk2 hkb
              go_wp2
              go_meet
              exact ⟨by rw [hb0], rfl⟩
            · rw [hq2] at hyb
              have hy2 : ky = 2 := by simpa using hyb
              rw [hy2] at d0
              have hb0 : b = true := by rw [hb, hq, hq2]; rfl
              clear hb hk2 hkb hyb hy2
              go_wp2
              go_meet
              exact ⟨by rw [hb0], rfl⟩
      case rest =>
      obtain ⟨rfl, rfl⟩ := hcut
      have hrow0 : Row wc w.heap.size 11 (.slice Av nM cv) nM (M.flatMap EvE.cells) := by have h := HO.out.row; rw [← HNM.out] at h; exact h
      have HROW := Lib.hid hrow0
      have hnMz : nM ≤ 1000000000 := by omega
      obtain ⟨wk, rfl⟩ : ∃ wk : World, wk = wc := ⟨_, rfl⟩
      clear c0 hrv
      have hWB := HO.out.bl.size
      obtain ⟨ki, hq, sm, st, si, sr, mi, Af, nf, cf, kf, kl, Ad, nd, cd, hce, hfe, hde, hki, hkf, hkl, hnd, hAd, hrd⟩ := (HVE.out.below HO.out.bl).form
      have HCE := Lib.hid hce
      have HFE := Lib.hid (And.intro hfe hde)
      have HRD := Lib.hid hrd
      have HAD := Lib.hid hAd
      have HND := Lib.hid hnd
      rw [hce] at HRe
      clear hce hfe hde hrd hrow0 hki hkf hkl hAd hnd
      cases b with
      | false =>
        go_upto_region 9 with (fail)
        go_wp2_with (first
          | (refine wpList_load_mid_g (by rfl) 58 (.tmp 59) rfl g (o + k * 11) rfl [.int .i64 ki, .bool hq, .string sm, .string st, .int .i64 si, .string sr, .int .i64 mi, .slice Af nf cf, .int .i64 kf, .int .i64 kl, .slice Ad nd cd] _ HRe.out Tryz.underlying58 rfl (by kernel_rfl) ?_)
          | (at_builtin; go_must (refine wpList_app _ rfl (.tmp 56) (.tmp 61) 33 33 rfl w.heap.size 58 i0 (.agg #[.int .i64 0, .bool false, .string ⟨#[]⟩, .string ⟨#[]⟩, .int .i64 0, .string ⟨#[]⟩, .int .i64 0, .slice none 0 0, .int .i64 0, .int .i64 0, .slice none 0 0]) 11 144 Tryz.underlying33 hi0 iz0 iz1 iz2 rfl (.slice Av nM cv) nM (M.flatMap EvE.cells) rfl (HROW.out.alloc _) _ 1 [.int .i64 ki, .bool hq, .string sm, .string st, .int .i64 si, .string sr, .int .i64 mi, .slice Af nf cf, .int .i64 kf, .int .i64 kl, .slice Ad nd cd] rfl (Src.built [.int .i64 ki, .bool hq, .string sm, .string st, .int .i64 si, .string sr, .int .i64 mi, .slice Af nf cf, .int .i64 kf, .int .i64 kl, .slice Ad nd cd] 58 Tryz.underlying33 rfl (ce_one _ _ _ _ _ _ _ _ _ _ _ _ _ _ _)) (by omega) (by omega) (by omega) (by simp; omega) ?_); intro v2 w2 hrow2 hg2 ho2)
          | fail)
        have HVK := HVE.out.below HO.out.bl
        refine ⟨⟨k + 1, M ++ [e], v2, by omega, by go_num, rfl, WOut.more HO.out ((Below.refl _ _).alloc (Nat.le_refl _) _) hg2 (by have h := hrow2; rw [HNM.out, ← HCE.out] at h; exact h) ho2 HVK HVA.out, ?_, by rw [List.length_append, List.length_singleton, ← HNM.out]; omega⟩, by simp [intOf]; omega⟩
        rw [HST.out, List.map_append, mrg_no _ _ (mrg_cond HBB.out)]
        rfl
      | true =>
        obtain ⟨M0, y, yb, d, rfl, hyx, hex⟩ := mrg_true HBB.out
        have hnM : nM = M0.length + 1 := by rw [HNM.out]; simp
        obtain ⟨g2, o2, rfl, hb2, hl2, hc2, hf2⟩ := HROW.out.own (by omega)
        obtain ⟨yx, yf, yd⟩ := y
        obtain ⟨ex, ef, ed⟩ := e
        dsimp only at hyx hex
        subst hyx hex
        have hyv := HO.out.el ⟨.body yb, yf, yd⟩ (by simp)
        obtain ⟨ki1, hq1, sm1, st1, si1, sr1, mi1, Af1, nf1, cf1, kf1, kl1, Ay, ny, cy, hcy, hyf, hyd, hk1, hk2, hk3, hny, hAy, hry⟩ := hyv.form
        clear hk1 hk2 hk3
        dsimp only at hyf hyd hny hry
        subst hyf hyd
        have HCY := Lib.hid hcy
        have hst := HST.out
        rw [List.map_append] at hst
        change _ = Strm.put (M0.map EvE.x ++ [.body yb]) (.body d) at hst
        rw [mrg_body] at hst
        have hzd := HZ.out (k + 1) (by omega) (yb ++ d) (by rw [hst]; simp)
        rw [List.length_append] at hzd
        have HST2 := Lib.hid hst
        obtain ⟨m0, hm0⟩ : ∃ m0, m0 = M0.length := ⟨_, rfl⟩
        have HRy : World.rangeAt wk g2 (o2 + m0 * 11) [.int .i64 ki1, .bool hq1, .string sm1, .string st1, .int .i64 si1, .string sr1, .int .i64 mi1, .slice Af1 nf1 cf1, .int .i64 kf1, .int .i64 kl1, .slice Ay ny cy] := fun j u hj => by
          have hj11 : j < 11 := (List.getElem?_eq_some_iff.1 hj).1
          rw [Nat.add_assoc, hm0]
          exact hc2 _ _ (by rw [List.flatMap_append, List.getElem?_append_right (by rw [evs_len]; omega), evs_len, Nat.add_sub_cancel_left, List.flatMap_cons, List.flatMap_nil, List.append_nil, hcy]; exact hj)
        have HRY := Lib.hid HRy
        have HTH := Lib.hid (fun W (hW : Below wk.heap.size wk W) => evr_there (k := m0) (HROW.out.below_all hW) (by omega))
        have hwr : IntKind.i64.wrap ((nM : Int) - 1) = (m0 : Int) := by rw [IntWalk.i64_in _ (by omega)]; omega
        have hp1 : (0 : Int) < (nM : Int) := by omega
        have hp2 : m0 < nM := by omega
        have hp3 : (m0 : Int) < (nM : Int) := by omega
        have HN := Lib.hid hnM
        have HM0 := Lib.hid hm0
        have HNY := Lib.hid hny
        have HAY := Lib.hid hAy
        have HRYD := Lib.hid hry
        have HYV := Lib.hid hyv
        have HCELL : Hid (∀ W, Below wk.heap.size wk W → W.cell? ⟨g, o + k * 11 + 10, none⟩ = some (.slice Ad nd cd)) := Lib.hid (fun W hW => HK.out 10 _ (by decide) (by rw [HCE.out]; rfl) W (HO.out.bl.trans (hW.mono hWB)))
        clear hcy hst HRy hnM hm0 hny hAy hry hyv hc2 hf2 HST HMM HRe
        go_upto_region 7 with (first
          | (refine wpList_load_mid_g (by rfl) 58 (.tmp 37) rfl g2 (o2 + m0 * 11) rfl [.int .i64 ki1, .bool hq1, .string sm1, .string st1, .int .i64 si1, .string sr1, .int .i64 mi1, .slice Af1 nf1 cf1, .int .i64 kf1, .int .i64 kl1, .slice Ay ny cy] _ HRY.out Tryz.underlying58 rfl (by kernel_rfl) ?_)
          | (refine wpList_put rfl 58 (.tmp 5) (.tmp 38) rfl wk.heap.size rfl (Var.new wk 58 [.int .i64 0, .bool false, .string ⟨#[]⟩, .string ⟨#[]⟩, .int .i64 0, .string ⟨#[]⟩, .int .i64 0, .slice none 0 0, .int .i64 0, .int .i64 0, .slice none 0 0]) [.int .i64 ki1, .bool hq1, .string sm1, .string st1, .int .i64 si1, .string sr1, .int .i64 mi1, .slice Af1 nf1 cf1, .int .i64 kf1, .int .i64 kl1, .slice Ay ny cy] rfl rfl (by kernel_rfl) (ce_one _ _ _ _ _ _ _ _ _ _ _ _ _ _ _) ?_; intro w4 hv4 hg4 hs4)
          | fail)
        have hs4' : w4.heap.size = wk.heap.size + 1 := by rw [hs4]; simp
        have HB4 : Hid (Below wk.heap.size wk w4) := Lib.hid (Below.grown ((Below.refl _ _).alloc (Nat.le_refl _) _) hg4 (by simp) (fun q hq => by injection hq with hq; omega))
        have HV4 := Lib.hid hv4
        have HS4 := Lib.hid hs4'
        clear hv4 hg4 hs4 hs4'
        have c10 := HV4.out.cell (j := 10) rfl
        have c10a : ∀ ob : Obj, ((w4.drew).alloc ob).cell? ⟨wk.heap.size, 10, none⟩ = some (.slice Ay ny cy) := fun ob => ((Var.drew HV4.out).alloc ob).cell (j := 10) rfl
        have hlt4 : wk.heap.size < w4.heap.size := by have := HS4.out; omega
        have hny1 : ny ≤ 100000000 := by rw [HNY.out]; show yb.length ≤ _; omega
        have hT0 : yb.length ≤ 100000000 := by omega
        have hT1 : yb.length + d.length ≤ 100000000 := by omega
        have HSRY : Hid (∀ W, Below wk.heap.size wk W → SrcB W 26 (.slice Ay ny cy) yb) := Lib.hid (fun W hW => by
          unfold SrcB
          rw [← show ny = yb.length from HNY.out]
          exact Src.slice Tryz.underlying26 (HRYD.out.keeps hW) HAY.out (bytesV_one yb))
        have HSRD : Hid (∀ W, Below wk.heap.size wk W → SrcB W 26 (.slice Ad nd cd) d) := Lib.hid (fun W hW => by
          unfold SrcB
          rw [← show nd = d.length from HND.out]
          exact Src.slice Tryz.underlying26 (HRD.out.keeps hW) HAD.out (bytesV_one d))
        (try simp only [Act.put])
        obtain ⟨n6, hn6⟩ : ∃ n6, n6 = (yb ++ d).length := ⟨_, rfl⟩
        have HN6 := Lib.hid hn6
        clear hn6
        go_cut [] (fun wx => ∃ (A6 : Option Addr) (c6 : Nat), Var wx wk.heap.size 58 [.int .i64 ki1, .bool hq1, .string sm1, .string st1, .int .i64 si1, .string sr1, .int .i64 mi1, .slice Af1 nf1 cf1, .int .i64 kf1, .int .i64 kl1, .slice A6 n6 c6] ∧ RowB wx w4.heap.size (.slice A6 n6 c6) (yb ++ d) ∧ Below wk.heap.size wk wx)
        case first =>
          refine wp_region_held_drew (S := (fun w' => Below wk.heap.size wk w' ∧ w'.cell? ⟨g, o + k * 11 + 10, none⟩ = some (.slice Ad nd cd))) (by as_aux_lemma => kernel_rfl) ?_ (fun hHeld => ?_)
          · exact ⟨HB4.out.drew, HCELL.out _ HB4.out.drew⟩
          refine wpAnyH_take (i := 1) (v := ?_) (by simp only [List.getElem?_toArray, List.getElem?_cons_succ, List.getElem?_cons_zero]; exact rfl) (by as_aux_lemma => kernel_rfl) (by as_aux_lemma => kernel_rfl) (by as_aux_lemma => kernel_rfl) (by exact fun _ _ _ h => h) (Or.inl ⟨by rfl, ?_⟩) (by assumption) ?_
          rotate_left
          · intro w hSw
            (try dsimp only at hSw)
            go_simp
            try with_reducible rfl
          (try simp only [Act.put, List.setIfInBounds_toArray, List.set_cons_zero, List.set_cons_succ])
          refine wpAnyH_take (i := 4) (v := ?_) (by simp only [List.getElem?_toArray, List.getElem?_cons_succ, List.getElem?_cons_zero]; exact rfl) (by as_aux_lemma => kernel_rfl) (by as_aux_lemma => kernel_rfl) (by as_aux_lemma => kernel_rfl) (by exact fun _ _ _ h => h) (Or.inl ⟨by rfl, ?_⟩) (by assumption) ?_
          rotate_left
          · intro w hSw
            (try dsimp only at hSw)
            go_simp
            try with_reducible rfl
          (try simp only [Act.put, List.setIfInBounds_toArray, List.set_cons_zero, List.set_cons_succ])
          refine wpAnyH_take (i := 5) (v := ?_) (by simp only [List.getElem?_toArray, List.getElem?_cons_succ, List.getElem?_cons_zero]; exact rfl) (by as_aux_lemma => kernel_rfl) (by as_aux_lemma => kernel_rfl) (by as_aux_lemma => kernel_rfl) (by exact fun _ _ _ h => h) (Or.inl ⟨by rfl, ?_⟩) (by assumption) ?_
          rotate_left
          · intro w hSw
            (try dsimp only at hSw)
            go_simp
            try with_reducible rfl
          (try simp only [Act.put, List.setIfInBounds_toArray, List.set_cons_zero, List.set_cons_succ])
          refine wpAnyH_take (i := 6) (v := ?_) (by simp only [List.getElem?_toArray, List.getElem?_cons_succ, List.getElem?_cons_zero]; exact rfl) (by as_aux_lemma => kernel_rfl) (by as_aux_lemma => kernel_rfl) (by as_aux_lemma => kernel_rfl) (by exact fun _ _ _ h => h) (Or.inl ⟨by rfl, ?_⟩) (by assumption) ?_
          rotate_left
          · intro w hSw
            (try dsimp only at hSw)
            go_simp
            try with_reducible rfl
          (try simp only [Act.put, List.setIfInBounds_toArray, List.set_cons_zero, List.set_cons_succ])
          refine wpAnyH_take (i := 7) (v := ?_) (by simp only [List.getElem?_toArray, List.getElem?_cons_succ, List.getElem?_cons_zero]; exact rfl) (by as_aux_lemma => kernel_rfl) (by as_aux_lemma => kernel_rfl) (by as_aux_lemma => kernel_rfl) (by exact fun _ _ _ h => h) (Or.inl ⟨by rfl, ?_⟩) (by assumption) ?_
          rotate_left
          · intro w hSw
            (try dsimp only at hSw)
            go_simp
            try with_reducible rfl
          (try simp only [Act.put, List.setIfInBounds_toArray, List.set_cons_zero, List.set_cons_succ])
          refine wpAnyH_take (i := 8) (v := ?_) (by simp only [List.getElem?_toArray, List.getElem?_cons_succ, List.getElem?_cons_zero]; exact rfl) (by as_aux_lemma => kernel_rfl) (by as_aux_lemma => kernel_rfl) (by as_aux_lemma => kernel_rfl) (by exact fun _ _ _ h => h) (Or.inl ⟨by rfl, ?_⟩) (by assumption) ?_
          rotate_left
          · intro w hSw
            (try dsimp only at hSw)
            go_simp
            try with_reducible rfl
          (try simp only [Act.put, List.setIfInBounds_toArray, List.set_cons_zero, List.set_cons_succ])
          refine wpAnyH_ready (rs := [0, 2]) (by as_aux_lemma => kernel_rfl) (by simp) ?_
          refine AllReadyH.cons (by simp only [List.getElem?_toArray, List.getElem?_cons_succ, List.getElem?_cons_zero]; exact rfl) (fun K hK => ?_) ?_
          · go_simp
            refine hK.out _ _ ?_ (fun hHeld => ?_)
            · (try dsimp only)
              exact ⟨HB4.out.drew.alloc (by simp; omega) _, HCELL.out _ (HB4.out.drew.alloc (by simp; omega) _)⟩
            clear hK K
            (try simp only [Act.put, List.setIfInBounds_toArray, List.set_cons_zero, List.set_cons_succ])
            refine wpAnyH_ready (rs := [2]) (by as_aux_lemma => kernel_rfl) (by simp) ?_
            refine AllReadyH.cons (by simp only [List.getElem?_toArray, List.getElem?_cons_succ, List.getElem?_cons_zero]; exact rfl) (fun K hK => ?_) AllReadyH.nil
            go_simp
            refine hK.out _ _ ?_ (fun hHeld => ?_)
            · (try dsimp only)
              exact ⟨HB4.out.drew.alloc (by simp; omega) _, HCELL.out _ (HB4.out.drew.alloc (by simp; omega) _)⟩
            clear hK K
            (try simp only [Act.put, List.setIfInBounds_toArray, List.set_cons_zero, List.set_cons_succ])
            refine wpAnyH_ready (rs := [3]) (by as_aux_lemma => kernel_rfl) (by simp) ?_
            refine AllReadyH.cons (by simp only [List.getElem?_toArray, List.getElem?_cons_succ, List.getElem?_cons_zero]; exact rfl) (fun K hK => ?_) AllReadyH.nil
            (refine step_appB rfl (.tmp 39) (.tmp 41) 26 (by rfl) w4.heap.size (v := .slice (some ⟨w4.heap.size, 0, none⟩) 0 0) (L := []) (M := yb) (by rfl) (empty_row w4.drew _ 1) (by rfl) (HSRY.out _ (HB4.out.drew.alloc (by simp; omega) _)) (by simp; omega) (by simp) ?_; intro v5 w5 hrow5 hb5 hg5 ho5)
            rw [List.nil_append] at hrow5
            have hq5 : Below wk.heap.size wk w5 := (HB4.out.drew.alloc (by simp; omega) _).trans (hb5.mono (by omega))
            have hz5 : w4.heap.size ≤ w5.heap.size := by have := hb5.size; simp at this; omega
            refine hK.out _ _ ?_ (fun hHeld => ?_)
            · (try dsimp only)
              exact ⟨hq5, HCELL.out _ hq5⟩
            clear hK K
            (try simp only [Act.put, List.setIfInBounds_toArray, List.set_cons_zero, List.set_cons_succ])
            refine wpAnyH_ready (rs := [9]) (by as_aux_lemma => kernel_rfl) (by simp) ?_
            refine AllReadyH.cons (by simp only [List.getElem?_toArray, List.getElem?_cons_succ, List.getElem?_cons_zero]; exact rfl) (fun K hK => ?_) AllReadyH.nil
            (refine step_appB rfl (.tmp 42) (.tmp 47) 26 (by rfl) w4.heap.size (v := v5) (L := yb) (M := d) (by rfl) hrow5 (by rfl) (HSRD.out _ hq5) (by omega) (by have := hb5.size; simp at this; omega) ?_; intro v6 w6 hrow6 hb6 hg6 ho6)
            have hq6 : Below wk.heap.size wk w6 := hq5.trans (hb6.mono (by omega))
            have HV6 := Lib.hid (Var.below HV4.out ((((Below.refl w4.heap.size w4).drew.alloc (Nat.le_refl _) _).trans hb5).trans hb6) (by omega))
            obtain ⟨A6, c6, e6, _, _, _, _⟩ := Row.form hrow6
            rw [← HN6.out] at e6
            subst e6
            have d10 := HV6.out.cell (j := 10) rfl
            have f10 := HV6.out.frozen 10
            refine hK.out _ _ ?_ (fun hHeld => ?_)
            · (try dsimp only)
              exact ⟨hq6, HCELL.out _ hq6⟩
            clear hK K
            (try simp only [Act.put, List.setIfInBounds_toArray, List.set_cons_zero, List.set_cons_succ])
            refine wpAnyH_take (i := 10) (v := ?_) (by simp only [List.getElem?_toArray, List.getElem?_cons_succ, List.getElem?_cons_zero]; exact rfl) (by as_aux_lemma => kernel_rfl) (by as_aux_lemma => kernel_rfl) (by as_aux_lemma => kernel_rfl) (by exact fun _ _ _ h => h) (Or.inl ⟨by rfl, ?_⟩) (by assumption) ?_
            rotate_left
            · intro w hSw
              (try dsimp only at hSw)
              go_simp
              try with_reducible rfl
            (try simp only [Act.put, List.setIfInBounds_toArray, List.set_cons_zero, List.set_cons_succ])
            refine wpAnyH_ready (rs := [11]) (by as_aux_lemma => kernel_rfl) (by simp) ?_
            refine AllReadyH.cons (by simp only [List.getElem?_toArray, List.getElem?_cons_succ, List.getElem?_cons_zero]; exact rfl) (fun K hK => ?_) AllReadyH.nil
            go_simp
            refine hK.out _ _ ?_ (fun hHeld => ?_)
            · (try dsimp only)
              exact ⟨hq6.setCell (Nat.le_refl _) _, HCELL.out _ (hq6.setCell (Nat.le_refl _) _)⟩
            clear hK K
            (try simp only [Act.put, List.setIfInBounds_toArray, List.set_cons_zero, List.set_cons_succ])
            refine wpAnyH_done (by as_aux_lemma => kernel_rfl) ?_ _
            go_wp2
            go_meet
            exact ⟨A6, c6, HV6.out.set 10 _, Row.setCell hrow6 (p := ⟨wk.heap.size, 10, none⟩) (fun e => by have := (Row.lt hrow6 _ e).1; dsimp only at this; omega) _, hq6.setCell (Nat.le_refl _) _⟩
          · refine AllReadyH.cons (by simp only [List.getElem?_toArray, List.getElem?_cons_succ, List.getElem?_cons_zero]; exact rfl) (fun K hK => ?_) AllReadyH.nil
            go_simp
            refine hK.out _ _ ?_ (fun hHeld => ?_)
            · (try dsimp only)
              exact ⟨HB4.out.drew, HCELL.out _ HB4.out.drew⟩
            clear hK K
            (try simp only [Act.put, List.setIfInBounds_toArray, List.set_cons_zero, List.set_cons_succ])
            refine wpAnyH_ready (rs := [0]) (by as_aux_lemma => kernel_rfl) (by simp) ?_
            refine AllReadyH.cons (by simp only [List.getElem?_toArray, List.getElem?_cons_succ, List.getElem?_cons_zero]; exact rfl) (fun K hK => ?_) AllReadyH.nil
            go_simp
            refine hK.out _ _ ?_ (fun hHeld => ?_)
            · (try dsimp only)
              exact ⟨HB4.out.drew.alloc (by simp; omega) _, HCELL.out _ (HB4.out.drew.alloc (by simp; omega) _)⟩
            clear hK K
            (try simp only [Act.put, List.setIfInBounds_toArray, List.set_cons_zero, List.set_cons_succ])
            refine wpAnyH_ready (rs := [3]) (by as_aux_lemma => kernel_rfl) (by simp) ?_
            refine AllReadyH.cons (by simp only [List.getElem?_toArray, List.getElem?_cons_succ, List.getElem?_cons_zero]; exact rfl) (fun K hK => ?_) AllReadyH.nil
            (refine step_appB rfl (.tmp 39) (.tmp 41) 26 (by rfl) w4.heap.size (v := .slice (some ⟨w4.heap.size, 0, none⟩) 0 0) (L := []) (M := yb) (by rfl) (empty_row w4.drew _ 1) (by rfl) (HSRY.out _ (HB4.out.drew.alloc (by simp; omega) _)) (by simp; omega) (by simp) ?_; intro v5 w5 hrow5 hb5 hg5 ho5)
            rw [List.nil_append] at hrow5
            have hq5 : Below wk.heap.size wk w5 := (HB4.out.drew.alloc (by simp; omega) _).trans (hb5.mono (by omega))
            have hz5 : w4.heap.size ≤ w5.heap.size := by have := hb5.size; simp at this; omega
            refine hK.out _ _ ?_ (fun hHeld => ?_)
            · (try dsimp only)
              exact ⟨hq5, HCELL.out _ hq5⟩
            clear hK K
            (try simp only [Act.put, List.setIfInBounds_toArray, List.set_cons_zero, List.set_cons_succ])
            refine wpAnyH_ready (rs := [9]) (by as_aux_lemma => kernel_rfl) (by simp) ?_
            refine AllReadyH.cons (by simp only [List.getElem?_toArray, List.getElem?_cons_succ, List.getElem?_cons_zero]; exact rfl) (fun K hK => ?_) AllReadyH.nil
            (refine step_appB rfl (.tmp 42) (.tmp 47) 26 (by rfl) w4.heap.size (v := v5) (L := yb) (M := d) (by rfl) hrow5 (by rfl) (HSRD.out _ hq5) (by omega) (by have := hb5.size; simp at this; omega) ?_; intro v6 w6 hrow6 hb6 hg6 ho6)
            have hq6 : Below wk.heap.size wk w6 := hq5.trans (hb6.mono (by omega))
            have HV6 := Lib.hid (Var.below HV4.out ((((Below.refl w4.heap.size w4).drew.alloc (Nat.le_refl _) _).trans hb5).trans hb6) (by omega))
            obtain ⟨A6, c6, e6, _, _, _, _⟩ := Row.form hrow6
            rw [← HN6.out] at e6
            subst e6
            have d10 := HV6.out.cell (j := 10) rfl
            have f10 := HV6.out.frozen 10
            refine hK.out _ _ ?_ (fun hHeld => ?_)
            · (try dsimp only)
              exact ⟨hq6, HCELL.out _ hq6⟩
            clear hK K
            (try simp only [Act.put, List.setIfInBounds_toArray, List.set_cons_zero, List.set_cons_succ])
            refine wpAnyH_take (i := 10) (v := ?_) (by simp only [List.getElem?_toArray, List.getElem?_cons_succ, List.getElem?_cons_zero]; exact rfl) (by as_aux_lemma => kernel_rfl) (by as_aux_lemma => kernel_rfl) (by as_aux_lemma => kernel_rfl) (by exact fun _ _ _ h => h) (Or.inl ⟨by rfl, ?_⟩) (by assumption) ?_
            rotate_left
            · intro w hSw
              (try dsimp only at hSw)
              go_simp
              try with_reducible rfl
            (try simp only [Act.put, List.setIfInBounds_toArray, List.set_cons_zero, List.set_cons_succ])
            refine wpAnyH_ready (rs := [11]) (by as_aux_lemma => kernel_rfl) (by simp) ?_
            refine AllReadyH.cons (by simp only [List.getElem?_toArray, List.getElem?_cons_succ, List.getElem?_cons_zero]; exact rfl) (fun K hK => ?_) AllReadyH.nil
            go_simp
            refine hK.out _ _ ?_ (fun hHeld => ?_)
            · (try dsimp only)
              exact ⟨hq6.setCell (Nat.le_refl _) _, HCELL.out _ (hq6.setCell (Nat.le_refl _) _)⟩
            clear hK K
            (try simp only [Act.put, List.setIfInBounds_toArray, List.set_cons_zero, List.set_cons_succ])
            refine wpAnyH_done (by as_aux_lemma => kernel_rfl) ?_ _
            go_wp2
            go_meet
            exact ⟨A6, c6, HV6.out.set 10 _, Row.setCell hrow6 (p := ⟨wk.heap.size, 10, none⟩) (fun e => by have := (Row.lt hrow6 _ e).1; dsimp only at this; omega) _, hq6.setCell (Nat.le_refl _) _⟩
        case rest =>
        obtain ⟨A6, c6, hv6, hrow6, hbq⟩ := hcut
        have HV6 := Lib.hid hv6
        have HR6 := Lib.hid hrow6
        have HB6 := Lib.hid hbq
        have hth := HTH.out _ hbq
        clear hv6 hrow6 hbq c10 c10a
        have hth2 : wc.there g2 (o2 + m0 * 11) (#[.int .i64 ki1, .bool hq1, .string sm1, .string st1, .int .i64 si1, .string sr1, .int .i64 mi1, .slice Af1 nf1 cf1, .int .i64 kf1, .int .i64 kl1, .slice A6 n6 c6] : Array Value).size := hth
        clear hth
        have hrg : World.rangeAt wc wk.heap.size 0 [.int .i64 ki1, .bool hq1, .string sm1, .string st1, .int .i64 si1, .string sr1, .int .i64 mi1, .slice Af1 nf1 cf1, .int .i64 kf1, .int .i64 kl1, .slice A6 n6 c6] := HV6.out.range
        go_upto_region 8 with (fail)
        go_upto_region 4 with (first
          | (refine wpList_store_mid rfl 58 (.tmp 55) (.tmp 54) rfl g2 (o2 + m0 * 11) #[.int .i64 ki1, .bool hq1, .string sm1, .string st1, .int .i64 si1, .string sr1, .int .i64 mi1, .slice Af1 nf1 cf1, .int .i64 kf1, .int .i64 kl1, .slice A6 n6 c6] ?hx ?hy ?ht ?hi ?h1 ?_; (case hx => rfl); (case hy => rfl); (case ht => exact hth2); (case hi => kernel_rfl); (case h1 => exact all_oneCell_toArray (ce_one _ _ _ _ _ _ _ _ _ _ _ _ _ _ _)))
          | (refine wpList_load_mid_g (by rfl) 58 (.tmp 5) rfl wk.heap.size 0 rfl [.int .i64 ki1, .bool hq1, .string sm1, .string st1, .int .i64 si1, .string sr1, .int .i64 mi1, .slice Af1 nf1 cf1, .int .i64 kf1, .int .i64 kl1, .slice A6 n6 c6] _ hrg Tryz.underlying58 rfl (by kernel_rfl) ?_)
          | fail)
        have hcy6 : EvE.cells ⟨.body (yb ++ d), .slice Af1 nf1 cf1, .slice A6 n6 c6⟩ = [.int .i64 ki1, .bool hq1, .string sm1, .string st1, .int .i64 si1, .string sr1, .int .i64 mi1, .slice Af1 nf1 cf1, .int .i64 kf1, .int .i64 kl1, .slice A6 n6 c6] := by
          have e1 : EvE.cells ⟨.body (yb ++ d), .slice Af1 nf1 cf1, .slice A6 n6 c6⟩ = (EvE.cells ⟨.body yb, .slice Af1 nf1 cf1, .slice Ay ny cy⟩).set 10 (.slice A6 n6 c6) := rfl
          rw [e1, HCY.out]
          rfl
        have hye := HYV.out.below HB6.out
        have hev : EvV wc ⟨.body (yb ++ d), .slice Af1 nf1 cf1, .slice A6 n6 c6⟩ := ⟨hye.f, Row.mono HR6.out (Nat.zero_le _)⟩
        have hng : ¬ EvE.own ⟨.body (yb ++ d), .slice Af1 nf1 cf1, .slice A6 n6 c6⟩ g2 := by
          rintro (x | x)
          · exact HO.out.ap ⟨.body yb, .slice Af1 nf1 cf1, .slice Ay ny cy⟩ (by simp) g2 rfl (.inl x)
          · have := (Row.lt HR6.out _ x).1; omega
        have hwo := WOut.last HO.out HN.out HB6.out hev hng
        rw [hcy6, ← HM0.out] at hwo
        have HWO := Lib.hid hwo
        clear hwo hng hev hye hcy6 hrg hth2
        simp only [List.toList_toArray] at *
        generalize wc.setCells g2 (o2 + m0 * 11) [.int .i64 ki1, .bool hq1, .string sm1, .string st1, .int .i64 si1, .string sr1, .int .i64 mi1, .slice Af1 nf1 cf1, .int .i64 kf1, .int .i64 kl1, .slice A6 n6 c6] = w9 at *
        go_wp2
        go_roundw
        case rel => exact ⟨k + 1, _, _, by omega, by go_num, rfl, HWO.out, by rw [HST2.out]; simp, by have := HN.out; simp; omega⟩
        case measure => simp [intOf]; omega
    · go_wp2
      go_ret
      exact ⟨_, M, rfl, ho, by rw [hM, List.take_of_length_le (by omega)]; rfl⟩
end Go.Proofs.YtklmpadcfioefaaGreatDoor
