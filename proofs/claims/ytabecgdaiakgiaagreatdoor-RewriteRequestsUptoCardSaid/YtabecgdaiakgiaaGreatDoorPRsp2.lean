/- The reference's Response, walked (printed by gen_prsp.py). Conditions: sizes. -/
import Derived.Test.YtabecgdaiakgiaaGreatDoorPRsp
namespace Go.Proofs.YtabecgdaiakgiaaGreatDoor
open Go.RowKit

/-- a variable is stored whole -/
theorem RS.put {w wy : World} {B b base c : Nat} {R : HB} {A : Option Addr} {a0 a1 a2 a3 a4 a5 a6 : Value} (hv : Var wy b 24 [a0, a1, a2, a3, a4, a5, a6]) (hrow : Row wy base 2 (.slice A R.fs.length c) R.fs.length (fieldsV R.fs)) (hbb : b < base) (hb : w.heap.size + 2 ≤ b)
    (hres : Var wy B 24 [.bool false, .string ⟨#[]⟩, .string ⟨#[]⟩, .int .i64 0, .string ⟨#[]⟩, .int .i64 0, .slice none 0 0]) (hB : w.heap.size ≤ B ∧ B < w.heap.size + 2) (hbl : Below w.heap.size w wy) :
    RS w (((((((wy.setCell ⟨b, 0, none⟩ (.bool R.rq)).setCell ⟨b, 1, none⟩ (.string R.m)).setCell ⟨b, 2, none⟩ (.string R.t)).setCell ⟨b, 3, none⟩ (.int .i64 R.st)).setCell ⟨b, 4, none⟩ (.string R.rs)).setCell ⟨b, 5, none⟩ (.int .i64 R.mn)).setCell ⟨b, 6, none⟩ (.slice A R.fs.length c)) B b R A c := by
  obtain ⟨h1, h2⟩ := set7 hv (.bool R.rq) (.string R.m) (.string R.t) (.int .i64 R.st) (.string R.rs) (.int .i64 R.mn) (.slice A R.fs.length c)
  have k := hrow.lt
  refine ⟨h1, (hrow.kept h2 (Or.inr (fun e => by have := (k _ e).1; omega))).mono (by omega), fun e => by have := (k _ e).1; omega, hb, hres.grown h2 (fun e => by injection e with e; omega), hB, Below.grown hbl h2 (by have := hbl.size; omega) (fun q hq => by injection hq with hq; omega)⟩
theorem below7 {B : Nat} {W0 W : World} (h : Below B W0 W) {b : Nat} (hb : B ≤ b) (v0 v1 v2 v3 v4 v5 v6 : Value) :
    Below B W0 (((((((W.setCell ⟨b, 0, none⟩ v0).setCell ⟨b, 1, none⟩ v1).setCell ⟨b, 2, none⟩ v2).setCell ⟨b, 3, none⟩ v3).setCell ⟨b, 4, none⟩ v4).setCell ⟨b, 5, none⟩ v5).setCell ⟨b, 6, none⟩ v6) :=
  (((((((h.setCell (p := ⟨b, 0, none⟩) hb v0).setCell (p := ⟨b, 1, none⟩) hb v1).setCell (p := ⟨b, 2, none⟩) hb v2).setCell (p := ⟨b, 3, none⟩) hb v3).setCell (p := ⟨b, 4, none⟩) hb v4).setCell (p := ⟨b, 5, none⟩) hb v5).setCell (p := ⟨b, 6, none⟩) hb v6)
def F1P (fr ln : Int) : List Fl := if fr = 1 then [(sLen, ⟨(Lib.itoa ln).toArray⟩)] else []
def F2P (fr mi : Int) : List Fl := if fr = 2 ∧ mi = 1 then [(sCod, sChunked)] else []
theorem frame_parts (fr ln mi : Int) (h : mi = 0 ∨ mi = 1) : (if fr = 2 ∧ mi = 0 then [] else frameP fr ln) = F1P fr ln ++ F2P fr mi := by
  unfold F1P F2P frameP
  by_cases h1 : fr = 1
  · subst h1; simp
  · by_cases h2 : fr = 2
    · subst h2
      rcases h with rfl | rfl <;> simp
    · simp [h1, h2]
theorem FP_size {fr ln mi : Int} (h : isInt ln) : flSize (F1P fr ln) ≤ 64 ∧ flSize (F2P fr mi) ≤ 64 := by
  constructor
  · by_cases e : fr = 1
    · have a := (frameP_size (fr := fr) h).1
      have e2 : frameP fr ln = F1P fr ln := by unfold frameP F1P; rw [if_pos e, if_pos e]
      rwa [e2] at a
    · unfold F1P; rw [if_neg e]; decide
  · unfold F2P; split <;> decide
theorem RS.rd {w wx : World} {B b c : Nat} {R : HB} {A : Option Addr} (h : RS w wx B b R A c) : Rd wx wx.heap.size 2 A R.fs.length (fieldsV R.fs) := by
  obtain ⟨A', c', e, _, _, _, rd⟩ := h.row.form
  injection e with e1 e2 e3
  subst e1
  exact rd
/-- behind the guards, closes is reckoned -/
theorem shuts_cases (fr : Int) (cl : Bool) (mi : Int) : shuts fr cl mi = (cl || decide (fr = 3) || (decide (fr = 2) && decide (mi = 0))) := rfl
theorem RS.nil {w wx : World} {B b c : Nat} {R : HB} {A : Option Addr} (h : RS w wx B b R A c) : RS w wx B b { R with fs := R.fs ++ [] } A c := by
  have e : ({ R with fs := R.fs ++ [] } : HB) = R := by cases R; simp
  rw [e]; exact h
set_option maxHeartbeats 8000000 in
set_option maxRecDepth 100000 in
theorem pResponse_yes (mt t : ByteArray) (st : Int) (rs : ByteArray) (mn : Int) (A : Option Addr) (n c : Nat) (fs : List Fl) (fr ln : Int) (cl : Bool) (mi : Int) (w : World) (hrd : Rd w w.heap.size 2 A n (fieldsV fs))
    (hst : isInt st) (hln : isInt ln) (hn : n ≤ 1048576) (hm : mt.size + t.size + rs.size ≤ 1048576) (hfz : flSize fs ≤ 2097152) (hfs : ∀ f ∈ fs, f.1.size ≤ 16777216) (hvs : total (vals fs sConn) ≤ 8388608)
    (hg : rspG ⟨false, mt, t, st, rs, mn, fs⟩ fr ln mi = true) :
    Calls Tryz.prog 8 #[headV false mt t st rs mn (.slice A n c), .int .i64 fr, .int .i64 ln, .bool cl, .int .i64 mi] w (RspPost w (rspP ⟨false, mt, t, st, rs, mn, fs⟩ fr ln cl mi)) := by
  have hlen : fs.length = n := by have := hrd.1; rw [fieldsV_len] at this; omega
  rw [rspP_yes hg]
  unfold rspG at hg
  simp only [Bool.not_false, Bool.true_and, decide_eq_true_eq] at hg
  obtain ⟨h0, h3, h1, hmi⟩ := hg
  obtain ⟨g0, hf0, fz0, fz1, fz2⟩ := info_parts infoField
  have B1 : Below w.heap.size w ((w.alloc (.cells #[.bool false, .string mt, .string t, .int .i64 st, .string rs, .int .i64 mn, .slice A n c] 24)).alloc (.cells #[.bool false, .string ⟨#[]⟩, .string ⟨#[]⟩, .int .i64 0, .string ⟨#[]⟩, .int .i64 0, .slice none 0 0] 24)) := ((Below.refl _ _).alloc (Nat.le_refl _) _).alloc (by simp) _
  have V1 := Lib.hid ((Var.new w 24 [.bool false, .string mt, .string t, .int .i64 st, .string rs, .int .i64 mn, .slice A n c]).alloc (.cells #[.bool false, .string ⟨#[]⟩, .string ⟨#[]⟩, .int .i64 0, .string ⟨#[]⟩, .int .i64 0, .slice none 0 0] 24))
  have z1 := heap_alloc_size w (.cells #[.bool false, .string mt, .string t, .int .i64 st, .string rs, .int .i64 mn, .slice A n c] 24)
  have zz : w.heap.size + 2 ≤ ((w.alloc (.cells #[.bool false, .string mt, .string t, .int .i64 st, .string rs, .int .i64 mn, .slice A n c] 24)).alloc (.cells #[.bool false, .string ⟨#[]⟩, .string ⟨#[]⟩, .int .i64 0, .string ⟨#[]⟩, .int .i64 0, .slice none 0 0] 24)).heap.size := by simp
  have U1 := Var.new (w.alloc (.cells #[.bool false, .string mt, .string t, .int .i64 st, .string rs, .int .i64 mn, .slice A n c] 24)) 24 [.bool false, .string ⟨#[]⟩, .string ⟨#[]⟩, .int .i64 0, .string ⟨#[]⟩, .int .i64 0, .slice none 0 0]
  rw [z1] at U1
  have U1 := Lib.hid U1
  have HB1 := Lib.hid B1
  have HZZ := Lib.hid zz
  have HR0 := Lib.hid ((hrd.below B1).more B1.size)
  obtain ⟨O, hO⟩ : ∃ O, O = othersP false fs := ⟨_, rfl⟩
  have hOL : O.length ≤ 1048576 := by rw [hO]; exact Nat.le_trans (List.length_filter_le _ _) (by omega)
  have HZF : Hid (flSize O ≤ flSize fs) := Lib.hid (by rw [hO]; exact flSize_filter _ _)
  have HOT := Lib.hid (fun W hr => pothers_any false mt t st rs mn A n c fs W hr hn hfs hvs)
  unfold headV at HOT
  rw [← hO] at HOT
  have HFS : Hid (rspH ⟨false, mt, t, st, rs, mn, fs⟩ fr ln cl mi = { st := st, rs := rs, mn := 1, fs := ((O ++ F1P fr ln) ++ F2P fr mi) ++ connF fr cl mi }) := Lib.hid (by
    unfold rspH
    rw [frame_parts fr ln mi hmi, hO]
    simp only [List.append_assoc])
  obtain ⟨SH, hSH⟩ : ∃ SH, SH = shuts fr cl mi := ⟨_, rfl⟩
  rw [← hSH]
  have HMI := Lib.hid hmi
  have H1 := Lib.hid h1
  unfold headV
  clear hrd B1 z1 zz hO hvs hfs hmi h1
  have d0 : decide (fr < 0) = false := by simpa using h0
  have d3 : decide (3 < fr) = false := by simp; omega
  go_enter Tryz.func8, Tryz.ntmps8
  obtain ⟨w1, hw1⟩ : ∃ w1 : World, w1 = ((w.alloc (.cells #[.bool false, .string mt, .string t, .int .i64 st, .string rs, .int .i64 mn, .slice A n c] 24)).alloc (.cells #[.bool false, .string ⟨#[]⟩, .string ⟨#[]⟩, .int .i64 0, .string ⟨#[]⟩, .int .i64 0, .slice none 0 0] 24)) := ⟨_, rfl⟩
  go_upto_region 1 with (fail)
  rw [← hw1] at V1 U1 HB1 HZZ HR0 ⊢
  clear hw1
  have v0 := V1.out.cell (j := 0) rfl
  go_cut [41] (fun v wx => v = .bool false ∧ w1 = wx)
  case first =>
    by_cases e1 : fr = 1
    · have d1 : decide (ln < 0) = false := by simp; exact H1.out e1
      subst e1
      rcases HMI.out with e | e
      all_goals
        subst e
        go_wp2
        go_meet
        exact ⟨rfl, rfl⟩
    · have d1 : (fr == 1) = false := by simpa using e1
      rcases HMI.out with e | e
      all_goals
        subst e
        go_wp2
        go_meet
        exact ⟨rfl, rfl⟩
  case rest =>
  obtain ⟨rfl, rfl⟩ := hcut
  go_upto_region 3 with (fail)
  go_cut [3] (fun v wx => v = .bool SH ∧ w1 = wx)
  case first =>
    cases cl
    · by_cases e3 : fr = 3
      · have hs : SH = true := by rw [hSH, e3]; rfl
        clear hSH
        subst e3 hs
        go_wp2
        go_meet
        exact ⟨rfl, rfl⟩
      · have q3 : (fr == 3) = false := by simpa using e3
        by_cases e2 : fr = 2
        · rcases HMI.out with e | e
          · have hs : SH = true := by rw [hSH, e2, e]; rfl
            clear hSH
            subst e2 e hs
            go_wp2
            go_meet
            exact ⟨rfl, rfl⟩
          · have hs : SH = false := by rw [hSH, e2, e]; rfl
            clear hSH
            subst e2 e hs
            go_wp2
            go_meet
            exact ⟨rfl, rfl⟩
        · have q2 : (fr == 2) = false := by simpa using e2
          have hs : SH = false := by rw [hSH]; unfold shuts; simp [e2, e3]
          clear hSH
          subst hs
          go_wp2
          go_meet
          exact ⟨rfl, rfl⟩
    · have hs : SH = true := by rw [hSH]; rfl
      clear hSH
      subst hs
      go_wp2
      go_meet
      exact ⟨rfl, rfl⟩
  case rest =>
  obtain ⟨rfl, rfl⟩ := hcut
  have HSH := Lib.hid hSH
  clear hSH v0
  have HK : Hid (∀ w' : World, Below w1.heap.size w1 w' → (Below w1.heap.size w1 w' ∧ w'.cell? ⟨w.heap.size, 0, none⟩ = some (.bool false) ∧ w'.cell? ⟨w.heap.size, 1, none⟩ = some (.string mt) ∧ w'.cell? ⟨w.heap.size, 2, none⟩ = some (.string t) ∧ w'.cell? ⟨w.heap.size, 3, none⟩ = some (.int .i64 st) ∧ w'.cell? ⟨w.heap.size, 4, none⟩ = some (.string rs) ∧ w'.cell? ⟨w.heap.size, 5, none⟩ = some (.int .i64 mn) ∧ w'.cell? ⟨w.heap.size, 6, none⟩ = some (.slice A n c))) := Lib.hid (fun w' hB => by
    have a := V1.out.below_all hB
    exact ⟨hB, a.cell (j := 0) rfl, a.cell (j := 1) rfl, a.cell (j := 2) rfl, a.cell (j := 3) rfl, a.cell (j := 4) rfl, a.cell (j := 5) rfl, a.cell (j := 6) rfl⟩)
  go_upto_region 4 with (fail)
  go_cut [13] (fun v13 wx => ∃ (b : Nat) (A5 : Option Addr) (c5 : Nat), v13 = .pointer (some ⟨b, 0, none⟩) ∧ RS w wx (w.heap.size + 1) b { st := st, rs := rs, mn := 1, fs := O } A5 c5)
  case first =>
    refine wp_region_held_drew (S := (fun w' => Below w1.heap.size w1 w' ∧ w'.cell? ⟨w.heap.size, 0, none⟩ = some (.bool false) ∧ w'.cell? ⟨w.heap.size, 1, none⟩ = some (.string mt) ∧ w'.cell? ⟨w.heap.size, 2, none⟩ = some (.string t) ∧ w'.cell? ⟨w.heap.size, 3, none⟩ = some (.int .i64 st) ∧ w'.cell? ⟨w.heap.size, 4, none⟩ = some (.string rs) ∧ w'.cell? ⟨w.heap.size, 5, none⟩ = some (.int .i64 mn) ∧ w'.cell? ⟨w.heap.size, 6, none⟩ = some (.slice A n c))) (by as_aux_lemma => kernel_rfl) ?_ (fun hHeld => ?_)
    · exact HK.out _ ((Below.refl _ _).drew)
    refine wpAnyH_take (i := 0) (v := ?_) (by simp only [List.getElem?_toArray, List.getElem?_cons_zero]; exact rfl) (by as_aux_lemma => kernel_rfl) (by as_aux_lemma => kernel_rfl) (by as_aux_lemma => kernel_rfl) (by exact fun _ _ _ h => h) (Or.inl ⟨by rfl, ?_⟩) (by assumption) ?_
    rotate_left
    · intro w hSw
      (try dsimp only at hSw)
      go_simp
      try with_reducible rfl
    (try simp only [Act.put, List.setIfInBounds_toArray, List.set_cons_zero, List.set_cons_succ])
    refine wpAnyH_take (i := 1) (v := ?_) (by simp only [List.getElem?_toArray, List.getElem?_cons_succ, List.getElem?_cons_zero]; exact rfl) (by as_aux_lemma => kernel_rfl) (by as_aux_lemma => kernel_rfl) (by as_aux_lemma => kernel_rfl) (by exact fun _ _ _ h => h) (Or.inl ⟨by rfl, ?_⟩) (by assumption) ?_
    rotate_left
    · intro w hSw
      (try dsimp only at hSw)
      go_simp
      try with_reducible rfl
    (try simp only [Act.put, List.setIfInBounds_toArray, List.set_cons_zero, List.set_cons_succ])
    refine wpAnyH_take (i := 2) (v := ?_) (by simp only [List.getElem?_toArray, List.getElem?_cons_succ, List.getElem?_cons_zero]; exact rfl) (by as_aux_lemma => kernel_rfl) (by as_aux_lemma => kernel_rfl) (by as_aux_lemma => kernel_rfl) (by exact fun _ _ _ h => h) (Or.inl ⟨by rfl, ?_⟩) (by assumption) ?_
    rotate_left
    · intro w hSw
      (try dsimp only at hSw)
      go_simp
      try with_reducible rfl
    (try simp only [Act.put, List.setIfInBounds_toArray, List.set_cons_zero, List.set_cons_succ])
    refine wpAnyH_take (i := 3) (v := ?_) (by simp only [List.getElem?_toArray, List.getElem?_cons_succ, List.getElem?_cons_zero]; exact rfl) (by as_aux_lemma => kernel_rfl) (by as_aux_lemma => kernel_rfl) (by as_aux_lemma => kernel_rfl) (by exact fun _ _ _ h => h) (Or.inl ⟨by rfl, ?_⟩) (by assumption) ?_
    rotate_left
    · intro w hSw
      (try dsimp only at hSw)
      go_simp
      try with_reducible rfl
    (try simp only [Act.put, List.setIfInBounds_toArray, List.set_cons_zero, List.set_cons_succ])
    refine wpAnyH_take (i := 4) (v := ?_) (by simp only [List.getElem?_toArray, List.getElem?_cons_succ, List.getElem?_cons_zero]; exact rfl) (by as_aux_lemma => kernel_rfl) (by as_aux_lemma => kernel_rfl) (by as_aux_lemma => kernel_rfl) (by exact fun _ _ _ h => h) (Or.inl ⟨by rfl, ?_⟩) (by assumption) ?_
    rotate_left
    · intro w hSw
      (try dsimp only at hSw)
      go_simp
      try with_reducible rfl
    (try simp only [Act.put, List.setIfInBounds_toArray, List.set_cons_zero, List.set_cons_succ])
    refine wpAnyH_ready (rs := [5, 7]) (by as_aux_lemma => kernel_rfl) (by simp) ?_
    refine AllReadyH.cons (by simp only [List.getElem?_toArray, List.getElem?_cons_succ, List.getElem?_cons_zero]; exact rfl) (fun K hK => ?_) ?_
    · go_simp
      (go_at_call 26; refine (HOT.out _ (Held.rd (by assumption) HR0.out)).mono ?_; rintro _ wy ⟨v, rfl, hrow, hl⟩; have hq := Held.trans (W0 := w1) (by assumption) hl; have hz := hHeld.1.size; obtain ⟨A5, c5, e5, HRS⟩ := RS.new (w := w) (B := w.heap.size + 1) (R := { st := st, rs := rs, mn := 1, fs := O }) (hrow.mono (Nat.le_trans HZZ.out hz)) (U1.out.below_all hq) (by omega) (HB1.out.trans (hq.mono HB1.out.size)) (Nat.le_trans HZZ.out hq.size); subst e5; have HRS := Lib.hid HRS; clear hrow)
      refine hK.out _ _ ?_ (fun hHeld => ?_)
      · (try dsimp only)
        exact HK.out _ hq
      clear hK K
      (try simp only [Act.put, List.setIfInBounds_toArray, List.set_cons_zero, List.set_cons_succ])
      refine wpAnyH_take (i := 6) (v := ?_) (by simp only [List.getElem?_toArray, List.getElem?_cons_succ, List.getElem?_cons_zero]; exact rfl) (by as_aux_lemma => kernel_rfl) (by as_aux_lemma => kernel_rfl) (by as_aux_lemma => kernel_rfl) (by exact fun _ _ _ h => h) (Or.inl ⟨by rfl, ?_⟩) (by assumption) ?_
      rotate_left
      · intro w hSw
        (try dsimp only at hSw)
        go_simp
        try with_reducible rfl
      (try simp only [Act.put, List.setIfInBounds_toArray, List.set_cons_zero, List.set_cons_succ])
      refine wpAnyH_ready (rs := [7]) (by as_aux_lemma => kernel_rfl) (by simp) ?_
      refine AllReadyH.cons (by simp only [List.getElem?_toArray, List.getElem?_cons_succ, List.getElem?_cons_zero]; exact rfl) (fun K hK => ?_) AllReadyH.nil
      go_simp
      refine hK.out _ _ ?_ (fun hHeld => ?_)
      · (try dsimp only)
        exact HK.out _ (Below.alloc hq hq.size _)
      clear hK K
      (try simp only [Act.put, List.setIfInBounds_toArray, List.set_cons_zero, List.set_cons_succ])
      refine wpAnyH_ready (rs := [8]) (by as_aux_lemma => kernel_rfl) (by simp) ?_
      refine AllReadyH.cons (by simp only [List.getElem?_toArray, List.getElem?_cons_succ, List.getElem?_cons_zero]; exact rfl) (fun K hK => ?_) AllReadyH.nil
      go_simp
      refine hK.out _ _ ?_ (fun hHeld => ?_)
      · (try dsimp only)
        exact HK.out _ (Below.alloc hq hq.size _)
      clear hK K
      refine wpAnyH_done (by as_aux_lemma => kernel_rfl) ?_ _
      go_wp2
      go_meet
      exact ⟨_, _, _, rfl, HRS.out⟩
    · refine AllReadyH.cons (by simp only [List.getElem?_toArray, List.getElem?_cons_succ, List.getElem?_cons_zero]; exact rfl) (fun K hK => ?_) AllReadyH.nil
      go_simp
      refine hK.out _ _ ?_ (fun hHeld => ?_)
      · (try dsimp only)
        (first | with_reducible exact HK.out _ (((Below.refl _ _).alloc (Nat.le_refl _) _).drew) | with_reducible exact HK.out _ (((Below.refl _ _).drew).alloc (Nat.le_refl _) _))
      clear hK K
      (try simp only [Act.put, List.setIfInBounds_toArray, List.set_cons_zero, List.set_cons_succ])
      refine wpAnyH_ready (rs := [5]) (by as_aux_lemma => kernel_rfl) (by simp) ?_
      refine AllReadyH.cons (by simp only [List.getElem?_toArray, List.getElem?_cons_succ, List.getElem?_cons_zero]; exact rfl) (fun K hK => ?_) AllReadyH.nil
      go_simp
      (go_at_call 26; refine (HOT.out _ (Held.rd (by assumption) HR0.out)).mono ?_; rintro _ wy ⟨v, rfl, hrow, hl⟩; have hq := Held.trans (W0 := w1) (by assumption) hl; obtain ⟨A5, c5, rfl, _, _, _, _⟩ := hrow.form; have hrw := Lib.hid hrow; have U0 : Hid (Var wy w1.heap.size 24 [.bool false, .string ⟨#[]⟩, .string ⟨#[]⟩, .int .i64 0, .string ⟨#[]⟩, .int .i64 0, .slice none 0 0]) := Lib.hid (by first | exact Var.below_all (Var.drew (Var.new w1 24 [.bool false, .string ⟨#[]⟩, .string ⟨#[]⟩, .int .i64 0, .string ⟨#[]⟩, .int .i64 0, .slice none 0 0])) hl | exact Var.below_all (Var.new (World.drew w1) 24 [.bool false, .string ⟨#[]⟩, .string ⟨#[]⟩, .int .i64 0, .string ⟨#[]⟩, .int .i64 0, .slice none 0 0]) hl); have u0 := U0.out.cell (j := 0) rfl; have u1 := U0.out.cell (j := 1) rfl; have u2 := U0.out.cell (j := 2) rfl; have u3 := U0.out.cell (j := 3) rfl; have u4 := U0.out.cell (j := 4) rfl; have u5 := U0.out.cell (j := 5) rfl; have u6 := U0.out.cell (j := 6) rfl; have y0 := U0.out.frozen 0; have y1 := U0.out.frozen 1; have y2 := U0.out.frozen 2; have y3 := U0.out.frozen 3; have y4 := U0.out.frozen 4; have y5 := U0.out.frozen 5; have y6 := U0.out.frozen 6; clear hrow)
      refine hK.out _ _ ?_ (fun hHeld => ?_)
      · (try dsimp only)
        exact HK.out _ hq
      clear hK K
      (try simp only [Act.put, List.setIfInBounds_toArray, List.set_cons_zero, List.set_cons_succ])
      refine wpAnyH_take (i := 6) (v := ?_) (by simp only [List.getElem?_toArray, List.getElem?_cons_succ, List.getElem?_cons_zero]; exact rfl) (by as_aux_lemma => kernel_rfl) (by as_aux_lemma => kernel_rfl) (by as_aux_lemma => kernel_rfl) (by exact fun _ _ _ h => h) (Or.inl ⟨by rfl, ?_⟩) (by assumption) ?_
      rotate_left
      · intro w hSw
        (try dsimp only at hSw)
        go_simp
        try with_reducible rfl
      (try simp only [Act.put, List.setIfInBounds_toArray, List.set_cons_zero, List.set_cons_succ])
      refine wpAnyH_ready (rs := [8]) (by as_aux_lemma => kernel_rfl) (by simp) ?_
      refine AllReadyH.cons (by simp only [List.getElem?_toArray, List.getElem?_cons_succ, List.getElem?_cons_zero]; exact rfl) (fun K hK => ?_) AllReadyH.nil
      go_simp
      refine hK.out _ _ ?_ (fun hHeld => ?_)
      · (try dsimp only)
        exact HK.out _ (below7 hq (Nat.le_refl _) _ _ _ _ _ _ _)
      clear hK K
      refine wpAnyH_done (by as_aux_lemma => kernel_rfl) ?_ _
      clear u0 u1 u2 u3 u4 u5 u6 y0 y1 y2 y3 y4 y5 y6
      go_wp2
      go_meet
      exact ⟨_, _, _, rfl, RS.put (R := { st := st, rs := rs, mn := 1, fs := O }) U0.out hrw.out (by simp) HZZ.out (U1.out.below_all hq) (by omega) (HB1.out.trans (hq.mono HB1.out.size))⟩
  case rest =>
  obtain ⟨b, A5, c5, rfl, hRS⟩ := hcut
  have hfl : ∃ k, k = O.length := ⟨_, rfl⟩
  clear HOT HK HR0 V1 HB1 HZZ U1 hfl
  go_upto_if 64 with (fail)
  go_cut [] (fun wx => ∃ (A6 : Option Addr) (c6 : Nat), RS w wx (w.heap.size + 1) b { st := st, rs := rs, mn := 1, fs := O ++ F1P fr ln } A6 c6)
  case first =>
    obtain ⟨R, hR⟩ : ∃ R : HB, R = { st := st, rs := rs, mn := 1, fs := O } := ⟨_, rfl⟩
    have hRf : R.fs = O := by rw [hR]
    rw [← hR] at hRS
    by_cases e1 : fr = 1
    · have hF : F1P fr ln = [(sLen, ⟨(Lib.itoa ln).toArray⟩)] := by rw [e1]; rfl
      have HF := Lib.hid hF
      have HR := Lib.hid hRS
      have HI := Lib.hid (fun W => ptold_any ln.toNat W (by unfold le63; have := H1.out e1; unfold isInt at hln; omega))
      have hil := itoa_len hln
      have HIT : Hid (Lib.decDigits ln.toNat = Lib.itoa ln) := Lib.hid (by rw [← itoa_nat]; congr 1; have := H1.out e1; omega)
      rw [HIT.out] at HI
      have hlnn : ((ln.toNat : Nat) : Int) = ln := by have := H1.out e1; omega
      rw [hlnn] at HI
      obtain ⟨lv, hlv⟩ : ∃ lv : ByteArray, lv = ⟨(Lib.itoa ln).toArray⟩ := ⟨_, rfl⟩
      rw [← hlv] at HI HF
      have hOR : R.fs.length ≤ 1048576 := by rw [hRf]; exact hOL
      have HRR := Lib.hid hR
      clear hF hRS hil hlnn hlv hR hRf
      subst e1
      have V6 := HR.out.var.cell (j := 6) rfl
      have hz6 := HR.out.bl.size
      have hvl := HR.out.var.lt
      have hle := HR.out.le
      go_upto_region 6 with (fail)
      refine wp_region_held_drew (S := (fun _ => True)) (by as_aux_lemma => kernel_rfl) trivial (fun hHeld => ?_)
      refine wpAnyH_take (i := 0) (v := ?_) (by simp only [List.getElem?_toArray, List.getElem?_cons_zero]; exact rfl) (by as_aux_lemma => kernel_rfl) (by as_aux_lemma => kernel_rfl) (by as_aux_lemma => kernel_rfl) (by exact fun _ _ _ h => h) (Or.inl ⟨by rfl, ?_⟩) (by assumption) ?_
      rotate_left
      · intro w hSw
        (try dsimp only at hSw)
        go_simp
        try with_reducible rfl
      (try simp only [Act.put, List.setIfInBounds_toArray, List.set_cons_zero, List.set_cons_succ])
      refine wpAnyH_take (i := 2) (v := ?_) (by simp only [List.getElem?_toArray, List.getElem?_cons_succ, List.getElem?_cons_zero]; exact rfl) (by as_aux_lemma => kernel_rfl) (by as_aux_lemma => kernel_rfl) (by as_aux_lemma => kernel_rfl) (by exact fun _ _ _ h => h) (Or.inl ⟨by rfl, ?_⟩) (by assumption) ?_
      rotate_left
      · intro w hSw
        (try dsimp only at hSw)
        go_simp
        try with_reducible rfl
      (try simp only [Act.put, List.setIfInBounds_toArray, List.set_cons_zero, List.set_cons_succ])
      refine wpAnyH_ready (rs := [1, 3]) (by as_aux_lemma => kernel_rfl) (by simp) ?_
      refine AllReadyH.cons (by simp only [List.getElem?_toArray, List.getElem?_cons_succ, List.getElem?_cons_zero]; exact rfl) (fun K hK => ?_) ?_
      · go_simp
        refine hK.out _ _ trivial (fun hHeld => ?_)
        clear hK K
        (try simp only [Act.put, List.setIfInBounds_toArray, List.set_cons_zero, List.set_cons_succ])
        refine wpAnyH_ready (rs := [3]) (by as_aux_lemma => kernel_rfl) (by simp) ?_
        refine AllReadyH.cons (by simp only [List.getElem?_toArray, List.getElem?_cons_succ, List.getElem?_cons_zero]; exact rfl) (fun K hK => ?_) AllReadyH.nil
        go_simp
        (go_at_call 27; refine (HI.out _).mono ?_; rintro _ wy ⟨rfl, hl⟩; have hq : Below wc.heap.size wc wy := Below.of_drew hl; have HRy := Lib.hid (HR.out.below hq); have V6y := HRy.out.var.cell (j := 6) rfl; have V6z := fun o => (HRy.out.var.alloc o).cell (j := 6) rfl; clear hl hq)
        refine hK.out _ _ trivial (fun hHeld => ?_)
        clear hK K
        (try simp only [Act.put, List.setIfInBounds_toArray, List.set_cons_zero, List.set_cons_succ])
        clear V6y V6z
        refine wpAnyH_take (i := 4) (v := ?_) (by simp only [List.getElem?_toArray, List.getElem?_cons_succ, List.getElem?_cons_zero]; exact rfl) (by as_aux_lemma => kernel_rfl) (by as_aux_lemma => kernel_rfl) (by as_aux_lemma => kernel_rfl) (by exact fun _ _ _ h => h) (Or.inl ⟨by rfl, ?_⟩) (by assumption) ?_
        rotate_left
        · intro w hSw
          (try dsimp only at hSw)
          go_simp
          try with_reducible rfl
        (try simp only [Act.put, List.setIfInBounds_toArray, List.set_cons_zero, List.set_cons_succ])
        refine wpAnyH_ready (rs := [5]) (by as_aux_lemma => kernel_rfl) (by simp) ?_
        refine AllReadyH.cons (by simp only [List.getElem?_toArray, List.getElem?_cons_succ, List.getElem?_cons_zero]; exact rfl) (fun K hK => ?_) AllReadyH.nil
        go_simp
        refine hK.out _ _ trivial (fun hHeld => ?_)
        clear hK K
        (try simp only [Act.put, List.setIfInBounds_toArray, List.set_cons_zero, List.set_cons_succ])
        refine wpAnyH_ready (rs := [6]) (by as_aux_lemma => kernel_rfl) (by simp) ?_
        refine AllReadyH.cons (by simp only [List.getElem?_toArray, List.getElem?_cons_succ, List.getElem?_cons_zero]; exact rfl) (fun K hK => ?_) AllReadyH.nil
        (refine step_app _ (by rfl) (.tmp 66) (.tmp 70) 22 22 (by rfl) (w.heap.size + 2) 35 g0 (.agg #[.string ⟨#[]⟩, .string ⟨#[]⟩]) 2 32 Tryz.underlying22 hf0 fz0 fz1 fz2 rfl (.slice A5 R.fs.length c5) R.fs.length (fieldsV R.fs) (by rfl) (HRy.out.row.alloc _) _ 1 [.string ⟨#[67, 111, 110, 116, 101, 110, 116, 45, 76, 101, 110, 103, 116, 104]⟩, .string lv] (by rfl) (built_pair _ _ _) (by omega) (by omega) (by omega) (by have := HRy.out.var.lt; have := HRy.out.le; simp; omega) ?_; intro v7 w7 hrow7 hg7 ho7)
        obtain ⟨A7, c7, e7, hR7⟩ := HRy.out.app (f := (sLen, lv)) hrow7 hg7 ho7
        obtain ⟨N7, hN7⟩ : ∃ N7, N7 = (R.fs ++ [(sLen, lv)]).length := ⟨_, rfl⟩
        rw [← hN7] at e7
        subst e7
        have HR7 := Lib.hid hR7
        have c76 : w7.cell? ⟨b, 6, none⟩ = some (.slice A5 R.fs.length c5) := ((HRy.out.var.alloc _).grown hg7 HRy.out.far).cell (j := 6) rfl
        have y76 : w7.frozen? ⟨b, 6, none⟩ = false := ((HRy.out.var.alloc _).grown hg7 HRy.out.far).frozen 6
        clear hrow7 hg7 ho7 hR7 hN7
        refine hK.out _ _ trivial (fun hHeld => ?_)
        clear hK K
        (try simp only [Act.put, List.setIfInBounds_toArray, List.set_cons_zero, List.set_cons_succ])
        refine wpAnyH_take (i := 7) (v := ?_) (by simp only [List.getElem?_toArray, List.getElem?_cons_succ, List.getElem?_cons_zero]; exact rfl) (by as_aux_lemma => kernel_rfl) (by as_aux_lemma => kernel_rfl) (by as_aux_lemma => kernel_rfl) (by exact fun _ _ _ h => h) (Or.inl ⟨by rfl, ?_⟩) (by assumption) ?_
        rotate_left
        · intro w hSw
          (try dsimp only at hSw)
          go_simp
          try with_reducible rfl
        (try simp only [Act.put, List.setIfInBounds_toArray, List.set_cons_zero, List.set_cons_succ])
        refine wpAnyH_ready (rs := [8]) (by as_aux_lemma => kernel_rfl) (by simp) ?_
        refine AllReadyH.cons (by simp only [List.getElem?_toArray, List.getElem?_cons_succ, List.getElem?_cons_zero]; exact rfl) (fun K hK => ?_) AllReadyH.nil
        go_simp
        refine hK.out _ _ trivial (fun hHeld => ?_)
        clear hK K
        refine wpAnyH_done (by as_aux_lemma => kernel_rfl) ?_ _
        go_wp2
        go_meet
        rw [HF.out]
        have hfin := HR7.out
        rw [HRR.out] at hfin
        exact ⟨A7, c7, hfin⟩
      · refine AllReadyH.cons (by simp only [List.getElem?_toArray, List.getElem?_cons_succ, List.getElem?_cons_zero]; exact rfl) (fun K hK => ?_) AllReadyH.nil
        go_simp
        (go_at_call 27; refine (HI.out _).mono ?_; rintro _ wy ⟨rfl, hl⟩; have hq : Below wc.heap.size wc wy := Below.of_drew hl; have HRy := Lib.hid (HR.out.below hq); have V6y := HRy.out.var.cell (j := 6) rfl; have V6z := fun o => (HRy.out.var.alloc o).cell (j := 6) rfl; clear hl hq)
        refine hK.out _ _ trivial (fun hHeld => ?_)
        clear hK K
        (try simp only [Act.put, List.setIfInBounds_toArray, List.set_cons_zero, List.set_cons_succ])
        refine wpAnyH_take (i := 4) (v := ?_) (by simp only [List.getElem?_toArray, List.getElem?_cons_succ, List.getElem?_cons_zero]; exact rfl) (by as_aux_lemma => kernel_rfl) (by as_aux_lemma => kernel_rfl) (by as_aux_lemma => kernel_rfl) (by exact fun _ _ _ h => h) (Or.inl ⟨by rfl, ?_⟩) (by assumption) ?_
        rotate_left
        · intro w hSw
          (try dsimp only at hSw)
          go_simp
          try with_reducible rfl
        (try simp only [Act.put, List.setIfInBounds_toArray, List.set_cons_zero, List.set_cons_succ])
        refine wpAnyH_ready (rs := [1, 5]) (by as_aux_lemma => kernel_rfl) (by simp) ?_
        refine AllReadyH.cons (by simp only [List.getElem?_toArray, List.getElem?_cons_succ, List.getElem?_cons_zero]; exact rfl) (fun K hK => ?_) ?_
        · go_simp
          refine hK.out _ _ trivial (fun hHeld => ?_)
          clear hK K
          (try simp only [Act.put, List.setIfInBounds_toArray, List.set_cons_zero, List.set_cons_succ])
          clear V6y V6z
          refine wpAnyH_ready (rs := [5]) (by as_aux_lemma => kernel_rfl) (by simp) ?_
          refine AllReadyH.cons (by simp only [List.getElem?_toArray, List.getElem?_cons_succ, List.getElem?_cons_zero]; exact rfl) (fun K hK => ?_) AllReadyH.nil
          go_simp
          refine hK.out _ _ trivial (fun hHeld => ?_)
          clear hK K
          (try simp only [Act.put, List.setIfInBounds_toArray, List.set_cons_zero, List.set_cons_succ])
          refine wpAnyH_ready (rs := [6]) (by as_aux_lemma => kernel_rfl) (by simp) ?_
          refine AllReadyH.cons (by simp only [List.getElem?_toArray, List.getElem?_cons_succ, List.getElem?_cons_zero]; exact rfl) (fun K hK => ?_) AllReadyH.nil
          (refine step_app _ (by rfl) (.tmp 66) (.tmp 70) 22 22 (by rfl) (w.heap.size + 2) 35 g0 (.agg #[.string ⟨#[]⟩, .string ⟨#[]⟩]) 2 32 Tryz.underlying22 hf0 fz0 fz1 fz2 rfl (.slice A5 R.fs.length c5) R.fs.length (fieldsV R.fs) (by rfl) (HRy.out.row.alloc _) _ 1 [.string ⟨#[67, 111, 110, 116, 101, 110, 116, 45, 76, 101, 110, 103, 116, 104]⟩, .string lv] (by rfl) (built_pair _ _ _) (by omega) (by omega) (by omega) (by have := HRy.out.var.lt; have := HRy.out.le; simp; omega) ?_; intro v7 w7 hrow7 hg7 ho7)
          obtain ⟨A7, c7, e7, hR7⟩ := HRy.out.app (f := (sLen, lv)) hrow7 hg7 ho7
          obtain ⟨N7, hN7⟩ : ∃ N7, N7 = (R.fs ++ [(sLen, lv)]).length := ⟨_, rfl⟩
          rw [← hN7] at e7
          subst e7
          have HR7 := Lib.hid hR7
          have c76 : w7.cell? ⟨b, 6, none⟩ = some (.slice A5 R.fs.length c5) := ((HRy.out.var.alloc _).grown hg7 HRy.out.far).cell (j := 6) rfl
          have y76 : w7.frozen? ⟨b, 6, none⟩ = false := ((HRy.out.var.alloc _).grown hg7 HRy.out.far).frozen 6
          clear hrow7 hg7 ho7 hR7 hN7
          refine hK.out _ _ trivial (fun hHeld => ?_)
          clear hK K
          (try simp only [Act.put, List.setIfInBounds_toArray, List.set_cons_zero, List.set_cons_succ])
          refine wpAnyH_take (i := 7) (v := ?_) (by simp only [List.getElem?_toArray, List.getElem?_cons_succ, List.getElem?_cons_zero]; exact rfl) (by as_aux_lemma => kernel_rfl) (by as_aux_lemma => kernel_rfl) (by as_aux_lemma => kernel_rfl) (by exact fun _ _ _ h => h) (Or.inl ⟨by rfl, ?_⟩) (by assumption) ?_
          rotate_left
          · intro w hSw
            (try dsimp only at hSw)
            go_simp
            try with_reducible rfl
          (try simp only [Act.put, List.setIfInBounds_toArray, List.set_cons_zero, List.set_cons_succ])
          refine wpAnyH_ready (rs := [8]) (by as_aux_lemma => kernel_rfl) (by simp) ?_
          refine AllReadyH.cons (by simp only [List.getElem?_toArray, List.getElem?_cons_succ, List.getElem?_cons_zero]; exact rfl) (fun K hK => ?_) AllReadyH.nil
          go_simp
          refine hK.out _ _ trivial (fun hHeld => ?_)
          clear hK K
          refine wpAnyH_done (by as_aux_lemma => kernel_rfl) ?_ _
          go_wp2
          go_meet
          rw [HF.out]
          have hfin := HR7.out
          rw [HRR.out] at hfin
          exact ⟨A7, c7, hfin⟩
        · refine AllReadyH.cons (by simp only [List.getElem?_toArray, List.getElem?_cons_succ, List.getElem?_cons_zero]; exact rfl) (fun K hK => ?_) AllReadyH.nil
          go_simp
          refine hK.out _ _ trivial (fun hHeld => ?_)
          clear hK K
          (try simp only [Act.put, List.setIfInBounds_toArray, List.set_cons_zero, List.set_cons_succ])
          refine wpAnyH_ready (rs := [1]) (by as_aux_lemma => kernel_rfl) (by simp) ?_
          refine AllReadyH.cons (by simp only [List.getElem?_toArray, List.getElem?_cons_succ, List.getElem?_cons_zero]; exact rfl) (fun K hK => ?_) AllReadyH.nil
          go_simp
          refine hK.out _ _ trivial (fun hHeld => ?_)
          clear hK K
          (try simp only [Act.put, List.setIfInBounds_toArray, List.set_cons_zero, List.set_cons_succ])
          clear V6y V6z
          refine wpAnyH_ready (rs := [6]) (by as_aux_lemma => kernel_rfl) (by simp) ?_
          refine AllReadyH.cons (by simp only [List.getElem?_toArray, List.getElem?_cons_succ, List.getElem?_cons_zero]; exact rfl) (fun K hK => ?_) AllReadyH.nil
          (refine step_app _ (by rfl) (.tmp 66) (.tmp 70) 22 22 (by rfl) (w.heap.size + 2) 35 g0 (.agg #[.string ⟨#[]⟩, .string ⟨#[]⟩]) 2 32 Tryz.underlying22 hf0 fz0 fz1 fz2 rfl (.slice A5 R.fs.length c5) R.fs.length (fieldsV R.fs) (by rfl) (HRy.out.row.alloc _) _ 1 [.string ⟨#[67, 111, 110, 116, 101, 110, 116, 45, 76, 101, 110, 103, 116, 104]⟩, .string lv] (by rfl) (built_pair _ _ _) (by omega) (by omega) (by omega) (by have := HRy.out.var.lt; have := HRy.out.le; simp; omega) ?_; intro v7 w7 hrow7 hg7 ho7)
          obtain ⟨A7, c7, e7, hR7⟩ := HRy.out.app (f := (sLen, lv)) hrow7 hg7 ho7
          obtain ⟨N7, hN7⟩ : ∃ N7, N7 = (R.fs ++ [(sLen, lv)]).length := ⟨_, rfl⟩
          rw [← hN7] at e7
          subst e7
          have HR7 := Lib.hid hR7
          have c76 : w7.cell? ⟨b, 6, none⟩ = some (.slice A5 R.fs.length c5) := ((HRy.out.var.alloc _).grown hg7 HRy.out.far).cell (j := 6) rfl
          have y76 : w7.frozen? ⟨b, 6, none⟩ = false := ((HRy.out.var.alloc _).grown hg7 HRy.out.far).frozen 6
          clear hrow7 hg7 ho7 hR7 hN7
          refine hK.out _ _ trivial (fun hHeld => ?_)
          clear hK K
          (try simp only [Act.put, List.setIfInBounds_toArray, List.set_cons_zero, List.set_cons_succ])
          refine wpAnyH_take (i := 7) (v := ?_) (by simp only [List.getElem?_toArray, List.getElem?_cons_succ, List.getElem?_cons_zero]; exact rfl) (by as_aux_lemma => kernel_rfl) (by as_aux_lemma => kernel_rfl) (by as_aux_lemma => kernel_rfl) (by exact fun _ _ _ h => h) (Or.inl ⟨by rfl, ?_⟩) (by assumption) ?_
          rotate_left
          · intro w hSw
            (try dsimp only at hSw)
            go_simp
            try with_reducible rfl
          (try simp only [Act.put, List.setIfInBounds_toArray, List.set_cons_zero, List.set_cons_succ])
          refine wpAnyH_ready (rs := [8]) (by as_aux_lemma => kernel_rfl) (by simp) ?_
          refine AllReadyH.cons (by simp only [List.getElem?_toArray, List.getElem?_cons_succ, List.getElem?_cons_zero]; exact rfl) (fun K hK => ?_) AllReadyH.nil
          go_simp
          refine hK.out _ _ trivial (fun hHeld => ?_)
          clear hK K
          refine wpAnyH_done (by as_aux_lemma => kernel_rfl) ?_ _
          go_wp2
          go_meet
          rw [HF.out]
          have hfin := HR7.out
          rw [HRR.out] at hfin
          exact ⟨A7, c7, hfin⟩
    · have hF : F1P fr ln = [] := by unfold F1P; rw [if_neg e1]
      have q1 : (fr == 1) = false := by simpa using e1
      have HF := Lib.hid hF
      have hRN := Lib.hid hRS.nil
      rw [hR] at hRN
      clear hR hRS hRf e1 hF
      go_wp2
      go_meet
      rw [HF.out]
      exact ⟨_, _, hRN.out⟩
  case rest =>
  obtain ⟨A5, c5, hRS⟩ := hcut
  obtain ⟨wk, rfl⟩ : ∃ wk : World, wk = wc := ⟨_, rfl⟩
  obtain ⟨D, hD⟩ : ∃ D, D = decide (fr = 2 ∧ mi = 1) := ⟨_, rfl⟩
  obtain ⟨O1, hO1⟩ : ∃ O1, O1 = O ++ F1P fr ln := ⟨_, rfl⟩
  have hO1L : O1.length ≤ 1048577 := by rw [hO1, List.length_append]; unfold F1P; split <;> simp <;> omega
  rw [← hO1] at hRS
  have HO1 := Lib.hid hO1
  have HRS1 := Lib.hid hRS
  have HD := Lib.hid hD
  clear hRS hO1 hD
  go_upto_region 7 with (fail)
  go_cut [78] (fun v wx => v = .bool D ∧ wk = wx)
  case first =>
    by_cases e2 : fr = 2
    · rcases HMI.out with e | e
      · have h3 : D = false := by rw [HD.out]; exact decide_eq_false (fun h => by omega)
        subst h3
        subst e2
        subst e
        go_wp2
        go_meet
        exact ⟨rfl, rfl⟩
      · have h3 : D = true := by rw [HD.out]; exact decide_eq_true ⟨e2, e⟩
        subst h3
        subst e2
        subst e
        go_wp2
        go_meet
        exact ⟨rfl, rfl⟩
    · have h3 : D = false := by rw [HD.out]; exact decide_eq_false (fun h => e2 h.1)
      have q2 : (fr == 2) = false := by simpa using e2
      subst h3
      clear e2
      go_wp2
      go_meet
      exact ⟨rfl, rfl⟩
  case rest =>
  obtain ⟨rfl, rfl⟩ := hcut
  refine (show ∀ (a : Act) (w : World), Code.wp _ _ _ a w → _ from by assumption) _ _ ?_
  go_cut [] (fun wx => ∃ (A6 : Option Addr) (c6 : Nat), RS w wx (w.heap.size + 1) b { st := st, rs := rs, mn := 1, fs := O1 ++ F2P fr mi } A6 c6)
  case first =>
    obtain ⟨R, hR⟩ : ∃ R : HB, R = { st := st, rs := rs, mn := 1, fs := O1 } := ⟨_, rfl⟩
    have hOR : R.fs.length ≤ 1048577 := by rw [hR]; exact hO1L
    have hRS := HRS1.out
    rw [← hR] at hRS
    have HR := Lib.hid hRS
    have HRR := Lib.hid hR
    clear hR hRS
    cases D
    · have HF : Hid (F2P fr mi = []) := Lib.hid (by unfold F2P; rw [if_neg (of_decide_eq_false HD.out.symm)])
      go_wp2
      go_meet
      rw [HF.out]
      have hfin := HR.out.nil
      rw [HRR.out] at hfin
      exact ⟨_, _, hfin⟩
    · have HF : Hid (F2P fr mi = [(sCod, sChunked)]) := Lib.hid (by unfold F2P; rw [if_pos (of_decide_eq_true HD.out.symm)])
      (have V6 := HR.out.var.cell (j := 6) rfl
       have hz6 := HR.out.bl.size
       have hvl := HR.out.var.lt
       have hle := HR.out.le
       go_wp2_with (first
         | (at_builtin; go_must (refine wpList_app _ rfl (.tmp 80) (.tmp 82) 22 22 rfl (w.heap.size + 2) 35 g0 (.agg #[.string ⟨#[]⟩, .string ⟨#[]⟩]) 2 32 Tryz.underlying22 hf0 fz0 fz1 fz2 rfl (.slice A5 R.fs.length c5) R.fs.length (fieldsV R.fs) rfl (HR.out.row.alloc _) _ 1 [.string ⟨#[84, 114, 97, 110, 115, 102, 101, 114, 45, 69, 110, 99, 111, 100, 105, 110, 103]⟩, .string ⟨#[99, 104, 117, 110, 107, 101, 100]⟩] rfl (built_pair _ _ _) (by omega) (by omega) (by omega) (by simp; omega) ?_); intro v7 w7 hrow7 hg7 ho7; obtain ⟨A7, c7, e7, hR7⟩ := HR.out.app (f := (⟨#[84, 114, 97, 110, 115, 102, 101, 114, 45, 69, 110, 99, 111, 100, 105, 110, 103]⟩, ⟨#[99, 104, 117, 110, 107, 101, 100]⟩)) hrow7 hg7 ho7; obtain ⟨N7, hN7⟩ : ∃ N7, N7 = (R.fs ++ [((⟨#[84, 114, 97, 110, 115, 102, 101, 114, 45, 69, 110, 99, 111, 100, 105, 110, 103]⟩, ⟨#[99, 104, 117, 110, 107, 101, 100]⟩) : Fl)]).length := ⟨_, rfl⟩; rw [← hN7] at e7; subst e7; have c76 : w7.cell? ⟨b, 6, none⟩ = some (.slice A5 R.fs.length c5) := ((HR.out.var.alloc _).grown hg7 HR.out.far).cell (j := 6) rfl; have y76 : w7.frozen? ⟨b, 6, none⟩ = false := ((HR.out.var.alloc _).grown hg7 HR.out.far).frozen 6; have HR7 := Lib.hid hR7; clear hrow7 hg7 ho7 hR7 hN7)
         | fail)
       go_meet
       rw [HF.out]
       have hfin := HR7.out
       rw [HRR.out] at hfin
       exact ⟨A7, c7, hfin⟩)
  case rest =>
  obtain ⟨A5, c5, hRS⟩ := hcut
  obtain ⟨O2, hO2⟩ : ∃ O2, O2 = O1 ++ F2P fr mi := ⟨_, rfl⟩
  have hO2L : O2.length ≤ 1048578 := by rw [hO2, List.length_append]; unfold F2P; split <;> simp <;> omega
  rw [← hO2] at hRS
  have HO2 := Lib.hid hO2
  have HRS2 := Lib.hid hRS
  clear hRS hO2 HRS1 HD
  go_upto_if 85 with (fail)
  go_cut [] (fun wx => ∃ (A6 : Option Addr) (c6 : Nat), RS w wx (w.heap.size + 1) b { st := st, rs := rs, mn := 1, fs := O2 ++ connF fr cl mi } A6 c6)
  case first =>
    obtain ⟨R, hR⟩ : ∃ R : HB, R = { st := st, rs := rs, mn := 1, fs := O2 } := ⟨_, rfl⟩
    have hOR : R.fs.length ≤ 1048578 := by rw [hR]; exact hO2L
    have hRS := HRS2.out
    rw [← hR] at hRS
    have HR := Lib.hid hRS
    have HRR := Lib.hid hR
    clear hR hRS
    cases SH
    · rcases HMI.out with e | e
      · have HF : Hid (connF fr cl mi = [(sConnC, sKeep)]) := Lib.hid (by unfold connF; rw [← HSH.out, if_neg (by simp), if_pos e])
        subst e
        (have V6 := HR.out.var.cell (j := 6) rfl
         have hz6 := HR.out.bl.size
         have hvl := HR.out.var.lt
         have hle := HR.out.le
         go_wp2_with (first
           | (at_builtin; go_must (refine wpList_app _ rfl (.tmp 95) (.tmp 97) 22 22 rfl (w.heap.size + 2) 35 g0 (.agg #[.string ⟨#[]⟩, .string ⟨#[]⟩]) 2 32 Tryz.underlying22 hf0 fz0 fz1 fz2 rfl (.slice A5 R.fs.length c5) R.fs.length (fieldsV R.fs) rfl (HR.out.row.alloc _) _ 1 [.string ⟨#[67, 111, 110, 110, 101, 99, 116, 105, 111, 110]⟩, .string ⟨#[107, 101, 101, 112, 45, 97, 108, 105, 118, 101]⟩] rfl (built_pair _ _ _) (by omega) (by omega) (by omega) (by simp; omega) ?_); intro v7 w7 hrow7 hg7 ho7; obtain ⟨A7, c7, e7, hR7⟩ := HR.out.app (f := (⟨#[67, 111, 110, 110, 101, 99, 116, 105, 111, 110]⟩, ⟨#[107, 101, 101, 112, 45, 97, 108, 105, 118, 101]⟩)) hrow7 hg7 ho7; obtain ⟨N7, hN7⟩ : ∃ N7, N7 = (R.fs ++ [((⟨#[67, 111, 110, 110, 101, 99, 116, 105, 111, 110]⟩, ⟨#[107, 101, 101, 112, 45, 97, 108, 105, 118, 101]⟩) : Fl)]).length := ⟨_, rfl⟩; rw [← hN7] at e7; subst e7; have c76 : w7.cell? ⟨b, 6, none⟩ = some (.slice A5 R.fs.length c5) := ((HR.out.var.alloc _).grown hg7 HR.out.far).cell (j := 6) rfl; have y76 : w7.frozen? ⟨b, 6, none⟩ = false := ((HR.out.var.alloc _).grown hg7 HR.out.far).frozen 6; have HR7 := Lib.hid hR7; clear hrow7 hg7 ho7 hR7 hN7)
           | fail)
         go_meet
         rw [HF.out]
         have hfin := HR7.out
         rw [HRR.out] at hfin
         exact ⟨A7, c7, hfin⟩)
      · have HF : Hid (connF fr cl mi = []) := Lib.hid (by unfold connF; rw [← HSH.out, if_neg (by simp), if_neg (by omega)])
        subst e
        go_wp2
        go_meet
        rw [HF.out]
        have hfin := HR.out.nil
        rw [HRR.out] at hfin
        exact ⟨_, _, hfin⟩
    · have HF : Hid (connF fr cl mi = [(sConnC, sClose)]) := Lib.hid (by unfold connF; rw [← HSH.out, if_pos rfl])
      (have V6 := HR.out.var.cell (j := 6) rfl
       have hz6 := HR.out.bl.size
       have hvl := HR.out.var.lt
       have hle := HR.out.le
       go_wp2_with (first
         | (at_builtin; go_must (refine wpList_app _ rfl (.tmp 87) (.tmp 89) 22 22 rfl (w.heap.size + 2) 35 g0 (.agg #[.string ⟨#[]⟩, .string ⟨#[]⟩]) 2 32 Tryz.underlying22 hf0 fz0 fz1 fz2 rfl (.slice A5 R.fs.length c5) R.fs.length (fieldsV R.fs) rfl (HR.out.row.alloc _) _ 1 [.string ⟨#[67, 111, 110, 110, 101, 99, 116, 105, 111, 110]⟩, .string ⟨#[99, 108, 111, 115, 101]⟩] rfl (built_pair _ _ _) (by omega) (by omega) (by omega) (by simp; omega) ?_); intro v7 w7 hrow7 hg7 ho7; obtain ⟨A7, c7, e7, hR7⟩ := HR.out.app (f := (⟨#[67, 111, 110, 110, 101, 99, 116, 105, 111, 110]⟩, ⟨#[99, 108, 111, 115, 101]⟩)) hrow7 hg7 ho7; obtain ⟨N7, hN7⟩ : ∃ N7, N7 = (R.fs ++ [((⟨#[67, 111, 110, 110, 101, 99, 116, 105, 111, 110]⟩, ⟨#[99, 108, 111, 115, 101]⟩) : Fl)]).length := ⟨_, rfl⟩; rw [← hN7] at e7; subst e7; have c76 : w7.cell? ⟨b, 6, none⟩ = some (.slice A5 R.fs.length c5) := ((HR.out.var.alloc _).grown hg7 HR.out.far).cell (j := 6) rfl; have y76 : w7.frozen? ⟨b, 6, none⟩ = false := ((HR.out.var.alloc _).grown hg7 HR.out.far).frozen 6; have HR7 := Lib.hid hR7; clear hrow7 hg7 ho7 hR7 hN7)
         | fail)
       go_meet
       rw [HF.out]
       have hfin := HR7.out
       rw [HRR.out] at hfin
       exact ⟨A7, c7, hfin⟩)
  case rest =>
  obtain ⟨A5, c5, hRS⟩ := hcut
  obtain ⟨F, hF⟩ : ∃ F, F = O2 ++ connF fr cl mi := ⟨_, rfl⟩
  rw [← hF] at hRS
  have hFL : F.length ≤ 1048579 := by rw [hF, List.length_append]; have := (connF_size fr cl mi).2; omega
  have hFZ : flSize F ≤ 8388608 := by
    have a1 := FP_size (fr := fr) (mi := mi) hln
    have a2 := HZF.out
    have a4 := (connF_size fr cl mi).1
    rw [hF, HO2.out, HO1.out, flSize_append, flSize_append, flSize_append]
    omega
  have hKK : rspH ⟨false, mt, t, st, rs, mn, fs⟩ fr ln cl mi = { st := st, rs := rs, mn := 1, fs := F } := by rw [HFS.out, ← HO1.out, ← HO2.out, ← hF]
  refine (show ∀ (a : Act) (w : World), Code.wp _ _ _ a w → _ from by assumption) _ _ ?_
  rw [hKK]
  have HW := rWrite_any false ⟨#[]⟩ ⟨#[]⟩ st rs 1 A5 F.length c5 F wc (RS.rd hRS) hst (by unfold isInt; omega) (by omega) (by show 0 + 0 + rs.size ≤ _; omega) hFZ
  unfold WritePost headV at HW
  obtain ⟨en, hen⟩ : ∃ en, en = (writeP (hiOf false ⟨#[]⟩ ⟨#[]⟩ st rs 1 F)).2 := ⟨_, rfl⟩
  have HK : Hid (okH { st := st, rs := rs, mn := 1, fs := F } = if en = 0 then ({ st := st, rs := rs, mn := 1, fs := F }, 0) else ({}, en)) := Lib.hid (by rw [hen]; rfl)
  rw [← hen] at HW
  have HR := Lib.hid hRS
  have HW := Lib.hid HW
  clear hen hRS hKK hFZ hF HO1 HO2 HRS2 HFS HZF
  by_cases he : en = 0
  · subst he
    rw [HK.out]
    have hbz := HR.out.bl.size
    go_wp2_with (first
      | (refine wpList_load_mid rfl 24 (.tmp 13) rfl b 0 rfl [.bool false, .string ⟨#[]⟩, .string ⟨#[]⟩, .int .i64 st, .string rs, .int .i64 1, .slice A5 F.length c5] _ HR.out.var.range Tryz.underlying24 rfl (by kernel_rfl) ?_)
      | (go_at_call 28; refine HW.out.mono ?_; rintro _ w5 ⟨v5, rfl, _, hb5⟩; have HR5 := Lib.hid (HR.out.below hb5); clear hb5)
      | (refine wpList_load_mid rfl 24 (.tmp 13) rfl b 0 rfl [.bool false, .string ⟨#[]⟩, .string ⟨#[]⟩, .int .i64 st, .string rs, .int .i64 1, .slice A5 F.length c5] _ HR5.out.var.range Tryz.underlying24 rfl (by kernel_rfl) ?_)
      | (refine wpList_put rfl 24 (.tmp 10) (.tmp 109) rfl (w.heap.size + 1) rfl HR5.out.res [.bool false, .string ⟨#[]⟩, .string ⟨#[]⟩, .int .i64 st, .string rs, .int .i64 1, .slice A5 F.length c5] rfl rfl (by kernel_rfl) (by simp [Value.oneCell']) ?_; intro wa hva hga hsa)
      | fail)
    refine bodyPost_ret (results_var3 rfl _ _ rfl hva Tryz.underlying24 rfl (by kernel_rfl)) rfl ⟨.slice A5 F.length c5, ?_, ?_⟩
    · cases SH <;> rfl
    · have k := HR5.out.row.lt
      exact ⟨(HR5.out.row.kept hga (Or.inr (fun e => by have := (k _ e).1; omega))).mono (by omega), Below.grown HR5.out.bl hga HR5.out.bl.size (fun q hq => by injection hq with hq; omega)⟩
  · have he2 : ((en : Int) != 0) = true := by simp; omega
    rw [HK.out, if_neg he]
    go_wp2_with (first
      | (refine wpList_load_mid rfl 24 (.tmp 13) rfl b 0 rfl [.bool false, .string ⟨#[]⟩, .string ⟨#[]⟩, .int .i64 st, .string rs, .int .i64 1, .slice A5 F.length c5] _ HR.out.var.range Tryz.underlying24 rfl (by kernel_rfl) ?_)
      | (go_at_call 28; refine HW.out.mono ?_; rintro _ w5 ⟨v5, rfl, _, hb5⟩; have HR5 := Lib.hid (HR.out.below hb5); clear hb5)
      | (refine wpList_put rfl 24 (.tmp 10) (.tmp 107) rfl (w.heap.size + 1) rfl HR5.out.res [.bool false, .string ⟨#[]⟩, .string ⟨#[]⟩, .int .i64 0, .string ⟨#[]⟩, .int .i64 0, .slice none 0 0] rfl rfl (by kernel_rfl) (by simp [Value.oneCell']) ?_; intro wa hva hga hsa)
      | fail)
    refine bodyPost_ret (results_var3 rfl _ _ rfl hva Tryz.underlying24 rfl (by kernel_rfl)) rfl ⟨.slice none 0 0, ?_, Row.nil _ _ _, Below.grown HR5.out.bl hga HR5.out.bl.size (fun q hq => by injection hq with hq; have := HR5.out.resB; omega)⟩
    rw [decide_eq_false he, Bool.and_false]
    rfl
end Go.Proofs.YtabecgdaiakgiaaGreatDoor
