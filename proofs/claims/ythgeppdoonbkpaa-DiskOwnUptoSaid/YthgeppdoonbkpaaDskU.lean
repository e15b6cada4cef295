/- the walks of a file's change: printed by gen_chg.py. Conditions: sizes. -/
import Derived.Test.YthgeppdoonbkpaaDskQ
import Derived.Laws.EntriesVeiled
namespace Go.Proofs.Ythgeppdoonbkpaa
open Go.RowKit Go.Maps Go.WideMaps
section
variable {w : World} {db : Nat} {F : Nat → Nat} {ρ : Roles} {s : Dsk.St} {T : Nat}
set_option maxHeartbeats 1000000 in
set_option maxRecDepth 100000 in
theorem dchanged_wr (hm : Mem w db F ρ s T) (hT : T ≤ 99999) (hd : s.down = false) {i : Nat} (hi : Dsk.Reach s i) {a xa xo : Nat} {d : Bs} (hfit : Dsk.Ch.fits (Dsk.Ch.wr a d) (Dsk.fil s i).now) (hcv : ChV w ρ (Dsk.Ch.wr a d) (.int .i64 ((d.length : Nat) : Int)) (.func (.func 35) #[] #[.pointer (some ⟨xa, 0, none⟩), .pointer (some ⟨xo, 0, none⟩)])) :
    Calls Try.prog 34 #[.pointer (some ⟨db, 0, none⟩), .pointer (some ⟨F i, 0, none⟩), .agg #[.int .i64 ((d.length : Nat) : Int), (.func (.func 35) #[] #[.pointer (some ⟨xa, 0, none⟩), .pointer (some ⟨xo, 0, none⟩)])]] w fun e w' => e = .returned (.int .i64 ((Dsk.changed s i (Dsk.Ch.wr a d)).2 : Nat)) ∧ Out w db ρ (Dsk.changed s i (Dsk.Ch.wr a d)).1 (T + 1) w' := by
  obtain ⟨j0, hj0, jz0, jz1, jz2⟩ := info_parts infoChg
  obtain ⟨hrole, v0, v1, v2, hv, h0, h1, zs, hzs, hrow, ho, hz⟩ := hm.file i hi
  have hgood := hm.fit.good i hi
  have HMM := Lib.hid (fun (W : World) v1' v3 hv' hb hrow' hown hc => changed_mem (W := W) (v1' := v1') (v3 := v3) (sz := .int .i64 ((d.length : Nat) : Int)) (fv := (.func (.func 35) #[] #[.pointer (some ⟨xa, 0, none⟩), .pointer (some ⟨xo, 0, none⟩)])) hm hd hi hfit hcv hrole h0 hzs hz ho hv' hb hrow' hown hc)
  have HDO := Lib.hid (fun (W : World) (ρ' : Roles) (h : Mem W db F ρ' { s with fs := s.fs.set i ⟨(Dsk.fil s i).las, (Dsk.fil s i).loo ++ [(Dsk.Ch.wr a d)]⟩ } (T + 1)) => ddone_any h (by omega) hd)
  have hb1 : Below w.heap.size w (w.alloc (.cells #[.int .i64 ((d.length : Nat) : Int), (.func (.func 35) #[] #[.pointer (some ⟨xa, 0, none⟩), .pointer (some ⟨xo, 0, none⟩)])] 81)).drew := ((Below.refl w.heap.size w).alloc (Nat.le_refl _) _).drew
  have hlw : Lies ρ ρ (fun _ => False) w (w.alloc (.cells #[.int .i64 ((d.length : Nat) : Int), (.func (.func 35) #[] #[.pointer (some ⟨xa, 0, none⟩), .pointer (some ⟨xo, 0, none⟩)])] 81)).drew := (Step.of_below (ρ := ρ) (Q := fun _ => False) hb1).lies
  obtain ⟨xa', xo', _, efv, hdo⟩ := ddoes_wr (hcv.keep hlw id) (h1.keep hlw id) hfit hgood.now_len d.length (Nat.le_refl _)
  have efa : xa = xa' ∧ xo = xo' := by simpa using efv
  obtain ⟨rfl, rfl⟩ := efa
  clear efv
  have HALL : Hid (Dsk.over (Dsk.fil s i).now a d d.length = Dsk.Ch.all (.wr a d) (Dsk.fil s i).now) := Lib.hid rfl
  have HDOES := Lib.hid hdo
  have HB1 := Lib.hid hb1
  have HV := Lib.hid hv
  have HR1 := Lib.hid hrow
  have hfb := hv.lt
  have hll := hm.fit.loo i hi
  have hmo : Dsk.changed s i (Dsk.Ch.wr a d) = Dsk.done { s with fs := s.fs.set i ⟨(Dsk.fil s i).las, (Dsk.fil s i).loo ++ [(Dsk.Ch.wr a d)]⟩ } := rfl
  have HMO := Lib.hid hmo
  have HND : Hid (∀ b, v2.ownBlock = some b → b ≠ F i ∧ b < w.heap.size) := Lib.hid (fun b hb => ⟨(fun e => by have := ho b hb; rw [e, hrole] at this; injection this with this; cases this), (hrow.lt b hb).2⟩)
  obtain ⟨A2, c2, rfl, -, -, -, -⟩ := Row.form hrow
  obtain ⟨A1, c1, rfl⟩ := h1.slice
  obtain ⟨A0, c0, rfl⟩ := h0.slice
  obtain ⟨nl, hnl⟩ : ∃ nl, nl = (Dsk.fil s i).loo.length := ⟨_, rfl⟩
  obtain ⟨n1, hn1⟩ : ∃ n1, n1 = (Dsk.fil s i).now.length := ⟨_, rfl⟩
  obtain ⟨n0, hn0⟩ : ∃ n0, n0 = (Dsk.fil s i).las.length := ⟨_, rfl⟩
  obtain ⟨fb, hfbe⟩ : ∃ fb, fb = F i := ⟨_, rfl⟩
  rw [← hnl, ← hn1, ← hn0, ← hfbe] at HV
  rw [← hnl] at HR1 HND HMM hll
  rw [← hn0] at HMM
  rw [← hfbe] at HND HMM hfb ⊢
  rw [← hn1] at HDOES
  obtain ⟨L7, hL7⟩ : ∃ L7, L7 = Dsk.Ch.all (Dsk.Ch.wr a d) (Dsk.fil s i).now := ⟨_, rfl⟩
  rw [← hL7] at HMM
  have HL7 := Lib.hid hL7
  have HNL := Lib.hid hnl
  rw [← HL7.out] at HALL
  obtain ⟨z, hz9⟩ : ∃ z : Int, z = ((d.length : Nat) : Int) := ⟨_, rfl⟩
  rw [← hz9] at HMM HDOES HB1 ⊢
  clear hz9
  have e1 := HV.out.cell (j := 1) rfl
  clear hm hv h0 h1 hzs hrow ho hz hgood hrole hb1 hlw hdo hmo hnl hn1 hn0 hfbe hcv hfit hL7
  go_enter Try.func34, Try.ntmps34
  go_upto_region 1 with (fail)
  have hz1 : w.heap.size < (w.alloc (.cells #[.int .i64 z, (.func (.func 35) #[] #[.pointer (some ⟨xa, 0, none⟩), .pointer (some ⟨xo, 0, none⟩)])] 81)).drew.heap.size := by simp
  have x0 : (w.alloc (.cells #[.int .i64 z, (.func (.func 35) #[] #[.pointer (some ⟨xa, 0, none⟩), .pointer (some ⟨xo, 0, none⟩)])] 81)).drew.cell? ⟨w.heap.size, 0, none⟩ = some (.int .i64 z) := by simp
  have x1 : (w.alloc (.cells #[.int .i64 z, (.func (.func 35) #[] #[.pointer (some ⟨xa, 0, none⟩), .pointer (some ⟨xo, 0, none⟩)])] 81)).drew.cell? ⟨w.heap.size, 1, none⟩ = some ((.func (.func 35) #[] #[.pointer (some ⟨xa, 0, none⟩), .pointer (some ⟨xo, 0, none⟩)])) := by simp
  have xf : (w.alloc (.cells #[.int .i64 z, (.func (.func 35) #[] #[.pointer (some ⟨xa, 0, none⟩), .pointer (some ⟨xo, 0, none⟩)])] 81)).drew.cell? ⟨fb, 1, none⟩ = some (.slice A1 n1 c1) := (HB1.out.cell (p := ⟨fb, 1, none⟩) hfb).trans e1
  refine wp_region_held_drew (S := (fun w' => w'.cell? ⟨w.heap.size, 0, none⟩ = some (.int .i64 z) ∧ w'.cell? ⟨w.heap.size, 1, none⟩ = some ((.func (.func 35) #[] #[.pointer (some ⟨xa, 0, none⟩), .pointer (some ⟨xo, 0, none⟩)])))) (by as_aux_lemma => kernel_rfl) ?_ (fun hHeld => ?_)
  · exact ⟨x0, x1⟩
  generalize (w.alloc (.cells #[.int .i64 z, (.func (.func 35) #[] #[.pointer (some ⟨xa, 0, none⟩), .pointer (some ⟨xo, 0, none⟩)])] 81)).drew = w1 at *
  refine wpAnyH_take (i := 0) (v := ?_) (by simp only [List.getElem?_toArray, List.getElem?_cons_zero]; exact rfl) (by as_aux_lemma => kernel_rfl) (by as_aux_lemma => kernel_rfl) (by as_aux_lemma => kernel_rfl) (by exact fun _ _ _ h => h) (Or.inl ⟨by rfl, ?_⟩) (by assumption) ?_
  rotate_left
  · intro w hSw
    (try dsimp only at hSw)
    go_simp
    try with_reducible rfl
  (try simp only [Act.put, List.setIfInBounds_toArray, List.set_cons_zero, List.set_cons_succ])
  refine wpAnyH_take (i := 1) (v := ?_) (by simp only [List.getElem?_toArray, List.getElem?_cons_succ, List.getElem?_cons_zero]; exact rfl) (by as_aux_lemma => kernel_rfl) (by as_aux_lemma => kernel_rfl) (by as_aux_lemma => kernel_rfl) (by exact fun _ _ _ h => h) (Or.inl ⟨by rfl, ?_⟩) (by assumption) ?_
  rotate_left
  · intro w hSw
    (try dsimp only at hSw)
    go_simp
    try with_reducible rfl
  (try simp only [Act.put, List.setIfInBounds_toArray, List.set_cons_zero, List.set_cons_succ])
  refine wpAnyH_take (i := 2) (v := ?_) (by simp only [List.getElem?_toArray, List.getElem?_cons_succ, List.getElem?_cons_zero]; exact rfl) (by as_aux_lemma => kernel_rfl) (by as_aux_lemma => kernel_rfl) (by as_aux_lemma => kernel_rfl) (by exact fun _ _ _ h => h) (Or.inl ⟨by rfl, ?_⟩) (by assumption) ?_
  rotate_left
  · intro w hSw
    (try dsimp only at hSw)
    go_simp
    try with_reducible rfl
  (try simp only [Act.put, List.setIfInBounds_toArray, List.set_cons_zero, List.set_cons_succ])
  refine wpAnyH_take (i := 3) (v := ?_) (by simp only [List.getElem?_toArray, List.getElem?_cons_succ, List.getElem?_cons_zero]; exact rfl) (by as_aux_lemma => kernel_rfl) (by as_aux_lemma => kernel_rfl) (by as_aux_lemma => kernel_rfl) (by exact fun _ _ _ h => h) (Or.inl ⟨by rfl, ?_⟩) (by assumption) ?_
  rotate_left
  · intro w hSw
    (try dsimp only at hSw)
    go_simp
    try with_reducible rfl
  (try simp only [Act.put, List.setIfInBounds_toArray, List.set_cons_zero, List.set_cons_succ])
  refine wpAnyH_take (i := 4) (v := ?_) (by simp only [List.getElem?_toArray, List.getElem?_cons_succ, List.getElem?_cons_zero]; exact rfl) (by as_aux_lemma => kernel_rfl) (by as_aux_lemma => kernel_rfl) (by as_aux_lemma => kernel_rfl) (by exact fun _ _ _ h => h) (Or.inl ⟨by rfl, ?_⟩) (by assumption) ?_
  rotate_left
  · intro w hSw
    (try dsimp only at hSw)
    go_simp
    try with_reducible rfl
  (try simp only [Act.put, List.setIfInBounds_toArray, List.set_cons_zero, List.set_cons_succ])
  refine wpAnyH_take (i := 5) (v := ?_) (by simp only [List.getElem?_toArray, List.getElem?_cons_succ, List.getElem?_cons_zero]; exact rfl) (by as_aux_lemma => kernel_rfl) (by as_aux_lemma => kernel_rfl) (by as_aux_lemma => kernel_rfl) (by exact fun _ _ _ h => h) (Or.inl ⟨by rfl, ?_⟩) (by assumption) ?_
  rotate_left
  · intro w hSw
    (try dsimp only at hSw)
    go_simp
    try with_reducible rfl
  (try simp only [Act.put, List.setIfInBounds_toArray, List.set_cons_zero, List.set_cons_succ])
  refine wpAnyH_take (i := 7) (v := ?_) (by simp only [List.getElem?_toArray, List.getElem?_cons_succ, List.getElem?_cons_zero]; exact rfl) (by as_aux_lemma => kernel_rfl) (by as_aux_lemma => kernel_rfl) (by as_aux_lemma => kernel_rfl) (by exact fun _ _ _ h => h) (Or.inl ⟨by rfl, ?_⟩) (by assumption) ?_
  rotate_left
  · intro w hSw
    (try dsimp only at hSw)
    go_simp
    try with_reducible rfl
  (try simp only [Act.put, List.setIfInBounds_toArray, List.set_cons_zero, List.set_cons_succ])
  refine wpAnyH_take (i := 8) (v := ?_) (by simp only [List.getElem?_toArray, List.getElem?_cons_succ, List.getElem?_cons_zero]; exact rfl) (by as_aux_lemma => kernel_rfl) (by as_aux_lemma => kernel_rfl) (by as_aux_lemma => kernel_rfl) (by exact fun _ _ _ h => h) (Or.inl ⟨by rfl, ?_⟩) (by assumption) ?_
  rotate_left
  · intro w hSw
    (try dsimp only at hSw)
    go_simp
    try with_reducible rfl
  (try simp only [Act.put, List.setIfInBounds_toArray, List.set_cons_zero, List.set_cons_succ])
  refine wpAnyH_ready (rs := [6]) (by as_aux_lemma => kernel_rfl) (by simp) ?_
  refine AllReadyH.cons (by simp only [List.getElem?_toArray, List.getElem?_cons_succ, List.getElem?_cons_zero]; exact rfl) (fun K hK => ?_) AllReadyH.nil
  go_simp
  refine hK.out _ _ ?_ (fun hHeld => ?_)
  · (try dsimp only)
    exact hHeld
  clear hK K
  (try simp only [Act.put, List.setIfInBounds_toArray, List.set_cons_zero, List.set_cons_succ])
  refine wpAnyH_ready (rs := [9]) (by as_aux_lemma => kernel_rfl) (by simp) ?_
  refine AllReadyH.cons (by simp only [List.getElem?_toArray, List.getElem?_cons_succ, List.getElem?_cons_zero]; exact rfl) (fun K hK => ?_) AllReadyH.nil
  go_simp
  (go_at_call 35; refine HDOES.out.mono ?_; rintro _ w2 ⟨v7, rfl, hr7, hb7⟩)
  rw [HALL.out] at hr7
  have y0 := (hb7.cell (p := ⟨w.heap.size, 0, none⟩) hz1).trans x0
  have y1 := (hb7.cell (p := ⟨w.heap.size, 1, none⟩) hz1).trans x1
  have HV2 := Lib.hid ((HV.out.below_all HB1.out).below_all hb7)
  have f1 := HV2.out.frozen 1
  have e2 := HV2.out.cell (j := 1) rfl
  obtain ⟨A7, c7, rfl, _, _, _, _⟩ := RowB.form hr7
  have HR7 := Lib.hid hr7
  have HBB2 := Lib.hid (HB1.out.trans (hb7.mono HB1.out.size))
  have hz12 := hb7.size
  refine hK.out _ _ ?_ (fun hHeld => ?_)
  · (try dsimp only)
    exact ⟨y0, y1⟩
  clear hK K
  (try simp only [Act.put, List.setIfInBounds_toArray, List.set_cons_zero, List.set_cons_succ])
  have HV3 := Lib.hid (HV2.out.set 1 (.slice A7 L7.length c7))
  have hsd : Chg (fun b => b = fb) w2 (w2.setCell ⟨fb, 1, none⟩ (.slice A7 L7.length c7)) := (show Chg (fun b => b = fb) w2 w2 from Chg.refl _ _).setCell (p := ⟨fb, 1, none⟩) (fun _ => rfl) _
  have HC2 : Hid (Chg (fun b => b = fb) w (w2.setCell ⟨fb, 1, none⟩ (.slice A7 L7.length c7))) := Lib.hid ((Chg.of_below HBB2.out).trans hsd (fun _ _ e => e))
  have HRB : Hid (RowB (w2.setCell ⟨fb, 1, none⟩ (.slice A7 L7.length c7)) w.heap.size (.slice A7 L7.length c7) L7) := Lib.hid (Row.chg (Row.mono HR7.out (by omega)) hsd (fun b hb e => by have := (Row.lt HR7.out b hb).1; omega))
  have HRR : Hid (Row (w2.setCell ⟨fb, 1, none⟩ (.slice A7 L7.length c7)) 0 2 (.slice A2 nl c2) nl (zsV zs)) := Lib.hid (HR1.out.chg HC2.out (fun b hb => (HND.out b hb).1))
  have t0 := (World.cell?_setCell_other w2 ⟨fb, 1, none⟩ ⟨w.heap.size, 0, none⟩ (.slice A7 L7.length c7) (by simp <;> omega)).trans y0
  have t1 := (World.cell?_setCell_other w2 ⟨fb, 1, none⟩ ⟨w.heap.size, 1, none⟩ (.slice A7 L7.length c7) (by simp <;> omega)).trans y1
  clear hsd hr7 hb7 x0 x1 xf
  refine wpAnyH_take (i := 10) (v := ?_) (by simp only [List.getElem?_toArray, List.getElem?_cons_succ, List.getElem?_cons_zero]; exact rfl) (by as_aux_lemma => kernel_rfl) (by as_aux_lemma => kernel_rfl) (by as_aux_lemma => kernel_rfl) (by exact fun _ _ _ h => h) (Or.inl ⟨by rfl, ?_⟩) (by assumption) ?_
  rotate_left
  · intro w hSw
    (try dsimp only at hSw)
    go_simp
    try with_reducible rfl
  (try simp only [Act.put, List.setIfInBounds_toArray, List.set_cons_zero, List.set_cons_succ])
  refine wpAnyH_take (i := 11) (v := ?_) (by simp only [List.getElem?_toArray, List.getElem?_cons_succ, List.getElem?_cons_zero]; exact rfl) (by as_aux_lemma => kernel_rfl) (by as_aux_lemma => kernel_rfl) (by as_aux_lemma => kernel_rfl) (by exact fun _ _ _ h => h) (Or.inl ⟨by rfl, ?_⟩) (by assumption) ?_
  rotate_left
  · intro w hSw
    (try dsimp only at hSw)
    go_simp
    try with_reducible rfl
  (try simp only [Act.put, List.setIfInBounds_toArray, List.set_cons_zero, List.set_cons_succ])
  refine wpAnyH_ready (rs := [12]) (by as_aux_lemma => kernel_rfl) (by simp) ?_
  refine AllReadyH.cons (by simp only [List.getElem?_toArray, List.getElem?_cons_succ, List.getElem?_cons_zero]; exact rfl) (fun K hK => ?_) AllReadyH.nil
  go_simp
  refine hK.out _ _ ?_ (fun hHeld => ?_)
  · (try dsimp only)
    exact ⟨t0, t1⟩
  clear hK K
  (try simp only [Act.put, List.setIfInBounds_toArray, List.set_cons_zero, List.set_cons_succ])
  refine wpAnyH_done (by as_aux_lemma => kernel_rfl) ?_ _
  have hz3 : w.heap.size < (w2.setCell ⟨fb, 1, none⟩ (.slice A7 L7.length c7)).heap.size := by simp; omega
  clear f1 e2 y0 y1 hHeld e1
  generalize w2.setCell ⟨fb, 1, none⟩ (.slice A7 L7.length c7) = w4 at *
  go_upto_region 2 with (fail)
  have HVD : Hid (Var w4.drew fb 71 [.slice A0 n0 c0, .slice A7 L7.length c7, .slice A2 nl c2]) := Lib.hid HV3.out
  have HRD : Hid (Row w4.drew 0 2 (.slice A2 nl c2) nl (zsV zs)) := Lib.hid HRR.out
  have HCD : Hid (Chg (fun b => b = fb) w w4.drew) := Lib.hid HC2.out.drew
  have HBD : Hid (RowB w4.drew w.heap.size (.slice A7 L7.length c7) L7) := Lib.hid HRB.out
  have hzd : w.heap.size < w4.drew.heap.size := hz3
  have q0 := HVD.out.cell (j := 2) rfl
  have y0 : w4.drew.cell? ⟨w.heap.size, 0, none⟩ = some (.int .i64 z) := t0
  have y1 : w4.drew.cell? ⟨w.heap.size, 1, none⟩ = some ((.func (.func 35) #[] #[.pointer (some ⟨xa, 0, none⟩), .pointer (some ⟨xo, 0, none⟩)])) := t1
  refine wp_region_held_drew (S := (fun w' => w'.cell? ⟨w.heap.size, 0, none⟩ = some (.int .i64 z) ∧ w'.cell? ⟨w.heap.size, 1, none⟩ = some ((.func (.func 35) #[] #[.pointer (some ⟨xa, 0, none⟩), .pointer (some ⟨xo, 0, none⟩)])))) (by as_aux_lemma => kernel_rfl) ?_ (fun hHeld => ?_)
  · exact ⟨y0, y1⟩
  generalize w4.drew = wd at *
  have k0 := (World.cell?_alloc_lt wd (.cells #[.int .i64 z, (.func (.func 35) #[] #[.pointer (some ⟨xa, 0, none⟩), .pointer (some ⟨xo, 0, none⟩)])] 81) ⟨w.heap.size, 0, none⟩ hzd).trans y0
  have k1 := (World.cell?_alloc_lt wd (.cells #[.int .i64 z, (.func (.func 35) #[] #[.pointer (some ⟨xa, 0, none⟩), .pointer (some ⟨xo, 0, none⟩)])] 81) ⟨w.heap.size, 1, none⟩ hzd).trans y1
  refine wpAnyH_take (i := 0) (v := ?_) (by simp only [List.getElem?_toArray, List.getElem?_cons_zero]; exact rfl) (by as_aux_lemma => kernel_rfl) (by as_aux_lemma => kernel_rfl) (by as_aux_lemma => kernel_rfl) (by exact fun _ _ _ h => h) (Or.inl ⟨by rfl, ?_⟩) (by assumption) ?_
  rotate_left
  · intro w hSw
    (try dsimp only at hSw)
    go_simp
    try with_reducible rfl
  (try simp only [Act.put, List.setIfInBounds_toArray, List.set_cons_zero, List.set_cons_succ])
  refine wpAnyH_take (i := 1) (v := ?_) (by simp only [List.getElem?_toArray, List.getElem?_cons_succ, List.getElem?_cons_zero]; exact rfl) (by as_aux_lemma => kernel_rfl) (by as_aux_lemma => kernel_rfl) (by as_aux_lemma => kernel_rfl) (by exact fun _ _ _ h => h) (Or.inl ⟨by rfl, ?_⟩) (by assumption) ?_
  rotate_left
  · intro w hSw
    (try dsimp only at hSw)
    go_simp
    try with_reducible rfl
  (try simp only [Act.put, List.setIfInBounds_toArray, List.set_cons_zero, List.set_cons_succ])
  refine wpAnyH_take (i := 2) (v := ?_) (by simp only [List.getElem?_toArray, List.getElem?_cons_succ, List.getElem?_cons_zero]; exact rfl) (by as_aux_lemma => kernel_rfl) (by as_aux_lemma => kernel_rfl) (by as_aux_lemma => kernel_rfl) (by exact fun _ _ _ h => h) (Or.inl ⟨by rfl, ?_⟩) (by assumption) ?_
  rotate_left
  · intro w hSw
    (try dsimp only at hSw)
    go_simp
    try with_reducible rfl
  (try simp only [Act.put, List.setIfInBounds_toArray, List.set_cons_zero, List.set_cons_succ])
  refine wpAnyH_take (i := 3) (v := ?_) (by simp only [List.getElem?_toArray, List.getElem?_cons_succ, List.getElem?_cons_zero]; exact rfl) (by as_aux_lemma => kernel_rfl) (by as_aux_lemma => kernel_rfl) (by as_aux_lemma => kernel_rfl) (by exact fun _ _ _ h => h) (Or.inl ⟨by rfl, ?_⟩) (by assumption) ?_
  rotate_left
  · intro w hSw
    (try dsimp only at hSw)
    go_simp
    try with_reducible rfl
  (try simp only [Act.put, List.setIfInBounds_toArray, List.set_cons_zero, List.set_cons_succ])
  refine wpAnyH_take (i := 5) (v := ?_) (by simp only [List.getElem?_toArray, List.getElem?_cons_succ, List.getElem?_cons_zero]; exact rfl) (by as_aux_lemma => kernel_rfl) (by as_aux_lemma => kernel_rfl) (by as_aux_lemma => kernel_rfl) (by exact fun _ _ _ h => h) (Or.inl ⟨by rfl, ?_⟩) (by assumption) ?_
  rotate_left
  · intro w hSw
    (try dsimp only at hSw)
    go_simp
    try with_reducible rfl
  (try simp only [Act.put, List.setIfInBounds_toArray, List.set_cons_zero, List.set_cons_succ])
  refine wpAnyH_ready (rs := [4, 6]) (by as_aux_lemma => kernel_rfl) (by simp) ?_
  refine AllReadyH.cons (by simp only [List.getElem?_toArray, List.getElem?_cons_succ, List.getElem?_cons_zero]; exact rfl) (fun K hK => ?_) ?_
  · go_simp
    refine hK.out _ _ ?_ (fun hHeld => ?_)
    · (try dsimp only)
      exact hHeld
    clear hK K
    (try simp only [Act.put, List.setIfInBounds_toArray, List.set_cons_zero, List.set_cons_succ])
    refine wpAnyH_ready (rs := [6]) (by as_aux_lemma => kernel_rfl) (by simp) ?_
    refine AllReadyH.cons (by simp only [List.getElem?_toArray, List.getElem?_cons_succ, List.getElem?_cons_zero]; exact rfl) (fun K hK => ?_) AllReadyH.nil
    go_simp
    refine hK.out _ _ ?_ (fun hHeld => ?_)
    · (try dsimp only)
      exact ⟨k0, k1⟩
    clear hK K
    (try simp only [Act.put, List.setIfInBounds_toArray, List.set_cons_zero, List.set_cons_succ])
    refine wpAnyH_ready (rs := [7]) (by as_aux_lemma => kernel_rfl) (by simp) ?_
    refine AllReadyH.cons (by simp only [List.getElem?_toArray, List.getElem?_cons_succ, List.getElem?_cons_zero]; exact rfl) (fun K hK => ?_) AllReadyH.nil
    (refine step_app _ (by rfl) (.tmp 23) (.tmp 25) 69 69 (by rfl) 0 81 j0 (.agg #[.int .i64 0, .nilFunc]) 2 16 Try.underlying69 hj0 jz0 jz1 jz2 rfl (.slice A2 nl c2) nl (zsV zs) (by rfl) (HRD.out.alloc _) _ 1 [.int .i64 z, (.func (.func 35) #[] #[.pointer (some ⟨xa, 0, none⟩), .pointer (some ⟨xo, 0, none⟩)])] (by rfl) (Src.built [.int .i64 z, (.func (.func 35) #[] #[.pointer (some ⟨xa, 0, none⟩), .pointer (some ⟨xo, 0, none⟩)])] 81 Try.underlying69 rfl (by intro u hu; simp only [List.mem_cons, List.not_mem_nil, or_false] at hu; rcases hu with rfl | rfl <;> rfl)) (by omega) (by omega) (by omega) (Nat.zero_le _) ?_; intro v3 w3 hrow3 hg3 ho3)
    have HG3 := Lib.hid (((show Chg (fun b => b = fb ∨ (Value.slice A2 nl c2).ownBlock = some b) w wd from HCD.out.more (fun b _ e => .inl e)).alloc (.cells #[.int .i64 z, (.func (.func 35) #[] #[.pointer (some ⟨xa, 0, none⟩), .pointer (some ⟨xo, 0, none⟩)])] 81)).grown hg3 (fun k _ e => .inr e))
    have hown3 : ∀ b, v3.ownBlock = some b → (Value.slice A2 nl c2).ownBlock = some b ∨ (wd.heap.size ≤ b) := fun b hb => by
      rcases ho3 with e | e
      · exact .inl (e ▸ hb)
      · rw [e] at hb; injection hb with hb; right; simp at hb; omega
    have HO3 := Lib.hid hown3
    have HV3 := Lib.hid (((HVD.out.alloc (.cells #[.int .i64 z, (.func (.func 35) #[] #[.pointer (some ⟨xa, 0, none⟩), .pointer (some ⟨xo, 0, none⟩)])] 81)).grown hg3 (fun e => by have := (HND.out fb e).1; exact this rfl)))
    have hb3 : RowB w3 w.heap.size (.slice A7 L7.length c7) L7 := (RowB.alloc HBD.out (.cells #[.int .i64 z, (.func (.func 35) #[] #[.pointer (some ⟨xa, 0, none⟩), .pointer (some ⟨xo, 0, none⟩)])] 81)).kept hg3 (by
      rcases hob : (Value.slice A7 L7.length c7).ownBlock with _ | b
      · exact .inl rfl
      · right
        intro e
        have h1 := (Row.lt HBD.out b hob).1
        have h2 := (HND.out b (by rw [← e])).2
        omega)
    have HB3 := Lib.hid hb3
    have hx0 := (World.cell?_of_block (a := ⟨w.heap.size, 0, none⟩) (hg3.block w.heap.size (by simp; omega) (fun e => by have := (HND.out w.heap.size e.symm).2; omega))).trans ((World.cell?_alloc_lt wd _ ⟨w.heap.size, 0, none⟩ hzd).trans y0)
    have hx1 := (World.cell?_of_block (a := ⟨w.heap.size, 1, none⟩) (hg3.block w.heap.size (by simp; omega) (fun e => by have := (HND.out w.heap.size e.symm).2; omega))).trans ((World.cell?_alloc_lt wd _ ⟨w.heap.size, 1, none⟩ hzd).trans y1)
    obtain ⟨A3, c3, rfl, _, _, _, _⟩ := Row.form hrow3
    have HRW3 := Lib.hid hrow3
    have q3 := HV3.out.cell (j := 2) rfl
    have f3 := HV3.out.frozen 2
    have HV4 := Lib.hid (HV3.out.set 2 (.slice A3 (nl + 1) c3))
    have hc34 : Chg (fun b => b = fb ∨ (Value.slice A2 nl c2).ownBlock = some b) w (w3.setCell ⟨fb, 2, none⟩ (.slice A3 (nl + 1) c3)) := HG3.out.setCell (p := ⟨fb, 2, none⟩) (fun _ => .inl rfl) _
    have hsd : Chg (fun b => b = fb) w3 (w3.setCell ⟨fb, 2, none⟩ (.slice A3 (nl + 1) c3)) := (show Chg (fun b => b = fb) w3 w3 from Chg.refl _ _).setCell (p := ⟨fb, 2, none⟩) (fun _ => rfl) _
    have hrow4 : Row (w3.setCell ⟨fb, 2, none⟩ (.slice A3 (nl + 1) c3)) 0 2 (.slice A3 (nl + 1) c3) ((Dsk.fil s i).loo ++ [(Dsk.Ch.wr a d)]).length (zsV (zs ++ [(.int .i64 z, (.func (.func 35) #[] #[.pointer (some ⟨xa, 0, none⟩), .pointer (some ⟨xo, 0, none⟩)]))])) := by
      rw [zsV_append, List.length_append, List.length_singleton, ← HNL.out]
      refine HRW3.out.chg hsd (fun b hb e => ?_)
      rcases HO3.out b hb with h | h
      · exact (HND.out b h).1 e
      · omega
    have hb4 : RowB (w3.setCell ⟨fb, 2, none⟩ (.slice A3 (nl + 1) c3)) w.heap.size (.slice A7 L7.length c7) L7 := Row.chg HB3.out hsd (fun b hb e => by have := (Row.lt HB3.out b hb).1; omega)
    have hown4 : ∀ b, (Value.slice A3 (nl + 1) c3).ownBlock = some b → (Value.slice A2 nl c2).ownBlock = some b ∨ (w.heap.size ≤ b ∧ (Value.slice A7 L7.length c7).ownBlock ≠ some b) := fun b hb => by
      rcases HO3.out b hb with h | h
      · exact .inl h
      · exact .inr ⟨by omega, fun e => by have := (Row.lt HBD.out b e).2; omega⟩
    have z0 := (World.cell?_setCell_other w3 ⟨fb, 2, none⟩ ⟨w.heap.size, 0, none⟩ (.slice A3 (nl + 1) c3) (by simp <;> omega)).trans hx0
    have z1 := (World.cell?_setCell_other w3 ⟨fb, 2, none⟩ ⟨w.heap.size, 1, none⟩ (.slice A3 (nl + 1) c3) (by simp <;> omega)).trans hx1
    have HMW := Lib.hid (HMM.out _ _ _ HV4.out hb4 hrow4 hown4 hc34)
    clear hrow3 hg3 ho3 hown3 hc34 hsd hrow4 hb3 hb4 hown4
    refine hK.out _ _ ?_ (fun hHeld => ?_)
    · (try dsimp only)
      exact ⟨hx0, hx1⟩
    clear hK K
    (try simp only [Act.put, List.setIfInBounds_toArray, List.set_cons_zero, List.set_cons_succ])
    refine wpAnyH_take (i := 8) (v := ?_) (by simp only [List.getElem?_toArray, List.getElem?_cons_succ, List.getElem?_cons_zero]; exact rfl) (by as_aux_lemma => kernel_rfl) (by as_aux_lemma => kernel_rfl) (by as_aux_lemma => kernel_rfl) (by exact fun _ _ _ h => h) (Or.inl ⟨by rfl, ?_⟩) (by assumption) ?_
    rotate_left
    · intro w hSw
      (try dsimp only at hSw)
      go_simp
      try with_reducible rfl
    (try simp only [Act.put, List.setIfInBounds_toArray, List.set_cons_zero, List.set_cons_succ])
    refine wpAnyH_take (i := 9) (v := ?_) (by simp only [List.getElem?_toArray, List.getElem?_cons_succ, List.getElem?_cons_zero]; exact rfl) (by as_aux_lemma => kernel_rfl) (by as_aux_lemma => kernel_rfl) (by as_aux_lemma => kernel_rfl) (by exact fun _ _ _ h => h) (Or.inl ⟨by rfl, ?_⟩) (by assumption) ?_
    rotate_left
    · intro w hSw
      (try dsimp only at hSw)
      go_simp
      try with_reducible rfl
    (try simp only [Act.put, List.setIfInBounds_toArray, List.set_cons_zero, List.set_cons_succ])
    refine wpAnyH_ready (rs := [10]) (by as_aux_lemma => kernel_rfl) (by simp) ?_
    refine AllReadyH.cons (by simp only [List.getElem?_toArray, List.getElem?_cons_succ, List.getElem?_cons_zero]; exact rfl) (fun K hK => ?_) AllReadyH.nil
    go_simp
    refine hK.out _ _ ?_ (fun hHeld => ?_)
    · (try dsimp only)
      exact ⟨z0, z1⟩
    clear hK K
    (try simp only [Act.put, List.setIfInBounds_toArray, List.set_cons_zero, List.set_cons_succ])
    refine wpAnyH_done (by as_aux_lemma => kernel_rfl) ?_ _
    clear q3 f3 hx0 hx1 z0 z1 y0 y1
    obtain ⟨ρ', hm4, hst4⟩ := HMW.out
    obtain ⟨rc, hrc⟩ : ∃ rc, rc = (Dsk.done { s with fs := s.fs.set i ⟨(Dsk.fil s i).las, (Dsk.fil s i).loo ++ [(Dsk.Ch.wr a d)]⟩ }).2 := ⟨_, rfl⟩
    have HDN := Lib.hid (HDO.out _ ρ' hm4)
    rw [← hrc] at HDN
    have HRC := Lib.hid hrc
    have HST := Lib.hid hst4
    clear hm4 hst4 hrc
    go_wp2_with (first
      | (go_at_call 39; go_must (refine HDN.out.mono ?_; rintro _ w6 ⟨rfl, hout⟩))
      | fail)
    go_ret
    rw [HMO.out, ← HRC.out]
    exact ⟨rfl, Out.after HST.out hout⟩
  · refine AllReadyH.cons (by simp only [List.getElem?_toArray, List.getElem?_cons_succ, List.getElem?_cons_zero]; exact rfl) (fun K hK => ?_) AllReadyH.nil
    go_simp
    refine hK.out _ _ ?_ (fun hHeld => ?_)
    · (try dsimp only)
      exact ⟨k0, k1⟩
    clear hK K
    (try simp only [Act.put, List.setIfInBounds_toArray, List.set_cons_zero, List.set_cons_succ])
    have q0a := (World.cell?_alloc_lt wd (.cells #[.int .i64 z, (.func (.func 35) #[] #[.pointer (some ⟨xa, 0, none⟩), .pointer (some ⟨xo, 0, none⟩)])] 81) ⟨fb, 2, none⟩ (by have := HVD.out.lt; exact this)).trans q0
    refine wpAnyH_ready (rs := [4]) (by as_aux_lemma => kernel_rfl) (by simp) ?_
    refine AllReadyH.cons (by simp only [List.getElem?_toArray, List.getElem?_cons_succ, List.getElem?_cons_zero]; exact rfl) (fun K hK => ?_) AllReadyH.nil
    go_simp
    refine hK.out _ _ ?_ (fun hHeld => ?_)
    · (try dsimp only)
      exact ⟨k0, k1⟩
    clear hK K
    (try simp only [Act.put, List.setIfInBounds_toArray, List.set_cons_zero, List.set_cons_succ])
    refine wpAnyH_ready (rs := [7]) (by as_aux_lemma => kernel_rfl) (by simp) ?_
    refine AllReadyH.cons (by simp only [List.getElem?_toArray, List.getElem?_cons_succ, List.getElem?_cons_zero]; exact rfl) (fun K hK => ?_) AllReadyH.nil
    (refine step_app _ (by rfl) (.tmp 23) (.tmp 25) 69 69 (by rfl) 0 81 j0 (.agg #[.int .i64 0, .nilFunc]) 2 16 Try.underlying69 hj0 jz0 jz1 jz2 rfl (.slice A2 nl c2) nl (zsV zs) (by rfl) (HRD.out.alloc _) _ 1 [.int .i64 z, (.func (.func 35) #[] #[.pointer (some ⟨xa, 0, none⟩), .pointer (some ⟨xo, 0, none⟩)])] (by rfl) (Src.built [.int .i64 z, (.func (.func 35) #[] #[.pointer (some ⟨xa, 0, none⟩), .pointer (some ⟨xo, 0, none⟩)])] 81 Try.underlying69 rfl (by intro u hu; simp only [List.mem_cons, List.not_mem_nil, or_false] at hu; rcases hu with rfl | rfl <;> rfl)) (by omega) (by omega) (by omega) (Nat.zero_le _) ?_; intro v3 w3 hrow3 hg3 ho3)
    have HG3 := Lib.hid (((show Chg (fun b => b = fb ∨ (Value.slice A2 nl c2).ownBlock = some b) w wd from HCD.out.more (fun b _ e => .inl e)).alloc (.cells #[.int .i64 z, (.func (.func 35) #[] #[.pointer (some ⟨xa, 0, none⟩), .pointer (some ⟨xo, 0, none⟩)])] 81)).grown hg3 (fun k _ e => .inr e))
    have hown3 : ∀ b, v3.ownBlock = some b → (Value.slice A2 nl c2).ownBlock = some b ∨ (wd.heap.size ≤ b) := fun b hb => by
      rcases ho3 with e | e
      · exact .inl (e ▸ hb)
      · rw [e] at hb; injection hb with hb; right; simp at hb; omega
    have HO3 := Lib.hid hown3
    have HV3 := Lib.hid (((HVD.out.alloc (.cells #[.int .i64 z, (.func (.func 35) #[] #[.pointer (some ⟨xa, 0, none⟩), .pointer (some ⟨xo, 0, none⟩)])] 81)).grown hg3 (fun e => by have := (HND.out fb e).1; exact this rfl)))
    have hb3 : RowB w3 w.heap.size (.slice A7 L7.length c7) L7 := (RowB.alloc HBD.out (.cells #[.int .i64 z, (.func (.func 35) #[] #[.pointer (some ⟨xa, 0, none⟩), .pointer (some ⟨xo, 0, none⟩)])] 81)).kept hg3 (by
      rcases hob : (Value.slice A7 L7.length c7).ownBlock with _ | b
      · exact .inl rfl
      · right
        intro e
        have h1 := (Row.lt HBD.out b hob).1
        have h2 := (HND.out b (by rw [← e])).2
        omega)
    have HB3 := Lib.hid hb3
    have hx0 := (World.cell?_of_block (a := ⟨w.heap.size, 0, none⟩) (hg3.block w.heap.size (by simp; omega) (fun e => by have := (HND.out w.heap.size e.symm).2; omega))).trans ((World.cell?_alloc_lt wd _ ⟨w.heap.size, 0, none⟩ hzd).trans y0)
    have hx1 := (World.cell?_of_block (a := ⟨w.heap.size, 1, none⟩) (hg3.block w.heap.size (by simp; omega) (fun e => by have := (HND.out w.heap.size e.symm).2; omega))).trans ((World.cell?_alloc_lt wd _ ⟨w.heap.size, 1, none⟩ hzd).trans y1)
    obtain ⟨A3, c3, rfl, _, _, _, _⟩ := Row.form hrow3
    have HRW3 := Lib.hid hrow3
    have q3 := HV3.out.cell (j := 2) rfl
    have f3 := HV3.out.frozen 2
    have HV4 := Lib.hid (HV3.out.set 2 (.slice A3 (nl + 1) c3))
    have hc34 : Chg (fun b => b = fb ∨ (Value.slice A2 nl c2).ownBlock = some b) w (w3.setCell ⟨fb, 2, none⟩ (.slice A3 (nl + 1) c3)) := HG3.out.setCell (p := ⟨fb, 2, none⟩) (fun _ => .inl rfl) _
    have hsd : Chg (fun b => b = fb) w3 (w3.setCell ⟨fb, 2, none⟩ (.slice A3 (nl + 1) c3)) := (show Chg (fun b => b = fb) w3 w3 from Chg.refl _ _).setCell (p := ⟨fb, 2, none⟩) (fun _ => rfl) _
    have hrow4 : Row (w3.setCell ⟨fb, 2, none⟩ (.slice A3 (nl + 1) c3)) 0 2 (.slice A3 (nl + 1) c3) ((Dsk.fil s i).loo ++ [(Dsk.Ch.wr a d)]).length (zsV (zs ++ [(.int .i64 z, (.func (.func 35) #[] #[.pointer (some ⟨xa, 0, none⟩), .pointer (some ⟨xo, 0, none⟩)]))])) := by
      rw [zsV_append, List.length_append, List.length_singleton, ← HNL.out]
      refine HRW3.out.chg hsd (fun b hb e => ?_)
      rcases HO3.out b hb with h | h
      · exact (HND.out b h).1 e
      · omega
    have hb4 : RowB (w3.setCell ⟨fb, 2, none⟩ (.slice A3 (nl + 1) c3)) w.heap.size (.slice A7 L7.length c7) L7 := Row.chg HB3.out hsd (fun b hb e => by have := (Row.lt HB3.out b hb).1; omega)
    have hown4 : ∀ b, (Value.slice A3 (nl + 1) c3).ownBlock = some b → (Value.slice A2 nl c2).ownBlock = some b ∨ (w.heap.size ≤ b ∧ (Value.slice A7 L7.length c7).ownBlock ≠ some b) := fun b hb => by
      rcases HO3.out b hb with h | h
      · exact .inl h
      · exact .inr ⟨by omega, fun e => by have := (Row.lt HBD.out b e).2; omega⟩
    have z0 := (World.cell?_setCell_other w3 ⟨fb, 2, none⟩ ⟨w.heap.size, 0, none⟩ (.slice A3 (nl + 1) c3) (by simp <;> omega)).trans hx0
    have z1 := (World.cell?_setCell_other w3 ⟨fb, 2, none⟩ ⟨w.heap.size, 1, none⟩ (.slice A3 (nl + 1) c3) (by simp <;> omega)).trans hx1
    have HMW := Lib.hid (HMM.out _ _ _ HV4.out hb4 hrow4 hown4 hc34)
    clear hrow3 hg3 ho3 hown3 hc34 hsd hrow4 hb3 hb4 hown4
    refine hK.out _ _ ?_ (fun hHeld => ?_)
    · (try dsimp only)
      exact ⟨hx0, hx1⟩
    clear hK K
    (try simp only [Act.put, List.setIfInBounds_toArray, List.set_cons_zero, List.set_cons_succ])
    refine wpAnyH_take (i := 8) (v := ?_) (by simp only [List.getElem?_toArray, List.getElem?_cons_succ, List.getElem?_cons_zero]; exact rfl) (by as_aux_lemma => kernel_rfl) (by as_aux_lemma => kernel_rfl) (by as_aux_lemma => kernel_rfl) (by exact fun _ _ _ h => h) (Or.inl ⟨by rfl, ?_⟩) (by assumption) ?_
    rotate_left
    · intro w hSw
      (try dsimp only at hSw)
      go_simp
      try with_reducible rfl
    (try simp only [Act.put, List.setIfInBounds_toArray, List.set_cons_zero, List.set_cons_succ])
    refine wpAnyH_take (i := 9) (v := ?_) (by simp only [List.getElem?_toArray, List.getElem?_cons_succ, List.getElem?_cons_zero]; exact rfl) (by as_aux_lemma => kernel_rfl) (by as_aux_lemma => kernel_rfl) (by as_aux_lemma => kernel_rfl) (by exact fun _ _ _ h => h) (Or.inl ⟨by rfl, ?_⟩) (by assumption) ?_
    rotate_left
    · intro w hSw
      (try dsimp only at hSw)
      go_simp
      try with_reducible rfl
    (try simp only [Act.put, List.setIfInBounds_toArray, List.set_cons_zero, List.set_cons_succ])
    refine wpAnyH_ready (rs := [10]) (by as_aux_lemma => kernel_rfl) (by simp) ?_
    refine AllReadyH.cons (by simp only [List.getElem?_toArray, List.getElem?_cons_succ, List.getElem?_cons_zero]; exact rfl) (fun K hK => ?_) AllReadyH.nil
    go_simp
    refine hK.out _ _ ?_ (fun hHeld => ?_)
    · (try dsimp only)
      exact ⟨z0, z1⟩
    clear hK K
    (try simp only [Act.put, List.setIfInBounds_toArray, List.set_cons_zero, List.set_cons_succ])
    refine wpAnyH_done (by as_aux_lemma => kernel_rfl) ?_ _
    clear q3 f3 hx0 hx1 z0 z1 y0 y1
    obtain ⟨ρ', hm4, hst4⟩ := HMW.out
    obtain ⟨rc, hrc⟩ : ∃ rc, rc = (Dsk.done { s with fs := s.fs.set i ⟨(Dsk.fil s i).las, (Dsk.fil s i).loo ++ [(Dsk.Ch.wr a d)]⟩ }).2 := ⟨_, rfl⟩
    have HDN := Lib.hid (HDO.out _ ρ' hm4)
    rw [← hrc] at HDN
    have HRC := Lib.hid hrc
    have HST := Lib.hid hst4
    clear hm4 hst4 hrc
    go_wp2_with (first
      | (go_at_call 39; go_must (refine HDN.out.mono ?_; rintro _ w6 ⟨rfl, hout⟩))
      | fail)
    go_ret
    rw [HMO.out, ← HRC.out]
    exact ⟨rfl, Out.after HST.out hout⟩

set_option maxHeartbeats 1000000 in
set_option maxRecDepth 100000 in
theorem dchanged_cut (hm : Mem w db F ρ s T) (hT : T ≤ 99999) (hd : s.down = false) {i : Nat} (hi : Dsk.Reach s i) {kk xa : Nat} (hfit : Dsk.Ch.fits (Dsk.Ch.cut kk) (Dsk.fil s i).now) (hcv : ChV w ρ (Dsk.Ch.cut kk) (.int .i64 (-1)) (.func (.func 46) #[] #[.pointer (some ⟨xa, 0, none⟩)])) :
    Calls Try.prog 34 #[.pointer (some ⟨db, 0, none⟩), .pointer (some ⟨F i, 0, none⟩), .agg #[.int .i64 (-1), (.func (.func 46) #[] #[.pointer (some ⟨xa, 0, none⟩)])]] w fun e w' => e = .returned (.int .i64 ((Dsk.changed s i (Dsk.Ch.cut kk)).2 : Nat)) ∧ Out w db ρ (Dsk.changed s i (Dsk.Ch.cut kk)).1 (T + 1) w' := by
  obtain ⟨j0, hj0, jz0, jz1, jz2⟩ := info_parts infoChg
  obtain ⟨hrole, v0, v1, v2, hv, h0, h1, zs, hzs, hrow, ho, hz⟩ := hm.file i hi
  have hgood := hm.fit.good i hi
  have HMM := Lib.hid (fun (W : World) v1' v3 hv' hb hrow' hown hc => changed_mem (W := W) (v1' := v1') (v3 := v3) (sz := .int .i64 (-1)) (fv := (.func (.func 46) #[] #[.pointer (some ⟨xa, 0, none⟩)])) hm hd hi hfit hcv hrole h0 hzs hz ho hv' hb hrow' hown hc)
  have HDO := Lib.hid (fun (W : World) (ρ' : Roles) (h : Mem W db F ρ' { s with fs := s.fs.set i ⟨(Dsk.fil s i).las, (Dsk.fil s i).loo ++ [(Dsk.Ch.cut kk)]⟩ } (T + 1)) => ddone_any h (by omega) hd)
  have hb1 : Below w.heap.size w (w.alloc (.cells #[.int .i64 (-1), (.func (.func 46) #[] #[.pointer (some ⟨xa, 0, none⟩)])] 81)).drew := ((Below.refl w.heap.size w).alloc (Nat.le_refl _) _).drew
  have hlw : Lies ρ ρ (fun _ => False) w (w.alloc (.cells #[.int .i64 (-1), (.func (.func 46) #[] #[.pointer (some ⟨xa, 0, none⟩)])] 81)).drew := (Step.of_below (ρ := ρ) (Q := fun _ => False) hb1).lies
  obtain ⟨xa', _, efv, hdo⟩ := ddoes_cut (hcv.keep hlw id) (h1.keep hlw id) hfit hgood.now_len (-1)
  have efa : xa = xa' := by simpa using efv
  obtain rfl := efa
  clear efv
  have HALL : Hid ((Dsk.fil s i).now.take kk = Dsk.Ch.all (.cut kk) (Dsk.fil s i).now) := Lib.hid rfl
  have HDOES := Lib.hid hdo
  have HB1 := Lib.hid hb1
  have HV := Lib.hid hv
  have HR1 := Lib.hid hrow
  have hfb := hv.lt
  have hll := hm.fit.loo i hi
  have hmo : Dsk.changed s i (Dsk.Ch.cut kk) = Dsk.done { s with fs := s.fs.set i ⟨(Dsk.fil s i).las, (Dsk.fil s i).loo ++ [(Dsk.Ch.cut kk)]⟩ } := rfl
  have HMO := Lib.hid hmo
  have HND : Hid (∀ b, v2.ownBlock = some b → b ≠ F i ∧ b < w.heap.size) := Lib.hid (fun b hb => ⟨(fun e => by have := ho b hb; rw [e, hrole] at this; injection this with this; cases this), (hrow.lt b hb).2⟩)
  obtain ⟨A2, c2, rfl, -, -, -, -⟩ := Row.form hrow
  obtain ⟨A1, c1, rfl⟩ := h1.slice
  obtain ⟨A0, c0, rfl⟩ := h0.slice
  obtain ⟨nl, hnl⟩ : ∃ nl, nl = (Dsk.fil s i).loo.length := ⟨_, rfl⟩
  obtain ⟨n1, hn1⟩ : ∃ n1, n1 = (Dsk.fil s i).now.length := ⟨_, rfl⟩
  obtain ⟨n0, hn0⟩ : ∃ n0, n0 = (Dsk.fil s i).las.length := ⟨_, rfl⟩
  obtain ⟨fb, hfbe⟩ : ∃ fb, fb = F i := ⟨_, rfl⟩
  rw [← hnl, ← hn1, ← hn0, ← hfbe] at HV
  rw [← hnl] at HR1 HND HMM hll
  rw [← hn0] at HMM
  rw [← hfbe] at HND HMM hfb ⊢
  rw [← hn1] at HDOES
  obtain ⟨L7, hL7⟩ : ∃ L7, L7 = Dsk.Ch.all (Dsk.Ch.cut kk) (Dsk.fil s i).now := ⟨_, rfl⟩
  rw [← hL7] at HMM
  have HL7 := Lib.hid hL7
  have HNL := Lib.hid hnl
  rw [← HL7.out] at HALL
  obtain ⟨z, hz9⟩ : ∃ z : Int, z = -1 := ⟨_, rfl⟩
  rw [← hz9] at HMM HDOES HB1 ⊢
  clear hz9
  have e1 := HV.out.cell (j := 1) rfl
  clear hm hv h0 h1 hzs hrow ho hz hgood hrole hb1 hlw hdo hmo hnl hn1 hn0 hfbe hcv hfit hL7
  go_enter Try.func34, Try.ntmps34
  go_upto_region 1 with (fail)
  have hz1 : w.heap.size < (w.alloc (.cells #[.int .i64 z, (.func (.func 46) #[] #[.pointer (some ⟨xa, 0, none⟩)])] 81)).drew.heap.size := by simp
  have x0 : (w.alloc (.cells #[.int .i64 z, (.func (.func 46) #[] #[.pointer (some ⟨xa, 0, none⟩)])] 81)).drew.cell? ⟨w.heap.size, 0, none⟩ = some (.int .i64 z) := by simp
  have x1 : (w.alloc (.cells #[.int .i64 z, (.func (.func 46) #[] #[.pointer (some ⟨xa, 0, none⟩)])] 81)).drew.cell? ⟨w.heap.size, 1, none⟩ = some ((.func (.func 46) #[] #[.pointer (some ⟨xa, 0, none⟩)])) := by simp
  have xf : (w.alloc (.cells #[.int .i64 z, (.func (.func 46) #[] #[.pointer (some ⟨xa, 0, none⟩)])] 81)).drew.cell? ⟨fb, 1, none⟩ = some (.slice A1 n1 c1) := (HB1.out.cell (p := ⟨fb, 1, none⟩) hfb).trans e1
  refine wp_region_held_drew (S := (fun w' => w'.cell? ⟨w.heap.size, 0, none⟩ = some (.int .i64 z) ∧ w'.cell? ⟨w.heap.size, 1, none⟩ = some ((.func (.func 46) #[] #[.pointer (some ⟨xa, 0, none⟩)])))) (by as_aux_lemma => kernel_rfl) ?_ (fun hHeld => ?_)
  · exact ⟨x0, x1⟩
  generalize (w.alloc (.cells #[.int .i64 z, (.func (.func 46) #[] #[.pointer (some ⟨xa, 0, none⟩)])] 81)).drew = w1 at *
  refine wpAnyH_take (i := 0) (v := ?_) (by simp only [List.getElem?_toArray, List.getElem?_cons_zero]; exact rfl) (by as_aux_lemma => kernel_rfl) (by as_aux_lemma => kernel_rfl) (by as_aux_lemma => kernel_rfl) (by exact fun _ _ _ h => h) (Or.inl ⟨by rfl, ?_⟩) (by assumption) ?_
  rotate_left
  · intro w hSw
    (try dsimp only at hSw)
    go_simp
    try with_reducible rfl
  (try simp only [Act.put, List.setIfInBounds_toArray, List.set_cons_zero, List.set_cons_succ])
  refine wpAnyH_take (i := 1) (v := ?_) (by simp only [List.getElem?_toArray, List.getElem?_cons_succ, List.getElem?_cons_zero]; exact rfl) (by as_aux_lemma => kernel_rfl) (by as_aux_lemma => kernel_rfl) (by as_aux_lemma => kernel_rfl) (by exact fun _ _ _ h => h) (Or.inl ⟨by rfl, ?_⟩) (by assumption) ?_
  rotate_left
  · intro w hSw
    (try dsimp only at hSw)
    go_simp
    try with_reducible rfl
  (try simp only [Act.put, List.setIfInBounds_toArray, List.set_cons_zero, List.set_cons_succ])
  refine wpAnyH_take (i := 2) (v := ?_) (by simp only [List.getElem?_toArray, List.getElem?_cons_succ, List.getElem?_cons_zero]; exact rfl) (by as_aux_lemma => kernel_rfl) (by as_aux_lemma => kernel_rfl) (by as_aux_lemma => kernel_rfl) (by exact fun _ _ _ h => h) (Or.inl ⟨by rfl, ?_⟩) (by assumption) ?_
  rotate_left
  · intro w hSw
    (try dsimp only at hSw)
    go_simp
    try with_reducible rfl
  (try simp only [Act.put, List.setIfInBounds_toArray, List.set_cons_zero, List.set_cons_succ])
  refine wpAnyH_take (i := 3) (v := ?_) (by simp only [List.getElem?_toArray, List.getElem?_cons_succ, List.getElem?_cons_zero]; exact rfl) (by as_aux_lemma => kernel_rfl) (by as_aux_lemma => kernel_rfl) (by as_aux_lemma => kernel_rfl) (by exact fun _ _ _ h => h) (Or.inl ⟨by rfl, ?_⟩) (by assumption) ?_
  rotate_left
  · intro w hSw
    (try dsimp only at hSw)
    go_simp
    try with_reducible rfl
  (try simp only [Act.put, List.setIfInBounds_toArray, List.set_cons_zero, List.set_cons_succ])
  refine wpAnyH_take (i := 4) (v := ?_) (by simp only [List.getElem?_toArray, List.getElem?_cons_succ, List.getElem?_cons_zero]; exact rfl) (by as_aux_lemma => kernel_rfl) (by as_aux_lemma => kernel_rfl) (by as_aux_lemma => kernel_rfl) (by exact fun _ _ _ h => h) (Or.inl ⟨by rfl, ?_⟩) (by assumption) ?_
  rotate_left
  · intro w hSw
    (try dsimp only at hSw)
    go_simp
    try with_reducible rfl
  (try simp only [Act.put, List.setIfInBounds_toArray, List.set_cons_zero, List.set_cons_succ])
  refine wpAnyH_take (i := 5) (v := ?_) (by simp only [List.getElem?_toArray, List.getElem?_cons_succ, List.getElem?_cons_zero]; exact rfl) (by as_aux_lemma => kernel_rfl) (by as_aux_lemma => kernel_rfl) (by as_aux_lemma => kernel_rfl) (by exact fun _ _ _ h => h) (Or.inl ⟨by rfl, ?_⟩) (by assumption) ?_
  rotate_left
  · intro w hSw
    (try dsimp only at hSw)
    go_simp
    try with_reducible rfl
  (try simp only [Act.put, List.setIfInBounds_toArray, List.set_cons_zero, List.set_cons_succ])
  refine wpAnyH_take (i := 7) (v := ?_) (by simp only [List.getElem?_toArray, List.getElem?_cons_succ, List.getElem?_cons_zero]; exact rfl) (by as_aux_lemma => kernel_rfl) (by as_aux_lemma => kernel_rfl) (by as_aux_lemma => kernel_rfl) (by exact fun _ _ _ h => h) (Or.inl ⟨by rfl, ?_⟩) (by assumption) ?_
  rotate_left
  · intro w hSw
    (try dsimp only at hSw)
    go_simp
    try with_reducible rfl
  (try simp only [Act.put, List.setIfInBounds_toArray, List.set_cons_zero, List.set_cons_succ])
  refine wpAnyH_take (i := 8) (v := ?_) (by simp only [List.getElem?_toArray, List.getElem?_cons_succ, List.getElem?_cons_zero]; exact rfl) (by as_aux_lemma => kernel_rfl) (by as_aux_lemma => kernel_rfl) (by as_aux_lemma => kernel_rfl) (by exact fun _ _ _ h => h) (Or.inl ⟨by rfl, ?_⟩) (by assumption) ?_
  rotate_left
  · intro w hSw
    (try dsimp only at hSw)
    go_simp
    try with_reducible rfl
  (try simp only [Act.put, List.setIfInBounds_toArray, List.set_cons_zero, List.set_cons_succ])
  refine wpAnyH_ready (rs := [6]) (by as_aux_lemma => kernel_rfl) (by simp) ?_
  refine AllReadyH.cons (by simp only [List.getElem?_toArray, List.getElem?_cons_succ, List.getElem?_cons_zero]; exact rfl) (fun K hK => ?_) AllReadyH.nil
  go_simp
  refine hK.out _ _ ?_ (fun hHeld => ?_)
  · (try dsimp only)
    exact hHeld
  clear hK K
  (try simp only [Act.put, List.setIfInBounds_toArray, List.set_cons_zero, List.set_cons_succ])
  refine wpAnyH_ready (rs := [9]) (by as_aux_lemma => kernel_rfl) (by simp) ?_
  refine AllReadyH.cons (by simp only [List.getElem?_toArray, List.getElem?_cons_succ, List.getElem?_cons_zero]; exact rfl) (fun K hK => ?_) AllReadyH.nil
  go_simp
  (go_at_call 46; refine HDOES.out.mono ?_; rintro _ w2 ⟨v7, rfl, hr7, hb7⟩)
  rw [HALL.out] at hr7
  have y0 := (hb7.cell (p := ⟨w.heap.size, 0, none⟩) hz1).trans x0
  have y1 := (hb7.cell (p := ⟨w.heap.size, 1, none⟩) hz1).trans x1
  have HV2 := Lib.hid ((HV.out.below_all HB1.out).below_all hb7)
  have f1 := HV2.out.frozen 1
  have e2 := HV2.out.cell (j := 1) rfl
  obtain ⟨A7, c7, rfl, _, _, _, _⟩ := RowB.form hr7
  have HR7 := Lib.hid hr7
  have HBB2 := Lib.hid (HB1.out.trans (hb7.mono HB1.out.size))
  have hz12 := hb7.size
  refine hK.out _ _ ?_ (fun hHeld => ?_)
  · (try dsimp only)
    exact ⟨y0, y1⟩
  clear hK K
  (try simp only [Act.put, List.setIfInBounds_toArray, List.set_cons_zero, List.set_cons_succ])
  have HV3 := Lib.hid (HV2.out.set 1 (.slice A7 L7.length c7))
  have hsd : Chg (fun b => b = fb) w2 (w2.setCell ⟨fb, 1, none⟩ (.slice A7 L7.length c7)) := (show Chg (fun b => b = fb) w2 w2 from Chg.refl _ _).setCell (p := ⟨fb, 1, none⟩) (fun _ => rfl) _
  have HC2 : Hid (Chg (fun b => b = fb) w (w2.setCell ⟨fb, 1, none⟩ (.slice A7 L7.length c7))) := Lib.hid ((Chg.of_below HBB2.out).trans hsd (fun _ _ e => e))
  have HRB : Hid (RowB (w2.setCell ⟨fb, 1, none⟩ (.slice A7 L7.length c7)) w.heap.size (.slice A7 L7.length c7) L7) := Lib.hid (Row.chg (Row.mono HR7.out (by omega)) hsd (fun b hb e => by have := (Row.lt HR7.out b hb).1; omega))
  have HRR : Hid (Row (w2.setCell ⟨fb, 1, none⟩ (.slice A7 L7.length c7)) 0 2 (.slice A2 nl c2) nl (zsV zs)) := Lib.hid (HR1.out.chg HC2.out (fun b hb => (HND.out b hb).1))
  have t0 := (World.cell?_setCell_other w2 ⟨fb, 1, none⟩ ⟨w.heap.size, 0, none⟩ (.slice A7 L7.length c7) (by simp <;> omega)).trans y0
  have t1 := (World.cell?_setCell_other w2 ⟨fb, 1, none⟩ ⟨w.heap.size, 1, none⟩ (.slice A7 L7.length c7) (by simp <;> omega)).trans y1
  clear hsd hr7 hb7 x0 x1 xf
  refine wpAnyH_take (i := 10) (v := ?_) (by simp only [List.getElem?_toArray, List.getElem?_cons_succ, List.getElem?_cons_zero]; exact rfl) (by as_aux_lemma => kernel_rfl) (by as_aux_lemma => kernel_rfl) (by as_aux_lemma => kernel_rfl) (by exact fun _ _ _ h => h) (Or.inl ⟨by rfl, ?_⟩) (by assumption) ?_
  rotate_left
  · intro w hSw
    (try dsimp only at hSw)
    go_simp
    try with_reducible rfl
  (try simp only [Act.put, List.setIfInBounds_toArray, List.set_cons_zero, List.set_cons_succ])
  refine wpAnyH_take (i := 11) (v := ?_) (by simp only [List.getElem?_toArray, List.getElem?_cons_succ, List.getElem?_cons_zero]; exact rfl) (by as_aux_lemma => kernel_rfl) (by as_aux_lemma => kernel_rfl) (by as_aux_lemma => kernel_rfl) (by exact fun _ _ _ h => h) (Or.inl ⟨by rfl, ?_⟩) (by assumption) ?_
  rotate_left
  · intro w hSw
    (try dsimp only at hSw)
    go_simp
    try with_reducible rfl
  (try simp only [Act.put, List.setIfInBounds_toArray, List.set_cons_zero, List.set_cons_succ])
  refine wpAnyH_ready (rs := [12]) (by as_aux_lemma => kernel_rfl) (by simp) ?_
  refine AllReadyH.cons (by simp only [List.getElem?_toArray, List.getElem?_cons_succ, List.getElem?_cons_zero]; exact rfl) (fun K hK => ?_) AllReadyH.nil
  go_simp
  refine hK.out _ _ ?_ (fun hHeld => ?_)
  · (try dsimp only)
    exact ⟨t0, t1⟩
  clear hK K
  (try simp only [Act.put, List.setIfInBounds_toArray, List.set_cons_zero, List.set_cons_succ])
  refine wpAnyH_done (by as_aux_lemma => kernel_rfl) ?_ _
  have hz3 : w.heap.size < (w2.setCell ⟨fb, 1, none⟩ (.slice A7 L7.length c7)).heap.size := by simp; omega
  clear f1 e2 y0 y1 hHeld e1
  generalize w2.setCell ⟨fb, 1, none⟩ (.slice A7 L7.length c7) = w4 at *
  go_upto_region 2 with (fail)
  have HVD : Hid (Var w4.drew fb 71 [.slice A0 n0 c0, .slice A7 L7.length c7, .slice A2 nl c2]) := Lib.hid HV3.out
  have HRD : Hid (Row w4.drew 0 2 (.slice A2 nl c2) nl (zsV zs)) := Lib.hid HRR.out
  have HCD : Hid (Chg (fun b => b = fb) w w4.drew) := Lib.hid HC2.out.drew
  have HBD : Hid (RowB w4.drew w.heap.size (.slice A7 L7.length c7) L7) := Lib.hid HRB.out
  have hzd : w.heap.size < w4.drew.heap.size := hz3
  have q0 := HVD.out.cell (j := 2) rfl
  have y0 : w4.drew.cell? ⟨w.heap.size, 0, none⟩ = some (.int .i64 z) := t0
  have y1 : w4.drew.cell? ⟨w.heap.size, 1, none⟩ = some ((.func (.func 46) #[] #[.pointer (some ⟨xa, 0, none⟩)])) := t1
  refine wp_region_held_drew (S := (fun w' => w'.cell? ⟨w.heap.size, 0, none⟩ = some (.int .i64 z) ∧ w'.cell? ⟨w.heap.size, 1, none⟩ = some ((.func (.func 46) #[] #[.pointer (some ⟨xa, 0, none⟩)])))) (by as_aux_lemma => kernel_rfl) ?_ (fun hHeld => ?_)
  · exact ⟨y0, y1⟩
  generalize w4.drew = wd at *
  have k0 := (World.cell?_alloc_lt wd (.cells #[.int .i64 z, (.func (.func 46) #[] #[.pointer (some ⟨xa, 0, none⟩)])] 81) ⟨w.heap.size, 0, none⟩ hzd).trans y0
  have k1 := (World.cell?_alloc_lt wd (.cells #[.int .i64 z, (.func (.func 46) #[] #[.pointer (some ⟨xa, 0, none⟩)])] 81) ⟨w.heap.size, 1, none⟩ hzd).trans y1
  refine wpAnyH_take (i := 0) (v := ?_) (by simp only [List.getElem?_toArray, List.getElem?_cons_zero]; exact rfl) (by as_aux_lemma => kernel_rfl) (by as_aux_lemma => kernel_rfl) (by as_aux_lemma => kernel_rfl) (by exact fun _ _ _ h => h) (Or.inl ⟨by rfl, ?_⟩) (by assumption) ?_
  rotate_left
  · intro w hSw
    (try dsimp only at hSw)
    go_simp
    try with_reducible rfl
  (try simp only [Act.put, List.setIfInBounds_toArray, List.set_cons_zero, List.set_cons_succ])
  refine wpAnyH_take (i := 1) (v := ?_) (by simp only [List.getElem?_toArray, List.getElem?_cons_succ, List.getElem?_cons_zero]; exact rfl) (by as_aux_lemma => kernel_rfl) (by as_aux_lemma => kernel_rfl) (by as_aux_lemma => kernel_rfl) (by exact fun _ _ _ h => h) (Or.inl ⟨by rfl, ?_⟩) (by assumption) ?_
  rotate_left
  · intro w hSw
    (try dsimp only at hSw)
    go_simp
    try with_reducible rfl
  (try simp only [Act.put, List.setIfInBounds_toArray, List.set_cons_zero, List.set_cons_succ])
  refine wpAnyH_take (i := 2) (v := ?_) (by simp only [List.getElem?_toArray, List.getElem?_cons_succ, List.getElem?_cons_zero]; exact rfl) (by as_aux_lemma => kernel_rfl) (by as_aux_lemma => kernel_rfl) (by as_aux_lemma => kernel_rfl) (by exact fun _ _ _ h => h) (Or.inl ⟨by rfl, ?_⟩) (by assumption) ?_
  rotate_left
  · intro w hSw
    (try dsimp only at hSw)
    go_simp
    try with_reducible rfl
  (try simp only [Act.put, List.setIfInBounds_toArray, List.set_cons_zero, List.set_cons_succ])
  refine wpAnyH_take (i := 3) (v := ?_) (by simp only [List.getElem?_toArray, List.getElem?_cons_succ, List.getElem?_cons_zero]; exact rfl) (by as_aux_lemma => kernel_rfl) (by as_aux_lemma => kernel_rfl) (by as_aux_lemma => kernel_rfl) (by exact fun _ _ _ h => h) (Or.inl ⟨by rfl, ?_⟩) (by assumption) ?_
  rotate_left
  · intro w hSw
    (try dsimp only at hSw)
    go_simp
    try with_reducible rfl
  (try simp only [Act.put, List.setIfInBounds_toArray, List.set_cons_zero, List.set_cons_succ])
  refine wpAnyH_take (i := 5) (v := ?_) (by simp only [List.getElem?_toArray, List.getElem?_cons_succ, List.getElem?_cons_zero]; exact rfl) (by as_aux_lemma => kernel_rfl) (by as_aux_lemma => kernel_rfl) (by as_aux_lemma => kernel_rfl) (by exact fun _ _ _ h => h) (Or.inl ⟨by rfl, ?_⟩) (by assumption) ?_
  rotate_left
  · intro w hSw
    (try dsimp only at hSw)
    go_simp
    try with_reducible rfl
  (try simp only [Act.put, List.setIfInBounds_toArray, List.set_cons_zero, List.set_cons_succ])
  refine wpAnyH_ready (rs := [4, 6]) (by as_aux_lemma => kernel_rfl) (by simp) ?_
  refine AllReadyH.cons (by simp only [List.getElem?_toArray, List.getElem?_cons_succ, List.getElem?_cons_zero]; exact rfl) (fun K hK => ?_) ?_
  · go_simp
    refine hK.out _ _ ?_ (fun hHeld => ?_)
    · (try dsimp only)
      exact hHeld
    clear hK K
    (try simp only [Act.put, List.setIfInBounds_toArray, List.set_cons_zero, List.set_cons_succ])
    refine wpAnyH_ready (rs := [6]) (by as_aux_lemma => kernel_rfl) (by simp) ?_
    refine AllReadyH.cons (by simp only [List.getElem?_toArray, List.getElem?_cons_succ, List.getElem?_cons_zero]; exact rfl) (fun K hK => ?_) AllReadyH.nil
    go_simp
    refine hK.out _ _ ?_ (fun hHeld => ?_)
    · (try dsimp only)
      exact ⟨k0, k1⟩
    clear hK K
    (try simp only [Act.put, List.setIfInBounds_toArray, List.set_cons_zero, List.set_cons_succ])
    refine wpAnyH_ready (rs := [7]) (by as_aux_lemma => kernel_rfl) (by simp) ?_
    refine AllReadyH.cons (by simp only [List.getElem?_toArray, List.getElem?_cons_succ, List.getElem?_cons_zero]; exact rfl) (fun K hK => ?_) AllReadyH.nil
    (refine step_app _ (by rfl) (.tmp 23) (.tmp 25) 69 69 (by rfl) 0 81 j0 (.agg #[.int .i64 0, .nilFunc]) 2 16 Try.underlying69 hj0 jz0 jz1 jz2 rfl (.slice A2 nl c2) nl (zsV zs) (by rfl) (HRD.out.alloc _) _ 1 [.int .i64 z, (.func (.func 46) #[] #[.pointer (some ⟨xa, 0, none⟩)])] (by rfl) (Src.built [.int .i64 z, (.func (.func 46) #[] #[.pointer (some ⟨xa, 0, none⟩)])] 81 Try.underlying69 rfl (by intro u hu; simp only [List.mem_cons, List.not_mem_nil, or_false] at hu; rcases hu with rfl | rfl <;> rfl)) (by omega) (by omega) (by omega) (Nat.zero_le _) ?_; intro v3 w3 hrow3 hg3 ho3)
    have HG3 := Lib.hid (((show Chg (fun b => b = fb ∨ (Value.slice A2 nl c2).ownBlock = some b) w wd from HCD.out.more (fun b _ e => .inl e)).alloc (.cells #[.int .i64 z, (.func (.func 46) #[] #[.pointer (some ⟨xa, 0, none⟩)])] 81)).grown hg3 (fun k _ e => .inr e))
    have hown3 : ∀ b, v3.ownBlock = some b → (Value.slice A2 nl c2).ownBlock = some b ∨ (wd.heap.size ≤ b) := fun b hb => by
      rcases ho3 with e | e
      · exact .inl (e ▸ hb)
      · rw [e] at hb; injection hb with hb; right; simp at hb; omega
    have HO3 := Lib.hid hown3
    have HV3 := Lib.hid (((HVD.out.alloc (.cells #[.int .i64 z, (.func (.func 46) #[] #[.pointer (some ⟨xa, 0, none⟩)])] 81)).grown hg3 (fun e => by have := (HND.out fb e).1; exact this rfl)))
    have hb3 : RowB w3 w.heap.size (.slice A7 L7.length c7) L7 := (RowB.alloc HBD.out (.cells #[.int .i64 z, (.func (.func 46) #[] #[.pointer (some ⟨xa, 0, none⟩)])] 81)).kept hg3 (by
      rcases hob : (Value.slice A7 L7.length c7).ownBlock with _ | b
      · exact .inl rfl
      · right
        intro e
        have h1 := (Row.lt HBD.out b hob).1
        have h2 := (HND.out b (by rw [← e])).2
        omega)
    have HB3 := Lib.hid hb3
    have hx0 := (World.cell?_of_block (a := ⟨w.heap.size, 0, none⟩) (hg3.block w.heap.size (by simp; omega) (fun e => by have := (HND.out w.heap.size e.symm).2; omega))).trans ((World.cell?_alloc_lt wd _ ⟨w.heap.size, 0, none⟩ hzd).trans y0)
    have hx1 := (World.cell?_of_block (a := ⟨w.heap.size, 1, none⟩) (hg3.block w.heap.size (by simp; omega) (fun e => by have := (HND.out w.heap.size e.symm).2; omega))).trans ((World.cell?_alloc_lt wd _ ⟨w.heap.size, 1, none⟩ hzd).trans y1)
    obtain ⟨A3, c3, rfl, _, _, _, _⟩ := Row.form hrow3
    have HRW3 := Lib.hid hrow3
    have q3 := HV3.out.cell (j := 2) rfl
    have f3 := HV3.out.frozen 2
    have HV4 := Lib.hid (HV3.out.set 2 (.slice A3 (nl + 1) c3))
    have hc34 : Chg (fun b => b = fb ∨ (Value.slice A2 nl c2).ownBlock = some b) w (w3.setCell ⟨fb, 2, none⟩ (.slice A3 (nl + 1) c3)) := HG3.out.setCell (p := ⟨fb, 2, none⟩) (fun _ => .inl rfl) _
    have hsd : Chg (fun b => b = fb) w3 (w3.setCell ⟨fb, 2, none⟩ (.slice A3 (nl + 1) c3)) := (show Chg (fun b => b = fb) w3 w3 from Chg.refl _ _).setCell (p := ⟨fb, 2, none⟩) (fun _ => rfl) _
    have hrow4 : Row (w3.setCell ⟨fb, 2, none⟩ (.slice A3 (nl + 1) c3)) 0 2 (.slice A3 (nl + 1) c3) ((Dsk.fil s i).loo ++ [(Dsk.Ch.cut kk)]).length (zsV (zs ++ [(.int .i64 z, (.func (.func 46) #[] #[.pointer (some ⟨xa, 0, none⟩)]))])) := by
      rw [zsV_append, List.length_append, List.length_singleton, ← HNL.out]
      refine HRW3.out.chg hsd (fun b hb e => ?_)
      rcases HO3.out b hb with h | h
      · exact (HND.out b h).1 e
      · omega
    have hb4 : RowB (w3.setCell ⟨fb, 2, none⟩ (.slice A3 (nl + 1) c3)) w.heap.size (.slice A7 L7.length c7) L7 := Row.chg HB3.out hsd (fun b hb e => by have := (Row.lt HB3.out b hb).1; omega)
    have hown4 : ∀ b, (Value.slice A3 (nl + 1) c3).ownBlock = some b → (Value.slice A2 nl c2).ownBlock = some b ∨ (w.heap.size ≤ b ∧ (Value.slice A7 L7.length c7).ownBlock ≠ some b) := fun b hb => by
      rcases HO3.out b hb with h | h
      · exact .inl h
      · exact .inr ⟨by omega, fun e => by have := (Row.lt HBD.out b e).2; omega⟩
    have z0 := (World.cell?_setCell_other w3 ⟨fb, 2, none⟩ ⟨w.heap.size, 0, none⟩ (.slice A3 (nl + 1) c3) (by simp <;> omega)).trans hx0
    have z1 := (World.cell?_setCell_other w3 ⟨fb, 2, none⟩ ⟨w.heap.size, 1, none⟩ (.slice A3 (nl + 1) c3) (by simp <;> omega)).trans hx1
    have HMW := Lib.hid (HMM.out _ _ _ HV4.out hb4 hrow4 hown4 hc34)
    clear hrow3 hg3 ho3 hown3 hc34 hsd hrow4 hb3 hb4 hown4
    refine hK.out _ _ ?_ (fun hHeld => ?_)
    · (try dsimp only)
      exact ⟨hx0, hx1⟩
    clear hK K
    (try simp only [Act.put, List.setIfInBounds_toArray, List.set_cons_zero, List.set_cons_succ])
    refine wpAnyH_take (i := 8) (v := ?_) (by simp only [List.getElem?_toArray, List.getElem?_cons_succ, List.getElem?_cons_zero]; exact rfl) (by as_aux_lemma => kernel_rfl) (by as_aux_lemma => kernel_rfl) (by as_aux_lemma => kernel_rfl) (by exact fun _ _ _ h => h) (Or.inl ⟨by rfl, ?_⟩) (by assumption) ?_
    rotate_left
    · intro w hSw
      (try dsimp only at hSw)
      go_simp
      try with_reducible rfl
    (try simp only [Act.put, List.setIfInBounds_toArray, List.set_cons_zero, List.set_cons_succ])
    refine wpAnyH_take (i := 9) (v := ?_) (by simp only [List.getElem?_toArray, List.getElem?_cons_succ, List.getElem?_cons_zero]; exact rfl) (by as_aux_lemma => kernel_rfl) (by as_aux_lemma => kernel_rfl) (by as_aux_lemma => kernel_rfl) (by exact fun _ _ _ h => h) (Or.inl ⟨by rfl, ?_⟩) (by assumption) ?_
    rotate_left
    · intro w hSw
      (try dsimp only at hSw)
      go_simp
      try with_reducible rfl
    (try simp only [Act.put, List.setIfInBounds_toArray, List.set_cons_zero, List.set_cons_succ])
    refine wpAnyH_ready (rs := [10]) (by as_aux_lemma => kernel_rfl) (by simp) ?_
    refine AllReadyH.cons (by simp only [List.getElem?_toArray, List.getElem?_cons_succ, List.getElem?_cons_zero]; exact rfl) (fun K hK => ?_) AllReadyH.nil
    go_simp
    refine hK.out _ _ ?_ (fun hHeld => ?_)
    · (try dsimp only)
      exact ⟨z0, z1⟩
    clear hK K
    (try simp only [Act.put, List.setIfInBounds_toArray, List.set_cons_zero, List.set_cons_succ])
    refine wpAnyH_done (by as_aux_lemma => kernel_rfl) ?_ _
    clear q3 f3 hx0 hx1 z0 z1 y0 y1
    obtain ⟨ρ', hm4, hst4⟩ := HMW.out
    obtain ⟨rc, hrc⟩ : ∃ rc, rc = (Dsk.done { s with fs := s.fs.set i ⟨(Dsk.fil s i).las, (Dsk.fil s i).loo ++ [(Dsk.Ch.cut kk)]⟩ }).2 := ⟨_, rfl⟩
    have HDN := Lib.hid (HDO.out _ ρ' hm4)
    rw [← hrc] at HDN
    have HRC := Lib.hid hrc
    have HST := Lib.hid hst4
    clear hm4 hst4 hrc
    go_wp2_with (first
      | (go_at_call 39; go_must (refine HDN.out.mono ?_; rintro _ w6 ⟨rfl, hout⟩))
      | fail)
    go_ret
    rw [HMO.out, ← HRC.out]
    exact ⟨rfl, Out.after HST.out hout⟩
  · refine AllReadyH.cons (by simp only [List.getElem?_toArray, List.getElem?_cons_succ, List.getElem?_cons_zero]; exact rfl) (fun K hK => ?_) AllReadyH.nil
    go_simp
    refine hK.out _ _ ?_ (fun hHeld => ?_)
    · (try dsimp only)
      exact ⟨k0, k1⟩
    clear hK K
    (try simp only [Act.put, List.setIfInBounds_toArray, List.set_cons_zero, List.set_cons_succ])
    have q0a := (World.cell?_alloc_lt wd (.cells #[.int .i64 z, (.func (.func 46) #[] #[.pointer (some ⟨xa, 0, none⟩)])] 81) ⟨fb, 2, none⟩ (by have := HVD.out.lt; exact this)).trans q0
    refine wpAnyH_ready (rs := [4]) (by as_aux_lemma => kernel_rfl) (by simp) ?_
    refine AllReadyH.cons (by simp only [List.getElem?_toArray, List.getElem?_cons_succ, List.getElem?_cons_zero]; exact rfl) (fun K hK => ?_) AllReadyH.nil
    go_simp
    refine hK.out _ _ ?_ (fun hHeld => ?_)
    · (try dsimp only)
      exact ⟨k0, k1⟩
    clear hK K
    (try simp only [Act.put, List.setIfInBounds_toArray, List.set_cons_zero, List.set_cons_succ])
    refine wpAnyH_ready (rs := [7]) (by as_aux_lemma => kernel_rfl) (by simp) ?_
    refine AllReadyH.cons (by simp only [List.getElem?_toArray, List.getElem?_cons_succ, List.getElem?_cons_zero]; exact rfl) (fun K hK => ?_) AllReadyH.nil
    (refine step_app _ (by rfl) (.tmp 23) (.tmp 25) 69 69 (by rfl) 0 81 j0 (.agg #[.int .i64 0, .nilFunc]) 2 16 Try.underlying69 hj0 jz0 jz1 jz2 rfl (.slice A2 nl c2) nl (zsV zs) (by rfl) (HRD.out.alloc _) _ 1 [.int .i64 z, (.func (.func 46) #[] #[.pointer (some ⟨xa, 0, none⟩)])] (by rfl) (Src.built [.int .i64 z, (.func (.func 46) #[] #[.pointer (some ⟨xa, 0, none⟩)])] 81 Try.underlying69 rfl (by intro u hu; simp only [List.mem_cons, List.not_mem_nil, or_false] at hu; rcases hu with rfl | rfl <;> rfl)) (by omega) (by omega) (by omega) (Nat.zero_le _) ?_; intro v3 w3 hrow3 hg3 ho3)
    have HG3 := Lib.hid (((show Chg (fun b => b = fb ∨ (Value.slice A2 nl c2).ownBlock = some b) w wd from HCD.out.more (fun b _ e => .inl e)).alloc (.cells #[.int .i64 z, (.func (.func 46) #[] #[.pointer (some ⟨xa, 0, none⟩)])] 81)).grown hg3 (fun k _ e => .inr e))
    have hown3 : ∀ b, v3.ownBlock = some b → (Value.slice A2 nl c2).ownBlock = some b ∨ (wd.heap.size ≤ b) := fun b hb => by
      rcases ho3 with e | e
      · exact .inl (e ▸ hb)
      · rw [e] at hb; injection hb with hb; right; simp at hb; omega
    have HO3 := Lib.hid hown3
    have HV3 := Lib.hid (((HVD.out.alloc (.cells #[.int .i64 z, (.func (.func 46) #[] #[.pointer (some ⟨xa, 0, none⟩)])] 81)).grown hg3 (fun e => by have := (HND.out fb e).1; exact this rfl)))
    have hb3 : RowB w3 w.heap.size (.slice A7 L7.length c7) L7 := (RowB.alloc HBD.out (.cells #[.int .i64 z, (.func (.func 46) #[] #[.pointer (some ⟨xa, 0, none⟩)])] 81)).kept hg3 (by
      rcases hob : (Value.slice A7 L7.length c7).ownBlock with _ | b
      · exact .inl rfl
      · right
        intro e
        have h1 := (Row.lt HBD.out b hob).1
        have h2 := (HND.out b (by rw [← e])).2
        omega)
    have HB3 := Lib.hid hb3
    have hx0 := (World.cell?_of_block (a := ⟨w.heap.size, 0, none⟩) (hg3.block w.heap.size (by simp; omega) (fun e => by have := (HND.out w.heap.size e.symm).2; omega))).trans ((World.cell?_alloc_lt wd _ ⟨w.heap.size, 0, none⟩ hzd).trans y0)
    have hx1 := (World.cell?_of_block (a := ⟨w.heap.size, 1, none⟩) (hg3.block w.heap.size (by simp; omega) (fun e => by have := (HND.out w.heap.size e.symm).2; omega))).trans ((World.cell?_alloc_lt wd _ ⟨w.heap.size, 1, none⟩ hzd).trans y1)
    obtain ⟨A3, c3, rfl, _, _, _, _⟩ := Row.form hrow3
    have HRW3 := Lib.hid hrow3
    have q3 := HV3.out.cell (j := 2) rfl
    have f3 := HV3.out.frozen 2
    have HV4 := Lib.hid (HV3.out.set 2 (.slice A3 (nl + 1) c3))
    have hc34 : Chg (fun b => b = fb ∨ (Value.slice A2 nl c2).ownBlock = some b) w (w3.setCell ⟨fb, 2, none⟩ (.slice A3 (nl + 1) c3)) := HG3.out.setCell (p := ⟨fb, 2, none⟩) (fun _ => .inl rfl) _
    have hsd : Chg (fun b => b = fb) w3 (w3.setCell ⟨fb, 2, none⟩ (.slice A3 (nl + 1) c3)) := (show Chg (fun b => b = fb) w3 w3 from Chg.refl _ _).setCell (p := ⟨fb, 2, none⟩) (fun _ => rfl) _
    have hrow4 : Row (w3.setCell ⟨fb, 2, none⟩ (.slice A3 (nl + 1) c3)) 0 2 (.slice A3 (nl + 1) c3) ((Dsk.fil s i).loo ++ [(Dsk.Ch.cut kk)]).length (zsV (zs ++ [(.int .i64 z, (.func (.func 46) #[] #[.pointer (some ⟨xa, 0, none⟩)]))])) := by
      rw [zsV_append, List.length_append, List.length_singleton, ← HNL.out]
      refine HRW3.out.chg hsd (fun b hb e => ?_)
      rcases HO3.out b hb with h | h
      · exact (HND.out b h).1 e
      · omega
    have hb4 : RowB (w3.setCell ⟨fb, 2, none⟩ (.slice A3 (nl + 1) c3)) w.heap.size (.slice A7 L7.length c7) L7 := Row.chg HB3.out hsd (fun b hb e => by have := (Row.lt HB3.out b hb).1; omega)
    have hown4 : ∀ b, (Value.slice A3 (nl + 1) c3).ownBlock = some b → (Value.slice A2 nl c2).ownBlock = some b ∨ (w.heap.size ≤ b ∧ (Value.slice A7 L7.length c7).ownBlock ≠ some b) := fun b hb => by
      rcases HO3.out b hb with h | h
      · exact .inl h
      · exact .inr ⟨by omega, fun e => by have := (Row.lt HBD.out b e).2; omega⟩
    have z0 := (World.cell?_setCell_other w3 ⟨fb, 2, none⟩ ⟨w.heap.size, 0, none⟩ (.slice A3 (nl + 1) c3) (by simp <;> omega)).trans hx0
    have z1 := (World.cell?_setCell_other w3 ⟨fb, 2, none⟩ ⟨w.heap.size, 1, none⟩ (.slice A3 (nl + 1) c3) (by simp <;> omega)).trans hx1
    have HMW := Lib.hid (HMM.out _ _ _ HV4.out hb4 hrow4 hown4 hc34)
    clear hrow3 hg3 ho3 hown3 hc34 hsd hrow4 hb3 hb4 hown4
    refine hK.out _ _ ?_ (fun hHeld => ?_)
    · (try dsimp only)
      exact ⟨hx0, hx1⟩
    clear hK K
    (try simp only [Act.put, List.setIfInBounds_toArray, List.set_cons_zero, List.set_cons_succ])
    refine wpAnyH_take (i := 8) (v := ?_) (by simp only [List.getElem?_toArray, List.getElem?_cons_succ, List.getElem?_cons_zero]; exact rfl) (by as_aux_lemma => kernel_rfl) (by as_aux_lemma => kernel_rfl) (by as_aux_lemma => kernel_rfl) (by exact fun _ _ _ h => h) (Or.inl ⟨by rfl, ?_⟩) (by assumption) ?_
    rotate_left
    · intro w hSw
      (try dsimp only at hSw)
      go_simp
      try with_reducible rfl
    (try simp only [Act.put, List.setIfInBounds_toArray, List.set_cons_zero, List.set_cons_succ])
    refine wpAnyH_take (i := 9) (v := ?_) (by simp only [List.getElem?_toArray, List.getElem?_cons_succ, List.getElem?_cons_zero]; exact rfl) (by as_aux_lemma => kernel_rfl) (by as_aux_lemma => kernel_rfl) (by as_aux_lemma => kernel_rfl) (by exact fun _ _ _ h => h) (Or.inl ⟨by rfl, ?_⟩) (by assumption) ?_
    rotate_left
    · intro w hSw
      (try dsimp only at hSw)
      go_simp
      try with_reducible rfl
    (try simp only [Act.put, List.setIfInBounds_toArray, List.set_cons_zero, List.set_cons_succ])
    refine wpAnyH_ready (rs := [10]) (by as_aux_lemma => kernel_rfl) (by simp) ?_
    refine AllReadyH.cons (by simp only [List.getElem?_toArray, List.getElem?_cons_succ, List.getElem?_cons_zero]; exact rfl) (fun K hK => ?_) AllReadyH.nil
    go_simp
    refine hK.out _ _ ?_ (fun hHeld => ?_)
    · (try dsimp only)
      exact ⟨z0, z1⟩
    clear hK K
    (try simp only [Act.put, List.setIfInBounds_toArray, List.set_cons_zero, List.set_cons_succ])
    refine wpAnyH_done (by as_aux_lemma => kernel_rfl) ?_ _
    clear q3 f3 hx0 hx1 z0 z1 y0 y1
    obtain ⟨ρ', hm4, hst4⟩ := HMW.out
    obtain ⟨rc, hrc⟩ : ∃ rc, rc = (Dsk.done { s with fs := s.fs.set i ⟨(Dsk.fil s i).las, (Dsk.fil s i).loo ++ [(Dsk.Ch.cut kk)]⟩ }).2 := ⟨_, rfl⟩
    have HDN := Lib.hid (HDO.out _ ρ' hm4)
    rw [← hrc] at HDN
    have HRC := Lib.hid hrc
    have HST := Lib.hid hst4
    clear hm4 hst4 hrc
    go_wp2_with (first
      | (go_at_call 39; go_must (refine HDN.out.mono ?_; rintro _ w6 ⟨rfl, hout⟩))
      | fail)
    go_ret
    rw [HMO.out, ← HRC.out]
    exact ⟨rfl, Out.after HST.out hout⟩

end
end Go.Proofs.Ythgeppdoonbkpaa
