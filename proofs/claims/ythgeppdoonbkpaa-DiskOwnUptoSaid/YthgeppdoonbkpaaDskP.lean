/- a change of the directory is done, and is loose. Conditions: sizes. -/
import Derived.Test.YthgeppdoonbkpaaDskO
namespace Go.Proofs.Ythgeppdoonbkpaa
open Go.RowKit Go.Maps Go.WideMaps
theorem infoMove : (Try.prog.info? 73).map (fun i => (i.zero, i.size, i.bytes)) = some (some (.agg #[.string ⟨#[]⟩, .string ⟨#[]⟩, .pointer none]), 3, 40) := by kernel_rfl
theorem infoChg : (Try.prog.info? 81).map (fun i => (i.zero, i.size, i.bytes)) = some (some (.agg #[.int .i64 0, .nilFunc]), 2, 16) := by kernel_rfl
section
variable {w : World} {db : Nat} {F : Nat → Nat} {ρ : Roles} {s : Dsk.St} {T : Nat}
set_option maxHeartbeats 1000000 in
set_option maxRecDepth 100000 in
theorem dmoved_any (hm : Mem w db F ρ s T) (hT : T ≤ 99999) (hd : s.down = false) {m : Dsk.Mv} (h1 : m.fr.length ≤ 64) (h2 : m.to.length ≤ 64) (h3 : m.nw ≠ none → m.to ≠ []) (h4 : m.nw = none → Dsk.get (Dsk.dn s) m.fr ≠ none)
    (h5 : ∀ i, m.nw = some i → i < s.fs.length ∧ Dsk.Good (Dsk.fil s i) ∧ (Dsk.fil s i).loo = []) (hf : ∀ i, m.nw = some i → Filed w ρ F (Dsk.fil s i) i) {P : Option Addr} (hP : mvP F m = .pointer P) :
    Calls Try.prog 30 #[.pointer (some ⟨db, 0, none⟩), .agg #[.string (strB m.fr), .string (strB m.to), .pointer P]] w fun e w' => e = .returned (.int .i64 ((Dsk.moved s m).2 : Nat)) ∧ Out w db ρ (Dsk.moved s m).1 (T + 1) w' := by
  obtain ⟨j0, hj0, jz0, jz1, jz2⟩ := info_parts infoMove
  obtain ⟨lb, nb, ln, nn, vl, va, hv, hl, ⟨n1, n2, n3⟩, ⟨r1, r2⟩, ha⟩ := hm.get
  have HMM := Lib.hid (fun (W : World) vl' hdir hrow hown hv' hc => moved_mem (W := W) (vl' := vl') hm hd h1 h2 h3 h4 h5 hf hl ⟨n1, n3⟩ r2 ha hdir hrow hown hv' hc)
  have HDO := Lib.hid (fun (W : World) (ρ' : Roles) (h : Mem W db F ρ' { s with lm := s.lm ++ [m] } (T + 1)) => ddone_any h (by omega) hd)
  have HAP := Lib.hid (fun (W : World) (hW : Dirm W nb nn F (Dsk.dn s)) => dapply_any hW (by omega) m h1 h2 h3 h4)
  have hmv : (mvV F m).toArray = #[.string (strB m.fr), .string (strB m.to), .pointer P] := by unfold mvV; rw [hP]
  have hmvl : mvV F m = [.string (strB m.fr), .string (strB m.to), .pointer P] := by unfold mvV; rw [hP]
  rw [hmv] at HAP
  have HMV := Lib.hid hmvl
  have HN2 := Lib.hid n2
  have HV := Lib.hid hv
  have HR1 := Lib.hid r1
  have hnb := n2.lt
  have hdb := hv.lt
  have hnd : nb ≠ db := fun e => by rw [e, hm.disk] at n1; injection n1 with n1; cases n1
  have hlm := hm.fit.lm
  have HND : Hid (∀ b, vl.ownBlock = some b → b ≠ nb ∧ b ≠ db ∧ b < w.heap.size) := Lib.hid (fun b hb => ⟨(fun e => by have := r2 b hb; rw [e, n1] at this; injection this with this; cases this), (fun e => by have := r2 b hb; rw [e, hm.disk] at this; injection this with this; cases this), (r1.lt b hb).2⟩)
  obtain ⟨Am, cm, rfl, _, _, _, _⟩ := Row.form r1
  obtain ⟨nm, hnm⟩ : ∃ nm, nm = s.lm.length := ⟨_, rfl⟩
  have hmo : Dsk.moved s m = Dsk.done { s with lm := s.lm ++ [m] } := rfl
  have HMO := Lib.hid hmo
  rw [← hnm] at HV HR1 HND HMM hlm
  have e2 := hv.cell (j := 2) rfl
  generalize strB m.fr = fr at *
  generalize strB m.to = tt at *
  have HNM := Lib.hid hnm
  clear hm hv hl n1 n2 r1 r2 ha h1 h2 h3 h4 h5 hf hP hmv hmvl hnm hmo
  go_enter Try.func30, Try.ntmps30
  go_upto_region 1 with (fail)
  have HB1 := Lib.hid (((Below.refl w.heap.size w).alloc (Nat.le_refl _) (.cells #[.string fr, .string tt, .pointer P] 73)).drew)
  have hz1 : w.heap.size < (w.alloc (.cells #[.string fr, .string tt, .pointer P] 73)).drew.heap.size := by simp
  have x0 : (w.alloc (.cells #[.string fr, .string tt, .pointer P] 73)).drew.cell? ⟨w.heap.size, 0, none⟩ = some (.string fr) := by simp
  have x1 : (w.alloc (.cells #[.string fr, .string tt, .pointer P] 73)).drew.cell? ⟨w.heap.size, 1, none⟩ = some (.string tt) := by simp
  have x2 : (w.alloc (.cells #[.string fr, .string tt, .pointer P] 73)).drew.cell? ⟨w.heap.size, 2, none⟩ = some (.pointer P) := by simp
  refine wp_region_held_drew (S := (fun w' => w'.cell? ⟨w.heap.size, 0, none⟩ = some (.string fr) ∧ w'.cell? ⟨w.heap.size, 1, none⟩ = some (.string tt) ∧ w'.cell? ⟨w.heap.size, 2, none⟩ = some (.pointer P) ∧ w'.cell? ⟨db, 2, none⟩ = some (.map (some nb)))) (by as_aux_lemma => kernel_rfl) ?_ (fun hHeld => ?_)
  · exact ⟨x0, x1, x2, (HB1.out.cell (p := ⟨db, 2, none⟩) hdb).trans e2⟩
  generalize (w.alloc (.cells #[.string fr, .string tt, .pointer P] 73)).drew = w1 at *
  refine wpAnyH_take (i := 0) (v := ?_) (by simp only [List.getElem?_toArray, List.getElem?_cons_zero]; exact rfl) (by as_aux_lemma => kernel_rfl) (by as_aux_lemma => kernel_rfl) (by as_aux_lemma => kernel_rfl) (by exact fun _ _ _ h => h) (Or.inl ⟨by rfl, ?_⟩) (by assumption) ?_
  rotate_left
  · intro w hSw
    (try dsimp only at hSw)
    go_simp
    try with_reducible rfl
  (try simp only [Act.put, List.setIfInBounds_toArray, List.set_cons_zero, List.set_cons_succ])
  refine wpAnyH_take (i := 1) (v := ?_) (by simp only [List.getElem?_toArray, List.getElem?_cons_succ, List.getElem?_cons_zero]; exact rfl) (by as_aux_lemma => kernel_rfl) (by as_aux_lemma => kernel_rfl) (by as_aux_lemma => kernel_rfl) (by exact fun _ _ _ h => h) (Or.inl ⟨by rfl, ?_⟩) (by assumption) ?_
  rotate_left
  · intro w hSw
    (try dsimp only at hSw)
    go_simp
    try with_reducible rfl
  (try simp only [Act.put, List.setIfInBounds_toArray, List.set_cons_zero, List.set_cons_succ])
  refine wpAnyH_take (i := 2) (v := ?_) (by simp only [List.getElem?_toArray, List.getElem?_cons_succ, List.getElem?_cons_zero]; exact rfl) (by as_aux_lemma => kernel_rfl) (by as_aux_lemma => kernel_rfl) (by as_aux_lemma => kernel_rfl) (by exact fun _ _ _ h => h) (Or.inl ⟨by rfl, ?_⟩) (by assumption) ?_
  rotate_left
  · intro w hSw
    (try dsimp only at hSw)
    go_simp
    try with_reducible rfl
  (try simp only [Act.put, List.setIfInBounds_toArray, List.set_cons_zero, List.set_cons_succ])
  refine wpAnyH_take (i := 3) (v := ?_) (by simp only [List.getElem?_toArray, List.getElem?_cons_succ, List.getElem?_cons_zero]; exact rfl) (by as_aux_lemma => kernel_rfl) (by as_aux_lemma => kernel_rfl) (by as_aux_lemma => kernel_rfl) (by exact fun _ _ _ h => h) (Or.inl ⟨by rfl, ?_⟩) (by assumption) ?_
  rotate_left
  · intro w hSw
    (try dsimp only at hSw)
    go_simp
    try with_reducible rfl
  (try simp only [Act.put, List.setIfInBounds_toArray, List.set_cons_zero, List.set_cons_succ])
  refine wpAnyH_take (i := 4) (v := ?_) (by simp only [List.getElem?_toArray, List.getElem?_cons_succ, List.getElem?_cons_zero]; exact rfl) (by as_aux_lemma => kernel_rfl) (by as_aux_lemma => kernel_rfl) (by as_aux_lemma => kernel_rfl) (by exact fun _ _ _ h => h) (Or.inl ⟨by rfl, ?_⟩) (by assumption) ?_
  rotate_left
  · intro w hSw
    (try dsimp only at hSw)
    go_simp
    try with_reducible rfl
  (try simp only [Act.put, List.setIfInBounds_toArray, List.set_cons_zero, List.set_cons_succ])
  have HAW := Lib.hid (HAP.out w1 (HN2.out.chg (S := fun _ => False) (Chg.of_below HB1.out) id))
  refine wpAnyH_ready (rs := [5]) (by as_aux_lemma => kernel_rfl) (by simp) ?_
  refine AllReadyH.cons (by simp only [List.getElem?_toArray, List.getElem?_cons_succ, List.getElem?_cons_zero]; exact rfl) (fun K hK => ?_) AllReadyH.nil
  go_simp
  (go_at_call 43; refine HAW.out.mono ?_; rintro _ w2 ⟨rfl, hd2, hc2⟩)
  have y0 := (World.cell?_of_block (a := ⟨w.heap.size, 0, none⟩) (hc2.block w.heap.size hz1 (by omega))).trans x0
  have y1 := (World.cell?_of_block (a := ⟨w.heap.size, 1, none⟩) (hc2.block w.heap.size hz1 (by omega))).trans x1
  have y2 := (World.cell?_of_block (a := ⟨w.heap.size, 2, none⟩) (hc2.block w.heap.size hz1 (by omega))).trans x2
  have HV2 := Lib.hid ((HV.out.below_all HB1.out).chg hc2 (fun e => hnd e.symm))
  refine hK.out _ _ ?_ (fun hHeld => ?_)
  · (try dsimp only)
    exact ⟨y0, y1, y2, HV2.out.cell (j := 2) rfl⟩
  clear hK K
  (try simp only [Act.put, List.setIfInBounds_toArray, List.set_cons_zero, List.set_cons_succ])
  refine wpAnyH_done (by as_aux_lemma => kernel_rfl) ?_ _
  have HC2 : Hid (Chg (fun b => b = nb) w w2) := Lib.hid ((Chg.of_below HB1.out).trans hc2 (fun _ _ e => e))
  have HR2 : Hid (Row w2 0 3 (.slice Am nm cm) nm (movesV F s.lm)) := Lib.hid (HR1.out.chg HC2.out (fun b hb => (HND.out b hb).1))
  have HD2 := Lib.hid hd2
  have hz2 := HC2.out.size
  have hz3 : w.heap.size < w2.heap.size := Nat.lt_of_lt_of_le hz1 hc2.size
  clear hd2 hc2 x0 x1 x2 HAW HAP HB1 HN2 hz1 hHeld
  go_upto_region 2 with (fail)
  have HVD : Hid (Var w2.drew db 65 _) := Lib.hid HV2.out.drew
  have HRD : Hid (Row w2.drew 0 3 (.slice Am nm cm) nm (movesV F s.lm)) := Lib.hid HR2.out
  have HDD : Hid (Dirm w2.drew nb (nn + 1) F (m.app (Dsk.dn s))) := Lib.hid HD2.out
  have HCD : Hid (Chg (fun b => b = nb) w w2.drew) := Lib.hid HC2.out.drew
  have hzd : w.heap.size < w2.drew.heap.size := hz3
  have q0 := HVD.out.cell (j := 3) rfl
  have y0 : w2.drew.cell? ⟨w.heap.size, 0, none⟩ = some (.string fr) := y0
  have y1 : w2.drew.cell? ⟨w.heap.size, 1, none⟩ = some (.string tt) := y1
  have y2 : w2.drew.cell? ⟨w.heap.size, 2, none⟩ = some (.pointer P) := y2
  refine wp_region_held_drew (S := (fun w' => w'.cell? ⟨w.heap.size, 0, none⟩ = some (.string fr) ∧ w'.cell? ⟨w.heap.size, 1, none⟩ = some (.string tt) ∧ w'.cell? ⟨w.heap.size, 2, none⟩ = some (.pointer P))) (by as_aux_lemma => kernel_rfl) ?_ (fun hHeld => ?_)
  · exact ⟨y0, y1, y2⟩
  generalize w2.drew = wd at *
  have k0 := (World.cell?_alloc_lt wd (.cells #[.string fr, .string tt, .pointer P] 73) ⟨w.heap.size, 0, none⟩ hzd).trans y0
  have k1 := (World.cell?_alloc_lt wd (.cells #[.string fr, .string tt, .pointer P] 73) ⟨w.heap.size, 1, none⟩ hzd).trans y1
  have k2 := (World.cell?_alloc_lt wd (.cells #[.string fr, .string tt, .pointer P] 73) ⟨w.heap.size, 2, none⟩ hzd).trans y2
  refine wpAnyH_take (i := 0) (v := ?_) (by simp only [List.getElem?_toArray, List.getElem?_cons_zero]; exact rfl) (by as_aux_lemma => kernel_rfl) (by as_aux_lemma => kernel_rfl) (by as_aux_lemma => kernel_rfl) (by exact fun _ _ _ h => h) (Or.inl ⟨by rfl, ?_⟩) (by assumption) ?_
  rotate_left
  · intro w hSw
    (try dsimp only at hSw)
    go_simp
    try with_reducible rfl
  (try simp only [Act.put, List.setIfInBounds_toArray, List.set_cons_zero, List.set_cons_succ])
  refine wpAnyH_take (i := 1) (v := ?_) (by simp only [List.getElem?_toArray, List.getElem?_cons_succ, List.getElem?_cons_zero]; exact rfl) (by as_aux_lemma => kernel_rfl) (by as_aux_lemma => kernel_rfl) (by as_aux_lemma => kernel_rfl) (by exact fun _ _ _ h => h) (Or.inl ⟨by rfl, ?_⟩) (by assumption) ?_
  rotate_left
  · intro w hSw
    (try dsimp only at hSw)
    go_simp
    try with_reducible rfl
  (try simp only [Act.put, List.setIfInBounds_toArray, List.set_cons_zero, List.set_cons_succ])
  refine wpAnyH_take (i := 2) (v := ?_) (by simp only [List.getElem?_toArray, List.getElem?_cons_succ, List.getElem?_cons_zero]; exact rfl) (by as_aux_lemma => kernel_rfl) (by as_aux_lemma => kernel_rfl) (by as_aux_lemma => kernel_rfl) (by exact fun _ _ _ h => h) (Or.inl ⟨by rfl, ?_⟩) (by assumption) ?_
  rotate_left
  · intro w hSw
    (try dsimp only at hSw)
    go_simp
    try with_reducible rfl
  (try simp only [Act.put, List.setIfInBounds_toArray, List.set_cons_zero, List.set_cons_succ])
  refine wpAnyH_take (i := 3) (v := ?_) (by simp only [List.getElem?_toArray, List.getElem?_cons_succ, List.getElem?_cons_zero]; exact rfl) (by as_aux_lemma => kernel_rfl) (by as_aux_lemma => kernel_rfl) (by as_aux_lemma => kernel_rfl) (by exact fun _ _ _ h => h) (Or.inl ⟨by rfl, ?_⟩) (by assumption) ?_
  rotate_left
  · intro w hSw
    (try dsimp only at hSw)
    go_simp
    try with_reducible rfl
  (try simp only [Act.put, List.setIfInBounds_toArray, List.set_cons_zero, List.set_cons_succ])
  refine wpAnyH_take (i := 5) (v := ?_) (by simp only [List.getElem?_toArray, List.getElem?_cons_succ, List.getElem?_cons_zero]; exact rfl) (by as_aux_lemma => kernel_rfl) (by as_aux_lemma => kernel_rfl) (by as_aux_lemma => kernel_rfl) (by exact fun _ _ _ h => h) (Or.inl ⟨by rfl, ?_⟩) (by assumption) ?_
  rotate_left
  · intro w hSw
    (try dsimp only at hSw)
    go_simp
    try with_reducible rfl
  (try simp only [Act.put, List.setIfInBounds_toArray, List.set_cons_zero, List.set_cons_succ])
  refine wpAnyH_ready (rs := [4, 6]) (by as_aux_lemma => kernel_rfl) (by simp) ?_
  refine AllReadyH.cons (by simp only [List.getElem?_toArray, List.getElem?_cons_succ, List.getElem?_cons_zero]; exact rfl) (fun K hK => ?_) ?_
  · go_simp
    refine hK.out _ _ ?_ (fun hHeld => ?_)
    · (try dsimp only)
      exact hHeld
    clear hK K
    (try simp only [Act.put, List.setIfInBounds_toArray, List.set_cons_zero, List.set_cons_succ])
    refine wpAnyH_ready (rs := [6]) (by as_aux_lemma => kernel_rfl) (by simp) ?_
    refine AllReadyH.cons (by simp only [List.getElem?_toArray, List.getElem?_cons_succ, List.getElem?_cons_zero]; exact rfl) (fun K hK => ?_) AllReadyH.nil
    go_simp
    refine hK.out _ _ ?_ (fun hHeld => ?_)
    · (try dsimp only)
      exact ⟨k0, k1, k2⟩
    clear hK K
    (try simp only [Act.put, List.setIfInBounds_toArray, List.set_cons_zero, List.set_cons_succ])
    refine wpAnyH_ready (rs := [7]) (by as_aux_lemma => kernel_rfl) (by simp) ?_
    refine AllReadyH.cons (by simp only [List.getElem?_toArray, List.getElem?_cons_succ, List.getElem?_cons_zero]; exact rfl) (fun K hK => ?_) AllReadyH.nil
    (refine step_app _ (by rfl) (.tmp 15) (.tmp 17) 62 62 (by rfl) 0 73 j0 (.agg #[.string ⟨#[]⟩, .string ⟨#[]⟩, .pointer none]) 3 40 Try.underlying62 hj0 jz0 jz1 jz2 rfl (.slice Am nm cm) nm (movesV F s.lm) (by rfl) (HRD.out.alloc _) _ 1 [.string fr, .string tt, .pointer P] (by rfl) (Src.built [.string fr, .string tt, .pointer P] 73 Try.underlying62 rfl (by intro u hu; simp only [List.mem_cons, List.not_mem_nil, or_false] at hu; rcases hu with rfl | rfl | rfl <;> rfl)) (by omega) (by omega) (by omega) (Nat.zero_le _) ?_; intro v3 w3 hrow3 hg3 ho3)
    have HG3 := Lib.hid (((show Chg (fun b => b = nb ∨ b = db ∨ (Value.slice Am nm cm).ownBlock = some b) w wd from HCD.out.more (fun b _ e => .inl e)).alloc (.cells #[.string fr, .string tt, .pointer P] 73)).grown hg3 (fun k _ e => .inr (.inr e)))
    have hown3 : ∀ b, v3.ownBlock = some b → (Value.slice Am nm cm).ownBlock = some b ∨ w.heap.size ≤ b := fun b hb => by
      rcases ho3 with e | e
      · exact .inl (e ▸ hb)
      · rw [e] at hb; injection hb with hb; right; simp at hb; omega
    have HO3 := Lib.hid hown3
    have HV3 := Lib.hid (((HVD.out.alloc (.cells #[.string fr, .string tt, .pointer P] 73)).grown hg3 (fun e => by have := (HND.out db e).2.1; exact this rfl)))
    have HD3 := Lib.hid ((HDD.out.chg (S := fun _ => False) (Chg.of_below ((Below.refl _ _).alloc (Nat.le_refl _) (.cells #[.string fr, .string tt, .pointer P] 73))) id).kept hg3 (fun e => by have := (HND.out nb e.symm).1; exact this rfl))
    have hx0 := (World.cell?_of_block (a := ⟨w.heap.size, 0, none⟩) (hg3.block w.heap.size (by simp; omega) (fun e => by have := (HND.out w.heap.size e.symm).2.2; omega))).trans ((World.cell?_alloc_lt wd _ ⟨w.heap.size, 0, none⟩ hzd).trans y0)
    have hx1 := (World.cell?_of_block (a := ⟨w.heap.size, 1, none⟩) (hg3.block w.heap.size (by simp; omega) (fun e => by have := (HND.out w.heap.size e.symm).2.2; omega))).trans ((World.cell?_alloc_lt wd _ ⟨w.heap.size, 1, none⟩ hzd).trans y1)
    have hx2 := (World.cell?_of_block (a := ⟨w.heap.size, 2, none⟩) (hg3.block w.heap.size (by simp; omega) (fun e => by have := (HND.out w.heap.size e.symm).2.2; omega))).trans ((World.cell?_alloc_lt wd _ ⟨w.heap.size, 2, none⟩ hzd).trans y2)
    obtain ⟨A3, c3, rfl, _, _, _, _⟩ := Row.form hrow3
    have HRW3 := Lib.hid hrow3
    have q3 := HV3.out.cell (j := 3) rfl
    have f3 := HV3.out.frozen 3
    have HV4 := Lib.hid (HV3.out.set 3 (.slice A3 (nm + 1) c3))
    have hc34 : Chg (fun b => b = nb ∨ b = db ∨ (Value.slice Am nm cm).ownBlock = some b) w (w3.setCell ⟨db, 3, none⟩ (.slice A3 (nm + 1) c3)) := HG3.out.setCell (p := ⟨db, 3, none⟩) (fun _ => .inr (.inl rfl)) _
    have hsd : Chg (fun b => b = db) w3 (w3.setCell ⟨db, 3, none⟩ (.slice A3 (nm + 1) c3)) := (show Chg (fun b => b = db) w3 w3 from Chg.refl _ _).setCell (p := ⟨db, 3, none⟩) (fun _ => rfl) _
    have hrow4 : Row (w3.setCell ⟨db, 3, none⟩ (.slice A3 (nm + 1) c3)) 0 3 (.slice A3 (nm + 1) c3) (s.lm ++ [m]).length (movesV F (s.lm ++ [m])) := by
      rw [movesV_snoc, HMV.out, List.length_append, List.length_singleton, ← HNM.out]
      refine HRW3.out.chg hsd (fun b hb e => ?_)
      rcases HO3.out b hb with h | h
      · exact (HND.out b h).2.1 e
      · omega
    have z0 := (World.cell?_setCell_other w3 ⟨db, 3, none⟩ ⟨w.heap.size, 0, none⟩ (.slice A3 (nm + 1) c3) (by simp <;> omega)).trans hx0
    have z1 := (World.cell?_setCell_other w3 ⟨db, 3, none⟩ ⟨w.heap.size, 1, none⟩ (.slice A3 (nm + 1) c3) (by simp <;> omega)).trans hx1
    have z2 := (World.cell?_setCell_other w3 ⟨db, 3, none⟩ ⟨w.heap.size, 2, none⟩ (.slice A3 (nm + 1) c3) (by simp <;> omega)).trans hx2
    have HMW := Lib.hid (HMM.out _ _ (HD3.out.chg hsd (fun e => hnd e)) hrow4 HO3.out HV4.out hc34)
    clear hrow3 hg3 ho3 hown3 hc34 hsd hrow4
    refine hK.out _ _ ?_ (fun hHeld => ?_)
    · (try dsimp only)
      exact ⟨hx0, hx1, hx2⟩
    clear hK K
    (try simp only [Act.put, List.setIfInBounds_toArray, List.set_cons_zero, List.set_cons_succ])
    refine wpAnyH_take (i := 8) (v := ?_) (by simp only [List.getElem?_toArray, List.getElem?_cons_succ, List.getElem?_cons_zero]; exact rfl) (by as_aux_lemma => kernel_rfl) (by as_aux_lemma => kernel_rfl) (by as_aux_lemma => kernel_rfl) (by exact fun _ _ _ h => h) (Or.inl ⟨by rfl, ?_⟩) (by assumption) ?_
    rotate_left
    · intro w hSw
      (try dsimp only at hSw)
      go_simp
      try with_reducible rfl
    (try simp only [Act.put, List.setIfInBounds_toArray, List.set_cons_zero, List.set_cons_succ])
    refine wpAnyH_take (i := 9) (v := ?_) (by simp only [List.getElem?_toArray, List.getElem?_cons_succ, List.getElem?_cons_zero]; exact rfl) (by as_aux_lemma => kernel_rfl) (by as_aux_lemma => kernel_rfl) (by as_aux_lemma => kernel_rfl) (by exact fun _ _ _ h => h) (Or.inl ⟨by rfl, ?_⟩) (by assumption) ?_
    rotate_left
    · intro w hSw
      (try dsimp only at hSw)
      go_simp
      try with_reducible rfl
    (try simp only [Act.put, List.setIfInBounds_toArray, List.set_cons_zero, List.set_cons_succ])
    refine wpAnyH_ready (rs := [10]) (by as_aux_lemma => kernel_rfl) (by simp) ?_
    refine AllReadyH.cons (by simp only [List.getElem?_toArray, List.getElem?_cons_succ, List.getElem?_cons_zero]; exact rfl) (fun K hK => ?_) AllReadyH.nil
    go_simp
    refine hK.out _ _ ?_ (fun hHeld => ?_)
    · (try dsimp only)
      exact ⟨z0, z1, z2⟩
    clear hK K
    (try simp only [Act.put, List.setIfInBounds_toArray, List.set_cons_zero, List.set_cons_succ])
    refine wpAnyH_done (by as_aux_lemma => kernel_rfl) ?_ _
    clear q3 f3 hx0 hx1 hx2 z0 z1 z2 y0 y1 y2
    obtain ⟨ρ', hm4, hst4⟩ := HMW.out
    obtain ⟨rc, hrc⟩ : ∃ rc, rc = (Dsk.done { s with lm := s.lm ++ [m] }).2 := ⟨_, rfl⟩
    have HDN := Lib.hid (HDO.out _ ρ' hm4)
    rw [← hrc] at HDN
    have HRC := Lib.hid hrc
    clear hrc
    have HST := Lib.hid hst4
    clear hm4 hst4
    go_wp2_with (first
      | (go_at_call 39; go_must (refine HDN.out.mono ?_; rintro _ w6 ⟨rfl, hout⟩))
      | fail)
    go_ret
    rw [HMO.out, ← HRC.out]
    exact ⟨rfl, Out.after HST.out hout⟩
  · refine AllReadyH.cons (by simp only [List.getElem?_toArray, List.getElem?_cons_succ, List.getElem?_cons_zero]; exact rfl) (fun K hK => ?_) AllReadyH.nil
    go_simp
    refine hK.out _ _ ?_ (fun hHeld => ?_)
    · (try dsimp only)
      exact ⟨k0, k1, k2⟩
    clear hK K
    (try simp only [Act.put, List.setIfInBounds_toArray, List.set_cons_zero, List.set_cons_succ])
    have q0a := (World.cell?_alloc_lt wd (.cells #[.string fr, .string tt, .pointer P] 73) ⟨db, 3, none⟩ (by show db < _; omega)).trans q0
    refine wpAnyH_ready (rs := [4]) (by as_aux_lemma => kernel_rfl) (by simp) ?_
    refine AllReadyH.cons (by simp only [List.getElem?_toArray, List.getElem?_cons_succ, List.getElem?_cons_zero]; exact rfl) (fun K hK => ?_) AllReadyH.nil
    go_simp
    refine hK.out _ _ ?_ (fun hHeld => ?_)
    · (try dsimp only)
      exact ⟨k0, k1, k2⟩
    clear hK K
    (try simp only [Act.put, List.setIfInBounds_toArray, List.set_cons_zero, List.set_cons_succ])
    refine wpAnyH_ready (rs := [7]) (by as_aux_lemma => kernel_rfl) (by simp) ?_
    refine AllReadyH.cons (by simp only [List.getElem?_toArray, List.getElem?_cons_succ, List.getElem?_cons_zero]; exact rfl) (fun K hK => ?_) AllReadyH.nil
    (refine step_app _ (by rfl) (.tmp 15) (.tmp 17) 62 62 (by rfl) 0 73 j0 (.agg #[.string ⟨#[]⟩, .string ⟨#[]⟩, .pointer none]) 3 40 Try.underlying62 hj0 jz0 jz1 jz2 rfl (.slice Am nm cm) nm (movesV F s.lm) (by rfl) (HRD.out.alloc _) _ 1 [.string fr, .string tt, .pointer P] (by rfl) (Src.built [.string fr, .string tt, .pointer P] 73 Try.underlying62 rfl (by intro u hu; simp only [List.mem_cons, List.not_mem_nil, or_false] at hu; rcases hu with rfl | rfl | rfl <;> rfl)) (by omega) (by omega) (by omega) (Nat.zero_le _) ?_; intro v3 w3 hrow3 hg3 ho3)
    have HG3 := Lib.hid (((show Chg (fun b => b = nb ∨ b = db ∨ (Value.slice Am nm cm).ownBlock = some b) w wd from HCD.out.more (fun b _ e => .inl e)).alloc (.cells #[.string fr, .string tt, .pointer P] 73)).grown hg3 (fun k _ e => .inr (.inr e)))
    have hown3 : ∀ b, v3.ownBlock = some b → (Value.slice Am nm cm).ownBlock = some b ∨ w.heap.size ≤ b := fun b hb => by
      rcases ho3 with e | e
      · exact .inl (e ▸ hb)
      · rw [e] at hb; injection hb with hb; right; simp at hb; omega
    have HO3 := Lib.hid hown3
    have HV3 := Lib.hid (((HVD.out.alloc (.cells #[.string fr, .string tt, .pointer P] 73)).grown hg3 (fun e => by have := (HND.out db e).2.1; exact this rfl)))
    have HD3 := Lib.hid ((HDD.out.chg (S := fun _ => False) (Chg.of_below ((Below.refl _ _).alloc (Nat.le_refl _) (.cells #[.string fr, .string tt, .pointer P] 73))) id).kept hg3 (fun e => by have := (HND.out nb e.symm).1; exact this rfl))
    have hx0 := (World.cell?_of_block (a := ⟨w.heap.size, 0, none⟩) (hg3.block w.heap.size (by simp; omega) (fun e => by have := (HND.out w.heap.size e.symm).2.2; omega))).trans ((World.cell?_alloc_lt wd _ ⟨w.heap.size, 0, none⟩ hzd).trans y0)
    have hx1 := (World.cell?_of_block (a := ⟨w.heap.size, 1, none⟩) (hg3.block w.heap.size (by simp; omega) (fun e => by have := (HND.out w.heap.size e.symm).2.2; omega))).trans ((World.cell?_alloc_lt wd _ ⟨w.heap.size, 1, none⟩ hzd).trans y1)
    have hx2 := (World.cell?_of_block (a := ⟨w.heap.size, 2, none⟩) (hg3.block w.heap.size (by simp; omega) (fun e => by have := (HND.out w.heap.size e.symm).2.2; omega))).trans ((World.cell?_alloc_lt wd _ ⟨w.heap.size, 2, none⟩ hzd).trans y2)
    obtain ⟨A3, c3, rfl, _, _, _, _⟩ := Row.form hrow3
    have HRW3 := Lib.hid hrow3
    have q3 := HV3.out.cell (j := 3) rfl
    have f3 := HV3.out.frozen 3
    have HV4 := Lib.hid (HV3.out.set 3 (.slice A3 (nm + 1) c3))
    have hc34 : Chg (fun b => b = nb ∨ b = db ∨ (Value.slice Am nm cm).ownBlock = some b) w (w3.setCell ⟨db, 3, none⟩ (.slice A3 (nm + 1) c3)) := HG3.out.setCell (p := ⟨db, 3, none⟩) (fun _ => .inr (.inl rfl)) _
    have hsd : Chg (fun b => b = db) w3 (w3.setCell ⟨db, 3, none⟩ (.slice A3 (nm + 1) c3)) := (show Chg (fun b => b = db) w3 w3 from Chg.refl _ _).setCell (p := ⟨db, 3, none⟩) (fun _ => rfl) _
    have hrow4 : Row (w3.setCell ⟨db, 3, none⟩ (.slice A3 (nm + 1) c3)) 0 3 (.slice A3 (nm + 1) c3) (s.lm ++ [m]).length (movesV F (s.lm ++ [m])) := by
      rw [movesV_snoc, HMV.out, List.length_append, List.length_singleton, ← HNM.out]
      refine HRW3.out.chg hsd (fun b hb e => ?_)
      rcases HO3.out b hb with h | h
      · exact (HND.out b h).2.1 e
      · omega
    have z0 := (World.cell?_setCell_other w3 ⟨db, 3, none⟩ ⟨w.heap.size, 0, none⟩ (.slice A3 (nm + 1) c3) (by simp <;> omega)).trans hx0
    have z1 := (World.cell?_setCell_other w3 ⟨db, 3, none⟩ ⟨w.heap.size, 1, none⟩ (.slice A3 (nm + 1) c3) (by simp <;> omega)).trans hx1
    have z2 := (World.cell?_setCell_other w3 ⟨db, 3, none⟩ ⟨w.heap.size, 2, none⟩ (.slice A3 (nm + 1) c3) (by simp <;> omega)).trans hx2
    have HMW := Lib.hid (HMM.out _ _ (HD3.out.chg hsd (fun e => hnd e)) hrow4 HO3.out HV4.out hc34)
    clear hrow3 hg3 ho3 hown3 hc34 hsd hrow4
    refine hK.out _ _ ?_ (fun hHeld => ?_)
    · (try dsimp only)
      exact ⟨hx0, hx1, hx2⟩
    clear hK K
    (try simp only [Act.put, List.setIfInBounds_toArray, List.set_cons_zero, List.set_cons_succ])
    refine wpAnyH_take (i := 8) (v := ?_) (by simp only [List.getElem?_toArray, List.getElem?_cons_succ, List.getElem?_cons_zero]; exact rfl) (by as_aux_lemma => kernel_rfl) (by as_aux_lemma => kernel_rfl) (by as_aux_lemma => kernel_rfl) (by exact fun _ _ _ h => h) (Or.inl ⟨by rfl, ?_⟩) (by assumption) ?_
    rotate_left
    · intro w hSw
      (try dsimp only at hSw)
      go_simp
      try with_reducible rfl
    (try simp only [Act.put, List.setIfInBounds_toArray, List.set_cons_zero, List.set_cons_succ])
    refine wpAnyH_take (i := 9) (v := ?_) (by simp only [List.getElem?_toArray, List.getElem?_cons_succ, List.getElem?_cons_zero]; exact rfl) (by as_aux_lemma => kernel_rfl) (by as_aux_lemma => kernel_rfl) (by as_aux_lemma => kernel_rfl) (by exact fun _ _ _ h => h) (Or.inl ⟨by rfl, ?_⟩) (by assumption) ?_
    rotate_left
    · intro w hSw
      (try dsimp only at hSw)
      go_simp
      try with_reducible rfl
    (try simp only [Act.put, List.setIfInBounds_toArray, List.set_cons_zero, List.set_cons_succ])
    refine wpAnyH_ready (rs := [10]) (by as_aux_lemma => kernel_rfl) (by simp) ?_
    refine AllReadyH.cons (by simp only [List.getElem?_toArray, List.getElem?_cons_succ, List.getElem?_cons_zero]; exact rfl) (fun K hK => ?_) AllReadyH.nil
    go_simp
    refine hK.out _ _ ?_ (fun hHeld => ?_)
    · (try dsimp only)
      exact ⟨z0, z1, z2⟩
    clear hK K
    (try simp only [Act.put, List.setIfInBounds_toArray, List.set_cons_zero, List.set_cons_succ])
    refine wpAnyH_done (by as_aux_lemma => kernel_rfl) ?_ _
    clear q3 f3 hx0 hx1 hx2 z0 z1 z2 y0 y1 y2
    obtain ⟨ρ', hm4, hst4⟩ := HMW.out
    obtain ⟨rc, hrc⟩ : ∃ rc, rc = (Dsk.done { s with lm := s.lm ++ [m] }).2 := ⟨_, rfl⟩
    have HDN := Lib.hid (HDO.out _ ρ' hm4)
    rw [← hrc] at HDN
    have HRC := Lib.hid hrc
    clear hrc
    have HST := Lib.hid hst4
    clear hm4 hst4
    go_wp2_with (first
      | (go_at_call 39; go_must (refine HDN.out.mono ?_; rintro _ w6 ⟨rfl, hout⟩))
      | fail)
    go_ret
    rw [HMO.out, ← HRC.out]
    exact ⟨rfl, Out.after HST.out hout⟩
end
end Go.Proofs.Ythgeppdoonbkpaa
