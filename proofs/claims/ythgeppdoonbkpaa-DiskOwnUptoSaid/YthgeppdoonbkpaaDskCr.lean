/- a failure of the power. Conditions: sizes. -/
import Derived.Test.YthgeppdoonbkpaaDskApp
import Derived.Deep.RegionHeld3
import Derived.Laws.EntriesVeiled
namespace Go.Proofs.Ythgeppdoonbkpaa
open Go.RowKit Go.Maps Go.WideMaps
set_option maxHeartbeats 2000000 in
set_option maxRecDepth 100000 in
theorem dcrash_up {w : World} {db : Nat} {F : Nat → Nat} {ρ : Roles} {s : Dsk.St} {T : Nat} (hm : Mem w db F ρ s T) (hT : T ≤ 100000) (hdn : s.down = false) {A : Option Addr} {n c : Nat} {cs : List Int} (hrd : Rd w w.heap.size 1 A n (intsV cs)) (hnc : n ≤ c) (hcs : n ≤ 16777216) (hP : 0 < n → ∀ g o, A = some ⟨g, o, none⟩ → ¬ On ρ QC g) :
    Calls Try.prog 18 #[.pointer (some ⟨db, 0, none⟩), .slice A n c] w fun e w' => e = .returned (.tuple #[]) ∧ Out w db ρ (Dsk.crash s cs) T w' := by
  have HST := Lib.hid ((CrS.start hm hrd hnc hP).below ((Below.refl _ _).drew))
  have HM := Lib.hid hm
  have HDR := Lib.hid hm.disk
  obtain ⟨lb, nb, ln, nn, vl, va, hv, ⟨l1, l2, l3⟩, ⟨n1, n2, n3⟩, ⟨m1, m2⟩, ha⟩ := hm.get
  obtain ⟨Am, cm, rfl, hcm1, hcm2, hAm, hrm⟩ := Row.form m1
  have HDN := Lib.hid hdn
  rw [hdn] at hv
  have HV := Lib.hid hv
  have HL1 := Lib.hid l1
  have HL2 : Hid (Dirm (w.alloc (.cells #[.slice A n c] 23)).drew lb ln F s.dl) := Lib.hid (l2.chg (S := fun _ => False) (Chg.of_below (((Below.refl _ _).alloc (Nat.le_refl _) _).drew)) id)
  have HL3 := Lib.hid l3
  have HM1 := Lib.hid m1
  have HRM := Lib.hid hrm
  have HM2 := Lib.hid m2
  have hlb := l2.lt
  have hdb := hv.lt
  have hcl : cs.length ≤ 16777216 := by have := hrd.1; unfold intsV at this; rw [List.length_map] at this; omega
  have hlm : s.lm.length ≤ 100000 := Nat.le_trans HM.out.fit.lm hT
  have e1 := hv.cell (j := 1) rfl
  have e3 := hv.cell (j := 3) rfl
  have e5 := hv.cell (j := 5) rfl
  obtain ⟨nm, hnm⟩ : ∃ nm, nm = s.lm.length := ⟨_, rfl⟩
  rw [← hnm] at e3 hlm
  have HNM := Lib.hid hnm
  have HCH := Lib.hid (dchoose_any HST.out.box nm (by omega) hcl)
  obtain ⟨k1, cs1, hch⟩ : ∃ k1 cs1, Dsk.choice cs nm = (k1, cs1) := ⟨_, _, rfl⟩
  have hk1 := Dsk.choice_le cs nm
  rw [hch] at HCH hk1
  dsimp only at HCH hk1
  have hkc : k1 ≤ cm := by omega
  have HCE := Lib.hid hch
  have HC1 : Hid (cs1.length ≤ 16777216) := Lib.hid (by have := Dsk.choice_len cs nm; rw [hch] at this; exact Nat.le_trans this hcl)
  clear hch hm hv l1 l2 l3 m1 m2 n1 n2 n3 ha hrd hP hcm1 hAm hrm hnm hcl hcm2
  go_enter Try.func18, Try.ntmps18
  have hmf : ∀ fn first cap w, (Instr.makeFunc fn first cap).run Try.prog w = .ok (.func fn first cap) w := fun _ _ _ _ => rfl
  go_upto_region 3 with (fail)
  refine wp_region_held_drew (S := (fun w' => w'.cell? ⟨db, 3, none⟩ = some (.slice Am nm cm))) (by as_aux_lemma => kernel_rfl) ?_ (fun hHeld => ?_)
  · exact (World.cell?_alloc_lt w _ ⟨db, 3, none⟩ hdb).trans e3
  generalize (w.alloc (.cells #[.slice A n c] 23)).drew = w1 at *
  have HS0 : Hid (∀ W, Chg (On ρ QC) w W → W.heap[db]? = w.heap[db]?) := Lib.hid (fun W hW => hW.block db hdb (fun ⟨r, e, q⟩ => by rw [HDR.out] at e; injection e with e; rw [← e] at q; rcases q with q | q | ⟨_, q⟩ <;> cases q))
  have HSL : Hid (∀ W, Chg (On ρ QC) w W → W.cell? ⟨db, 1, none⟩ = some (.map (some lb))) := Lib.hid (fun W hW => (World.cell?_of_block (a := ⟨db, 1, none⟩) (HS0.out W hW)).trans e1)
  have HS1 : Hid (∀ W, Chg (On ρ QC) w W → W.cell? ⟨db, 3, none⟩ = some (.slice Am nm cm)) := Lib.hid (fun W hW => (World.cell?_of_block (a := ⟨db, 3, none⟩) (HS0.out W hW)).trans e3)
  refine wpAnyH_take (i := 0) (v := ?_) (by simp only [List.getElem?_toArray, List.getElem?_cons_zero]; exact rfl) (by as_aux_lemma => kernel_rfl) (by as_aux_lemma => kernel_rfl) (by as_aux_lemma => kernel_rfl) (by exact fun _ _ _ h => h) (Or.inl ⟨by rfl, ?_⟩) (by assumption) ?_
  rotate_left
  · intro w hSw
    (try dsimp only at hSw)
    go_simp
    try with_reducible rfl
  (try simp only [Act.put, List.setIfInBounds_toArray, List.set_cons_zero, List.set_cons_succ])
  refine wpAnyH_take (i := 1) (v := ?_) (by simp only [List.getElem?_toArray, List.getElem?_cons_succ, List.getElem?_cons_zero]; exact rfl) (by as_aux_lemma => kernel_rfl) (by as_aux_lemma => kernel_rfl) (by as_aux_lemma => kernel_rfl) (by exact fun _ _ _ h => h) (Or.inl ⟨by rfl, ?_⟩) (by assumption) ?_
  rotate_left
  · intro w hSw
    (try dsimp only at hSw)
    go_simp
    try with_reducible rfl
  (try simp only [Act.put, List.setIfInBounds_toArray, List.set_cons_zero, List.set_cons_succ])
  refine wpAnyH_take (i := 2) (v := ?_) (by simp only [List.getElem?_toArray, List.getElem?_cons_succ, List.getElem?_cons_zero]; exact rfl) (by as_aux_lemma => kernel_rfl) (by as_aux_lemma => kernel_rfl) (by as_aux_lemma => kernel_rfl) (by exact fun _ _ _ h => h) (Or.inl ⟨by rfl, ?_⟩) (by assumption) ?_
  rotate_left
  · intro w hSw
    (try dsimp only at hSw)
    go_simp
    try with_reducible rfl
  (try simp only [Act.put, List.setIfInBounds_toArray, List.set_cons_zero, List.set_cons_succ])
  refine wpAnyH_take (i := 3) (v := ?_) (by simp only [List.getElem?_toArray, List.getElem?_cons_succ, List.getElem?_cons_zero]; exact rfl) (by as_aux_lemma => kernel_rfl) (by as_aux_lemma => kernel_rfl) (by as_aux_lemma => kernel_rfl) (by exact fun _ _ _ h => h) (Or.inl ⟨by rfl, ?_⟩) (by assumption) ?_
  rotate_left
  · intro w hSw
    (try dsimp only at hSw)
    go_simp
    try with_reducible rfl
  (try simp only [Act.put, List.setIfInBounds_toArray, List.set_cons_zero, List.set_cons_succ])
  refine wpAnyH_take (i := 4) (v := ?_) (by simp only [List.getElem?_toArray, List.getElem?_cons_succ, List.getElem?_cons_zero]; exact rfl) (by as_aux_lemma => kernel_rfl) (by as_aux_lemma => kernel_rfl) (by as_aux_lemma => kernel_rfl) (by exact fun _ _ _ h => h) (Or.inl ⟨by rfl, ?_⟩) (by assumption) ?_
  rotate_left
  · intro w hSw
    (try dsimp only at hSw)
    go_simp
    try with_reducible rfl
  (try simp only [Act.put, List.setIfInBounds_toArray, List.set_cons_zero, List.set_cons_succ])
  refine wpAnyH_take (i := 5) (v := ?_) (by simp only [List.getElem?_toArray, List.getElem?_cons_succ, List.getElem?_cons_zero]; exact rfl) (by as_aux_lemma => kernel_rfl) (by as_aux_lemma => kernel_rfl) (by as_aux_lemma => kernel_rfl) (by exact fun _ _ _ h => h) (Or.inl ⟨by rfl, ?_⟩) (by assumption) ?_
  rotate_left
  · intro w hSw
    (try dsimp only at hSw)
    go_simp
    try with_reducible rfl
  (try simp only [Act.put, List.setIfInBounds_toArray, List.set_cons_zero, List.set_cons_succ])
  refine wpAnyH_take (i := 6) (v := ?_) (by simp only [List.getElem?_toArray, List.getElem?_cons_succ, List.getElem?_cons_zero]; exact rfl) (by as_aux_lemma => kernel_rfl) (by as_aux_lemma => kernel_rfl) (by as_aux_lemma => kernel_rfl) (by exact fun _ _ _ h => h) (Or.inl ⟨by rfl, ?_⟩) (by assumption) ?_
  rotate_left
  · intro w hSw
    (try dsimp only at hSw)
    go_simp
    try with_reducible rfl
  (try simp only [Act.put, List.setIfInBounds_toArray, List.set_cons_zero, List.set_cons_succ])
  refine wpAnyH_take (i := 7) (v := ?_) (by simp only [List.getElem?_toArray, List.getElem?_cons_succ, List.getElem?_cons_zero]; exact rfl) (by as_aux_lemma => kernel_rfl) (by as_aux_lemma => kernel_rfl) (by as_aux_lemma => kernel_rfl) (by exact fun _ _ _ h => h) (Or.inl ⟨by rfl, ?_⟩) (by assumption) ?_
  rotate_left
  · intro w hSw
    (try dsimp only at hSw)
    go_simp
    try with_reducible rfl
  (try simp only [Act.put, List.setIfInBounds_toArray, List.set_cons_zero, List.set_cons_succ])
  refine wpAnyH_take (i := 8) (v := ?_) (by simp only [List.getElem?_toArray, List.getElem?_cons_succ, List.getElem?_cons_zero]; exact rfl) (by as_aux_lemma => kernel_rfl) (by as_aux_lemma => kernel_rfl) (by as_aux_lemma => kernel_rfl) (by exact fun _ _ _ h => h) (Or.inl ⟨by rfl, ?_⟩) (by assumption) ?_
  rotate_left
  · intro w hSw
    (try dsimp only at hSw)
    go_simp
    try with_reducible rfl
  (try simp only [Act.put, List.setIfInBounds_toArray, List.set_cons_zero, List.set_cons_succ])
  refine wpAnyH_take (i := 9) (v := ?_) (by simp only [List.getElem?_toArray, List.getElem?_cons_succ, List.getElem?_cons_zero]; exact rfl) (by as_aux_lemma => kernel_rfl) (by as_aux_lemma => kernel_rfl) (by as_aux_lemma => kernel_rfl) (by exact fun _ _ _ h => h) (Or.inl ⟨by rfl, ?_⟩) (by assumption) ?_
  rotate_left
  · intro w hSw
    (try dsimp only at hSw)
    go_simp
    try with_reducible rfl
  (try simp only [Act.put, List.setIfInBounds_toArray, List.set_cons_zero, List.set_cons_succ])
  refine wpAnyH_take (i := 13) (v := ?_) (by simp only [List.getElem?_toArray, List.getElem?_cons_succ, List.getElem?_cons_zero]; exact rfl) (by as_aux_lemma => kernel_rfl) (by as_aux_lemma => kernel_rfl) (by as_aux_lemma => kernel_rfl) (by exact fun _ _ _ h => h) (Or.inl ⟨by rfl, ?_⟩) (by assumption) ?_
  rotate_left
  · intro w hSw
    (try dsimp only at hSw)
    go_simp
    try with_reducible rfl
  (try simp only [Act.put, List.setIfInBounds_toArray, List.set_cons_zero, List.set_cons_succ])
  refine wpAnyH_ready (rs := [10]) (by as_aux_lemma => kernel_rfl) (by simp) ?_
  refine AllReadyH.cons (by simp only [List.getElem?_toArray, List.getElem?_cons_succ, List.getElem?_cons_zero]; exact rfl) (fun K hK => ?_) AllReadyH.nil
  go_simp
  (go_at_call 42; refine HCH.out.mono ?_; rintro _ w2 ⟨rfl, hbx2, hc2⟩)
  have HS2 := Lib.hid (HST.out.choose hc2 hbx2)
  have q3 := HS1.out _ HS2.out.step.chg
  have HL4 := Lib.hid (HL2.out.chg hc2 (by omega))
  refine hK.out _ _ ?_ (fun hHeld => ?_)
  · (try dsimp only)
    exact q3
  clear hK K
  (try simp only [Act.put, List.setIfInBounds_toArray, List.set_cons_zero, List.set_cons_succ])
  refine wpAnyH_take (i := 11) (v := ?_) (by simp only [List.getElem?_toArray, List.getElem?_cons_succ, List.getElem?_cons_zero]; exact rfl) (by as_aux_lemma => kernel_rfl) (by as_aux_lemma => kernel_rfl) (by as_aux_lemma => kernel_rfl) (by exact fun _ _ _ h => h) (Or.inl ⟨by rfl, ?_⟩) (by assumption) ?_
  rotate_left
  · intro w hSw
    (try dsimp only at hSw)
    go_simp
    try with_reducible rfl
  (try simp only [Act.put, List.setIfInBounds_toArray, List.set_cons_zero, List.set_cons_succ])
  refine wpAnyH_take (i := 12) (v := ?_) (by simp only [List.getElem?_toArray, List.getElem?_cons_succ, List.getElem?_cons_zero]; exact rfl) (by as_aux_lemma => kernel_rfl) (by as_aux_lemma => kernel_rfl) (by as_aux_lemma => kernel_rfl) (by exact fun _ _ _ h => h) (Or.inl ⟨by rfl, ?_⟩) (by assumption) ?_
  rotate_left
  · intro w hSw
    (try dsimp only at hSw)
    go_simp
    try with_reducible rfl
  (try simp only [Act.put, List.setIfInBounds_toArray, List.set_cons_zero, List.set_cons_succ])
  refine wpAnyH_done (by as_aux_lemma => kernel_rfl) ?_ _
  clear HCH hc2 hbx2 HL2 HST
  go_wp2
  go_loopw [35] (fun kk wr => ∃ k : Nat, k ≤ k1 ∧ kk = .int .i64 k ∧ Dirm wr lb (ln + k) F (Dsk.names s k) ∧ CrS w ρ F (Dsk.Reach s) (Dsk.fil s) (fun i => (Dsk.fil s i).now) cs1 wr) (fun kk _ => k1 - (intOf kk).toNat)
  case atStart => exact ⟨0, Nat.zero_le _, rfl, HL4.out, HS2.out⟩
  case round =>
    obtain ⟨k, hk, rfl, hd, hs⟩ := hrel
    have HD := Lib.hid hd
    have HS := Lib.hid hs
    have hq1 := HS1.out _ hs.step.chg
    have hlr := hs.lt
    by_cases hlt : k < k1
    · obtain ⟨m, hmk⟩ : ∃ m, s.lm[k]? = some m := ⟨_, List.getElem?_eq_getElem (by have := HNM.out; omega)⟩
      obtain ⟨g, o, rfl, hg, hcell⟩ := HRM.out.2 (by have := HNM.out; omega)
      have hgl : wr.heap[g]? = w.heap[g]? := hs.step.lies.block hg (HM2.out g rfl) (by rintro (q | q | ⟨_, q⟩) <;> cases q)
      obtain ⟨P, hP⟩ := mvP_ptr F m
      have r1 : World.rangeAt wr g (o + k * 3) [.string (strB m.fr), .string (strB m.to), .pointer P] := fun j u hu => by
        rw [← hP] at hu
        have := hcell (k * 3 + j) u (movesV_get F s.lm k m hmk j u hu)
        rw [← Nat.add_assoc] at this
        exact (World.cell?_of_block (w := w) (a := ⟨g, o + k * 3 + j, none⟩) hgl).trans this
      have HAP : Hid (∀ W, Dirm W lb (ln + k) F (Dsk.names s k) → Calls Try.prog 43 #[.agg #[.string (strB m.fr), .string (strB m.to), .pointer P], .map (some lb)] W fun e w' => e = .returned (.tuple #[]) ∧ Dirm w' lb (ln + (k + 1)) F (Dsk.names s (k + 1)) ∧ Chg (fun k => k = lb) W w') := Lib.hid (fun W hW => by
        have hmv := HM.out.fit.mvs k m hmk
        rw [Dsk.names_succ hmk, ← hP]
        exact dapply_any hW (by have := HL3.out; have := HNM.out; omega) m hmv.1 hmv.2.1 hmv.2.2.1 hmv.2.2.2)
      generalize strB m.fr = fr at *
      generalize strB m.to = tt at *
      have hclt : (k : Int) < (k1 : Int) := by omega
      clear hmk hcell hgl hP hd
      go_upto_region 6 with (first
        | (refine wpList_load_mid rfl 73 (.tmp 37) rfl g (o + k * 3) rfl _ _ r1 Try.underlying73 rfl (by kernel_rfl) ?_)
        | fail)
      have q1 : wr.cell? ⟨db, 1, none⟩ = some (.map (some lb)) := HSL.out _ HS.out.step.chg
      refine wp_region_held_drew (S := (fun w' => w'.cell? ⟨wr.heap.size, 0, none⟩ = some (.string fr) ∧ w'.cell? ⟨wr.heap.size, 1, none⟩ = some (.string tt) ∧ w'.cell? ⟨wr.heap.size, 2, none⟩ = some (.pointer P) ∧ w'.cell? ⟨db, 1, none⟩ = some (.map (some lb)))) (by as_aux_lemma => kernel_rfl) ?_ (fun hHeld => ?_)
      · exact ⟨by simp, by simp, by simp, (World.cell?_alloc_lt wr _ ⟨db, 1, none⟩ (by show db < _; omega)).trans q1⟩
      refine wpAnyH_take (i := 0) (v := ?_) (by simp only [List.getElem?_toArray, List.getElem?_cons_zero]; exact rfl) (by as_aux_lemma => kernel_rfl) (by as_aux_lemma => kernel_rfl) (by as_aux_lemma => kernel_rfl) (by exact fun _ _ _ h => h) (Or.inl ⟨by rfl, ?_⟩) (by assumption) ?_
      rotate_left
      · intro w hSw
        (try dsimp only at hSw)
        go_simp
        try with_reducible rfl
      (try simp only [Act.put, List.setIfInBounds_toArray, List.set_cons_zero, List.set_cons_succ])
      refine wpAnyH_take (i := 1) (v := ?_) (by simp only [List.getElem?_toArray, List.getElem?_cons_succ, List.getElem?_cons_zero]; exact rfl) (by as_aux_lemma => kernel_rfl) (by as_aux_lemma => kernel_rfl) (by as_aux_lemma => kernel_rfl) (by exact fun _ _ _ h => h) (Or.inl ⟨by rfl, ?_⟩) (by assumption) ?_
      rotate_left
      · intro w hSw
        (try dsimp only at hSw)
        go_simp
        try with_reducible rfl
      (try simp only [Act.put, List.setIfInBounds_toArray, List.set_cons_zero, List.set_cons_succ])
      refine wpAnyH_take (i := 2) (v := ?_) (by simp only [List.getElem?_toArray, List.getElem?_cons_succ, List.getElem?_cons_zero]; exact rfl) (by as_aux_lemma => kernel_rfl) (by as_aux_lemma => kernel_rfl) (by as_aux_lemma => kernel_rfl) (by exact fun _ _ _ h => h) (Or.inl ⟨by rfl, ?_⟩) (by assumption) ?_
      rotate_left
      · intro w hSw
        (try dsimp only at hSw)
        go_simp
        try with_reducible rfl
      (try simp only [Act.put, List.setIfInBounds_toArray, List.set_cons_zero, List.set_cons_succ])
      refine wpAnyH_take (i := 3) (v := ?_) (by simp only [List.getElem?_toArray, List.getElem?_cons_succ, List.getElem?_cons_zero]; exact rfl) (by as_aux_lemma => kernel_rfl) (by as_aux_lemma => kernel_rfl) (by as_aux_lemma => kernel_rfl) (by exact fun _ _ _ h => h) (Or.inl ⟨by rfl, ?_⟩) (by assumption) ?_
      rotate_left
      · intro w hSw
        (try dsimp only at hSw)
        go_simp
        try with_reducible rfl
      (try simp only [Act.put, List.setIfInBounds_toArray, List.set_cons_zero, List.set_cons_succ])
      refine wpAnyH_take (i := 4) (v := ?_) (by simp only [List.getElem?_toArray, List.getElem?_cons_succ, List.getElem?_cons_zero]; exact rfl) (by as_aux_lemma => kernel_rfl) (by as_aux_lemma => kernel_rfl) (by as_aux_lemma => kernel_rfl) (by exact fun _ _ _ h => h) (Or.inl ⟨by rfl, ?_⟩) (by assumption) ?_
      rotate_left
      · intro w hSw
        (try dsimp only at hSw)
        go_simp
        try with_reducible rfl
      (try simp only [Act.put, List.setIfInBounds_toArray, List.set_cons_zero, List.set_cons_succ])
      have HBA := Lib.hid ((((Below.refl wr.heap.size wr).alloc (Nat.le_refl _) (.cells #[.string fr, .string tt, .pointer P] 73)).drew))
      have HAW := Lib.hid (HAP.out _ (HD.out.chg (S := fun _ => False) (Chg.of_below HBA.out) id))
      have HSA := Lib.hid (HS.out.below HBA.out)
      have hzA := HBA.out.size
      refine wpAnyH_ready (rs := [5]) (by as_aux_lemma => kernel_rfl) (by simp) ?_
      refine AllReadyH.cons (by simp only [List.getElem?_toArray, List.getElem?_cons_succ, List.getElem?_cons_zero]; exact rfl) (fun K hK => ?_) AllReadyH.nil
      go_simp
      (go_at_call 43; refine HAW.out.mono ?_; rintro _ w5 ⟨rfl, hd5, hc5⟩)
      have HS5 := Lib.hid (HSA.out.lasts (by omega) HL1.out hc5)
      have hx5 := hc5.block wr.heap.size (by simp) (by omega)
      refine hK.out _ _ ?_ (fun hHeld => ?_)
      · (try dsimp only)
        exact ⟨(World.cell?_of_block (a := ⟨wr.heap.size, 0, none⟩) hx5).trans (by simp), (World.cell?_of_block (a := ⟨wr.heap.size, 1, none⟩) hx5).trans (by simp), (World.cell?_of_block (a := ⟨wr.heap.size, 2, none⟩) hx5).trans (by simp), HSL.out _ HS5.out.step.chg⟩
      clear hK K
      (try simp only [Act.put, List.setIfInBounds_toArray, List.set_cons_zero, List.set_cons_succ])
      refine wpAnyH_done (by as_aux_lemma => kernel_rfl) ?_ _
      go_wp2
      go_roundw
      case rel => exact ⟨k + 1, by omega, by go_num, hd5, HS5.out⟩
      case measure => simp [intOf]; omega
    · obtain rfl : k = k1 := by omega
      have hend : ¬ (k : Int) < (k : Int) := by omega
      obtain ⟨L, hL⟩ : ∃ L, L = Dsk.names s k := ⟨_, rfl⟩
      rw [← hL] at hd HD
      have hLl : L.length ≤ ln + k := by have := World.ownsMap.size_le hd; rw [Dsk.mapD_size] at this; exact this
      have hLs : L.length ≤ 100000 := by have := HL3.out; have := HNM.out; omega
      have hrise : Dsk.Rise L := by rw [hL]; exact HM.out.fit.names_rise k
      have HRI := Lib.hid hrise
      have HLE := Lib.hid hL
      have HKY := Lib.hid (dkeys_any (some lb) wr)
      have HSO := Lib.hid (dsorted_any hd hrise (by omega))
      have q1 := HSL.out _ hs.step.chg
      obtain ⟨nL, hnL⟩ : ∃ nL, nL = L.length := ⟨_, rfl⟩
      have HNL := Lib.hid hnL
      rw [← hnL] at HSO hLs
      have HLL := Lib.hid hLl
      clear hLl hL hnL hrise hd hs hq1
      obtain ⟨wo, rfl⟩ : ∃ wo : World, wo = wr := ⟨_, rfl⟩
      go_wp2_with (first
        | (go_at_call 45; go_must (refine HKY.out.mono ?_; rintro _ w7 ⟨rfl, rfl⟩))
        | (go_at_call 44; go_must (refine HSO.out.mono ?_; rintro _ w8 ⟨v8, rfl, hr8, _, hb8⟩; obtain ⟨A8, c8, rfl, _, _, _, hrd8⟩ := Row.form hr8))
        | fail)
      have HR8 : Hid (∀ W, Chg (fun q => q ≤ w.heap.size) w8 W → ∀ j : Nat, j < nL → ∃ g o, A8 = some ⟨g, o, none⟩ ∧ ∀ u, (namesV (L.map (·.1)))[j]? = some u → W.cell? ⟨g, o + j, none⟩ = some u) := Lib.hid (fun W hW j hj => by
        obtain ⟨g, o, e, hg, hc⟩ := hrd8.2 (by omega)
        have hgl := (Row.lt hr8 g (by rw [e]; rfl)).1
        have := HS.out.lt
        exact ⟨g, o, e, fun u hu => (World.cell?_of_block (a := ⟨g, o + j, none⟩) (hW.block g hg (by omega))).trans (hc j u hu)⟩)
      have HB8 := Lib.hid (((Below.refl wo.heap.size wo).alloc (Nat.le_refl _) (.cells #[.map (some lb)] 61)).trans (hb8.mono (by simp)))
      have HS8 := Lib.hid (HS.out.below HB8.out)
      have HD8 := Lib.hid (HD.out.chg (S := fun _ => False) (Chg.of_below HB8.out) id)
      have HSZ := Lib.hid HM.out.fit.reach
      clear hr8 hrd8 hb8 q1 HKY HSO
      go_loopw [53] (fun kk wr => ∃ (j : Nat) (fsj : List Dsk.Fi) (csj : List Int), j ≤ nL ∧ kk = .int .i64 j ∧ Dsk.crashD (L.take j) s.fs cs1 = (fsj, csj) ∧ CrS w ρ F (Dsk.Reach s) (fun i => fsj.getD i default) (fun i => (fsj.getD i default).now) csj wr ∧ Dirm wr lb (ln + k) F L ∧ Chg (fun q => q ≤ w.heap.size) w8 wr) (fun kk _ => nL - (intOf kk).toNat)
      case atStart => exact ⟨0, s.fs, cs1, Nat.zero_le _, rfl, rfl, HS8.out, HD8.out, Chg.refl _ _⟩
      case round =>
        obtain ⟨j, fsj, csj, hj, rfl, hfs, hs, hd, hc⟩ := hrel
        have HFS := Lib.hid hfs
        have HSJ := Lib.hid hs
        have HDJ := Lib.hid hd
        have HCJ := Lib.hid hc
        by_cases hlt : j < nL
        · have hjL : j < L.length := by have := HNL.out; omega
          obtain ⟨p, hp⟩ : ∃ p, p = L[j] := ⟨_, rfl⟩
          have hpm : p ∈ L := by rw [hp]; exact List.getElem_mem hjL
          have hgt : Dsk.get L p.1 = some p.2 := Dsk.mem_get HRI.out hpm
          have hi : Dsk.Reach s p.2 := Dsk.names_reach (k := k) (by rw [← HLE.out]; exact hpm)
          have hnl64 : p.1.length ≤ 64 := HM.out.fit.names_len (k := k) (by rw [← HLE.out]; exact hpm)
          obtain ⟨g8, o8, rfl, hc8⟩ := HR8.out wr hc j hlt
          have n1 : wr.cell? ⟨g8, o8 + j, none⟩ = some (.string (strB p.1)) := hc8 _ (by unfold namesV strV; rw [List.getElem?_map, List.getElem?_map, List.getElem?_eq_getElem hjL, ← hp]; rfl)
          have HNX := Lib.hid (Dsk.crashD_snoc L j hjL s.fs cs1)
          rw [← hp, hfs] at HNX
          have hlk := dir_get hd (strB p.1) (by rw [strB_size]; unfold maxLen; omega)
          rw [strB_list, hgt] at hlk
          dsimp only at hlk
          have hlb1 := HSL.out _ hs.step.chg
          have HI := Lib.hid hi
          have HFL := Lib.hid (HM.out.file p.2 hi).lt
          obtain ⟨v0, v1, v2, hvf, hb0, hb1, hcr⟩ := (hs.file p.2 hi).get
          obtain ⟨A0, c0, e0⟩ := hb0.slice
          obtain ⟨A1, c1, e1'⟩ := hb1.slice
          obtain ⟨A2, c2, e2, hlc, hA2, _⟩ := hcr.at
          have hgood : Dsk.Good (fsj.getD p.2 default) := by
            have := Dsk.crashD_all (P := Dsk.Good) (fun f cs hf => Dsk.crashF_good hf cs) (i := p.2) (L.take j) s.fs cs1 (HM.out.fit.good p.2 hi)
            rw [hfs] at this
            exact this
          have hloo : (fsj.getD p.2 default).loo.length ≤ 100000 := by
            have := Dsk.crashD_all (P := fun f => f.loo.length ≤ 100000) (fun f cs _ => by rw [Dsk.crashF_loo]; exact Nat.zero_le _) (i := p.2) (L.take j) s.fs cs1 (Nat.le_trans (HM.out.fit.loo p.2 hi) hT)
            rw [hfs] at this
            exact this
          have hcsj : csj.length ≤ 16777216 := by
            have := Dsk.crashD_cslen (L.take j) s.fs cs1
            rw [hfs] at this
            exact Nat.le_trans this HC1.out
          generalize strB p.1 = nms at *
          obtain ⟨f, hf⟩ : ∃ f, f = fsj.getD p.2 default := ⟨_, rfl⟩
          obtain ⟨fb, hfb⟩ : ∃ fb, fb = F p.2 := ⟨_, rfl⟩
          rw [← hf] at hb0 hb1 hcr e0 e1' e2 hlc hA2 hgood hloo HNX
          rw [← hfb] at hlk hvf HFL
          obtain ⟨nl, hnl⟩ : ∃ nl, nl = f.loo.length := ⟨_, rfl⟩
          obtain ⟨x0, hx0⟩ : ∃ x0, x0 = f.las.length := ⟨_, rfl⟩
          rw [← hnl] at e2 hlc hA2 hloo
          rw [← hx0] at e0
          have HS12 := Lib.hid (hs.now hi (v := v0) (l := f.las) (by exact hb0))
          rw [← hfb] at HS12
          have HV12 := Lib.hid (hvf.set 1 v0)
          have HC12 : Hid (Chg (fun q => q ≤ w.heap.size) w8 (wr.setCell ⟨fb, 1, none⟩ v0)) := Lib.hid (hc.setCell (p := ⟨fb, 1, none⟩) (fun _ => by have := HFL.out; show fb ≤ _; omega) v0)
          have HD12 : Hid (Dirm (wr.setCell ⟨fb, 1, none⟩ v0) lb (ln + k) F L) := Lib.hid (hd.chg (S := fun q => q = fb) ((show Chg (fun q => q = fb) wr wr from Chg.refl _ _).setCell (p := ⟨fb, 1, none⟩) (fun _ => rfl) _) (fun e => by
            have h1 := (hs.file p.2 hi).role
            have h2 := HL1.out
            rw [← hfb, ← e, crR_old hlb, h2] at h1
            injection h1 with h1
            cases h1))
          have HLF : Hid (¬ lb = fb) := Lib.hid (fun e => by
            have h1 := (hs.file p.2 hi).role
            have h2 := HL1.out
            rw [← hfb, ← e, crR_old hlb, h2] at h1
            injection h1 with h1
            cases h1)
          have HNL2 := Lib.hid hnl
          have HX0 := Lib.hid hx0
          have HF := Lib.hid hf
          have HFB := Lib.hid hfb
          have HG := Lib.hid hgood
          have f0 := hvf.cell (j := 0) rfl
          have f1 := hvf.cell (j := 1) rfl
          have f2 := hvf.cell (j := 2) rfl
          have fz1 := hvf.frozen 1
          subst e0 e1' e2
          clear hfs hs hd hc hpm hgt hi hc8 hvf hb0 hb1 hcr hgood hf hfb hnl hx0 hp hjL hnl64
          go_upto_region 13 with (fail)
          have HCJ2 := Lib.hid (dchoose_any HS12.out.box nl (by omega) hcsj)
          obtain ⟨kf, csf, hchf⟩ : ∃ kf csf, Dsk.choice csj nl = (kf, csf) := ⟨_, _, rfl⟩
          have hkf := Dsk.choice_le csj nl
          have hcsf := Dsk.choice_len csj nl
          rw [hchf] at HCJ2 hkf hcsf
          dsimp only at HCJ2 hkf hcsf
          have HCF := Lib.hid hchf
          have HLE2 := Lib.hid hcsf
          have hfb3 := HV12.out.cell (j := 2) rfl
          have HSL12 := Lib.hid (HSL.out _ HS12.out.step.chg)
          have hbxf : w.heap.size ≠ fb := by have := HFL.out; omega
          generalize wr.setCell ⟨fb, 1, none⟩ (.slice A0 x0 c0) = w12 at *
          clear hchf f0 f1 f2 fz1 n1 hlk hlb1 hcsf
          go_upto_region 14 with (first
            | (go_at_call 42; go_must (refine HCJ2.out.mono ?_; rintro _ w13 ⟨rfl, hbx13, hc13⟩))
            | fail)
          have HV13 : Hid (Var w13 fb 71 [.slice A0 x0 c0, .slice A0 x0 c0, .slice A2 nl c2]) := Lib.hid ((hc13.block fb HV12.out.lt (fun e => hbxf e.symm)).trans HV12.out)
          have HS13 := Lib.hid (HS12.out.choose hc13 hbx13)
          have HC13 : Hid (Chg (fun q => q ≤ w.heap.size) w8 w13) := Lib.hid (HC12.out.trans hc13 (fun _ _ e => by rw [e]; exact Nat.le_refl _))
          have HD13 := Lib.hid (HD12.out.chg hc13 (by omega))
          have q2 := HV13.out.cell (j := 2) rfl
          have hkc2 : kf ≤ c2 := by omega
          clear hbx13 hc13 HV12 HS12 HC12 HD12 HCJ2 hfb3
          go_wp2
          go_loopw [84] (fun kk wz => ∃ q : Nat, q ≤ kf ∧ kk = .int .i64 q ∧ CrS w ρ F (Dsk.Reach s) (fun i => fsj.getD i default) (fun x => if x = p.2 then f.bytes q else (fsj.getD x default).now) csf wz ∧ Dirm wz lb (ln + k) F L ∧ Chg (fun q => q ≤ w.heap.size) w8 wz ∧ wz.cell? ⟨fb, 2, none⟩ = some (.slice A2 nl c2)) (fun kk _ => kf - (intOf kk).toNat)
          case atStart => exact ⟨0, Nat.zero_le _, rfl, HS13.out, HD13.out, HC13.out, q2⟩
          case round =>
            obtain ⟨q, hq, rfl, hs, hd, hc, h2⟩ := hrel
            have HSZ2 := Lib.hid hs
            have HDZ := Lib.hid hd
            have HCZ := Lib.hid hc
            by_cases hlt : q < kf
            · have hql : q < f.loo.length := by have := HNL2.out; omega
              obtain ⟨ch, hch⟩ : ∃ ch, f.loo[q]? = some ch := ⟨_, List.getElem?_eq_getElem hql⟩
              obtain ⟨u0, u1, u2, hvz, hz0, hz1, hzr⟩ := (hs.file p.2 HI.out).get
              rw [← HF.out] at hz0 hzr
              rw [← HFB.out] at hvz
              rw [if_pos rfl] at hz1
              have e := (hvz.cell (j := 2) rfl).symm.trans h2
              injection e with e
              subst e
              obtain ⟨A1, c1, e⟩ := hz1.slice
              subst e
              obtain ⟨y1, hy1⟩ : ∃ y1, y1 = (f.bytes q).length := ⟨_, rfl⟩
              rw [← hy1] at hz1 hvz
              have HY1 := Lib.hid hy1
              obtain ⟨A2', c2', e, _, _, hat⟩ := hzr.at
              injection e with e e4 e5
              clear e4 e5
              subst e
              obtain ⟨g2, o2, sz, fv, rfl, ⟨hg2, _⟩, hcv, t0, t1⟩ := hat q ch hch
              have hfit := HG.out.fits q ch hch
              have hlen := HG.out.bytes_len q
              have hbW : Below wr.heap.size wr (wr.alloc (.cells #[sz, fv] 81)).drew := ((Below.refl wr.heap.size wr).alloc (Nat.le_refl _) _).drew
              have hlW := hs.lies (S := fun _ => False) (Q := fun _ => False) (Chg.of_below hbW) (fun _ _ e => e.elim)
              obtain ⟨z, rfl, hdo⟩ := ddoes_all (hcv.keep hlW id) (hz1.keep hlW id) hfit hlen
              have HVZ := Lib.hid hvz
              have HFIT := Lib.hid (Dsk.bytes_succ hch)
              have g1 := hvz.cell (j := 1) rfl
              have hfbl := hvz.lt
              have HBW := Lib.hid hbW
              have r1 : World.rangeAt wr g2 (o2 + q * 2) [.int .i64 z, fv] := fun jj u hu => by
                rcases jj with _ | _ | jj
                · injection hu with hu; subst hu; exact t0
                · injection hu with hu; subst hu; exact t1
                · cases hu
              have hclt : (q : Int) < (kf : Int) := by omega
              have HH2 := Lib.hid h2
              clear hs hd hc h2 hch hvz hz0 hz1 hzr hat hg2 hcv t0 t1 hfit hlen hbW hlW hy1 hql
              rcases hdo with ⟨xa, xo, rfl, hdo⟩ | ⟨xa, rfl, hdo⟩
              · have HDO := Lib.hid hdo
                clear hdo
                go_upto_region 17 with (first
                  | (refine wpList_load_mid rfl 81 (.tmp 86) rfl g2 (o2 + q * 2) rfl _ _ r1 Try.underlying81 rfl (by kernel_rfl) ?_)
                  | fail)
                refine wp_region_held_drew (S := (fun w' => w'.cell? ⟨wr.heap.size, 0, none⟩ = some (.int .i64 z) ∧ w'.cell? ⟨wr.heap.size, 1, none⟩ = some (.func (.func 35) #[] #[.pointer (some ⟨xa, 0, none⟩), .pointer (some ⟨xo, 0, none⟩)]))) (by as_aux_lemma => kernel_rfl) ?_ (fun hHeld => ?_)
                · exact ⟨by simp, by simp⟩
                have g1W : (wr.alloc (.cells #[.int .i64 z, .func (.func 35) #[] #[.pointer (some ⟨xa, 0, none⟩), .pointer (some ⟨xo, 0, none⟩)]] 81)).drew.cell? ⟨fb, 1, none⟩ = some (.slice A1 y1 c1) := (World.cell?_alloc_lt wr _ ⟨fb, 1, none⟩ (by show fb < _; omega)).trans g1
                refine wpAnyH_take (i := 0) (v := ?_) (by simp only [List.getElem?_toArray, List.getElem?_cons_zero]; exact rfl) (by as_aux_lemma => kernel_rfl) (by as_aux_lemma => kernel_rfl) (by as_aux_lemma => kernel_rfl) (by exact fun _ _ _ h => h) (Or.inl ⟨by rfl, ?_⟩) (by assumption) ?_
                rotate_left
                · intro w hSw
                  (try dsimp only at hSw)
                  go_simp
                  try with_reducible rfl
                (try simp only [Act.put, List.setIfInBounds_toArray, List.set_cons_zero, List.set_cons_succ])
                refine wpAnyH_take (i := 1) (v := ?_) (by simp only [List.getElem?_toArray, List.getElem?_cons_succ, List.getElem?_cons_zero]; exact rfl) (by as_aux_lemma => kernel_rfl) (by as_aux_lemma => kernel_rfl) (by as_aux_lemma => kernel_rfl) (by exact fun _ _ _ h => h) (Or.inl ⟨by rfl, ?_⟩) (by assumption) ?_
                rotate_left
                · intro w hSw
                  (try dsimp only at hSw)
                  go_simp
                  try with_reducible rfl
                (try simp only [Act.put, List.setIfInBounds_toArray, List.set_cons_zero, List.set_cons_succ])
                refine wpAnyH_take (i := 2) (v := ?_) (by simp only [List.getElem?_toArray, List.getElem?_cons_succ, List.getElem?_cons_zero]; exact rfl) (by as_aux_lemma => kernel_rfl) (by as_aux_lemma => kernel_rfl) (by as_aux_lemma => kernel_rfl) (by exact fun _ _ _ h => h) (Or.inl ⟨by rfl, ?_⟩) (by assumption) ?_
                rotate_left
                · intro w hSw
                  (try dsimp only at hSw)
                  go_simp
                  try with_reducible rfl
                (try simp only [Act.put, List.setIfInBounds_toArray, List.set_cons_zero, List.set_cons_succ])
                refine wpAnyH_take (i := 3) (v := ?_) (by simp only [List.getElem?_toArray, List.getElem?_cons_succ, List.getElem?_cons_zero]; exact rfl) (by as_aux_lemma => kernel_rfl) (by as_aux_lemma => kernel_rfl) (by as_aux_lemma => kernel_rfl) (by exact fun _ _ _ h => h) (Or.inl ⟨by rfl, ?_⟩) (by assumption) ?_
                rotate_left
                · intro w hSw
                  (try dsimp only at hSw)
                  go_simp
                  try with_reducible rfl
                (try simp only [Act.put, List.setIfInBounds_toArray, List.set_cons_zero, List.set_cons_succ])
                refine wpAnyH_take (i := 4) (v := ?_) (by simp only [List.getElem?_toArray, List.getElem?_cons_succ, List.getElem?_cons_zero]; exact rfl) (by as_aux_lemma => kernel_rfl) (by as_aux_lemma => kernel_rfl) (by as_aux_lemma => kernel_rfl) (by exact fun _ _ _ h => h) (Or.inl ⟨by rfl, ?_⟩) (by assumption) ?_
                rotate_left
                · intro w hSw
                  (try dsimp only at hSw)
                  go_simp
                  try with_reducible rfl
                (try simp only [Act.put, List.setIfInBounds_toArray, List.set_cons_zero, List.set_cons_succ])
                refine wpAnyH_take (i := 5) (v := ?_) (by simp only [List.getElem?_toArray, List.getElem?_cons_succ, List.getElem?_cons_zero]; exact rfl) (by as_aux_lemma => kernel_rfl) (by as_aux_lemma => kernel_rfl) (by as_aux_lemma => kernel_rfl) (by exact fun _ _ _ h => h) (Or.inl ⟨by rfl, ?_⟩) (by assumption) ?_
                rotate_left
                · intro w hSw
                  (try dsimp only at hSw)
                  go_simp
                  try with_reducible rfl
                (try simp only [Act.put, List.setIfInBounds_toArray, List.set_cons_zero, List.set_cons_succ])
                refine wpAnyH_take (i := 7) (v := ?_) (by simp only [List.getElem?_toArray, List.getElem?_cons_succ, List.getElem?_cons_zero]; exact rfl) (by as_aux_lemma => kernel_rfl) (by as_aux_lemma => kernel_rfl) (by as_aux_lemma => kernel_rfl) (by exact fun _ _ _ h => h) (Or.inl ⟨by rfl, ?_⟩) (by assumption) ?_
                rotate_left
                · intro w hSw
                  (try dsimp only at hSw)
                  go_simp
                  try with_reducible rfl
                (try simp only [Act.put, List.setIfInBounds_toArray, List.set_cons_zero, List.set_cons_succ])
                refine wpAnyH_take (i := 8) (v := ?_) (by simp only [List.getElem?_toArray, List.getElem?_cons_succ, List.getElem?_cons_zero]; exact rfl) (by as_aux_lemma => kernel_rfl) (by as_aux_lemma => kernel_rfl) (by as_aux_lemma => kernel_rfl) (by exact fun _ _ _ h => h) (Or.inl ⟨by rfl, ?_⟩) (by assumption) ?_
                rotate_left
                · intro w hSw
                  (try dsimp only at hSw)
                  go_simp
                  try with_reducible rfl
                (try simp only [Act.put, List.setIfInBounds_toArray, List.set_cons_zero, List.set_cons_succ])
                refine wpAnyH_ready (rs := [6]) (by as_aux_lemma => kernel_rfl) (by simp) ?_
                refine AllReadyH.cons (by simp only [List.getElem?_toArray, List.getElem?_cons_succ, List.getElem?_cons_zero]; exact rfl) (fun K hK => ?_) AllReadyH.nil
                go_simp
                refine hK.out _ _ ?_ (fun hHeld => ?_)
                · (try dsimp only)
                  exact hHeld
                clear hK K
                (try simp only [Act.put, List.setIfInBounds_toArray, List.set_cons_zero, List.set_cons_succ])
                refine wpAnyH_ready (rs := [9]) (by as_aux_lemma => kernel_rfl) (by simp) ?_
                refine AllReadyH.cons (by simp only [List.getElem?_toArray, List.getElem?_cons_succ, List.getElem?_cons_zero]; exact rfl) (fun K hK => ?_) AllReadyH.nil
                go_simp
                (go_at_call 35; refine HDO.out.mono ?_; rintro _ w17 ⟨v17, rfl, hr17, hb17⟩)
                have HB17 := Lib.hid (HBW.out.trans (hb17.mono HBW.out.size))
                have HR17 := Lib.hid hr17
                have HLT17 := Lib.hid hb17.size
                obtain ⟨A7, c7, e7, _⟩ := RowB.form hr17
                subst e7
                have HS17 := Lib.hid (HSZ2.out.below HB17.out)
                have HV17 := Lib.hid (HVZ.out.below_all HB17.out)
                have HD17 := Lib.hid (HDZ.out.chg (S := fun _ => False) (Chg.of_below HB17.out) id)
                have HC17 := Lib.hid (HCZ.out.then_below HB17.out)
                have hfz := HV17.out.frozen 1
                have y2 := HV17.out.cell (j := 1) rfl
                have y3 := HV17.out.cell (j := 2) rfl
                have y0 : w17.cell? ⟨wr.heap.size, 0, none⟩ = some (Value.int .i64 z) := (hb17.cell (p := ⟨wr.heap.size, 0, none⟩) (by simp)).trans (by simp)
                have y1' : w17.cell? ⟨wr.heap.size, 1, none⟩ = some (.func (.func 35) #[] #[.pointer (some ⟨xa, 0, none⟩), .pointer (some ⟨xo, 0, none⟩)]) := (hb17.cell (p := ⟨wr.heap.size, 1, none⟩) (by simp)).trans (by simp)
                refine hK.out _ _ ?_ (fun hHeld => ?_)
                · (try dsimp only)
                  exact ⟨y0, y1'⟩
                clear hK K
                (try simp only [Act.put, List.setIfInBounds_toArray, List.set_cons_zero, List.set_cons_succ])
                clear hr17 hb17
                have HBY : Hid (Byt w17 (crR ρ w.heap.size w17.heap.size) (.slice A7 (ch.all (f.bytes q)).length c7) (ch.all (f.bytes q))) := Lib.hid (Byt.made HR17.out (fun b h1 h2 => crR_new (by have := HSZ2.out.lt; have := HBW.out.size; omega) h2))
                have HNW := Lib.hid (HS17.out.now HI.out HBY.out)
                rw [← HFB.out] at HNW
                have z0 : (w17.setCell ⟨fb, 1, none⟩ (.slice A7 (ch.all (f.bytes q)).length c7)).cell? ⟨wr.heap.size, 0, none⟩ = some (Value.int .i64 z) := (World.cell?_setCell_other _ _ _ _ (by simp <;> omega)).trans y0
                have z1 : (w17.setCell ⟨fb, 1, none⟩ (.slice A7 (ch.all (f.bytes q)).length c7)).cell? ⟨wr.heap.size, 1, none⟩ = some (.func (.func 35) #[] #[.pointer (some ⟨xa, 0, none⟩), .pointer (some ⟨xo, 0, none⟩)]) := (World.cell?_setCell_other _ _ _ _ (by simp <;> omega)).trans y1'
                have z3 : (w17.setCell ⟨fb, 1, none⟩ (.slice A7 (ch.all (f.bytes q)).length c7)).cell? ⟨fb, 2, none⟩ = some (.slice (some ⟨g2, o2, none⟩) nl c2) := (World.cell?_setCell_other _ _ _ _ (by simp)).trans y3
                have HC18 : Hid (Chg (fun q => q ≤ w.heap.size) w8 (w17.setCell ⟨fb, 1, none⟩ (.slice A7 (ch.all (f.bytes q)).length c7))) := Lib.hid (HC17.out.setCell (p := ⟨fb, 1, none⟩) (fun _ => by have := HFL.out; show fb ≤ _; omega) _)
                have HD18 : Hid (Dirm (w17.setCell ⟨fb, 1, none⟩ (.slice A7 (ch.all (f.bytes q)).length c7)) lb (ln + k) F L) := Lib.hid (HD17.out.chg (S := fun q => q = fb) ((show Chg (fun q => q = fb) w17 w17 from Chg.refl _ _).setCell (p := ⟨fb, 1, none⟩) (fun _ => rfl) _) HLF.out)
                refine wpAnyH_take (i := 10) (v := ?_) (by simp only [List.getElem?_toArray, List.getElem?_cons_succ, List.getElem?_cons_zero]; exact rfl) (by as_aux_lemma => kernel_rfl) (by as_aux_lemma => kernel_rfl) (by as_aux_lemma => kernel_rfl) (by exact fun _ _ _ h => h) (Or.inl ⟨by rfl, ?_⟩) (by assumption) ?_
                rotate_left
                · intro w hSw
                  (try dsimp only at hSw)
                  go_simp
                  try with_reducible rfl
                (try simp only [Act.put, List.setIfInBounds_toArray, List.set_cons_zero, List.set_cons_succ])
                refine wpAnyH_take (i := 11) (v := ?_) (by simp only [List.getElem?_toArray, List.getElem?_cons_succ, List.getElem?_cons_zero]; exact rfl) (by as_aux_lemma => kernel_rfl) (by as_aux_lemma => kernel_rfl) (by as_aux_lemma => kernel_rfl) (by exact fun _ _ _ h => h) (Or.inl ⟨by rfl, ?_⟩) (by assumption) ?_
                rotate_left
                · intro w hSw
                  (try dsimp only at hSw)
                  go_simp
                  try with_reducible rfl
                (try simp only [Act.put, List.setIfInBounds_toArray, List.set_cons_zero, List.set_cons_succ])
                refine wpAnyH_ready (rs := [12]) (by as_aux_lemma => kernel_rfl) (by simp) ?_
                refine AllReadyH.cons (by simp only [List.getElem?_toArray, List.getElem?_cons_succ, List.getElem?_cons_zero]; exact rfl) (fun K hK => ?_) AllReadyH.nil
                go_simp
                refine hK.out _ _ ?_ (fun hHeld => ?_)
                · (try dsimp only)
                  exact ⟨z0, z1⟩
                clear hK K
                (try simp only [Act.put, List.setIfInBounds_toArray, List.set_cons_zero, List.set_cons_succ])
                refine wpAnyH_done (by as_aux_lemma => kernel_rfl) ?_ _
                go_wp2
                go_roundw
                case rel => exact ⟨q + 1, by omega, by go_num, HNW.out.again HFIT.out, HD18.out, HC18.out, z3⟩
                case measure => simp [intOf]; omega
              · have HDO := Lib.hid hdo
                clear hdo
                go_upto_region 17 with (first
                  | (refine wpList_load_mid rfl 81 (.tmp 86) rfl g2 (o2 + q * 2) rfl _ _ r1 Try.underlying81 rfl (by kernel_rfl) ?_)
                  | fail)
                refine wp_region_held_drew (S := (fun w' => w'.cell? ⟨wr.heap.size, 0, none⟩ = some (.int .i64 z) ∧ w'.cell? ⟨wr.heap.size, 1, none⟩ = some (.func (.func 46) #[] #[.pointer (some ⟨xa, 0, none⟩)]))) (by as_aux_lemma => kernel_rfl) ?_ (fun hHeld => ?_)
                · exact ⟨by simp, by simp⟩
                have g1W : (wr.alloc (.cells #[.int .i64 z, .func (.func 46) #[] #[.pointer (some ⟨xa, 0, none⟩)]] 81)).drew.cell? ⟨fb, 1, none⟩ = some (.slice A1 y1 c1) := (World.cell?_alloc_lt wr _ ⟨fb, 1, none⟩ (by show fb < _; omega)).trans g1
                refine wpAnyH_take (i := 0) (v := ?_) (by simp only [List.getElem?_toArray, List.getElem?_cons_zero]; exact rfl) (by as_aux_lemma => kernel_rfl) (by as_aux_lemma => kernel_rfl) (by as_aux_lemma => kernel_rfl) (by exact fun _ _ _ h => h) (Or.inl ⟨by rfl, ?_⟩) (by assumption) ?_
                rotate_left
                · intro w hSw
                  (try dsimp only at hSw)
                  go_simp
                  try with_reducible rfl
                (try simp only [Act.put, List.setIfInBounds_toArray, List.set_cons_zero, List.set_cons_succ])
                refine wpAnyH_take (i := 1) (v := ?_) (by simp only [List.getElem?_toArray, List.getElem?_cons_succ, List.getElem?_cons_zero]; exact rfl) (by as_aux_lemma => kernel_rfl) (by as_aux_lemma => kernel_rfl) (by as_aux_lemma => kernel_rfl) (by exact fun _ _ _ h => h) (Or.inl ⟨by rfl, ?_⟩) (by assumption) ?_
                rotate_left
                · intro w hSw
                  (try dsimp only at hSw)
                  go_simp
                  try with_reducible rfl
                (try simp only [Act.put, List.setIfInBounds_toArray, List.set_cons_zero, List.set_cons_succ])
                refine wpAnyH_take (i := 2) (v := ?_) (by simp only [List.getElem?_toArray, List.getElem?_cons_succ, List.getElem?_cons_zero]; exact rfl) (by as_aux_lemma => kernel_rfl) (by as_aux_lemma => kernel_rfl) (by as_aux_lemma => kernel_rfl) (by exact fun _ _ _ h => h) (Or.inl ⟨by rfl, ?_⟩) (by assumption) ?_
                rotate_left
                · intro w hSw
                  (try dsimp only at hSw)
                  go_simp
                  try with_reducible rfl
                (try simp only [Act.put, List.setIfInBounds_toArray, List.set_cons_zero, List.set_cons_succ])
                refine wpAnyH_take (i := 3) (v := ?_) (by simp only [List.getElem?_toArray, List.getElem?_cons_succ, List.getElem?_cons_zero]; exact rfl) (by as_aux_lemma => kernel_rfl) (by as_aux_lemma => kernel_rfl) (by as_aux_lemma => kernel_rfl) (by exact fun _ _ _ h => h) (Or.inl ⟨by rfl, ?_⟩) (by assumption) ?_
                rotate_left
                · intro w hSw
                  (try dsimp only at hSw)
                  go_simp
                  try with_reducible rfl
                (try simp only [Act.put, List.setIfInBounds_toArray, List.set_cons_zero, List.set_cons_succ])
                refine wpAnyH_take (i := 4) (v := ?_) (by simp only [List.getElem?_toArray, List.getElem?_cons_succ, List.getElem?_cons_zero]; exact rfl) (by as_aux_lemma => kernel_rfl) (by as_aux_lemma => kernel_rfl) (by as_aux_lemma => kernel_rfl) (by exact fun _ _ _ h => h) (Or.inl ⟨by rfl, ?_⟩) (by assumption) ?_
                rotate_left
                · intro w hSw
                  (try dsimp only at hSw)
                  go_simp
                  try with_reducible rfl
                (try simp only [Act.put, List.setIfInBounds_toArray, List.set_cons_zero, List.set_cons_succ])
                refine wpAnyH_take (i := 5) (v := ?_) (by simp only [List.getElem?_toArray, List.getElem?_cons_succ, List.getElem?_cons_zero]; exact rfl) (by as_aux_lemma => kernel_rfl) (by as_aux_lemma => kernel_rfl) (by as_aux_lemma => kernel_rfl) (by exact fun _ _ _ h => h) (Or.inl ⟨by rfl, ?_⟩) (by assumption) ?_
                rotate_left
                · intro w hSw
                  (try dsimp only at hSw)
                  go_simp
                  try with_reducible rfl
                (try simp only [Act.put, List.setIfInBounds_toArray, List.set_cons_zero, List.set_cons_succ])
                refine wpAnyH_take (i := 7) (v := ?_) (by simp only [List.getElem?_toArray, List.getElem?_cons_succ, List.getElem?_cons_zero]; exact rfl) (by as_aux_lemma => kernel_rfl) (by as_aux_lemma => kernel_rfl) (by as_aux_lemma => kernel_rfl) (by exact fun _ _ _ h => h) (Or.inl ⟨by rfl, ?_⟩) (by assumption) ?_
                rotate_left
                · intro w hSw
                  (try dsimp only at hSw)
                  go_simp
                  try with_reducible rfl
                (try simp only [Act.put, List.setIfInBounds_toArray, List.set_cons_zero, List.set_cons_succ])
                refine wpAnyH_take (i := 8) (v := ?_) (by simp only [List.getElem?_toArray, List.getElem?_cons_succ, List.getElem?_cons_zero]; exact rfl) (by as_aux_lemma => kernel_rfl) (by as_aux_lemma => kernel_rfl) (by as_aux_lemma => kernel_rfl) (by exact fun _ _ _ h => h) (Or.inl ⟨by rfl, ?_⟩) (by assumption) ?_
                rotate_left
                · intro w hSw
                  (try dsimp only at hSw)
                  go_simp
                  try with_reducible rfl
                (try simp only [Act.put, List.setIfInBounds_toArray, List.set_cons_zero, List.set_cons_succ])
                refine wpAnyH_ready (rs := [6]) (by as_aux_lemma => kernel_rfl) (by simp) ?_
                refine AllReadyH.cons (by simp only [List.getElem?_toArray, List.getElem?_cons_succ, List.getElem?_cons_zero]; exact rfl) (fun K hK => ?_) AllReadyH.nil
                go_simp
                refine hK.out _ _ ?_ (fun hHeld => ?_)
                · (try dsimp only)
                  exact hHeld
                clear hK K
                (try simp only [Act.put, List.setIfInBounds_toArray, List.set_cons_zero, List.set_cons_succ])
                refine wpAnyH_ready (rs := [9]) (by as_aux_lemma => kernel_rfl) (by simp) ?_
                refine AllReadyH.cons (by simp only [List.getElem?_toArray, List.getElem?_cons_succ, List.getElem?_cons_zero]; exact rfl) (fun K hK => ?_) AllReadyH.nil
                go_simp
                (go_at_call 46; refine HDO.out.mono ?_; rintro _ w17 ⟨v17, rfl, hr17, hb17⟩)
                have HB17 := Lib.hid (HBW.out.trans (hb17.mono HBW.out.size))
                have HR17 := Lib.hid hr17
                have HLT17 := Lib.hid hb17.size
                obtain ⟨A7, c7, e7, _⟩ := RowB.form hr17
                subst e7
                have HS17 := Lib.hid (HSZ2.out.below HB17.out)
                have HV17 := Lib.hid (HVZ.out.below_all HB17.out)
                have HD17 := Lib.hid (HDZ.out.chg (S := fun _ => False) (Chg.of_below HB17.out) id)
                have HC17 := Lib.hid (HCZ.out.then_below HB17.out)
                have hfz := HV17.out.frozen 1
                have y2 := HV17.out.cell (j := 1) rfl
                have y3 := HV17.out.cell (j := 2) rfl
                have y0 : w17.cell? ⟨wr.heap.size, 0, none⟩ = some (Value.int .i64 z) := (hb17.cell (p := ⟨wr.heap.size, 0, none⟩) (by simp)).trans (by simp)
                have y1' : w17.cell? ⟨wr.heap.size, 1, none⟩ = some (.func (.func 46) #[] #[.pointer (some ⟨xa, 0, none⟩)]) := (hb17.cell (p := ⟨wr.heap.size, 1, none⟩) (by simp)).trans (by simp)
                refine hK.out _ _ ?_ (fun hHeld => ?_)
                · (try dsimp only)
                  exact ⟨y0, y1'⟩
                clear hK K
                (try simp only [Act.put, List.setIfInBounds_toArray, List.set_cons_zero, List.set_cons_succ])
                clear hr17 hb17
                have HBY : Hid (Byt w17 (crR ρ w.heap.size w17.heap.size) (.slice A7 (ch.all (f.bytes q)).length c7) (ch.all (f.bytes q))) := Lib.hid (Byt.made HR17.out (fun b h1 h2 => crR_new (by have := HSZ2.out.lt; have := HBW.out.size; omega) h2))
                have HNW := Lib.hid (HS17.out.now HI.out HBY.out)
                rw [← HFB.out] at HNW
                have z0 : (w17.setCell ⟨fb, 1, none⟩ (.slice A7 (ch.all (f.bytes q)).length c7)).cell? ⟨wr.heap.size, 0, none⟩ = some (Value.int .i64 z) := (World.cell?_setCell_other _ _ _ _ (by simp <;> omega)).trans y0
                have z1 : (w17.setCell ⟨fb, 1, none⟩ (.slice A7 (ch.all (f.bytes q)).length c7)).cell? ⟨wr.heap.size, 1, none⟩ = some (.func (.func 46) #[] #[.pointer (some ⟨xa, 0, none⟩)]) := (World.cell?_setCell_other _ _ _ _ (by simp <;> omega)).trans y1'
                have z3 : (w17.setCell ⟨fb, 1, none⟩ (.slice A7 (ch.all (f.bytes q)).length c7)).cell? ⟨fb, 2, none⟩ = some (.slice (some ⟨g2, o2, none⟩) nl c2) := (World.cell?_setCell_other _ _ _ _ (by simp)).trans y3
                have HC18 : Hid (Chg (fun q => q ≤ w.heap.size) w8 (w17.setCell ⟨fb, 1, none⟩ (.slice A7 (ch.all (f.bytes q)).length c7))) := Lib.hid (HC17.out.setCell (p := ⟨fb, 1, none⟩) (fun _ => by have := HFL.out; show fb ≤ _; omega) _)
                have HD18 : Hid (Dirm (w17.setCell ⟨fb, 1, none⟩ (.slice A7 (ch.all (f.bytes q)).length c7)) lb (ln + k) F L) := Lib.hid (HD17.out.chg (S := fun q => q = fb) ((show Chg (fun q => q = fb) w17 w17 from Chg.refl _ _).setCell (p := ⟨fb, 1, none⟩) (fun _ => rfl) _) HLF.out)
                refine wpAnyH_take (i := 10) (v := ?_) (by simp only [List.getElem?_toArray, List.getElem?_cons_succ, List.getElem?_cons_zero]; exact rfl) (by as_aux_lemma => kernel_rfl) (by as_aux_lemma => kernel_rfl) (by as_aux_lemma => kernel_rfl) (by exact fun _ _ _ h => h) (Or.inl ⟨by rfl, ?_⟩) (by assumption) ?_
                rotate_left
                · intro w hSw
                  (try dsimp only at hSw)
                  go_simp
                  try with_reducible rfl
                (try simp only [Act.put, List.setIfInBounds_toArray, List.set_cons_zero, List.set_cons_succ])
                refine wpAnyH_take (i := 11) (v := ?_) (by simp only [List.getElem?_toArray, List.getElem?_cons_succ, List.getElem?_cons_zero]; exact rfl) (by as_aux_lemma => kernel_rfl) (by as_aux_lemma => kernel_rfl) (by as_aux_lemma => kernel_rfl) (by exact fun _ _ _ h => h) (Or.inl ⟨by rfl, ?_⟩) (by assumption) ?_
                rotate_left
                · intro w hSw
                  (try dsimp only at hSw)
                  go_simp
                  try with_reducible rfl
                (try simp only [Act.put, List.setIfInBounds_toArray, List.set_cons_zero, List.set_cons_succ])
                refine wpAnyH_ready (rs := [12]) (by as_aux_lemma => kernel_rfl) (by simp) ?_
                refine AllReadyH.cons (by simp only [List.getElem?_toArray, List.getElem?_cons_succ, List.getElem?_cons_zero]; exact rfl) (fun K hK => ?_) AllReadyH.nil
                go_simp
                refine hK.out _ _ ?_ (fun hHeld => ?_)
                · (try dsimp only)
                  exact ⟨z0, z1⟩
                clear hK K
                (try simp only [Act.put, List.setIfInBounds_toArray, List.set_cons_zero, List.set_cons_succ])
                refine wpAnyH_done (by as_aux_lemma => kernel_rfl) ?_ _
                go_wp2
                go_roundw
                case rel => exact ⟨q + 1, by omega, by go_num, HNW.out.again HFIT.out, HD18.out, HC18.out, z3⟩
                case measure => simp [intOf]; omega
            · obtain rfl : q = kf := by omega
              have hend3 : ¬ (q : Int) < (q : Int) := by omega
              go_upto_region 19 with (fail)
              obtain ⟨fx, csx, hfx⟩ : ∃ fx csx, Dsk.crashF f csj = (fx, csx) := ⟨_, _, rfl⟩
              have HFX := Lib.hid hfx
              have HCQ : Hid (Dsk.choice csj f.loo.length = (q, csf)) := Lib.hid (by rw [← HNL2.out]; exact HCF.out)
              clear hfx
              have HSZ3 : Hid (∀ x, Dsk.Reach s x → x < fsj.length) := Lib.hid (fun x hx => by
                have := Dsk.crashD_len (L.take j) s.fs cs1
                rw [HFS.out] at this
                dsimp only at this
                rw [this]
                exact HM.out.fit.reach x hx)
              have HFXL : Hid (fx.loo = []) := Lib.hid (by
                have := Dsk.crashF_loo f csj
                rw [HFX.out] at this
                exact this)
              cases hch : f.loo[q]? with
              | none =>
                have hnq : ¬ (q : Int) < (nl : Int) := by have := List.getElem?_eq_none_iff.1 hch; have := HNL2.out; omega
                have e := HFX.out
                rw [Dsk.crashF_none HCQ.out hch] at e
                injection e with e1 e2
                have HE2 : Hid (fx.las = f.bytes q) := Lib.hid (by rw [← e1])
                subst e2
                clear hch e1 hs hd hc
                have HS5 : Hid (CrS w ρ F (Dsk.Reach s) (fun i => fsj.getD i default) (fun x => if x = p.2 then fx.las else (fsj.getD x default).now) csf wr) := Lib.hid (HSZ2.out.same (fun x _ => ⟨rfl, by rw [HE2.out]⟩))
                obtain ⟨r0, r1, r2, hv5, hz5, hy5, hr5⟩ := (HS5.out.file p.2 HI.out).get
                have HS6 := Lib.hid (HS5.out.last HI.out hv5 hy5)
                obtain ⟨B0, d0, e⟩ := hz5.slice
                subst e
                rw [if_pos rfl] at hy5
                obtain ⟨B1, d1, e⟩ := hy5.slice
                subst e
                obtain ⟨B2, d2, e, _⟩ := hr5.at
                subst e
                have HLST := Lib.hid (dlast_any hv5)
                rw [← HFB.out] at HLST HS6
                have HC6 := Lib.hid ((HCZ.out.setCell (p := ⟨fb, 0, none⟩) (fun _ => by have := HFL.out; show fb ≤ _; omega) (.slice B1 fx.las.length d1)).setCell (p := ⟨fb, 2, none⟩) (fun _ => by have := HFL.out; show fb ≤ _; omega) (.slice none 0 0))
                have HD6 := Lib.hid (HDZ.out.chg (S := fun q => q = fb) (((show Chg (fun q => q = fb) wr wr from Chg.refl _ _).setCell (p := ⟨fb, 0, none⟩) (fun _ => rfl) (.slice B1 fx.las.length d1)).setCell (p := ⟨fb, 2, none⟩) (fun _ => rfl) (.slice none 0 0)) HLF.out)
                clear hv5 hz5 hy5 hr5
                go_wp2_with (first
                  | (go_at_call 38; refine HLST.out.mono ?_; rintro _ w30 ⟨rfl, rfl⟩)
                  | fail)
                go_roundw
                case rel => exact ⟨j + 1, fsj.set p.2 fx, _, by omega, by go_num, by rw [HNX.out, HFX.out], HS6.out.same (fun x hx => ⟨(Dsk.set_at (HSZ3.out x hx) HFXL.out).1.trans (by simp), (Dsk.set_at (HSZ3.out x hx) HFXL.out).2⟩), HD6.out, HC6.out⟩
                case measure => simp [intOf]; omega
              | some ch =>
                have hnq : (q : Int) < (nl : Int) := by have := (List.getElem?_eq_some_iff.1 hch).1; have := HNL2.out; omega
                obtain ⟨u0, u1, u2, hvz, hz0, hz1, hzr⟩ := (hs.file p.2 HI.out).get
                rw [← HF.out] at hz0 hzr
                rw [← HFB.out] at hvz
                rw [if_pos rfl] at hz1
                have e := (hvz.cell (j := 2) rfl).symm.trans h2
                injection e with e
                subst e
                obtain ⟨A1, c1, e⟩ := hz1.slice
                subst e
                obtain ⟨y1, hy1⟩ : ∃ y1, y1 = (f.bytes q).length := ⟨_, rfl⟩
                rw [← hy1] at hz1 hvz
                obtain ⟨A2', c2', e, _, _, hat⟩ := hzr.at
                injection e with e e4 e5
                clear e4 e5
                subst e
                obtain ⟨g2, o2, sz, fv, rfl, ⟨hg2, hg2r⟩, hcv, t0, t1⟩ := hat q ch hch
                have hql2 : q < nl := by omega
                cases ch with
                | cut kk =>
                  obtain ⟨rfl, _⟩ := hcv
                  have e := HFX.out
                  rw [Dsk.crashF_cut HCQ.out hch] at e
                  injection e with e1 e2
                  have HE2 : Hid (fx.las = f.bytes q) := Lib.hid (by rw [← e1])
                  subst e2
                  clear hch e1 hs hd hc hvz hz0 hz1 hzr hat t1 hy1
                  have HS5 : Hid (CrS w ρ F (Dsk.Reach s) (fun i => fsj.getD i default) (fun x => if x = p.2 then fx.las else (fsj.getD x default).now) csf wr) := Lib.hid (HSZ2.out.same (fun x _ => ⟨rfl, by rw [HE2.out]⟩))
                  obtain ⟨r0, r1, r2, hv5, hz5, hy5, hr5⟩ := (HS5.out.file p.2 HI.out).get
                  have HS6 := Lib.hid (HS5.out.last HI.out hv5 hy5)
                  obtain ⟨B0, d0, e⟩ := hz5.slice
                  subst e
                  rw [if_pos rfl] at hy5
                  obtain ⟨B1, d1, e⟩ := hy5.slice
                  subst e
                  obtain ⟨B2, d2, e, _⟩ := hr5.at
                  subst e
                  have HLST := Lib.hid (dlast_any hv5)
                  rw [← HFB.out] at HLST HS6
                  have HC6 := Lib.hid ((HCZ.out.setCell (p := ⟨fb, 0, none⟩) (fun _ => by have := HFL.out; show fb ≤ _; omega) (.slice B1 fx.las.length d1)).setCell (p := ⟨fb, 2, none⟩) (fun _ => by have := HFL.out; show fb ≤ _; omega) (.slice none 0 0))
                  have HD6 := Lib.hid (HDZ.out.chg (S := fun q => q = fb) (((show Chg (fun q => q = fb) wr wr from Chg.refl _ _).setCell (p := ⟨fb, 0, none⟩) (fun _ => rfl) (.slice B1 fx.las.length d1)).setCell (p := ⟨fb, 2, none⟩) (fun _ => rfl) (.slice none 0 0)) HLF.out)
                  clear hv5 hz5 hy5 hr5
                  go_wp2_with (first
                    | (go_at_call 38; refine HLST.out.mono ?_; rintro _ w30 ⟨rfl, rfl⟩)
                    | fail)
                  go_roundw
                  case rel => exact ⟨j + 1, fsj.set p.2 fx, _, by omega, by go_num, by rw [HNX.out, HFX.out], HS6.out.same (fun x hx => ⟨(Dsk.set_at (HSZ3.out x hx) HFXL.out).1.trans (by simp), (Dsk.set_at (HSZ3.out x hx) HFXL.out).2⟩), HD6.out, HC6.out⟩
                  case measure => simp [intOf]; omega
                | wr a d =>
                  obtain ⟨rfl, xa, xo, vo, rfl, hcv2⟩ := hcv
                  obtain ⟨n2, csy, hch4⟩ : ∃ n2 csy, Dsk.choice csf d.length = (n2, csy) := ⟨_, _, rfl⟩
                  have e := HFX.out
                  rw [Dsk.crashF_wr HCQ.out hch, hch4] at e
                  injection e with e1 e2
                  have HLAS : Hid (fx.las = Dsk.over (f.bytes q) a d n2) := Lib.hid (by rw [← e1])
                  subst e2
                  have hdl : d.length ≤ 1048576 := by have := (HG.out.fits q _ hch).2; omega
                  have hn2 := Dsk.choice_le csf d.length
                  rw [hch4] at hn2
                  dsimp only at hn2
                  have hcs2 : csf.length ≤ 16777216 := Nat.le_trans HLE2.out hcsj
                  have hbd : Below wr.heap.size wr wr.drew := (Below.refl wr.heap.size wr).drew
                  have HSW := Lib.hid (hs.below hbd)
                  have HCH4 := Lib.hid (dchoose_any HSW.out.box d.length (by omega) hcs2)
                  rw [hch4] at HCH4
                  dsimp only at HCH4
                  have hlW := hs.lies (S := fun _ => False) (Q := fun _ => False) (Chg.of_below hbd) (fun _ _ e => e.elim)
                  have HCV : Hid (ChV wr.drew (crR ρ w.heap.size wr.drew.heap.size) (.wr a d) (.int .i64 (d.length : Nat)) (.func (.func 35) #[] #[.pointer (some ⟨xa, 0, none⟩), .pointer (some ⟨xo, 0, none⟩)])) := Lib.hid (ChV.keep (⟨rfl, xa, xo, vo, rfl, hcv2⟩ : ChV wr (crR ρ w.heap.size wr.heap.size) (.wr a d) _ _) hlW id)
                  have HBT := Lib.hid (hz1.keep hlW id)
                  have HFT := Lib.hid (HG.out.fits q _ hch)
                  have HBL := Lib.hid (HG.out.bytes_len q)
                  have HVW := Lib.hid hvz.drew
                  have HLW := Lib.hid hvz.lt
                  have HDW : Hid (Dirm wr.drew lb (ln + k) F L) := Lib.hid hd
                  have HCW := Lib.hid (hc.then_below hbd)
                  have HG2 := Lib.hid hg2
                  have HG2B : Hid (g2 ≠ w.heap.size) := Lib.hid (fun e => by rw [e, crR_box hs.lt] at hg2r; injection hg2r with e; cases e)
                  have HG2F : Hid (g2 ≠ fb) := Lib.hid (fun e => by
                    have h1 := (hs.file p.2 HI.out).role
                    rw [← HFB.out, ← e, hg2r] at h1
                    injection h1 with h1
                    cases h1)
                  have j1 : wr.cell? ⟨fb, 1, none⟩ = some (.slice A1 y1 c1) := hvz.cell (j := 1) rfl
                  have j2 := h2
                  have hkk : (q : Int) < (nl : Int) := by omega
                  clear hch hch4 e1 hs hd hc hvz hz0 hz1 hzr hat hy1 hcv2 hbd hlW hg2 hg2r
                  go_upto_region 20 with (fail)
                  refine wp_region_held_drew (S := (fun w' => w'.cell? ⟨fb, 2, none⟩ = some (.slice (some ⟨g2, o2, none⟩) nl c2) ∧ w'.cell? ⟨g2, o2 + q * 2, none⟩ = some (.int .i64 (d.length : Nat)) ∧ w'.cell? ⟨g2, o2 + q * 2 + 1, none⟩ = some (.func (.func 35) #[] #[.pointer (some ⟨xa, 0, none⟩), .pointer (some ⟨xo, 0, none⟩)]))) (by as_aux_lemma => kernel_rfl) ?_ (fun hHeld => ?_)
                  · exact ⟨j2, t0, t1⟩
                  have j1d : wr.drew.cell? ⟨fb, 1, none⟩ = some (.slice A1 y1 c1) := j1
                  refine wpAnyH_take (i := 0) (v := ?_) (by simp only [List.getElem?_toArray, List.getElem?_cons_zero]; exact rfl) (by as_aux_lemma => kernel_rfl) (by as_aux_lemma => kernel_rfl) (by as_aux_lemma => kernel_rfl) (by exact fun _ _ _ h => h) (Or.inl ⟨by rfl, ?_⟩) (by assumption) ?_
                  rotate_left
                  · intro w hSw
                    (try dsimp only at hSw)
                    go_simp
                    try with_reducible rfl
                  (try simp only [Act.put, List.setIfInBounds_toArray, List.set_cons_zero, List.set_cons_succ])
                  refine wpAnyH_take (i := 1) (v := ?_) (by simp only [List.getElem?_toArray, List.getElem?_cons_succ, List.getElem?_cons_zero]; exact rfl) (by as_aux_lemma => kernel_rfl) (by as_aux_lemma => kernel_rfl) (by as_aux_lemma => kernel_rfl) (by exact fun _ _ _ h => h) (Or.inl ⟨by rfl, ?_⟩) (by assumption) ?_
                  rotate_left
                  · intro w hSw
                    (try dsimp only at hSw)
                    go_simp
                    try with_reducible rfl
                  (try simp only [Act.put, List.setIfInBounds_toArray, List.set_cons_zero, List.set_cons_succ])
                  refine wpAnyH_take (i := 2) (v := ?_) (by simp only [List.getElem?_toArray, List.getElem?_cons_succ, List.getElem?_cons_zero]; exact rfl) (by as_aux_lemma => kernel_rfl) (by as_aux_lemma => kernel_rfl) (by as_aux_lemma => kernel_rfl) (by exact fun _ _ _ h => h) (Or.inl ⟨by rfl, ?_⟩) (by assumption) ?_
                  rotate_left
                  · intro w hSw
                    (try dsimp only at hSw)
                    go_simp
                    try with_reducible rfl
                  (try simp only [Act.put, List.setIfInBounds_toArray, List.set_cons_zero, List.set_cons_succ])
                  refine wpAnyH_take (i := 3) (v := ?_) (by simp only [List.getElem?_toArray, List.getElem?_cons_succ, List.getElem?_cons_zero]; exact rfl) (by as_aux_lemma => kernel_rfl) (by as_aux_lemma => kernel_rfl) (by as_aux_lemma => kernel_rfl) (by exact fun _ _ _ h => h) (Or.inl ⟨by rfl, ?_⟩) (by assumption) ?_
                  rotate_left
                  · intro w hSw
                    (try dsimp only at hSw)
                    go_simp
                    try with_reducible rfl
                  (try simp only [Act.put, List.setIfInBounds_toArray, List.set_cons_zero, List.set_cons_succ])
                  refine wpAnyH_take (i := 4) (v := ?_) (by simp only [List.getElem?_toArray, List.getElem?_cons_succ, List.getElem?_cons_zero]; exact rfl) (by as_aux_lemma => kernel_rfl) (by as_aux_lemma => kernel_rfl) (by as_aux_lemma => kernel_rfl) (by exact fun _ _ _ h => h) (Or.inl ⟨by rfl, ?_⟩) (by assumption) ?_
                  rotate_left
                  · intro w hSw
                    (try dsimp only at hSw)
                    go_simp
                    try with_reducible rfl
                  (try simp only [Act.put, List.setIfInBounds_toArray, List.set_cons_zero, List.set_cons_succ])
                  refine wpAnyH_take (i := 5) (v := ?_) (by simp only [List.getElem?_toArray, List.getElem?_cons_succ, List.getElem?_cons_zero]; exact rfl) (by as_aux_lemma => kernel_rfl) (by as_aux_lemma => kernel_rfl) (by as_aux_lemma => kernel_rfl) (by exact fun _ _ _ h => h) (Or.inl ⟨by rfl, ?_⟩) (by assumption) ?_
                  rotate_left
                  · intro w hSw
                    (try dsimp only at hSw)
                    go_simp
                    try with_reducible rfl
                  (try simp only [Act.put, List.setIfInBounds_toArray, List.set_cons_zero, List.set_cons_succ])
                  refine wpAnyH_take (i := 6) (v := ?_) (by simp only [List.getElem?_toArray, List.getElem?_cons_succ, List.getElem?_cons_zero]; exact rfl) (by as_aux_lemma => kernel_rfl) (by as_aux_lemma => kernel_rfl) (by as_aux_lemma => kernel_rfl) (by exact fun _ _ _ h => h) (Or.inl ⟨by rfl, ?_⟩) (by assumption) ?_
                  rotate_left
                  · intro w hSw
                    (try dsimp only at hSw)
                    go_simp
                    try with_reducible rfl
                  (try simp only [Act.put, List.setIfInBounds_toArray, List.set_cons_zero, List.set_cons_succ])
                  refine wpAnyH_take (i := 7) (v := ?_) (by simp only [List.getElem?_toArray, List.getElem?_cons_succ, List.getElem?_cons_zero]; exact rfl) (by as_aux_lemma => kernel_rfl) (by as_aux_lemma => kernel_rfl) (by as_aux_lemma => kernel_rfl) (by exact fun _ _ _ h => h) (Or.inl ⟨by rfl, ?_⟩) (by assumption) ?_
                  rotate_left
                  · intro w hSw
                    (try dsimp only at hSw)
                    go_simp
                    try with_reducible rfl
                  (try simp only [Act.put, List.setIfInBounds_toArray, List.set_cons_zero, List.set_cons_succ])
                  refine wpAnyH_take (i := 8) (v := ?_) (by simp only [List.getElem?_toArray, List.getElem?_cons_succ, List.getElem?_cons_zero]; exact rfl) (by as_aux_lemma => kernel_rfl) (by as_aux_lemma => kernel_rfl) (by as_aux_lemma => kernel_rfl) (by exact fun _ _ _ h => h) (Or.inl ⟨by rfl, ?_⟩) (by assumption) ?_
                  rotate_left
                  · intro w hSw
                    (try dsimp only at hSw)
                    go_simp
                    try with_reducible rfl
                  (try simp only [Act.put, List.setIfInBounds_toArray, List.set_cons_zero, List.set_cons_succ])
                  refine wpAnyH_take (i := 9) (v := ?_) (by simp only [List.getElem?_toArray, List.getElem?_cons_succ, List.getElem?_cons_zero]; exact rfl) (by as_aux_lemma => kernel_rfl) (by as_aux_lemma => kernel_rfl) (by as_aux_lemma => kernel_rfl) (by exact fun _ _ _ h => h) (Or.inl ⟨by rfl, ?_⟩) (by assumption) ?_
                  rotate_left
                  · intro w hSw
                    (try dsimp only at hSw)
                    go_simp
                    try with_reducible rfl
                  (try simp only [Act.put, List.setIfInBounds_toArray, List.set_cons_zero, List.set_cons_succ])
                  refine wpAnyH_take (i := 10) (v := ?_) (by simp only [List.getElem?_toArray, List.getElem?_cons_succ, List.getElem?_cons_zero]; exact rfl) (by as_aux_lemma => kernel_rfl) (by as_aux_lemma => kernel_rfl) (by as_aux_lemma => kernel_rfl) (by exact fun _ _ _ h => h) (Or.inl ⟨by rfl, ?_⟩) (by assumption) ?_
                  rotate_left
                  · intro w hSw
                    (try dsimp only at hSw)
                    go_simp
                    try with_reducible rfl
                  (try simp only [Act.put, List.setIfInBounds_toArray, List.set_cons_zero, List.set_cons_succ])
                  refine wpAnyH_take (i := 11) (v := ?_) (by simp only [List.getElem?_toArray, List.getElem?_cons_succ, List.getElem?_cons_zero]; exact rfl) (by as_aux_lemma => kernel_rfl) (by as_aux_lemma => kernel_rfl) (by as_aux_lemma => kernel_rfl) (by exact fun _ _ _ h => h) (Or.inl ⟨by rfl, ?_⟩) (by assumption) ?_
                  rotate_left
                  · intro w hSw
                    (try dsimp only at hSw)
                    go_simp
                    try with_reducible rfl
                  (try simp only [Act.put, List.setIfInBounds_toArray, List.set_cons_zero, List.set_cons_succ])
                  refine wpAnyH_take (i := 13) (v := ?_) (by simp only [List.getElem?_toArray, List.getElem?_cons_succ, List.getElem?_cons_zero]; exact rfl) (by as_aux_lemma => kernel_rfl) (by as_aux_lemma => kernel_rfl) (by as_aux_lemma => kernel_rfl) (by exact fun _ _ _ h => h) (Or.inl ⟨by rfl, ?_⟩) (by assumption) ?_
                  rotate_left
                  · intro w hSw
                    (try dsimp only at hSw)
                    go_simp
                    try with_reducible rfl
                  (try simp only [Act.put, List.setIfInBounds_toArray, List.set_cons_zero, List.set_cons_succ])
                  refine wpAnyH_take (i := 14) (v := ?_) (by simp only [List.getElem?_toArray, List.getElem?_cons_succ, List.getElem?_cons_zero]; exact rfl) (by as_aux_lemma => kernel_rfl) (by as_aux_lemma => kernel_rfl) (by as_aux_lemma => kernel_rfl) (by exact fun _ _ _ h => h) (Or.inl ⟨by rfl, ?_⟩) (by assumption) ?_
                  rotate_left
                  · intro w hSw
                    (try dsimp only at hSw)
                    go_simp
                    try with_reducible rfl
                  (try simp only [Act.put, List.setIfInBounds_toArray, List.set_cons_zero, List.set_cons_succ])
                  refine wpAnyH_take (i := 15) (v := ?_) (by simp only [List.getElem?_toArray, List.getElem?_cons_succ, List.getElem?_cons_zero]; exact rfl) (by as_aux_lemma => kernel_rfl) (by as_aux_lemma => kernel_rfl) (by as_aux_lemma => kernel_rfl) (by exact fun _ _ _ h => h) (Or.inl ⟨by rfl, ?_⟩) (by assumption) ?_
                  rotate_left
                  · intro w hSw
                    (try dsimp only at hSw)
                    go_simp
                    try with_reducible rfl
                  (try simp only [Act.put, List.setIfInBounds_toArray, List.set_cons_zero, List.set_cons_succ])
                  refine wpAnyH_take (i := 16) (v := ?_) (by simp only [List.getElem?_toArray, List.getElem?_cons_succ, List.getElem?_cons_zero]; exact rfl) (by as_aux_lemma => kernel_rfl) (by as_aux_lemma => kernel_rfl) (by as_aux_lemma => kernel_rfl) (by exact fun _ _ _ h => h) (Or.inl ⟨by rfl, ?_⟩) (by assumption) ?_
                  rotate_left
                  · intro w hSw
                    (try dsimp only at hSw)
                    go_simp
                    try with_reducible rfl
                  (try simp only [Act.put, List.setIfInBounds_toArray, List.set_cons_zero, List.set_cons_succ])
                  refine wpAnyH_take (i := 17) (v := ?_) (by simp only [List.getElem?_toArray, List.getElem?_cons_succ, List.getElem?_cons_zero]; exact rfl) (by as_aux_lemma => kernel_rfl) (by as_aux_lemma => kernel_rfl) (by as_aux_lemma => kernel_rfl) (by exact fun _ _ _ h => h) (Or.inl ⟨by rfl, ?_⟩) (by assumption) ?_
                  rotate_left
                  · intro w hSw
                    (try dsimp only at hSw)
                    go_simp
                    try with_reducible rfl
                  (try simp only [Act.put, List.setIfInBounds_toArray, List.set_cons_zero, List.set_cons_succ])
                  refine wpAnyH_take (i := 18) (v := ?_) (by simp only [List.getElem?_toArray, List.getElem?_cons_succ, List.getElem?_cons_zero]; exact rfl) (by as_aux_lemma => kernel_rfl) (by as_aux_lemma => kernel_rfl) (by as_aux_lemma => kernel_rfl) (by exact fun _ _ _ h => h) (Or.inl ⟨by rfl, ?_⟩) (by assumption) ?_
                  rotate_left
                  · intro w hSw
                    (try dsimp only at hSw)
                    go_simp
                    try with_reducible rfl
                  (try simp only [Act.put, List.setIfInBounds_toArray, List.set_cons_zero, List.set_cons_succ])
                  refine wpAnyH_take (i := 19) (v := ?_) (by simp only [List.getElem?_toArray, List.getElem?_cons_succ, List.getElem?_cons_zero]; exact rfl) (by as_aux_lemma => kernel_rfl) (by as_aux_lemma => kernel_rfl) (by as_aux_lemma => kernel_rfl) (by exact fun _ _ _ h => h) (Or.inl ⟨by rfl, ?_⟩) (by assumption) ?_
                  rotate_left
                  · intro w hSw
                    (try dsimp only at hSw)
                    go_simp
                    try with_reducible rfl
                  (try simp only [Act.put, List.setIfInBounds_toArray, List.set_cons_zero, List.set_cons_succ])
                  refine wpAnyH_take (i := 20) (v := ?_) (by simp only [List.getElem?_toArray, List.getElem?_cons_succ, List.getElem?_cons_zero]; exact rfl) (by as_aux_lemma => kernel_rfl) (by as_aux_lemma => kernel_rfl) (by as_aux_lemma => kernel_rfl) (by exact fun _ _ _ h => h) (Or.inl ⟨by rfl, ?_⟩) (by assumption) ?_
                  rotate_left
                  · intro w hSw
                    (try dsimp only at hSw)
                    go_simp
                    try with_reducible rfl
                  (try simp only [Act.put, List.setIfInBounds_toArray, List.set_cons_zero, List.set_cons_succ])
                  refine wpAnyH_take (i := 21) (v := ?_) (by simp only [List.getElem?_toArray, List.getElem?_cons_succ, List.getElem?_cons_zero]; exact rfl) (by as_aux_lemma => kernel_rfl) (by as_aux_lemma => kernel_rfl) (by as_aux_lemma => kernel_rfl) (by exact fun _ _ _ h => h) (Or.inl ⟨by rfl, ?_⟩) (by assumption) ?_
                  rotate_left
                  · intro w hSw
                    (try dsimp only at hSw)
                    go_simp
                    try with_reducible rfl
                  (try simp only [Act.put, List.setIfInBounds_toArray, List.set_cons_zero, List.set_cons_succ])
                  refine wpAnyH_ready (rs := [12, 22]) (by as_aux_lemma => kernel_rfl) (by simp) ?_
                  refine AllReadyH.cons (by simp only [List.getElem?_toArray, List.getElem?_cons_succ, List.getElem?_cons_zero]; exact rfl) (fun K hK => ?_) ?_
                  · go_simp
                    refine hK.out _ _ ?_ (fun hHeld => ?_)
                    · (try dsimp only)
                      exact hHeld
                    clear hK K
                    (try simp only [Act.put, List.setIfInBounds_toArray, List.set_cons_zero, List.set_cons_succ])
                    refine wpAnyH_ready (rs := [22]) (by as_aux_lemma => kernel_rfl) (by simp) ?_
                    refine AllReadyH.cons (by simp only [List.getElem?_toArray, List.getElem?_cons_succ, List.getElem?_cons_zero]; exact rfl) (fun K hK => ?_) AllReadyH.nil
                    go_simp
                    (go_at_call 42; refine HCH4.out.mono ?_; rintro _ w20 ⟨rfl, hbx20, hc20⟩)
                    have HS20 := Lib.hid (HSW.out.choose hc20 hbx20)
                    have hlx := HSW.out.lies (Q := fun r => r = .tmp) hc20 (fun k _ e => by subst e; exact ⟨_, crR_box HSW.out.lt, rfl⟩)
                    have s2 : w20.cell? ⟨fb, 2, none⟩ = some (.slice (some ⟨g2, o2, none⟩) nl c2) := (World.cell?_of_block (a := ⟨fb, 2, none⟩) (hc20.block fb HLW.out (fun e => hbxf e.symm))).trans j2
                    have s1 : w20.cell? ⟨fb, 1, none⟩ = some (.slice A1 y1 c1) := (World.cell?_of_block (a := ⟨fb, 1, none⟩) (hc20.block fb HLW.out (fun e => hbxf e.symm))).trans j1
                    have s3 : w20.cell? ⟨g2, o2 + q * 2, none⟩ = some (.int .i64 (d.length : Nat)) := (World.cell?_of_block (a := ⟨g2, o2 + q * 2, none⟩) (hc20.block g2 HG2.out HG2B.out)).trans t0
                    have s4 : w20.cell? ⟨g2, o2 + q * 2 + 1, none⟩ = some (.func (.func 35) #[] #[.pointer (some ⟨xa, 0, none⟩), .pointer (some ⟨xo, 0, none⟩)]) := (World.cell?_of_block (a := ⟨g2, o2 + q * 2 + 1, none⟩) (hc20.block g2 HG2.out HG2B.out)).trans t1
                    have HV20 := Lib.hid (HVW.out.chg hc20 (fun e => hbxf e.symm))
                    have HD20 := Lib.hid (HDW.out.chg hc20 (by omega))
                    have HC20 : Hid (Chg (fun q => q ≤ w.heap.size) w8 w20) := Lib.hid (HCW.out.trans hc20 (fun _ _ e => by rw [e]; exact Nat.le_refl _))
                    obtain ⟨xa', xo', _, efv, hdo⟩ := ddoes_wr (HCV.out.keep hlx (by intro e; cases e)) (HBT.out.keep hlx (by intro e; cases e)) HFT.out HBL.out n2 hn2
                    injection efv with _ _ efv
                    have efa : xa = xa' := by injection efv with efv; injection efv with e1 _; injection e1 with e1; injection e1 with e1; injection e1 with e1 _ _
                    have efo : xo = xo' := by injection efv with efv; injection efv with _ e2; injection e2 with e1 _; injection e1 with e1; injection e1 with e1; injection e1 with e1 _ _
                    clear efv
                    subst efa efo
                    have HDO := Lib.hid hdo
                    clear hdo hlx hc20 hbx20
                    refine hK.out _ _ ?_ (fun hHeld => ?_)
                    · (try dsimp only)
                      exact ⟨s2, s3, s4⟩
                    clear hK K
                    (try simp only [Act.put, List.setIfInBounds_toArray, List.set_cons_zero, List.set_cons_succ])
                    refine wpAnyH_ready (rs := [23]) (by as_aux_lemma => kernel_rfl) (by simp) ?_
                    refine AllReadyH.cons (by simp only [List.getElem?_toArray, List.getElem?_cons_succ, List.getElem?_cons_zero]; exact rfl) (fun K hK => ?_) AllReadyH.nil
                    go_simp
                    (go_at_call 35; refine HDO.out.mono ?_; rintro _ w21 ⟨v21, rfl, hr21, hb21⟩)
                    have HS21 := Lib.hid (HS20.out.below hb21)
                    have HR21 := Lib.hid hr21
                    obtain ⟨A7, c7, e7, _⟩ := RowB.form hr21
                    subst e7
                    have HV21 := Lib.hid (HV20.out.below_all hb21)
                    have HD21 := Lib.hid (HD20.out.chg (S := fun _ => False) (Chg.of_below hb21) id)
                    have HC21 := Lib.hid (HC20.out.then_below hb21)
                    have hfz := HV21.out.frozen 1
                    have y1' := HV21.out.cell (j := 1) rfl
                    have y2 := HV21.out.cell (j := 2) rfl
                    have y3 := (hb21.cell (p := ⟨g2, o2 + q * 2, none⟩) (cell_lt s3)).trans s3
                    have y4 := (hb21.cell (p := ⟨g2, o2 + q * 2 + 1, none⟩) (cell_lt s4)).trans s4
                    have HL20 : Hid (w.heap.size < w20.heap.size) := Lib.hid HS20.out.lt
                    refine hK.out _ _ ?_ (fun hHeld => ?_)
                    · (try dsimp only)
                      exact ⟨y2, y3, y4⟩
                    clear hK K
                    (try simp only [Act.put, List.setIfInBounds_toArray, List.set_cons_zero, List.set_cons_succ])
                    clear hr21 hb21
                    have HBY : Hid (Byt w21 (crR ρ w.heap.size w21.heap.size) (.slice A7 (Dsk.over (f.bytes q) a d n2).length c7) (Dsk.over (f.bytes q) a d n2)) := Lib.hid (Byt.made HR21.out (fun b h1 h2 => crR_new (by have := HL20.out; omega) h2))
                    have HNW := Lib.hid (HS21.out.now HI.out HBY.out)
                    rw [← HFB.out] at HNW
                    have z2 : (w21.setCell ⟨fb, 1, none⟩ (.slice A7 (Dsk.over (f.bytes q) a d n2).length c7)).cell? ⟨fb, 2, none⟩ = some (.slice (some ⟨g2, o2, none⟩) nl c2) := (World.cell?_setCell_other _ _ _ _ (by simp)).trans y2
                    have z3 : (w21.setCell ⟨fb, 1, none⟩ (.slice A7 (Dsk.over (f.bytes q) a d n2).length c7)).cell? ⟨g2, o2 + q * 2, none⟩ = some (.int .i64 (d.length : Nat)) := (World.cell?_setCell_other _ _ _ _ (by intro e; injection e with e; exact HG2F.out e.symm)).trans y3
                    have z4 : (w21.setCell ⟨fb, 1, none⟩ (.slice A7 (Dsk.over (f.bytes q) a d n2).length c7)).cell? ⟨g2, o2 + q * 2 + 1, none⟩ = some (.func (.func 35) #[] #[.pointer (some ⟨xa, 0, none⟩), .pointer (some ⟨xo, 0, none⟩)]) := (World.cell?_setCell_other _ _ _ _ (by intro e; injection e with e; exact HG2F.out e.symm)).trans y4
                    have HC22 : Hid (Chg (fun q => q ≤ w.heap.size) w8 (w21.setCell ⟨fb, 1, none⟩ (.slice A7 (Dsk.over (f.bytes q) a d n2).length c7))) := Lib.hid (HC21.out.setCell (p := ⟨fb, 1, none⟩) (fun _ => by have := HFL.out; show fb ≤ _; omega) _)
                    have HD22 : Hid (Dirm (w21.setCell ⟨fb, 1, none⟩ (.slice A7 (Dsk.over (f.bytes q) a d n2).length c7)) lb (ln + k) F L) := Lib.hid (HD21.out.chg (S := fun q => q = fb) ((show Chg (fun q => q = fb) w21 w21 from Chg.refl _ _).setCell (p := ⟨fb, 1, none⟩) (fun _ => rfl) _) HLF.out)
                    refine wpAnyH_take (i := 24) (v := ?_) (by simp only [List.getElem?_toArray, List.getElem?_cons_succ, List.getElem?_cons_zero]; exact rfl) (by as_aux_lemma => kernel_rfl) (by as_aux_lemma => kernel_rfl) (by as_aux_lemma => kernel_rfl) (by exact fun _ _ _ h => h) (Or.inl ⟨by rfl, ?_⟩) (by assumption) ?_
                    rotate_left
                    · intro w hSw
                      (try dsimp only at hSw)
                      go_simp
                      try with_reducible rfl
                    (try simp only [Act.put, List.setIfInBounds_toArray, List.set_cons_zero, List.set_cons_succ])
                    refine wpAnyH_take (i := 25) (v := ?_) (by simp only [List.getElem?_toArray, List.getElem?_cons_succ, List.getElem?_cons_zero]; exact rfl) (by as_aux_lemma => kernel_rfl) (by as_aux_lemma => kernel_rfl) (by as_aux_lemma => kernel_rfl) (by exact fun _ _ _ h => h) (Or.inl ⟨by rfl, ?_⟩) (by assumption) ?_
                    rotate_left
                    · intro w hSw
                      (try dsimp only at hSw)
                      go_simp
                      try with_reducible rfl
                    (try simp only [Act.put, List.setIfInBounds_toArray, List.set_cons_zero, List.set_cons_succ])
                    refine wpAnyH_ready (rs := [26]) (by as_aux_lemma => kernel_rfl) (by simp) ?_
                    refine AllReadyH.cons (by simp only [List.getElem?_toArray, List.getElem?_cons_succ, List.getElem?_cons_zero]; exact rfl) (fun K hK => ?_) AllReadyH.nil
                    go_simp
                    refine hK.out _ _ ?_ (fun hHeld => ?_)
                    · (try dsimp only)
                      exact ⟨z2, z3, z4⟩
                    clear hK K
                    (try simp only [Act.put, List.setIfInBounds_toArray, List.set_cons_zero, List.set_cons_succ])
                    refine wpAnyH_done (by as_aux_lemma => kernel_rfl) ?_ _
                    have HS5 := Lib.hid (HNW.out.again HLAS.out)
                    obtain ⟨r0, r1, r2, hv5, hz5, hy5, hr5⟩ := (HS5.out.file p.2 HI.out).get
                    have HS6 := Lib.hid (HS5.out.last HI.out hv5 hy5)
                    obtain ⟨B0, d0, e⟩ := hz5.slice
                    subst e
                    rw [if_pos rfl] at hy5
                    obtain ⟨B1, d1, e⟩ := hy5.slice
                    subst e
                    obtain ⟨B2, d2, e, _⟩ := hr5.at
                    subst e
                    have HLST := Lib.hid (dlast_any hv5)
                    rw [← HFB.out] at HLST HS6
                    have HC6 := Lib.hid ((HC22.out.setCell (p := ⟨fb, 0, none⟩) (fun _ => by have := HFL.out; show fb ≤ _; omega) (.slice B1 fx.las.length d1)).setCell (p := ⟨fb, 2, none⟩) (fun _ => by have := HFL.out; show fb ≤ _; omega) (.slice none 0 0))
                    have HD6 := Lib.hid (HD22.out.chg (S := fun q => q = fb) (((show Chg (fun q => q = fb) (w21.setCell ⟨fb, 1, none⟩ (.slice A7 (Dsk.over (f.bytes q) a d n2).length c7)) (w21.setCell ⟨fb, 1, none⟩ (.slice A7 (Dsk.over (f.bytes q) a d n2).length c7)) from Chg.refl _ _).setCell (p := ⟨fb, 0, none⟩) (fun _ => rfl) (.slice B1 fx.las.length d1)).setCell (p := ⟨fb, 2, none⟩) (fun _ => rfl) (.slice none 0 0)) HLF.out)
                    clear hv5 hz5 hy5 hr5
                    go_wp2_with (first
                      | (go_at_call 38; refine HLST.out.mono ?_; rintro _ w30 ⟨rfl, rfl⟩)
                      | fail)
                    go_roundw
                    case rel => exact ⟨j + 1, fsj.set p.2 fx, _, by omega, by go_num, by rw [HNX.out, HFX.out], HS6.out.same (fun x hx => ⟨(Dsk.set_at (HSZ3.out x hx) HFXL.out).1.trans (by simp), (Dsk.set_at (HSZ3.out x hx) HFXL.out).2⟩), HD6.out, HC6.out⟩
                    case measure => simp [intOf]; omega
                  · refine AllReadyH.cons (by simp only [List.getElem?_toArray, List.getElem?_cons_succ, List.getElem?_cons_zero]; exact rfl) (fun K hK => ?_) AllReadyH.nil
                    go_simp
                    (go_at_call 42; refine HCH4.out.mono ?_; rintro _ w20 ⟨rfl, hbx20, hc20⟩)
                    have HS20 := Lib.hid (HSW.out.choose hc20 hbx20)
                    have hlx := HSW.out.lies (Q := fun r => r = .tmp) hc20 (fun k _ e => by subst e; exact ⟨_, crR_box HSW.out.lt, rfl⟩)
                    have s2 : w20.cell? ⟨fb, 2, none⟩ = some (.slice (some ⟨g2, o2, none⟩) nl c2) := (World.cell?_of_block (a := ⟨fb, 2, none⟩) (hc20.block fb HLW.out (fun e => hbxf e.symm))).trans j2
                    have s1 : w20.cell? ⟨fb, 1, none⟩ = some (.slice A1 y1 c1) := (World.cell?_of_block (a := ⟨fb, 1, none⟩) (hc20.block fb HLW.out (fun e => hbxf e.symm))).trans j1
                    have s3 : w20.cell? ⟨g2, o2 + q * 2, none⟩ = some (.int .i64 (d.length : Nat)) := (World.cell?_of_block (a := ⟨g2, o2 + q * 2, none⟩) (hc20.block g2 HG2.out HG2B.out)).trans t0
                    have s4 : w20.cell? ⟨g2, o2 + q * 2 + 1, none⟩ = some (.func (.func 35) #[] #[.pointer (some ⟨xa, 0, none⟩), .pointer (some ⟨xo, 0, none⟩)]) := (World.cell?_of_block (a := ⟨g2, o2 + q * 2 + 1, none⟩) (hc20.block g2 HG2.out HG2B.out)).trans t1
                    have HV20 := Lib.hid (HVW.out.chg hc20 (fun e => hbxf e.symm))
                    have HD20 := Lib.hid (HDW.out.chg hc20 (by omega))
                    have HC20 : Hid (Chg (fun q => q ≤ w.heap.size) w8 w20) := Lib.hid (HCW.out.trans hc20 (fun _ _ e => by rw [e]; exact Nat.le_refl _))
                    obtain ⟨xa', xo', _, efv, hdo⟩ := ddoes_wr (HCV.out.keep hlx (by intro e; cases e)) (HBT.out.keep hlx (by intro e; cases e)) HFT.out HBL.out n2 hn2
                    injection efv with _ _ efv
                    have efa : xa = xa' := by injection efv with efv; injection efv with e1 _; injection e1 with e1; injection e1 with e1; injection e1 with e1 _ _
                    have efo : xo = xo' := by injection efv with efv; injection efv with _ e2; injection e2 with e1 _; injection e1 with e1; injection e1 with e1; injection e1 with e1 _ _
                    clear efv
                    subst efa efo
                    have HDO := Lib.hid hdo
                    clear hdo hlx hc20 hbx20
                    refine hK.out _ _ ?_ (fun hHeld => ?_)
                    · (try dsimp only)
                      exact ⟨s2, s3, s4⟩
                    clear hK K
                    (try simp only [Act.put, List.setIfInBounds_toArray, List.set_cons_zero, List.set_cons_succ])
                    refine wpAnyH_ready (rs := [12]) (by as_aux_lemma => kernel_rfl) (by simp) ?_
                    refine AllReadyH.cons (by simp only [List.getElem?_toArray, List.getElem?_cons_succ, List.getElem?_cons_zero]; exact rfl) (fun K hK => ?_) AllReadyH.nil
                    go_simp
                    refine hK.out _ _ ?_ (fun hHeld => ?_)
                    · (try dsimp only)
                      exact hHeld
                    clear hK K
                    (try simp only [Act.put, List.setIfInBounds_toArray, List.set_cons_zero, List.set_cons_succ])
                    refine wpAnyH_ready (rs := [23]) (by as_aux_lemma => kernel_rfl) (by simp) ?_
                    refine AllReadyH.cons (by simp only [List.getElem?_toArray, List.getElem?_cons_succ, List.getElem?_cons_zero]; exact rfl) (fun K hK => ?_) AllReadyH.nil
                    go_simp
                    (go_at_call 35; refine HDO.out.mono ?_; rintro _ w21 ⟨v21, rfl, hr21, hb21⟩)
                    have HS21 := Lib.hid (HS20.out.below hb21)
                    have HR21 := Lib.hid hr21
                    obtain ⟨A7, c7, e7, _⟩ := RowB.form hr21
                    subst e7
                    have HV21 := Lib.hid (HV20.out.below_all hb21)
                    have HD21 := Lib.hid (HD20.out.chg (S := fun _ => False) (Chg.of_below hb21) id)
                    have HC21 := Lib.hid (HC20.out.then_below hb21)
                    have hfz := HV21.out.frozen 1
                    have y1' := HV21.out.cell (j := 1) rfl
                    have y2 := HV21.out.cell (j := 2) rfl
                    have y3 := (hb21.cell (p := ⟨g2, o2 + q * 2, none⟩) (cell_lt s3)).trans s3
                    have y4 := (hb21.cell (p := ⟨g2, o2 + q * 2 + 1, none⟩) (cell_lt s4)).trans s4
                    have HL20 : Hid (w.heap.size < w20.heap.size) := Lib.hid HS20.out.lt
                    refine hK.out _ _ ?_ (fun hHeld => ?_)
                    · (try dsimp only)
                      exact ⟨y2, y3, y4⟩
                    clear hK K
                    (try simp only [Act.put, List.setIfInBounds_toArray, List.set_cons_zero, List.set_cons_succ])
                    clear hr21 hb21
                    have HBY : Hid (Byt w21 (crR ρ w.heap.size w21.heap.size) (.slice A7 (Dsk.over (f.bytes q) a d n2).length c7) (Dsk.over (f.bytes q) a d n2)) := Lib.hid (Byt.made HR21.out (fun b h1 h2 => crR_new (by have := HL20.out; omega) h2))
                    have HNW := Lib.hid (HS21.out.now HI.out HBY.out)
                    rw [← HFB.out] at HNW
                    have z2 : (w21.setCell ⟨fb, 1, none⟩ (.slice A7 (Dsk.over (f.bytes q) a d n2).length c7)).cell? ⟨fb, 2, none⟩ = some (.slice (some ⟨g2, o2, none⟩) nl c2) := (World.cell?_setCell_other _ _ _ _ (by simp)).trans y2
                    have z3 : (w21.setCell ⟨fb, 1, none⟩ (.slice A7 (Dsk.over (f.bytes q) a d n2).length c7)).cell? ⟨g2, o2 + q * 2, none⟩ = some (.int .i64 (d.length : Nat)) := (World.cell?_setCell_other _ _ _ _ (by intro e; injection e with e; exact HG2F.out e.symm)).trans y3
                    have z4 : (w21.setCell ⟨fb, 1, none⟩ (.slice A7 (Dsk.over (f.bytes q) a d n2).length c7)).cell? ⟨g2, o2 + q * 2 + 1, none⟩ = some (.func (.func 35) #[] #[.pointer (some ⟨xa, 0, none⟩), .pointer (some ⟨xo, 0, none⟩)]) := (World.cell?_setCell_other _ _ _ _ (by intro e; injection e with e; exact HG2F.out e.symm)).trans y4
                    have HC22 : Hid (Chg (fun q => q ≤ w.heap.size) w8 (w21.setCell ⟨fb, 1, none⟩ (.slice A7 (Dsk.over (f.bytes q) a d n2).length c7))) := Lib.hid (HC21.out.setCell (p := ⟨fb, 1, none⟩) (fun _ => by have := HFL.out; show fb ≤ _; omega) _)
                    have HD22 : Hid (Dirm (w21.setCell ⟨fb, 1, none⟩ (.slice A7 (Dsk.over (f.bytes q) a d n2).length c7)) lb (ln + k) F L) := Lib.hid (HD21.out.chg (S := fun q => q = fb) ((show Chg (fun q => q = fb) w21 w21 from Chg.refl _ _).setCell (p := ⟨fb, 1, none⟩) (fun _ => rfl) _) HLF.out)
                    refine wpAnyH_take (i := 24) (v := ?_) (by simp only [List.getElem?_toArray, List.getElem?_cons_succ, List.getElem?_cons_zero]; exact rfl) (by as_aux_lemma => kernel_rfl) (by as_aux_lemma => kernel_rfl) (by as_aux_lemma => kernel_rfl) (by exact fun _ _ _ h => h) (Or.inl ⟨by rfl, ?_⟩) (by assumption) ?_
                    rotate_left
                    · intro w hSw
                      (try dsimp only at hSw)
                      go_simp
                      try with_reducible rfl
                    (try simp only [Act.put, List.setIfInBounds_toArray, List.set_cons_zero, List.set_cons_succ])
                    refine wpAnyH_take (i := 25) (v := ?_) (by simp only [List.getElem?_toArray, List.getElem?_cons_succ, List.getElem?_cons_zero]; exact rfl) (by as_aux_lemma => kernel_rfl) (by as_aux_lemma => kernel_rfl) (by as_aux_lemma => kernel_rfl) (by exact fun _ _ _ h => h) (Or.inl ⟨by rfl, ?_⟩) (by assumption) ?_
                    rotate_left
                    · intro w hSw
                      (try dsimp only at hSw)
                      go_simp
                      try with_reducible rfl
                    (try simp only [Act.put, List.setIfInBounds_toArray, List.set_cons_zero, List.set_cons_succ])
                    refine wpAnyH_ready (rs := [26]) (by as_aux_lemma => kernel_rfl) (by simp) ?_
                    refine AllReadyH.cons (by simp only [List.getElem?_toArray, List.getElem?_cons_succ, List.getElem?_cons_zero]; exact rfl) (fun K hK => ?_) AllReadyH.nil
                    go_simp
                    refine hK.out _ _ ?_ (fun hHeld => ?_)
                    · (try dsimp only)
                      exact ⟨z2, z3, z4⟩
                    clear hK K
                    (try simp only [Act.put, List.setIfInBounds_toArray, List.set_cons_zero, List.set_cons_succ])
                    refine wpAnyH_done (by as_aux_lemma => kernel_rfl) ?_ _
                    have HS5 := Lib.hid (HNW.out.again HLAS.out)
                    obtain ⟨r0, r1, r2, hv5, hz5, hy5, hr5⟩ := (HS5.out.file p.2 HI.out).get
                    have HS6 := Lib.hid (HS5.out.last HI.out hv5 hy5)
                    obtain ⟨B0, d0, e⟩ := hz5.slice
                    subst e
                    rw [if_pos rfl] at hy5
                    obtain ⟨B1, d1, e⟩ := hy5.slice
                    subst e
                    obtain ⟨B2, d2, e, _⟩ := hr5.at
                    subst e
                    have HLST := Lib.hid (dlast_any hv5)
                    rw [← HFB.out] at HLST HS6
                    have HC6 := Lib.hid ((HC22.out.setCell (p := ⟨fb, 0, none⟩) (fun _ => by have := HFL.out; show fb ≤ _; omega) (.slice B1 fx.las.length d1)).setCell (p := ⟨fb, 2, none⟩) (fun _ => by have := HFL.out; show fb ≤ _; omega) (.slice none 0 0))
                    have HD6 := Lib.hid (HD22.out.chg (S := fun q => q = fb) (((show Chg (fun q => q = fb) (w21.setCell ⟨fb, 1, none⟩ (.slice A7 (Dsk.over (f.bytes q) a d n2).length c7)) (w21.setCell ⟨fb, 1, none⟩ (.slice A7 (Dsk.over (f.bytes q) a d n2).length c7)) from Chg.refl _ _).setCell (p := ⟨fb, 0, none⟩) (fun _ => rfl) (.slice B1 fx.las.length d1)).setCell (p := ⟨fb, 2, none⟩) (fun _ => rfl) (.slice none 0 0)) HLF.out)
                    clear hv5 hz5 hy5 hr5
                    go_wp2_with (first
                      | (go_at_call 38; refine HLST.out.mono ?_; rintro _ w30 ⟨rfl, rfl⟩)
                      | fail)
                    go_roundw
                    case rel => exact ⟨j + 1, fsj.set p.2 fx, _, by omega, by go_num, by rw [HNX.out, HFX.out], HS6.out.same (fun x hx => ⟨(Dsk.set_at (HSZ3.out x hx) HFXL.out).1.trans (by simp), (Dsk.set_at (HSZ3.out x hx) HFXL.out).2⟩), HD6.out, HC6.out⟩
                    case measure => simp [intOf]; omega
        · obtain rfl : j = nL := by omega
          have hend2 : ¬ (j : Int) < (j : Int) := by omega
          have hfull : L.take j = L := List.take_of_length_le (by have := HNL.out; omega)
          have hcrash : Dsk.crash s cs = { s with fs := fsj, dl := L, lm := [], arm := none, down := true } := by
            unfold Dsk.crash
            rw [if_neg (by rw [HDN.out]; decide), ← HNM.out, HCE.out]
            dsimp only
            rw [← HLE.out]
            have := HFS.out
            rw [hfull] at this
            rw [this]
          have HOUT := Lib.hid (fun (w4 : World) (hb4 : Below wr.heap.size wr w4) (hl4 : wr.heap.size < w4.heap.size) (hn4 : Dirm w4 wr.heap.size (ln + k) F L) => crash_out HM.out hs hb4 hl4 hlb HL1.out hd hn4 (by have := HL3.out; have := HNM.out; omega) ((HS0.out wr hs.step.chg).trans HV.out) hcrash (Dsk.fit_crash HM.out.fit cs) (fun x hx => by
            rw [hcrash] at hx
            rcases hx with ⟨nx, hx⟩ | ⟨m, hm, _⟩
            · exact Dsk.names_reach (k := k) (by rw [← HLE.out]; exact hx)
            · cases hm))
          have HCLO := Lib.hid (dmclone_any hd)
          have HVD : Hid (Var wr db 65 _) := Lib.hid ((HS0.out wr hs.step.chg).trans HV.out)
          have q1 := HSL.out _ hs.step.chg
          clear hfull hcrash hs hd hc hfs
          go_upto_region 23 with (fail)
          go_wp2_with (first
            | (go_at_call 40; go_must (refine HCLO.out.mono ?_; rintro _ w40 ⟨rfl, hd40, hl40, hb40⟩; have HVX := Lib.hid (HVD.out.below_all hb40); have x2 := HVX.out.frozen 2; have x3 := HVX.out.frozen 3; have x4 := HVX.out.frozen 4; have x5 := HVX.out.frozen 5; have y2 := HVX.out.cell (j := 2) rfl; have y3 := HVX.out.cell (j := 3) rfl; have y4 := HVX.out.cell (j := 4) rfl; have y5 := HVX.out.cell (j := 5) rfl; have HO4 := Lib.hid (HOUT.out w40 hb40 hl40 hd40); clear hd40 hl40 hb40))
            | fail)
          go_end0
          exact ⟨rfl, HO4.out⟩
end Go.Proofs.Ythgeppdoonbkpaa
