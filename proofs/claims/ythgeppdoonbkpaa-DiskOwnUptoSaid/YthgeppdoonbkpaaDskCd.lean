/- A copy of a disk, walked. Conditions: sizes. -/
import Derived.Test.YthgeppdoonbkpaaMC
import Derived.Deep.DeepCutAuto
import Derived.Deep.CutBlock
import Derived.Laws.EntriesVeiled
namespace Go.Proofs.Ythgeppdoonbkpaa
open Go.RowKit Go.Maps Go.WideMaps
theorem pmap_made (w : World) : PMap (w.alloc (.map #[] 0)) w.heap.size [] := ⟨#[], 0, heap_alloc_new w _, rfl⟩
theorem cyc_start {W wq : World} {db : Nat} {F : Nat → Nat} {ρ : Roles} {s : Dsk.St} {T ob bx lb nb : Nat} (hm : Mem W db F ρ s T) (hb : Below W.heap.size W wq) (hob : W.heap.size ≤ ob) (hbx : W.heap.size ≤ bx) (hbo : bx ≠ ob) (hp : PMap wq ob []) (hc : wq.cell? ⟨bx, 0, none⟩ = some (.map (some ob))) (h : (lb = wq.heap.size ∧ nb = wq.heap.size + 1) ∨ (lb = wq.heap.size + 1 ∧ nb = wq.heap.size)) :
    ∃ κ, Cyc W (((wq.alloc (.map #[] 0)).alloc (.map #[] 0)).alloc (.cells #[.int .i64 (s.room : Nat), .map (some lb), .map (some nb), .slice none 0 0, .pointer none, .bool s.down] 65)) ob bx (wq.heap.size + 2) lb nb F ρ s F κ [] [] 0 [] 0 (.slice none 0 0) [] (.pointer none) := by
  have hobl := hp.lt
  have hbxl := cell_lt hc
  have hbs := hb.size
  obtain ⟨w1, hw1⟩ : ∃ w1, w1 = wq.alloc (.map #[] 0) := ⟨_, rfl⟩
  obtain ⟨w2, hw2⟩ : ∃ w2, w2 = w1.alloc (.map #[] 0) := ⟨_, rfl⟩
  have s1 : w1.heap.size = wq.heap.size + 1 := by rw [hw1]; simp
  have s2 : w2.heap.size = wq.heap.size + 2 := by rw [hw2]; simp [s1]
  have o1 : Dirm w1 wq.heap.size 0 F [] := by rw [hw1]; exact World.ownsMap_made wq _ _ _
  have o2 : Dirm w2 (wq.heap.size + 1) 0 F [] := by rw [hw2, ← s1]; exact World.ownsMap_made w1 _ _ _
  have o1' : Dirm w2 wq.heap.size 0 F [] := by rw [hw2]; exact o1.kept (World.grownBy_alloc w1 _ none) (by simp)
  obtain ⟨o, ho⟩ : ∃ o, o = Obj.cells #[.int .i64 (s.room : Nat), .map (some lb), .map (some nb), .slice none 0 0, .pointer none, .bool s.down] 65 := ⟨_, rfl⟩
  have hbq : Below wq.heap.size wq (w2.alloc o) := by
    rw [hw2, hw1]
    exact (((Below.refl _ _).alloc (Nat.le_refl _) _).alloc (by simp) _).alloc (by simp; omega) _
  have hvar : Var (w2.alloc o) (wq.heap.size + 2) 65 [.int .i64 (s.room : Nat), .map (some lb), .map (some nb), .slice none 0 0, .pointer none, .bool s.down] := by rw [ho, ← s2]; exact Var.new w2 _ _
  have hd1 : Dirm (w2.alloc o) lb 0 F [] := by
    rcases h with ⟨e, _⟩ | ⟨e, _⟩
    · rw [e]; exact o1'.kept (World.grownBy_alloc w2 _ none) (by simp)
    · rw [e]; exact o2.kept (World.grownBy_alloc w2 _ none) (by simp)
  have hd2 : Dirm (w2.alloc o) nb 0 F [] := by
    rcases h with ⟨_, e⟩ | ⟨_, e⟩
    · rw [e]; exact o2.kept (World.grownBy_alloc w2 _ none) (by simp)
    · rw [e]; exact o1'.kept (World.grownBy_alloc w2 _ none) (by simp)
  have s3 : (w2.alloc o).heap.size = wq.heap.size + 3 := by simp [s2]
  rw [← ho, ← hw1, ← hw2]
  generalize w2.alloc o = wf at *
  clear ho o o1 o2 o1' hw1 hw2 s1 s2
  obtain ⟨κ, hκ⟩ : ∃ κ : Roles, κ = fun b => if b < W.heap.size then dataOf ρ b else if b = lb then some .lasts else if b = nb then some .now else if b = wq.heap.size + 2 then some .disk else none := ⟨_, rfl⟩
  have kold : ∀ b, b < W.heap.size → κ b = dataOf ρ b := fun b hb => by rw [hκ]; exact if_pos hb
  have kl : κ lb = some .lasts := by rw [hκ]; dsimp only; rw [if_neg (by omega), if_pos rfl]
  have kn : κ nb = some .now := by rw [hκ]; dsimp only; rw [if_neg (by omega), if_neg (by omega), if_pos rfl]
  have kd : κ (wq.heap.size + 2) = some .disk := by rw [hκ]; dsimp only; rw [if_neg (by omega), if_neg (by omega), if_neg (by omega), if_pos rfl]
  have kno : ∀ b, W.heap.size ≤ b → b < wq.heap.size → κ b = none := fun b h1 h2 => by rw [hκ]; dsimp only; rw [if_neg (by omega), if_neg (by omega), if_neg (by omega), if_neg (by omega)]
  refine ⟨κ, ⟨hb.trans (hbq.mono hbs), hob, hp.keep (hbq.block _ hobl), kno _ hob hobl, kold, fun b r e => ?_, fun i hi => (by cases hi)⟩, (hbq.cell (p := ⟨bx, 0, none⟩) hbxl).trans hc, kno _ hbx hbxl, hbo, hvar, kd, kl, kn, ⟨hbx, by omega, by omega, by omega⟩, hd1, fun p hp => (by cases hp), hd2, fun p hp => (by cases hp), Row.nil _ _ _, fun b e => (by simp [Value.ownBlock] at e), fun m hm => (by cases hm)⟩
  rw [hκ] at e
  dsimp only at e
  split at e
  · omega
  · split at e
    · omega
    · split at e
      · omega
      · split at e
        · omega
        · cases e
set_option maxHeartbeats 4000000 in
set_option maxRecDepth 100000 in
theorem dcopy_any {W : World} {db : Nat} {F : Nat → Nat} {ρ : Roles} {s : Dsk.St} {T : Nat} (hm : Mem W db F ρ s T) (hT : T ≤ 100000) :
    Calls Try.prog 27 #[.pointer (some ⟨db, 0, none⟩)] W fun e w' => ∃ cb G κ, e = .returned (.pointer (some ⟨cb, 0, none⟩)) ∧ Mem w' cb G κ s T ∧ Below W.heap.size W w' ∧ ∀ b, b < W.heap.size → κ b = dataOf ρ b := by
  have hmm := @run_makeMap Try.prog
  have hmk : ∀ fn first cap w, (Instr.makeFunc fn first cap).run Try.prog w = .ok (.func fn first cap) w := fun _ _ _ _ => rfl
  obtain ⟨lb0, nb0, ln0, nn0, vl, va, hv, ⟨l1, l2, l3⟩, ⟨n1, n2, n3⟩, ⟨m1, m2⟩, ha⟩ := hm.get
  have HM := Lib.hid hm
  have hdb : db < W.heap.size := hv.lt
  have e0 := hv.cell (j := 0) rfl
  have e5 := hv.cell (j := 5) rfl
  have HV := Lib.hid hv
  have HL2 := Lib.hid l2
  have HN2 := Lib.hid n2
  have HM1 := Lib.hid m1
  have HA := Lib.hid ha
  have HL3 := Lib.hid l3
  have HN3 := Lib.hid n3
  clear hm l1 l2 l3 n1 n2 n3 m1 m2 ha hv
  go_enter Try.func27, Try.ntmps27
  go_upto_region 5 with (fail)
  obtain ⟨wq, hwq⟩ : ∃ wq, wq = ((W.alloc (.map #[] 0)).alloc (.cells #[.map (some W.heap.size)] 91)) := ⟨_, rfl⟩
  rw [← hwq]
  have hbq : Below W.heap.size W wq := by rw [hwq]; exact ((Below.refl _ _).alloc (Nat.le_refl _) _).alloc (by simp) _
  have hpq : PMap wq W.heap.size [] := by
    rw [hwq]
    exact (pmap_made W).keep (Below.heap_alloc _ _ _ (by simp))
  have hcq : wq.cell? ⟨W.heap.size + 1, 0, none⟩ = some (.map (some W.heap.size)) := by
    rw [hwq]
    rw [show W.heap.size + 1 = (W.alloc (.map #[] 0)).heap.size by simp]
    exact (show ((W.alloc (.map #[] 0)).alloc (.cells #[.map (some W.heap.size)] 91)).cell? ⟨(W.alloc (.map #[] 0)).heap.size, 0, none⟩ = _ from (Var.new (W.alloc (.map #[] 0)) 91 [.map (some W.heap.size)]).cell (j := 0) rfl)
  have HST := Lib.hid (fun (wx : World) (hb : Below wq.heap.size wq wx) (hs : wx.heap.size = wq.heap.size) (lb nb : Nat) h => cyc_start (wq := wx) (ob := W.heap.size) (bx := W.heap.size + 1) (lb := lb) (nb := nb) HM.out (hbq.trans (hb.mono hbq.size)) (Nat.le_refl _) (by omega) (by omega) (hpq.keep (hb.block _ hpq.lt)) ((hb.cell (p := ⟨W.heap.size + 1, 0, none⟩) (cell_lt hcq)).trans hcq) h)
  have c0 := (hbq.cell (p := ⟨db, 0, none⟩) hdb).trans e0
  have c5 := (hbq.cell (p := ⟨db, 5, none⟩) hdb).trans e5
  have HBQ := Lib.hid hbq
  obtain ⟨ob, hob⟩ : ∃ ob, ob = W.heap.size := ⟨_, rfl⟩
  rw [← hob] at HST ⊢
  have HOB := Lib.hid hob
  have hdq : db < wq.heap.size := Nat.lt_of_lt_of_le hdb hbq.size
  clear hwq hbq hpq hcq e0 e5 hob
  go_cut [5] (fun v5 wx => ∃ cb lb nb κ, v5 = .pointer (some ⟨cb, 0, none⟩) ∧ Cyc W wx ob (ob + 1) cb lb nb F ρ s F κ [] [] 0 [] 0 (.slice none 0 0) [] (.pointer none))
  case first =>
    have HKP := Lib.hid (fun (w' : World) (hb : Below wq.heap.size wq w') => (⟨(hb.cell (p := ⟨db, 0, none⟩) hdq).trans c0, (hb.cell (p := ⟨db, 5, none⟩) hdq).trans c5⟩ : w'.cell? ⟨db, 0, none⟩ = some (.int .i64 (s.room : Nat)) ∧ w'.cell? ⟨db, 5, none⟩ = some (.bool s.down)))
    refine wp_region_held_drew (S := (fun w' => w'.cell? ⟨db, 0, none⟩ = some (.int .i64 (s.room : Nat)) ∧ w'.cell? ⟨db, 5, none⟩ = some (.bool s.down))) (by as_aux_lemma => kernel_rfl) ?_ (fun hHeld => ?_)
    · exact HKP.out _ ((Below.refl _ _).drew)
    have HS2 := Lib.hid (HST.out wq.drew ((Below.refl _ _).drew) rfl)
    have hbd : Below wq.heap.size wq wq.drew := (Below.refl _ _).drew
    have hszd : wq.drew.heap.size = wq.heap.size := rfl
    clear c0 c5
    generalize wq.drew = wd at *
    have hb1 : Below wq.heap.size wq (wd.alloc (.map #[] 0)) := hbd.alloc (by omega) _
    have hb2 : Below wq.heap.size wq ((wd.alloc (.map #[] 0)).alloc (.map #[] 0)) := hb1.alloc hb1.size _
    refine wpAnyH_take (i := 0) (v := ?_) (by simp only [List.getElem?_toArray, List.getElem?_cons_zero]; exact rfl) (by as_aux_lemma => kernel_rfl) (by as_aux_lemma => kernel_rfl) (by as_aux_lemma => kernel_rfl) (by exact fun _ _ _ h => h) (Or.inl ⟨by rfl, ?_⟩) (by assumption) ?_
    rotate_left
    · intro w hSw
      (try dsimp only at hSw)
      go_simp
      try with_reducible rfl
    (try simp only [Act.put, List.setIfInBounds_toArray, List.set_cons_zero, List.set_cons_succ])
    refine wpAnyH_take (i := 1) (v := ?_) (by simp only [List.getElem?_toArray, List.getElem?_cons_succ, List.getElem?_cons_zero]; exact rfl) (by as_aux_lemma => kernel_rfl) (by as_aux_lemma => kernel_rfl) (by as_aux_lemma => kernel_rfl) (by exact fun _ _ _ h => h) (Or.inl ⟨by rfl, ?_⟩) (by assumption) ?_
    rotate_left
    · intro w hSw
      (try dsimp only at hSw)
      go_simp
      try with_reducible rfl
    (try simp only [Act.put, List.setIfInBounds_toArray, List.set_cons_zero, List.set_cons_succ])
    refine wpAnyH_take (i := 2) (v := ?_) (by simp only [List.getElem?_toArray, List.getElem?_cons_succ, List.getElem?_cons_zero]; exact rfl) (by as_aux_lemma => kernel_rfl) (by as_aux_lemma => kernel_rfl) (by as_aux_lemma => kernel_rfl) (by exact fun _ _ _ h => h) (Or.inl ⟨by rfl, ?_⟩) (by assumption) ?_
    rotate_left
    · intro w hSw
      (try dsimp only at hSw)
      go_simp
      try with_reducible rfl
    (try simp only [Act.put, List.setIfInBounds_toArray, List.set_cons_zero, List.set_cons_succ])
    refine wpAnyH_take (i := 3) (v := ?_) (by simp only [List.getElem?_toArray, List.getElem?_cons_succ, List.getElem?_cons_zero]; exact rfl) (by as_aux_lemma => kernel_rfl) (by as_aux_lemma => kernel_rfl) (by as_aux_lemma => kernel_rfl) (by exact fun _ _ _ h => h) (Or.inl ⟨by rfl, ?_⟩) (by assumption) ?_
    rotate_left
    · intro w hSw
      (try dsimp only at hSw)
      go_simp
      try with_reducible rfl
    (try simp only [Act.put, List.setIfInBounds_toArray, List.set_cons_zero, List.set_cons_succ])
    refine wpAnyH_take (i := 6) (v := ?_) (by simp only [List.getElem?_toArray, List.getElem?_cons_succ, List.getElem?_cons_zero]; exact rfl) (by as_aux_lemma => kernel_rfl) (by as_aux_lemma => kernel_rfl) (by as_aux_lemma => kernel_rfl) (by exact fun _ _ _ h => h) (Or.inl ⟨by rfl, ?_⟩) (by assumption) ?_
    rotate_left
    · intro w hSw
      (try dsimp only at hSw)
      go_simp
      try with_reducible rfl
    (try simp only [Act.put, List.setIfInBounds_toArray, List.set_cons_zero, List.set_cons_succ])
    refine wpAnyH_take (i := 7) (v := ?_) (by simp only [List.getElem?_toArray, List.getElem?_cons_succ, List.getElem?_cons_zero]; exact rfl) (by as_aux_lemma => kernel_rfl) (by as_aux_lemma => kernel_rfl) (by as_aux_lemma => kernel_rfl) (by exact fun _ _ _ h => h) (Or.inl ⟨by rfl, ?_⟩) (by assumption) ?_
    rotate_left
    · intro w hSw
      (try dsimp only at hSw)
      go_simp
      try with_reducible rfl
    (try simp only [Act.put, List.setIfInBounds_toArray, List.set_cons_zero, List.set_cons_succ])
    refine wpAnyH_take (i := 8) (v := ?_) (by simp only [List.getElem?_toArray, List.getElem?_cons_succ, List.getElem?_cons_zero]; exact rfl) (by as_aux_lemma => kernel_rfl) (by as_aux_lemma => kernel_rfl) (by as_aux_lemma => kernel_rfl) (by exact fun _ _ _ h => h) (Or.inl ⟨by rfl, ?_⟩) (by assumption) ?_
    rotate_left
    · intro w hSw
      (try dsimp only at hSw)
      go_simp
      try with_reducible rfl
    (try simp only [Act.put, List.setIfInBounds_toArray, List.set_cons_zero, List.set_cons_succ])
    refine wpAnyH_take (i := 9) (v := ?_) (by simp only [List.getElem?_toArray, List.getElem?_cons_succ, List.getElem?_cons_zero]; exact rfl) (by as_aux_lemma => kernel_rfl) (by as_aux_lemma => kernel_rfl) (by as_aux_lemma => kernel_rfl) (by exact fun _ _ _ h => h) (Or.inl ⟨by rfl, ?_⟩) (by assumption) ?_
    rotate_left
    · intro w hSw
      (try dsimp only at hSw)
      go_simp
      try with_reducible rfl
    (try simp only [Act.put, List.setIfInBounds_toArray, List.set_cons_zero, List.set_cons_succ])
    refine wpAnyH_ready (rs := [4, 5]) (by as_aux_lemma => kernel_rfl) (by simp) ?_
    refine AllReadyH.cons (by simp only [List.getElem?_toArray, List.getElem?_cons_succ, List.getElem?_cons_zero]; exact rfl) (fun K hK => ?_) ?_
    · go_simp
      refine hK.out _ _ ?_ (fun hHeld => ?_)
      · (try dsimp only)
        exact HKP.out _ hb1
      clear hK K
      (try simp only [Act.put, List.setIfInBounds_toArray, List.set_cons_zero, List.set_cons_succ])
      refine wpAnyH_ready (rs := [5]) (by as_aux_lemma => kernel_rfl) (by simp) ?_
      refine AllReadyH.cons (by simp only [List.getElem?_toArray, List.getElem?_cons_succ, List.getElem?_cons_zero]; exact rfl) (fun K hK => ?_) AllReadyH.nil
      go_simp
      refine hK.out _ _ ?_ (fun hHeld => ?_)
      · (try dsimp only)
        exact HKP.out _ hb2
      clear hK K
      (try simp only [Act.put, List.setIfInBounds_toArray, List.set_cons_zero, List.set_cons_succ])
      refine wpAnyH_take (i := 10) (v := ?_) (by simp only [List.getElem?_toArray, List.getElem?_cons_succ, List.getElem?_cons_zero]; exact rfl) (by as_aux_lemma => kernel_rfl) (by as_aux_lemma => kernel_rfl) (by as_aux_lemma => kernel_rfl) (by exact fun _ _ _ h => h) (Or.inl ⟨by rfl, ?_⟩) (by assumption) ?_
      rotate_left
      · intro w hSw
        (try dsimp only at hSw)
        go_simp
        try with_reducible rfl
      (try simp only [Act.put, List.setIfInBounds_toArray, List.set_cons_zero, List.set_cons_succ])
      refine wpAnyH_ready (rs := [11]) (by as_aux_lemma => kernel_rfl) (by simp) ?_
      refine AllReadyH.cons (by simp only [List.getElem?_toArray, List.getElem?_cons_succ, List.getElem?_cons_zero]; exact rfl) (fun K hK => ?_) AllReadyH.nil
      go_simp
      refine hK.out _ _ ?_ (fun hHeld => ?_)
      · (try dsimp only)
        exact HKP.out _ (hb2.alloc hb2.size _)
      clear hK K
      (try simp only [Act.put, List.setIfInBounds_toArray, List.set_cons_zero, List.set_cons_succ])
      refine wpAnyH_take (i := 12) (v := ?_) (by simp only [List.getElem?_toArray, List.getElem?_cons_succ, List.getElem?_cons_zero]; exact rfl) (by as_aux_lemma => kernel_rfl) (by as_aux_lemma => kernel_rfl) (by as_aux_lemma => kernel_rfl) (by exact fun _ _ _ h => h) (Or.inl ⟨by rfl, ?_⟩) (by assumption) ?_
      rotate_left
      · intro w hSw
        (try dsimp only at hSw)
        go_simp
        try with_reducible rfl
      (try simp only [Act.put, List.setIfInBounds_toArray, List.set_cons_zero, List.set_cons_succ])
      refine wpAnyH_done (by as_aux_lemma => kernel_rfl) ?_ _
      go_wp2
      go_meet
      obtain ⟨κ, hκ⟩ := HS2.out wd.heap.size (wd.heap.size + 1) (.inl ⟨rfl, rfl⟩)
      rw [hszd] at hκ
      exact ⟨_, _, _, κ, rfl, hκ⟩
    · refine AllReadyH.cons (by simp only [List.getElem?_toArray, List.getElem?_cons_succ, List.getElem?_cons_zero]; exact rfl) (fun K hK => ?_) AllReadyH.nil
      go_simp
      refine hK.out _ _ ?_ (fun hHeld => ?_)
      · (try dsimp only)
        exact HKP.out _ hb1
      clear hK K
      (try simp only [Act.put, List.setIfInBounds_toArray, List.set_cons_zero, List.set_cons_succ])
      refine wpAnyH_ready (rs := [4]) (by as_aux_lemma => kernel_rfl) (by simp) ?_
      refine AllReadyH.cons (by simp only [List.getElem?_toArray, List.getElem?_cons_succ, List.getElem?_cons_zero]; exact rfl) (fun K hK => ?_) AllReadyH.nil
      go_simp
      refine hK.out _ _ ?_ (fun hHeld => ?_)
      · (try dsimp only)
        exact HKP.out _ hb2
      clear hK K
      (try simp only [Act.put, List.setIfInBounds_toArray, List.set_cons_zero, List.set_cons_succ])
      refine wpAnyH_take (i := 10) (v := ?_) (by simp only [List.getElem?_toArray, List.getElem?_cons_succ, List.getElem?_cons_zero]; exact rfl) (by as_aux_lemma => kernel_rfl) (by as_aux_lemma => kernel_rfl) (by as_aux_lemma => kernel_rfl) (by exact fun _ _ _ h => h) (Or.inl ⟨by rfl, ?_⟩) (by assumption) ?_
      rotate_left
      · intro w hSw
        (try dsimp only at hSw)
        go_simp
        try with_reducible rfl
      (try simp only [Act.put, List.setIfInBounds_toArray, List.set_cons_zero, List.set_cons_succ])
      refine wpAnyH_ready (rs := [11]) (by as_aux_lemma => kernel_rfl) (by simp) ?_
      refine AllReadyH.cons (by simp only [List.getElem?_toArray, List.getElem?_cons_succ, List.getElem?_cons_zero]; exact rfl) (fun K hK => ?_) AllReadyH.nil
      go_simp
      refine hK.out _ _ ?_ (fun hHeld => ?_)
      · (try dsimp only)
        exact HKP.out _ (hb2.alloc hb2.size _)
      clear hK K
      (try simp only [Act.put, List.setIfInBounds_toArray, List.set_cons_zero, List.set_cons_succ])
      refine wpAnyH_take (i := 12) (v := ?_) (by simp only [List.getElem?_toArray, List.getElem?_cons_succ, List.getElem?_cons_zero]; exact rfl) (by as_aux_lemma => kernel_rfl) (by as_aux_lemma => kernel_rfl) (by as_aux_lemma => kernel_rfl) (by exact fun _ _ _ h => h) (Or.inl ⟨by rfl, ?_⟩) (by assumption) ?_
      rotate_left
      · intro w hSw
        (try dsimp only at hSw)
        go_simp
        try with_reducible rfl
      (try simp only [Act.put, List.setIfInBounds_toArray, List.set_cons_zero, List.set_cons_succ])
      refine wpAnyH_done (by as_aux_lemma => kernel_rfl) ?_ _
      go_wp2
      go_meet
      obtain ⟨κ, hκ⟩ := HS2.out (wd.heap.size + 1) wd.heap.size (.inr ⟨rfl, rfl⟩)
      rw [hszd] at hκ
      exact ⟨_, _, _, κ, rfl, hκ⟩
  case rest =>
  obtain ⟨cb, lb, nb, κ, rfl, hcy⟩ := hcut
  have HCY := Lib.hid hcy
  have HB := Lib.hid hcy.c.bel
  have e1 := (HV.out.below_all hcy.c.bel).cell (j := 1) rfl
  have hdw : Dirm wc lb0 ln0 F s.dl := HL2.out.chg (Chg.of_below (S := fun _ => False) hcy.c.bel) id
  have HDW := Lib.hid hdw
  clear hcy hdw c0 c5 HST
  go_upto_block 0 with (first
    | (at_range; refine wpList_range_own _ rfl _ 61 rfl 9 67 dkeyLaw Try.underlying61 _ lb0 ln0 _ rfl HDW.out ?_; intro w0 hrg0 hg0 hs0)
    | fail)
  go_frame
  obtain ⟨r1, hr1⟩ : ∃ r1, r1 = wc.heap.size := ⟨_, rfl⟩
  rw [← hr1] at hrg0 hs0 ⊢
  have HY0 := Lib.hid (HCY.out.past (S := fun _ => False) ⟨hg0.os, hg0.tape, hg0.output, hg0.size, fun k hk _ => hg0.block k hk (by simp)⟩ (fun _ _ e => e.elim))
  have HR0 := Lib.hid hrg0
  have HRG : Hid (W.heap.size ≤ r1 ∧ r1 ≠ ob ∧ r1 ≠ ob + 1 ∧ κ r1 = none) := Lib.hid ⟨by have := HB.out.size; omega, by have := HCY.out.c.map.lt; omega, by have := cell_lt HCY.out.box; omega, by
    cases hk : κ r1 with
    | none => rfl
    | some r => have := HCY.out.c.lt r1 r hk; omega⟩
  clear hrg0 hg0 hs0 e1 hr1
  go_cut [] from 33 to 45 (fun wx => ∃ G κ I, Cyc W wx ob (ob + 1) cb lb nb F ρ s G κ I s.dl ln0 [] 0 (.slice none 0 0) [] (.pointer none))
  case first =>
    go_wp2
    go_loopw [6] (fun _ wr => ∃ (left : Lit → Bool) (cnt : Nat) (G : Nat → Nat) (κ : Roles) (I : List Nat) (ll : Dsk.Dir), wr.ranges Try.prog 9 fileElem lb0 r1 ln0 (Dsk.mapD F s.dl) left cnt ∧ cnt ≤ ln0 ∧ Cyc W wr ob (ob + 1) cb lb nb F ρ s G κ I ll (ln0 - cnt) [] 0 (.slice none 0 0) [] (.pointer none) ∧ Dsk.Rise ll ∧ (∀ n, Dsk.get ll n = if left (.string n) = true then none else Dsk.get s.dl n) ∧ κ r1 = none) (fun _ wr => wr.rangeLeft lb0 r1)
    case atStart =>
      refine ⟨_, _, F, κ, [], [], HR0.out, World.ownsMap.size_le HDW.out, HY0.out.mono (Nat.zero_le _) (Nat.le_refl _), List.Pairwise.nil, fun n => ?_, HRG.out.2.2.2⟩
      rw [Dsk.mapD_has]
      cases Dsk.get s.dl n with
      | none => rfl
      | some i => rfl
    case round =>
      obtain ⟨left, cnt, G, κ2, I, ll, hrg, hcs, hyy, hri, hgl, hkr⟩ := hrel
      have HRI := Lib.hid hri
      have HGL := Lib.hid hgl
      have HYY := Lib.hid hyy
      have HKR := Lib.hid hkr
      have HCS := Lib.hid hcs
      have HRR := Lib.hid hrg
      clear hri hgl hyy hkr hcs
      go_wp2_with (first
        | (at_next; refine wpList_next_dir _ rfl _ rfl lb0 r1 ln0 F s.dl left cnt rfl hrg ?_ ?_)
        | fail)
      · intro hc0 hl0
        clear hrg
        go_wp2
        go_meet
        obtain rfl : ll = s.dl := Dsk.dir_ext HRI.out HM.out.fit.rise (fun n => by rw [HGL.out, hl0]; rfl)
        exact ⟨G, κ2, I, HYY.out.mono (by omega) (Nat.le_refl _)⟩
      · intro nm i w1 cnt1 hnl hgt hlf hrg1 hlt hch1 hs1 hen
        have HRE := Lib.hid (show Dsk.Reach s i from .inl ⟨nm, Dsk.get_mem hgt⟩)
        have HGT := Lib.hid hgt
        have HR1 := Lib.hid hrg1
        have HLT := Lib.hid hlt
        have HY1 := Lib.hid (HYY.out.past hch1 (fun b _ e => by subst e; exact ⟨HRG.out.1, HRG.out.2.1, HRG.out.2.2.1, HKR.out⟩))
        have hrl1 : r1 < w1.heap.size := World.ranges.lt hrg1
        clear hgt hrg1 hlt hch1 hs1 hrg
        go_upto_region 9 with (fail)
        have HYD := Lib.hid (HY1.out.past (S := fun _ => False) (show Chg (fun _ => False) w1 w1.drew from Chg.drew (Chg.refl _ _)) (fun _ _ e => e.elim))
        have HRD := Lib.hid (World.ranges.chg HR1.out (show Chg (fun _ => False) w1 w1.drew from Chg.drew (Chg.refl _ _)) id id)
        have hrl2 : r1 < w1.drew.heap.size := hrl1
        have hcb1 := HYD.out.disk.cell (j := 1) rfl
        refine wp_region_held_drew (S := (fun w' => w'.cell? ⟨cb, 1, none⟩ = some (.map (some lb)))) (by as_aux_lemma => kernel_rfl) ?_ (fun hHeld => ?_)
        · exact hcb1
        generalize w1.drew = wd at *
        refine wpAnyH_take (i := 0) (v := ?_) (by simp only [List.getElem?_toArray, List.getElem?_cons_zero]; exact rfl) (by as_aux_lemma => kernel_rfl) (by as_aux_lemma => kernel_rfl) (by as_aux_lemma => kernel_rfl) (by exact fun _ _ _ h => h) (Or.inl ⟨by rfl, ?_⟩) (by assumption) ?_
        rotate_left
        · intro w hSw
          (try dsimp only at hSw)
          go_simp
          try with_reducible rfl
        (try simp only [Act.put, List.setIfInBounds_toArray, List.set_cons_zero, List.set_cons_succ])
        refine wpAnyH_take (i := 1) (v := ?_) (by simp only [List.getElem?_toArray, List.getElem?_cons_succ, List.getElem?_cons_zero]; exact rfl) (by as_aux_lemma => kernel_rfl) (by as_aux_lemma => kernel_rfl) (by as_aux_lemma => kernel_rfl) (by exact fun _ _ _ h => h) (Or.inl ⟨by rfl, ?_⟩) (by assumption) ?_
        rotate_left
        · intro w hSw
          (try dsimp only at hSw)
          go_simp
          try with_reducible rfl
        (try simp only [Act.put, List.setIfInBounds_toArray, List.set_cons_zero, List.set_cons_succ])
        refine wpAnyH_take (i := 2) (v := ?_) (by simp only [List.getElem?_toArray, List.getElem?_cons_succ, List.getElem?_cons_zero]; exact rfl) (by as_aux_lemma => kernel_rfl) (by as_aux_lemma => kernel_rfl) (by as_aux_lemma => kernel_rfl) (by exact fun _ _ _ h => h) (Or.inl ⟨by rfl, ?_⟩) (by assumption) ?_
        rotate_left
        · intro w hSw
          (try dsimp only at hSw)
          go_simp
          try with_reducible rfl
        (try simp only [Act.put, List.setIfInBounds_toArray, List.set_cons_zero, List.set_cons_succ])
        refine wpAnyH_take (i := 3) (v := ?_) (by simp only [List.getElem?_toArray, List.getElem?_cons_succ, List.getElem?_cons_zero]; exact rfl) (by as_aux_lemma => kernel_rfl) (by as_aux_lemma => kernel_rfl) (by as_aux_lemma => kernel_rfl) (by exact fun _ _ _ h => h) (Or.inl ⟨by rfl, ?_⟩) (by assumption) ?_
        rotate_left
        · intro w hSw
          (try dsimp only at hSw)
          go_simp
          try with_reducible rfl
        (try simp only [Act.put, List.setIfInBounds_toArray, List.set_cons_zero, List.set_cons_succ])
        refine wpAnyH_take (i := 4) (v := ?_) (by simp only [List.getElem?_toArray, List.getElem?_cons_succ, List.getElem?_cons_zero]; exact rfl) (by as_aux_lemma => kernel_rfl) (by as_aux_lemma => kernel_rfl) (by as_aux_lemma => kernel_rfl) (by exact fun _ _ _ h => h) (Or.inl ⟨by rfl, ?_⟩) (by assumption) ?_
        rotate_left
        · intro w hSw
          (try dsimp only at hSw)
          go_simp
          try with_reducible rfl
        (try simp only [Act.put, List.setIfInBounds_toArray, List.set_cons_zero, List.set_cons_succ])
        refine wpAnyH_take (i := 5) (v := ?_) (by simp only [List.getElem?_toArray, List.getElem?_cons_succ, List.getElem?_cons_zero]; exact rfl) (by as_aux_lemma => kernel_rfl) (by as_aux_lemma => kernel_rfl) (by as_aux_lemma => kernel_rfl) (by exact fun _ _ _ h => h) (Or.inl ⟨by rfl, ?_⟩) (by assumption) ?_
        rotate_left
        · intro w hSw
          (try dsimp only at hSw)
          go_simp
          try with_reducible rfl
        (try simp only [Act.put, List.setIfInBounds_toArray, List.set_cons_zero, List.set_cons_succ])
        refine wpAnyH_take (i := 6) (v := ?_) (by simp only [List.getElem?_toArray, List.getElem?_cons_succ, List.getElem?_cons_zero]; exact rfl) (by as_aux_lemma => kernel_rfl) (by as_aux_lemma => kernel_rfl) (by as_aux_lemma => kernel_rfl) (by exact fun _ _ _ h => h) (Or.inl ⟨by rfl, ?_⟩) (by assumption) ?_
        rotate_left
        · intro w hSw
          (try dsimp only at hSw)
          go_simp
          try with_reducible rfl
        (try simp only [Act.put, List.setIfInBounds_toArray, List.set_cons_zero, List.set_cons_succ])
        refine wpAnyH_ready (rs := [7]) (by as_aux_lemma => kernel_rfl) (by simp) ?_
        refine AllReadyH.cons (by simp only [List.getElem?_toArray, List.getElem?_cons_succ, List.getElem?_cons_zero]; exact rfl) (fun K hK => ?_) AllReadyH.nil
        go_simp
        (refine (dof_any HM.out hT HYD.out.c HRE.out HYD.out.box HYD.out.boxo).mono ?_; rintro _ w2 ⟨G2, κ3, I2, rfl, hc2, hiI, hII, hch2, hk2⟩)
        have HY2 := Lib.hid (HYD.out.of hc2 hII hch2 hk2)
        have HII := Lib.hid hiI
        have HR2 := Lib.hid (World.ranges.chg HRD.out hch2 (by have := HOB.out; have := (HL2.out : Dirm W lb0 ln0 F s.dl).lt; omega) HRG.out.2.1)
        have HK2 := Lib.hid ((hk2 r1 hrl2).trans HKR.out)
        clear hc2 hiI hII hch2 hk2 hcb1
        refine hK.out _ _ ?_ (fun hHeld => ?_)
        · (try dsimp only)
          exact HY2.out.disk.cell (j := 1) rfl
        clear hK K
        (try simp only [Act.put, List.setIfInBounds_toArray, List.set_cons_zero, List.set_cons_succ])
        obtain ⟨w3, hrun, hd3, hch3⟩ := dir_put HY2.out.dl (by have := HL3.out; unfold maxLen; omega) nm hnl i
        refine wpAnyH_ready (rs := [8]) (by as_aux_lemma => kernel_rfl) (by simp) ?_
        refine AllReadyH.cons (by simp only [List.getElem?_toArray, List.getElem?_cons_succ, List.getElem?_cons_zero]; exact rfl) (fun K hK => ?_) AllReadyH.nil
        go_simp
        have HY3 := Lib.hid (HY2.out.putL HII.out hd3 hch3)
        have HR3 := Lib.hid (World.ranges.chg HR2.out hch3 (by have := HY2.out.ge.2.2.1; have := (HL2.out : Dirm W lb0 ln0 F s.dl).lt; omega) (fun e => by have := HY2.out.rl; rw [← e, HK2.out] at this; cases this))
        clear hd3 hch3 hrun
        refine hK.out _ _ ?_ (fun hHeld => ?_)
        · (try dsimp only)
          exact HY3.out.disk.cell (j := 1) rfl
        clear hK K
        refine wpAnyH_done (by as_aux_lemma => kernel_rfl) ?_ _
        clear hHeld hen
        go_wp2
        go_roundw
        case rel =>
          refine ⟨_, cnt1, G2, κ3, I2, _, HR3.out, by have := HLT.out; have := HCS.out; omega, HY3.out.mono (by have := HLT.out; have := HCS.out; omega) (Nat.le_refl _), Dsk.put_rise HRI.out _ _, fun n => ?_, HK2.out⟩
          rw [Dsk.get_put, HGL.out]
          by_cases e : n = nm
          · subst e
            rw [if_pos rfl, HGT.out]
            simp [Lit.sameKey]
          · have : (Lit.string n).sameKey (.string nm) = false := by simp [Lit.sameKey, e]
            rw [if_neg e, this]
            simp
        case measure => rw [World.ranges.left_eq HR3.out, World.ranges.left_eq HRR.out]; exact HLT.out
  case rest =>
  obtain ⟨G1, κ1, I1, hcy⟩ := hcut
  clear HRG HR0 HY0 HDW HCY HB
  have HCY := Lib.hid hcy
  have HB := Lib.hid hcy.c.bel
  have e2 := (HV.out.below_all hcy.c.bel).cell (j := 2) rfl
  have hdw : Dirm wc nb0 nn0 F (Dsk.dn s) := HN2.out.chg (Chg.of_below (S := fun _ => False) hcy.c.bel) id
  have HDW := Lib.hid hdw
  clear hcy hdw
  go_upto_block 2 with (first
    | (at_range; refine wpList_range_own _ rfl _ 61 rfl 9 67 dkeyLaw Try.underlying61 _ nb0 nn0 _ rfl HDW.out ?_; intro w0 hrg0 hg0 hs0)
    | fail)
  go_frame
  obtain ⟨r2, hr2⟩ : ∃ r2, r2 = wc.heap.size := ⟨_, rfl⟩
  rw [← hr2] at hrg0 hs0 ⊢
  have HY0 := Lib.hid (HCY.out.past (S := fun _ => False) ⟨hg0.os, hg0.tape, hg0.output, hg0.size, fun k hk _ => hg0.block k hk (by simp)⟩ (fun _ _ e => e.elim))
  have HR0 := Lib.hid hrg0
  have HRG : Hid (W.heap.size ≤ r2 ∧ r2 ≠ ob ∧ r2 ≠ ob + 1 ∧ κ1 r2 = none) := Lib.hid ⟨by have := HB.out.size; omega, by have := HCY.out.c.map.lt; omega, by have := cell_lt HCY.out.box; omega, by
    cases hk : κ1 r2 with
    | none => rfl
    | some r => have := HCY.out.c.lt r2 r hk; omega⟩
  clear hrg0 hg0 hs0 e2 hr2
  go_cut [] from 51 to 63 (fun wx => ∃ G κ I, Cyc W wx ob (ob + 1) cb lb nb F ρ s G κ I s.dl ln0 (Dsk.dn s) nn0 (.slice none 0 0) [] (.pointer none))
  case first =>
    go_wp2
    go_loopw [8] (fun _ wr => ∃ (left : Lit → Bool) (cnt : Nat) (G : Nat → Nat) (κ : Roles) (I : List Nat) (ll : Dsk.Dir), wr.ranges Try.prog 9 fileElem nb0 r2 nn0 (Dsk.mapD F (Dsk.dn s)) left cnt ∧ cnt ≤ nn0 ∧ Cyc W wr ob (ob + 1) cb lb nb F ρ s G κ I s.dl ln0 ll (nn0 - cnt) (.slice none 0 0) [] (.pointer none) ∧ Dsk.Rise ll ∧ (∀ n, Dsk.get ll n = if left (.string n) = true then none else Dsk.get (Dsk.dn s) n) ∧ κ r2 = none) (fun _ wr => wr.rangeLeft nb0 r2)
    case atStart =>
      refine ⟨_, _, G1, κ1, I1, [], HR0.out, World.ownsMap.size_le HDW.out, HY0.out.mono (Nat.le_refl _) (Nat.zero_le _), List.Pairwise.nil, fun n => ?_, HRG.out.2.2.2⟩
      rw [Dsk.mapD_has]
      cases Dsk.get (Dsk.dn s) n with
      | none => rfl
      | some i => rfl
    case round =>
      obtain ⟨left, cnt, G, κ2, I, ll, hrg, hcs, hyy, hri, hgl, hkr⟩ := hrel
      have HRI := Lib.hid hri
      have HGL := Lib.hid hgl
      have HYY := Lib.hid hyy
      have HKR := Lib.hid hkr
      have HCS := Lib.hid hcs
      have HRR := Lib.hid hrg
      clear hri hgl hyy hkr hcs
      go_wp2_with (first
        | (at_next; refine wpList_next_dir _ rfl _ rfl nb0 r2 nn0 F (Dsk.dn s) left cnt rfl hrg ?_ ?_)
        | fail)
      · intro hc0 hl0
        clear hrg
        go_wp2
        go_meet
        obtain rfl : ll = Dsk.dn s := Dsk.dir_ext HRI.out HM.out.fit.dn_rise (fun n => by rw [HGL.out, hl0]; rfl)
        exact ⟨G, κ2, I, HYY.out.mono (Nat.le_refl _) (by omega)⟩
      · intro nm i w1 cnt1 hnl hgt hlf hrg1 hlt hch1 hs1 hen
        have HRE := Lib.hid (show Dsk.Reach s i from Dsk.dn_reach (Dsk.get_mem hgt))
        have HGT := Lib.hid hgt
        have HR1 := Lib.hid hrg1
        have HLT := Lib.hid hlt
        have HY1 := Lib.hid (HYY.out.past hch1 (fun b _ e => by subst e; exact ⟨HRG.out.1, HRG.out.2.1, HRG.out.2.2.1, HKR.out⟩))
        have hrl1 : r2 < w1.heap.size := World.ranges.lt hrg1
        clear hgt hrg1 hlt hch1 hs1 hrg
        go_upto_region 13 with (fail)
        have HYD := Lib.hid (HY1.out.past (S := fun _ => False) (show Chg (fun _ => False) w1 w1.drew from Chg.drew (Chg.refl _ _)) (fun _ _ e => e.elim))
        have HRD := Lib.hid (World.ranges.chg HR1.out (show Chg (fun _ => False) w1 w1.drew from Chg.drew (Chg.refl _ _)) id id)
        have hrl2 : r2 < w1.drew.heap.size := hrl1
        have hcb1 := HYD.out.disk.cell (j := 2) rfl
        refine wp_region_held_drew (S := (fun w' => w'.cell? ⟨cb, 2, none⟩ = some (.map (some nb)))) (by as_aux_lemma => kernel_rfl) ?_ (fun hHeld => ?_)
        · exact hcb1
        generalize w1.drew = wd at *
        refine wpAnyH_take (i := 0) (v := ?_) (by simp only [List.getElem?_toArray, List.getElem?_cons_zero]; exact rfl) (by as_aux_lemma => kernel_rfl) (by as_aux_lemma => kernel_rfl) (by as_aux_lemma => kernel_rfl) (by exact fun _ _ _ h => h) (Or.inl ⟨by rfl, ?_⟩) (by assumption) ?_
        rotate_left
        · intro w hSw
          (try dsimp only at hSw)
          go_simp
          try with_reducible rfl
        (try simp only [Act.put, List.setIfInBounds_toArray, List.set_cons_zero, List.set_cons_succ])
        refine wpAnyH_take (i := 1) (v := ?_) (by simp only [List.getElem?_toArray, List.getElem?_cons_succ, List.getElem?_cons_zero]; exact rfl) (by as_aux_lemma => kernel_rfl) (by as_aux_lemma => kernel_rfl) (by as_aux_lemma => kernel_rfl) (by exact fun _ _ _ h => h) (Or.inl ⟨by rfl, ?_⟩) (by assumption) ?_
        rotate_left
        · intro w hSw
          (try dsimp only at hSw)
          go_simp
          try with_reducible rfl
        (try simp only [Act.put, List.setIfInBounds_toArray, List.set_cons_zero, List.set_cons_succ])
        refine wpAnyH_take (i := 2) (v := ?_) (by simp only [List.getElem?_toArray, List.getElem?_cons_succ, List.getElem?_cons_zero]; exact rfl) (by as_aux_lemma => kernel_rfl) (by as_aux_lemma => kernel_rfl) (by as_aux_lemma => kernel_rfl) (by exact fun _ _ _ h => h) (Or.inl ⟨by rfl, ?_⟩) (by assumption) ?_
        rotate_left
        · intro w hSw
          (try dsimp only at hSw)
          go_simp
          try with_reducible rfl
        (try simp only [Act.put, List.setIfInBounds_toArray, List.set_cons_zero, List.set_cons_succ])
        refine wpAnyH_take (i := 3) (v := ?_) (by simp only [List.getElem?_toArray, List.getElem?_cons_succ, List.getElem?_cons_zero]; exact rfl) (by as_aux_lemma => kernel_rfl) (by as_aux_lemma => kernel_rfl) (by as_aux_lemma => kernel_rfl) (by exact fun _ _ _ h => h) (Or.inl ⟨by rfl, ?_⟩) (by assumption) ?_
        rotate_left
        · intro w hSw
          (try dsimp only at hSw)
          go_simp
          try with_reducible rfl
        (try simp only [Act.put, List.setIfInBounds_toArray, List.set_cons_zero, List.set_cons_succ])
        refine wpAnyH_take (i := 4) (v := ?_) (by simp only [List.getElem?_toArray, List.getElem?_cons_succ, List.getElem?_cons_zero]; exact rfl) (by as_aux_lemma => kernel_rfl) (by as_aux_lemma => kernel_rfl) (by as_aux_lemma => kernel_rfl) (by exact fun _ _ _ h => h) (Or.inl ⟨by rfl, ?_⟩) (by assumption) ?_
        rotate_left
        · intro w hSw
          (try dsimp only at hSw)
          go_simp
          try with_reducible rfl
        (try simp only [Act.put, List.setIfInBounds_toArray, List.set_cons_zero, List.set_cons_succ])
        refine wpAnyH_take (i := 5) (v := ?_) (by simp only [List.getElem?_toArray, List.getElem?_cons_succ, List.getElem?_cons_zero]; exact rfl) (by as_aux_lemma => kernel_rfl) (by as_aux_lemma => kernel_rfl) (by as_aux_lemma => kernel_rfl) (by exact fun _ _ _ h => h) (Or.inl ⟨by rfl, ?_⟩) (by assumption) ?_
        rotate_left
        · intro w hSw
          (try dsimp only at hSw)
          go_simp
          try with_reducible rfl
        (try simp only [Act.put, List.setIfInBounds_toArray, List.set_cons_zero, List.set_cons_succ])
        refine wpAnyH_take (i := 6) (v := ?_) (by simp only [List.getElem?_toArray, List.getElem?_cons_succ, List.getElem?_cons_zero]; exact rfl) (by as_aux_lemma => kernel_rfl) (by as_aux_lemma => kernel_rfl) (by as_aux_lemma => kernel_rfl) (by exact fun _ _ _ h => h) (Or.inl ⟨by rfl, ?_⟩) (by assumption) ?_
        rotate_left
        · intro w hSw
          (try dsimp only at hSw)
          go_simp
          try with_reducible rfl
        (try simp only [Act.put, List.setIfInBounds_toArray, List.set_cons_zero, List.set_cons_succ])
        refine wpAnyH_ready (rs := [7]) (by as_aux_lemma => kernel_rfl) (by simp) ?_
        refine AllReadyH.cons (by simp only [List.getElem?_toArray, List.getElem?_cons_succ, List.getElem?_cons_zero]; exact rfl) (fun K hK => ?_) AllReadyH.nil
        go_simp
        (refine (dof_any HM.out hT HYD.out.c HRE.out HYD.out.box HYD.out.boxo).mono ?_; rintro _ w2 ⟨G2, κ3, I2, rfl, hc2, hiI, hII, hch2, hk2⟩)
        have HY2 := Lib.hid (HYD.out.of hc2 hII hch2 hk2)
        have HII := Lib.hid hiI
        have HR2 := Lib.hid (World.ranges.chg HRD.out hch2 (by have := HOB.out; have := (HN2.out : Dirm W nb0 nn0 F (Dsk.dn s)).lt; omega) HRG.out.2.1)
        have HK2 := Lib.hid ((hk2 r2 hrl2).trans HKR.out)
        clear hc2 hiI hII hch2 hk2 hcb1
        refine hK.out _ _ ?_ (fun hHeld => ?_)
        · (try dsimp only)
          exact HY2.out.disk.cell (j := 2) rfl
        clear hK K
        (try simp only [Act.put, List.setIfInBounds_toArray, List.set_cons_zero, List.set_cons_succ])
        obtain ⟨w3, hrun, hd3, hch3⟩ := dir_put HY2.out.dn (by have := HN3.out; unfold maxLen; omega) nm hnl i
        refine wpAnyH_ready (rs := [8]) (by as_aux_lemma => kernel_rfl) (by simp) ?_
        refine AllReadyH.cons (by simp only [List.getElem?_toArray, List.getElem?_cons_succ, List.getElem?_cons_zero]; exact rfl) (fun K hK => ?_) AllReadyH.nil
        go_simp
        have HY3 := Lib.hid (HY2.out.putN HII.out hd3 hch3)
        have HR3 := Lib.hid (World.ranges.chg HR2.out hch3 (by have := HY2.out.ge.2.2.2; have := (HN2.out : Dirm W nb0 nn0 F (Dsk.dn s)).lt; omega) (fun e => by have := HY2.out.rn; rw [← e, HK2.out] at this; cases this))
        clear hd3 hch3 hrun
        refine hK.out _ _ ?_ (fun hHeld => ?_)
        · (try dsimp only)
          exact HY3.out.disk.cell (j := 2) rfl
        clear hK K
        refine wpAnyH_done (by as_aux_lemma => kernel_rfl) ?_ _
        clear hHeld hen
        go_wp2
        go_roundw
        case rel =>
          refine ⟨_, cnt1, G2, κ3, I2, _, HR3.out, by have := HLT.out; have := HCS.out; omega, HY3.out.mono (Nat.le_refl _) (by have := HLT.out; have := HCS.out; omega), Dsk.put_rise HRI.out _ _, fun n => ?_, HK2.out⟩
          rw [Dsk.get_put, HGL.out]
          by_cases e : n = nm
          · subst e
            rw [if_pos rfl, HGT.out]
            simp [Lit.sameKey]
          · have : (Lit.string n).sameKey (.string nm) = false := by simp [Lit.sameKey, e]
            rw [if_neg e, this]
            simp
        case measure => rw [World.ranges.left_eq HR3.out, World.ranges.left_eq HRR.out]; exact HLT.out
  case rest =>
  obtain ⟨G2, κ2, I2, hcy⟩ := hcut
  clear HRG HR0 HY0 HDW HCY HB
  have HCY := Lib.hid hcy
  have HB := Lib.hid hcy.c.bel
  obtain ⟨Am, cm, rfl, hcm, _, hzm, hrdm⟩ := HM1.out.form
  have e3 := (HV.out.below_all hcy.c.bel).cell (j := 3) rfl
  have HRM := Lib.hid hrdm
  obtain ⟨nm, hnm⟩ : ∃ nm, nm = s.lm.length := ⟨_, rfl⟩
  rw [← hnm] at e3 hcm hzm hrdm
  have hnmT : nm ≤ T := by rw [hnm]; exact HM.out.fit.lm
  have HNM := Lib.hid hnm
  have HRDM := Lib.hid hrdm
  clear hcy hcm hzm hrdm hnm
  go_upto_block 4 with (fail)
  go_cut [] from 69 to 91 (fun wx => ∃ G κ I mv, Cyc W wx ob (ob + 1) cb lb nb F ρ s G κ I s.dl ln0 (Dsk.dn s) nn0 mv s.lm (.pointer none))
  case first =>
    obtain ⟨j0, hj0, jz0, jz1, jz2⟩ := info_parts infoMove
    clear e3
    go_wp2
    go_loopw [69] (fun iv wr => ∃ (k : Nat) (G : Nat → Nat) (κ : Roles) (I : List Nat) (mv : Value), k ≤ nm ∧ iv = .int .i64 (k : Nat) ∧ Cyc W wr ob (ob + 1) cb lb nb F ρ s G κ I s.dl ln0 (Dsk.dn s) nn0 mv (s.lm.take k) (.pointer none)) (fun iv _ => nm - (intOf iv).toNat)
    case atStart => exact ⟨0, G2, κ2, I2, _, Nat.zero_le _, rfl, HCY.out⟩
    case round =>
      obtain ⟨k, G, κ3, I, mv, hk, rfl, hyy⟩ := hrel
      have HYY := Lib.hid hyy
      clear hyy
      obtain ⟨wo, rfl⟩ : ∃ wo : World, wo = wr := ⟨_, rfl⟩
      by_cases hlt : k < nm
      · have hlti : (k : Int) < (nm : Int) := by omega
        obtain ⟨gm, om, hAm, hgm, hcell⟩ := HRDM.out.2 (by omega)
        subst hAm
        obtain ⟨m, hmk⟩ : ∃ m, s.lm[k]? = some m := ⟨_, List.getElem?_eq_getElem (by rw [← HNM.out]; exact hlt)⟩
        obtain ⟨P, hP⟩ := mvP_ptr F m
        have hrange : World.rangeAt wo gm (om + k * 3) [.string (strB m.fr), .string (strB m.to), .pointer P] := fun j u hj => by
          rw [Nat.add_assoc]
          refine (HYY.out.c.bel.cell (p := ⟨gm, om + (k * 3 + j), none⟩) hgm).trans (hcell _ u (movesV_get F s.lm k m hmk j u ?_))
          rw [← hj, mvV, hP]
        have HRG := Lib.hid hrange
        have HMK := Lib.hid hmk
        have HP := Lib.hid hP
        clear hrange hmk hP hcell hgm
        go_upto_region 17 with (first
          | (refine wpList_load_mid rfl 73 (.tmp 71) rfl gm (om + k * 3) rfl [.string (strB m.fr), .string (strB m.to), .pointer P] _ HRG.out Try.underlying73 rfl (by kernel_rfl) ?_)
          | fail)
        obtain ⟨B, cv, rfl, _, _, _, _⟩ := HYY.out.mvr.form
        have hlk : (s.lm.take k).length = k := by rw [List.length_take, ← HNM.out]; omega
        have HLK := Lib.hid hlk
        rw [hlk] at HYY
        obtain ⟨wm, hwm⟩ : ∃ wm, wm = wo.alloc (.cells #[.string (strB m.fr), .string (strB m.to), .pointer P] 73) := ⟨_, rfl⟩
        obtain ⟨mb, hmb⟩ : ∃ mb, mb = wo.heap.size := ⟨_, rfl⟩
        rw [← hwm, ← hmb]
        have hcm : Chg (fun _ => False) wo wm.drew := by rw [hwm]; exact ((Chg.refl _ _).alloc _).drew
        have HYD := Lib.hid (HYY.out.past hcm (fun _ _ e => e.elim))
        have HVM : Hid (Var wm.drew mb 73 [.string (strB m.fr), .string (strB m.to), .pointer P]) := Lib.hid (by rw [hwm, hmb]; exact (Var.new wo _ _).drew)
        have HMO : Hid (mb ≠ ob) := Lib.hid (by have := HYY.out.c.map.lt; omega)
        have HMC : Hid (mb ≠ cb) := Lib.hid (by have := HYY.out.disk.lt; omega)
        have HMV : Hid (∀ b, (Value.slice B k cv).ownBlock = some b → b ≠ mb) := Lib.hid (fun b hb => by have := (HYY.out.mvr.lt b hb).2; omega)
        have HRE : Hid (∀ i, m.nw = some i → Dsk.Reach s i) := Lib.hid (fun i e => .inr ⟨m, List.mem_of_getElem? HMK.out, e⟩)
        have hobw : ob + 1 < wm.drew.heap.size := cell_lt HYD.out.box
        clear hcm hwm hlk hmb
        have x0 := HVM.out.cell (j := 0) rfl
        have x1 := HVM.out.cell (j := 1) rfl
        have x2 := HVM.out.cell (j := 2) rfl
        refine wp_region_held_drew (S := (fun w' => w'.cell? ⟨mb, 0, none⟩ = some (.string (strB m.fr)) ∧ w'.cell? ⟨mb, 1, none⟩ = some (.string (strB m.to)) ∧ w'.cell? ⟨mb, 2, none⟩ = some (.pointer P))) (by as_aux_lemma => kernel_rfl) ?_ (fun hHeld => ?_)
        · exact ⟨x0, x1, x2⟩
        generalize wm.drew = wd at *
        clear x0 x1 x2
        refine wpAnyH_take (i := 0) (v := ?_) (by simp only [List.getElem?_toArray, List.getElem?_cons_zero]; exact rfl) (by as_aux_lemma => kernel_rfl) (by as_aux_lemma => kernel_rfl) (by as_aux_lemma => kernel_rfl) (by exact fun _ _ _ h => h) (Or.inl ⟨by rfl, ?_⟩) (by assumption) ?_
        rotate_left
        · intro w hSw
          (try dsimp only at hSw)
          go_simp
          try with_reducible rfl
        (try simp only [Act.put, List.setIfInBounds_toArray, List.set_cons_zero, List.set_cons_succ])
        refine wpAnyH_take (i := 1) (v := ?_) (by simp only [List.getElem?_toArray, List.getElem?_cons_succ, List.getElem?_cons_zero]; exact rfl) (by as_aux_lemma => kernel_rfl) (by as_aux_lemma => kernel_rfl) (by as_aux_lemma => kernel_rfl) (by exact fun _ _ _ h => h) (Or.inl ⟨by rfl, ?_⟩) (by assumption) ?_
        rotate_left
        · intro w hSw
          (try dsimp only at hSw)
          go_simp
          try with_reducible rfl
        (try simp only [Act.put, List.setIfInBounds_toArray, List.set_cons_zero, List.set_cons_succ])
        refine wpAnyH_take (i := 2) (v := ?_) (by simp only [List.getElem?_toArray, List.getElem?_cons_succ, List.getElem?_cons_zero]; exact rfl) (by as_aux_lemma => kernel_rfl) (by as_aux_lemma => kernel_rfl) (by as_aux_lemma => kernel_rfl) (by exact fun _ _ _ h => h) (Or.inl ⟨by rfl, ?_⟩) (by assumption) ?_
        rotate_left
        · intro w hSw
          (try dsimp only at hSw)
          go_simp
          try with_reducible rfl
        (try simp only [Act.put, List.setIfInBounds_toArray, List.set_cons_zero, List.set_cons_succ])
        refine wpAnyH_take (i := 3) (v := ?_) (by simp only [List.getElem?_toArray, List.getElem?_cons_succ, List.getElem?_cons_zero]; exact rfl) (by as_aux_lemma => kernel_rfl) (by as_aux_lemma => kernel_rfl) (by as_aux_lemma => kernel_rfl) (by exact fun _ _ _ h => h) (Or.inl ⟨by rfl, ?_⟩) (by assumption) ?_
        rotate_left
        · intro w hSw
          (try dsimp only at hSw)
          go_simp
          try with_reducible rfl
        (try simp only [Act.put, List.setIfInBounds_toArray, List.set_cons_zero, List.set_cons_succ])
        refine wpAnyH_take (i := 5) (v := ?_) (by simp only [List.getElem?_toArray, List.getElem?_cons_succ, List.getElem?_cons_zero]; exact rfl) (by as_aux_lemma => kernel_rfl) (by as_aux_lemma => kernel_rfl) (by as_aux_lemma => kernel_rfl) (by exact fun _ _ _ h => h) (Or.inl ⟨by rfl, ?_⟩) (by assumption) ?_
        rotate_left
        · intro w hSw
          (try dsimp only at hSw)
          go_simp
          try with_reducible rfl
        (try simp only [Act.put, List.setIfInBounds_toArray, List.set_cons_zero, List.set_cons_succ])
        refine wpAnyH_take (i := 6) (v := ?_) (by simp only [List.getElem?_toArray, List.getElem?_cons_succ, List.getElem?_cons_zero]; exact rfl) (by as_aux_lemma => kernel_rfl) (by as_aux_lemma => kernel_rfl) (by as_aux_lemma => kernel_rfl) (by exact fun _ _ _ h => h) (Or.inl ⟨by rfl, ?_⟩) (by assumption) ?_
        rotate_left
        · intro w hSw
          (try dsimp only at hSw)
          go_simp
          try with_reducible rfl
        (try simp only [Act.put, List.setIfInBounds_toArray, List.set_cons_zero, List.set_cons_succ])
        refine wpAnyH_take (i := 7) (v := ?_) (by simp only [List.getElem?_toArray, List.getElem?_cons_succ, List.getElem?_cons_zero]; exact rfl) (by as_aux_lemma => kernel_rfl) (by as_aux_lemma => kernel_rfl) (by as_aux_lemma => kernel_rfl) (by exact fun _ _ _ h => h) (Or.inl ⟨by rfl, ?_⟩) (by assumption) ?_
        rotate_left
        · intro w hSw
          (try dsimp only at hSw)
          go_simp
          try with_reducible rfl
        (try simp only [Act.put, List.setIfInBounds_toArray, List.set_cons_zero, List.set_cons_succ])
        refine wpAnyH_take (i := 8) (v := ?_) (by simp only [List.getElem?_toArray, List.getElem?_cons_succ, List.getElem?_cons_zero]; exact rfl) (by as_aux_lemma => kernel_rfl) (by as_aux_lemma => kernel_rfl) (by as_aux_lemma => kernel_rfl) (by exact fun _ _ _ h => h) (Or.inl ⟨by rfl, ?_⟩) (by assumption) ?_
        rotate_left
        · intro w hSw
          (try dsimp only at hSw)
          go_simp
          try with_reducible rfl
        (try simp only [Act.put, List.setIfInBounds_toArray, List.set_cons_zero, List.set_cons_succ])
        refine wpAnyH_take (i := 9) (v := ?_) (by simp only [List.getElem?_toArray, List.getElem?_cons_succ, List.getElem?_cons_zero]; exact rfl) (by as_aux_lemma => kernel_rfl) (by as_aux_lemma => kernel_rfl) (by as_aux_lemma => kernel_rfl) (by exact fun _ _ _ h => h) (Or.inl ⟨by rfl, ?_⟩) (by assumption) ?_
        rotate_left
        · intro w hSw
          (try dsimp only at hSw)
          go_simp
          try with_reducible rfl
        (try simp only [Act.put, List.setIfInBounds_toArray, List.set_cons_zero, List.set_cons_succ])
        refine wpAnyH_take (i := 10) (v := ?_) (by simp only [List.getElem?_toArray, List.getElem?_cons_succ, List.getElem?_cons_zero]; exact rfl) (by as_aux_lemma => kernel_rfl) (by as_aux_lemma => kernel_rfl) (by as_aux_lemma => kernel_rfl) (by exact fun _ _ _ h => h) (Or.inl ⟨by rfl, ?_⟩) (by assumption) ?_
        rotate_left
        · intro w hSw
          (try dsimp only at hSw)
          go_simp
          try with_reducible rfl
        (try simp only [Act.put, List.setIfInBounds_toArray, List.set_cons_zero, List.set_cons_succ])
        refine wpAnyH_take (i := 11) (v := ?_) (by simp only [List.getElem?_toArray, List.getElem?_cons_succ, List.getElem?_cons_zero]; exact rfl) (by as_aux_lemma => kernel_rfl) (by as_aux_lemma => kernel_rfl) (by as_aux_lemma => kernel_rfl) (by exact fun _ _ _ h => h) (Or.inl ⟨by rfl, ?_⟩) (by assumption) ?_
        rotate_left
        · intro w hSw
          (try dsimp only at hSw)
          go_simp
          try with_reducible rfl
        (try simp only [Act.put, List.setIfInBounds_toArray, List.set_cons_zero, List.set_cons_succ])
        have z3 := HYD.out.disk.cell (j := 3) rfl
        refine wpAnyH_ready (rs := [4, 12]) (by as_aux_lemma => kernel_rfl) (by simp) ?_
        refine AllReadyH.cons (by simp only [List.getElem?_toArray, List.getElem?_cons_succ, List.getElem?_cons_zero]; exact rfl) (fun K hK => ?_) ?_
        · go_simp
          refine hK.out _ _ ?_ (fun hHeld => ?_)
          · (try dsimp only)
            exact hHeld
          clear hK K
          (try simp only [Act.put, List.setIfInBounds_toArray, List.set_cons_zero, List.set_cons_succ])
          clear z3
          refine wpAnyH_ready (rs := [12]) (by as_aux_lemma => kernel_rfl) (by simp) ?_
          refine AllReadyH.cons (by simp only [List.getElem?_toArray, List.getElem?_cons_succ, List.getElem?_cons_zero]; exact rfl) (fun K hK => ?_) AllReadyH.nil
          go_simp
          (refine (dof_mv HM.out hT HYD.out.c HRE.out HP.out HYD.out.box HYD.out.boxo).mono ?_; rintro _ w2 ⟨G4, κ4, I4, P', rfl, hP4, hc2, hiI, hII, hch2, hk2⟩)
          have HY2 := Lib.hid (HYD.out.of hc2 hII hch2 hk2)
          have HIN := Lib.hid hiI
          have HP4 := Lib.hid hP4
          have HVM2 := Lib.hid (HVM.out.chg hch2 HMO.out)
          have HRW2 : Hid (Row w2 W.heap.size 3 (.slice B k cv) k (movesV G4 (s.lm.take k))) := Lib.hid (by have h := HY2.out.mvr; rw [HLK.out] at h; exact h)
          clear hc2 hiI hII hch2 hk2 hP4
          refine hK.out _ _ ?_ (fun hHeld => ?_)
          · (try dsimp only)
            exact ⟨HVM2.out.cell (j := 0) rfl, HVM2.out.cell (j := 1) rfl, HVM2.out.cell (j := 2) rfl⟩
          clear hK K
          (try simp only [Act.put, List.setIfInBounds_toArray, List.set_cons_zero, List.set_cons_succ])
          refine wpAnyH_take (i := 13) (v := ?_) (by simp only [List.getElem?_toArray, List.getElem?_cons_succ, List.getElem?_cons_zero]; exact rfl) (by as_aux_lemma => kernel_rfl) (by as_aux_lemma => kernel_rfl) (by as_aux_lemma => kernel_rfl) (by exact fun _ _ _ h => h) (Or.inl ⟨by rfl, ?_⟩) (by assumption) ?_
          rotate_left
          · intro w hSw
            (try dsimp only at hSw)
            go_simp
            try with_reducible rfl
          (try simp only [Act.put, List.setIfInBounds_toArray, List.set_cons_zero, List.set_cons_succ])
          refine wpAnyH_ready (rs := [14]) (by as_aux_lemma => kernel_rfl) (by simp) ?_
          refine AllReadyH.cons (by simp only [List.getElem?_toArray, List.getElem?_cons_succ, List.getElem?_cons_zero]; exact rfl) (fun K hK => ?_) AllReadyH.nil
          go_simp
          refine hK.out _ _ ?_ (fun hHeld => ?_)
          · (try dsimp only)
            exact ⟨(HVM2.out.alloc _).cell (j := 0) rfl, (HVM2.out.alloc _).cell (j := 1) rfl, (HVM2.out.alloc _).cell (j := 2) rfl⟩
          clear hK K
          (try simp only [Act.put, List.setIfInBounds_toArray, List.set_cons_zero, List.set_cons_succ])
          refine wpAnyH_ready (rs := [15]) (by as_aux_lemma => kernel_rfl) (by simp) ?_
          refine AllReadyH.cons (by simp only [List.getElem?_toArray, List.getElem?_cons_succ, List.getElem?_cons_zero]; exact rfl) (fun K hK => ?_) AllReadyH.nil
          (refine step_app _ (by rfl) (.tmp 77) (.tmp 87) 62 62 (by rfl) W.heap.size 73 j0 (.agg #[.string ⟨#[]⟩, .string ⟨#[]⟩, .pointer none]) 3 40 Try.underlying62 hj0 jz0 jz1 jz2 rfl (.slice B k cv) k (movesV G4 (s.lm.take k)) (by rfl) (HRW2.out.alloc _) _ 1 [.string (strB m.fr), .string (strB m.to), .pointer P'] (by rfl) (Src.built [.string (strB m.fr), .string (strB m.to), .pointer P'] 73 Try.underlying62 rfl (by intro u hu; simp only [List.mem_cons, List.not_mem_nil, or_false] at hu; rcases hu with rfl | rfl | rfl <;> rfl)) (by omega) (by omega) (by omega) (by have := HY2.out.c.bel.size; simp; omega) ?_; intro v3 w3 hrow3 hg3 ho3)
          have hch3 : Chg (fun b => (Value.slice B k cv).ownBlock = some b) w2 w3 := ((show Chg (fun b => (Value.slice B k cv).ownBlock = some b) w2 w2 from Chg.refl _ _).alloc _).grown hg3 (fun b _ e => e)
          have hov3 : v3.ownBlock = (Value.slice B k cv).ownBlock ∨ ∀ b, v3.ownBlock = some b → w2.heap.size ≤ b := ho3.imp id (fun e b hb => by rw [e] at hb; injection hb with hb; rw [← hb]; simp)
          have hrow3' : Row w3 W.heap.size 3 v3 (s.lm.take k ++ [m]).length (movesV G4 (s.lm.take k ++ [m])) := by
            rw [movesV_snoc, List.length_append, HLK.out, List.length_singleton, mvV, HP4.out]
            exact hrow3
          obtain ⟨A3, c3, rfl, _, _, _, _⟩ := Row.form hrow3
          have HPU := Lib.hid (HY2.out.push (m := m) HIN.out hch3 hrow3' hov3)
          have HV3 := Lib.hid (HY2.out.disk.chg hch3 (fun e => by have h1 := HY2.out.mvo _ e; rw [HY2.out.rd] at h1; cases h1))
          have HVM3 := Lib.hid (HVM2.out.chg hch3 (fun e => by have := (HY2.out.mvr.lt _ e).2; have h1 := HMV.out _ e; exact h1 rfl))
          have f3 := HV3.out.frozen 3
          have q3 := HV3.out.cell (j := 3) rfl
          clear hrow3 hrow3' hg3 ho3 hch3 hov3
          refine hK.out _ _ ?_ (fun hHeld => ?_)
          · (try dsimp only)
            exact ⟨HVM3.out.cell (j := 0) rfl, HVM3.out.cell (j := 1) rfl, HVM3.out.cell (j := 2) rfl⟩
          clear hK K
          (try simp only [Act.put, List.setIfInBounds_toArray, List.set_cons_zero, List.set_cons_succ])
          refine wpAnyH_take (i := 16) (v := ?_) (by simp only [List.getElem?_toArray, List.getElem?_cons_succ, List.getElem?_cons_zero]; exact rfl) (by as_aux_lemma => kernel_rfl) (by as_aux_lemma => kernel_rfl) (by as_aux_lemma => kernel_rfl) (by exact fun _ _ _ h => h) (Or.inl ⟨by rfl, ?_⟩) (by assumption) ?_
          rotate_left
          · intro w hSw
            (try dsimp only at hSw)
            go_simp
            try with_reducible rfl
          (try simp only [Act.put, List.setIfInBounds_toArray, List.set_cons_zero, List.set_cons_succ])
          refine wpAnyH_take (i := 17) (v := ?_) (by simp only [List.getElem?_toArray, List.getElem?_cons_succ, List.getElem?_cons_zero]; exact rfl) (by as_aux_lemma => kernel_rfl) (by as_aux_lemma => kernel_rfl) (by as_aux_lemma => kernel_rfl) (by exact fun _ _ _ h => h) (Or.inl ⟨by rfl, ?_⟩) (by assumption) ?_
          rotate_left
          · intro w hSw
            (try dsimp only at hSw)
            go_simp
            try with_reducible rfl
          (try simp only [Act.put, List.setIfInBounds_toArray, List.set_cons_zero, List.set_cons_succ])
          refine wpAnyH_ready (rs := [18]) (by as_aux_lemma => kernel_rfl) (by simp) ?_
          refine AllReadyH.cons (by simp only [List.getElem?_toArray, List.getElem?_cons_succ, List.getElem?_cons_zero]; exact rfl) (fun K hK => ?_) AllReadyH.nil
          go_simp
          refine hK.out _ _ ?_ (fun hHeld => ?_)
          · (try dsimp only)
            exact ⟨(HVM3.out.set_other (p := ⟨cb, 3, none⟩) (by exact fun e => HMC.out e.symm) _).cell (j := 0) rfl, (HVM3.out.set_other (p := ⟨cb, 3, none⟩) (by exact fun e => HMC.out e.symm) _).cell (j := 1) rfl, (HVM3.out.set_other (p := ⟨cb, 3, none⟩) (by exact fun e => HMC.out e.symm) _).cell (j := 2) rfl⟩
          clear hK K
          refine wpAnyH_done (by as_aux_lemma => kernel_rfl) ?_ _
          clear f3 q3 hHeld
          go_wp2
          go_roundw
          case rel => exact ⟨k + 1, G4, _, I4, _, by omega, by go_num, by rw [take_snoc HMK.out]; exact HPU.out⟩
          case measure => simp [intOf]; omega
        · refine AllReadyH.cons (by simp only [List.getElem?_toArray, List.getElem?_cons_succ, List.getElem?_cons_zero]; exact rfl) (fun K hK => ?_) AllReadyH.nil
          go_simp
          (refine (dof_mv HM.out hT HYD.out.c HRE.out HP.out HYD.out.box HYD.out.boxo).mono ?_; rintro _ w2 ⟨G4, κ4, I4, P', rfl, hP4, hc2, hiI, hII, hch2, hk2⟩)
          have HY2 := Lib.hid (HYD.out.of hc2 hII hch2 hk2)
          have HIN := Lib.hid hiI
          have HP4 := Lib.hid hP4
          have HVM2 := Lib.hid (HVM.out.chg hch2 HMO.out)
          have HRW2 : Hid (Row w2 W.heap.size 3 (.slice B k cv) k (movesV G4 (s.lm.take k))) := Lib.hid (by have h := HY2.out.mvr; rw [HLK.out] at h; exact h)
          clear hc2 hiI hII hch2 hk2 hP4
          refine hK.out _ _ ?_ (fun hHeld => ?_)
          · (try dsimp only)
            exact ⟨HVM2.out.cell (j := 0) rfl, HVM2.out.cell (j := 1) rfl, HVM2.out.cell (j := 2) rfl⟩
          clear hK K
          (try simp only [Act.put, List.setIfInBounds_toArray, List.set_cons_zero, List.set_cons_succ])
          clear z3
          have z3 := HY2.out.disk.cell (j := 3) rfl
          refine wpAnyH_take (i := 13) (v := ?_) (by simp only [List.getElem?_toArray, List.getElem?_cons_succ, List.getElem?_cons_zero]; exact rfl) (by as_aux_lemma => kernel_rfl) (by as_aux_lemma => kernel_rfl) (by as_aux_lemma => kernel_rfl) (by exact fun _ _ _ h => h) (Or.inl ⟨by rfl, ?_⟩) (by assumption) ?_
          rotate_left
          · intro w hSw
            (try dsimp only at hSw)
            go_simp
            try with_reducible rfl
          (try simp only [Act.put, List.setIfInBounds_toArray, List.set_cons_zero, List.set_cons_succ])
          refine wpAnyH_ready (rs := [4, 14]) (by as_aux_lemma => kernel_rfl) (by simp) ?_
          refine AllReadyH.cons (by simp only [List.getElem?_toArray, List.getElem?_cons_succ, List.getElem?_cons_zero]; exact rfl) (fun K hK => ?_) ?_
          · go_simp
            refine hK.out _ _ ?_ (fun hHeld => ?_)
            · (try dsimp only)
              exact hHeld
            clear hK K
            (try simp only [Act.put, List.setIfInBounds_toArray, List.set_cons_zero, List.set_cons_succ])
            clear z3
            refine wpAnyH_ready (rs := [14]) (by as_aux_lemma => kernel_rfl) (by simp) ?_
            refine AllReadyH.cons (by simp only [List.getElem?_toArray, List.getElem?_cons_succ, List.getElem?_cons_zero]; exact rfl) (fun K hK => ?_) AllReadyH.nil
            go_simp
            refine hK.out _ _ ?_ (fun hHeld => ?_)
            · (try dsimp only)
              exact ⟨(HVM2.out.alloc _).cell (j := 0) rfl, (HVM2.out.alloc _).cell (j := 1) rfl, (HVM2.out.alloc _).cell (j := 2) rfl⟩
            clear hK K
            (try simp only [Act.put, List.setIfInBounds_toArray, List.set_cons_zero, List.set_cons_succ])
            refine wpAnyH_ready (rs := [15]) (by as_aux_lemma => kernel_rfl) (by simp) ?_
            refine AllReadyH.cons (by simp only [List.getElem?_toArray, List.getElem?_cons_succ, List.getElem?_cons_zero]; exact rfl) (fun K hK => ?_) AllReadyH.nil
            (refine step_app _ (by rfl) (.tmp 77) (.tmp 87) 62 62 (by rfl) W.heap.size 73 j0 (.agg #[.string ⟨#[]⟩, .string ⟨#[]⟩, .pointer none]) 3 40 Try.underlying62 hj0 jz0 jz1 jz2 rfl (.slice B k cv) k (movesV G4 (s.lm.take k)) (by rfl) (HRW2.out.alloc _) _ 1 [.string (strB m.fr), .string (strB m.to), .pointer P'] (by rfl) (Src.built [.string (strB m.fr), .string (strB m.to), .pointer P'] 73 Try.underlying62 rfl (by intro u hu; simp only [List.mem_cons, List.not_mem_nil, or_false] at hu; rcases hu with rfl | rfl | rfl <;> rfl)) (by omega) (by omega) (by omega) (by have := HY2.out.c.bel.size; simp; omega) ?_; intro v3 w3 hrow3 hg3 ho3)
            have hch3 : Chg (fun b => (Value.slice B k cv).ownBlock = some b) w2 w3 := ((show Chg (fun b => (Value.slice B k cv).ownBlock = some b) w2 w2 from Chg.refl _ _).alloc _).grown hg3 (fun b _ e => e)
            have hov3 : v3.ownBlock = (Value.slice B k cv).ownBlock ∨ ∀ b, v3.ownBlock = some b → w2.heap.size ≤ b := ho3.imp id (fun e b hb => by rw [e] at hb; injection hb with hb; rw [← hb]; simp)
            have hrow3' : Row w3 W.heap.size 3 v3 (s.lm.take k ++ [m]).length (movesV G4 (s.lm.take k ++ [m])) := by
              rw [movesV_snoc, List.length_append, HLK.out, List.length_singleton, mvV, HP4.out]
              exact hrow3
            obtain ⟨A3, c3, rfl, _, _, _, _⟩ := Row.form hrow3
            have HPU := Lib.hid (HY2.out.push (m := m) HIN.out hch3 hrow3' hov3)
            have HV3 := Lib.hid (HY2.out.disk.chg hch3 (fun e => by have h1 := HY2.out.mvo _ e; rw [HY2.out.rd] at h1; cases h1))
            have HVM3 := Lib.hid (HVM2.out.chg hch3 (fun e => by have := (HY2.out.mvr.lt _ e).2; have h1 := HMV.out _ e; exact h1 rfl))
            have f3 := HV3.out.frozen 3
            have q3 := HV3.out.cell (j := 3) rfl
            clear hrow3 hrow3' hg3 ho3 hch3 hov3
            refine hK.out _ _ ?_ (fun hHeld => ?_)
            · (try dsimp only)
              exact ⟨HVM3.out.cell (j := 0) rfl, HVM3.out.cell (j := 1) rfl, HVM3.out.cell (j := 2) rfl⟩
            clear hK K
            (try simp only [Act.put, List.setIfInBounds_toArray, List.set_cons_zero, List.set_cons_succ])
            refine wpAnyH_take (i := 16) (v := ?_) (by simp only [List.getElem?_toArray, List.getElem?_cons_succ, List.getElem?_cons_zero]; exact rfl) (by as_aux_lemma => kernel_rfl) (by as_aux_lemma => kernel_rfl) (by as_aux_lemma => kernel_rfl) (by exact fun _ _ _ h => h) (Or.inl ⟨by rfl, ?_⟩) (by assumption) ?_
            rotate_left
            · intro w hSw
              (try dsimp only at hSw)
              go_simp
              try with_reducible rfl
            (try simp only [Act.put, List.setIfInBounds_toArray, List.set_cons_zero, List.set_cons_succ])
            refine wpAnyH_take (i := 17) (v := ?_) (by simp only [List.getElem?_toArray, List.getElem?_cons_succ, List.getElem?_cons_zero]; exact rfl) (by as_aux_lemma => kernel_rfl) (by as_aux_lemma => kernel_rfl) (by as_aux_lemma => kernel_rfl) (by exact fun _ _ _ h => h) (Or.inl ⟨by rfl, ?_⟩) (by assumption) ?_
            rotate_left
            · intro w hSw
              (try dsimp only at hSw)
              go_simp
              try with_reducible rfl
            (try simp only [Act.put, List.setIfInBounds_toArray, List.set_cons_zero, List.set_cons_succ])
            refine wpAnyH_ready (rs := [18]) (by as_aux_lemma => kernel_rfl) (by simp) ?_
            refine AllReadyH.cons (by simp only [List.getElem?_toArray, List.getElem?_cons_succ, List.getElem?_cons_zero]; exact rfl) (fun K hK => ?_) AllReadyH.nil
            go_simp
            refine hK.out _ _ ?_ (fun hHeld => ?_)
            · (try dsimp only)
              exact ⟨(HVM3.out.set_other (p := ⟨cb, 3, none⟩) (by exact fun e => HMC.out e.symm) _).cell (j := 0) rfl, (HVM3.out.set_other (p := ⟨cb, 3, none⟩) (by exact fun e => HMC.out e.symm) _).cell (j := 1) rfl, (HVM3.out.set_other (p := ⟨cb, 3, none⟩) (by exact fun e => HMC.out e.symm) _).cell (j := 2) rfl⟩
            clear hK K
            refine wpAnyH_done (by as_aux_lemma => kernel_rfl) ?_ _
            clear f3 q3 hHeld
            go_wp2
            go_roundw
            case rel => exact ⟨k + 1, G4, _, I4, _, by omega, by go_num, by rw [take_snoc HMK.out]; exact HPU.out⟩
            case measure => simp [intOf]; omega
          · refine AllReadyH.cons (by simp only [List.getElem?_toArray, List.getElem?_cons_succ, List.getElem?_cons_zero]; exact rfl) (fun K hK => ?_) AllReadyH.nil
            go_simp
            refine hK.out _ _ ?_ (fun hHeld => ?_)
            · (try dsimp only)
              exact ⟨(HVM2.out.alloc _).cell (j := 0) rfl, (HVM2.out.alloc _).cell (j := 1) rfl, (HVM2.out.alloc _).cell (j := 2) rfl⟩
            clear hK K
            (try simp only [Act.put, List.setIfInBounds_toArray, List.set_cons_zero, List.set_cons_succ])
            clear z3
            have z3 := (HY2.out.disk.alloc (.cells #[.string (strB m.fr), .string (strB m.to), .pointer P'] 73)).cell (j := 3) rfl
            refine wpAnyH_ready (rs := [4]) (by as_aux_lemma => kernel_rfl) (by simp) ?_
            refine AllReadyH.cons (by simp only [List.getElem?_toArray, List.getElem?_cons_succ, List.getElem?_cons_zero]; exact rfl) (fun K hK => ?_) AllReadyH.nil
            go_simp
            refine hK.out _ _ ?_ (fun hHeld => ?_)
            · (try dsimp only)
              exact hHeld
            clear hK K
            (try simp only [Act.put, List.setIfInBounds_toArray, List.set_cons_zero, List.set_cons_succ])
            clear z3
            refine wpAnyH_ready (rs := [15]) (by as_aux_lemma => kernel_rfl) (by simp) ?_
            refine AllReadyH.cons (by simp only [List.getElem?_toArray, List.getElem?_cons_succ, List.getElem?_cons_zero]; exact rfl) (fun K hK => ?_) AllReadyH.nil
            (refine step_app _ (by rfl) (.tmp 77) (.tmp 87) 62 62 (by rfl) W.heap.size 73 j0 (.agg #[.string ⟨#[]⟩, .string ⟨#[]⟩, .pointer none]) 3 40 Try.underlying62 hj0 jz0 jz1 jz2 rfl (.slice B k cv) k (movesV G4 (s.lm.take k)) (by rfl) (HRW2.out.alloc _) _ 1 [.string (strB m.fr), .string (strB m.to), .pointer P'] (by rfl) (Src.built [.string (strB m.fr), .string (strB m.to), .pointer P'] 73 Try.underlying62 rfl (by intro u hu; simp only [List.mem_cons, List.not_mem_nil, or_false] at hu; rcases hu with rfl | rfl | rfl <;> rfl)) (by omega) (by omega) (by omega) (by have := HY2.out.c.bel.size; simp; omega) ?_; intro v3 w3 hrow3 hg3 ho3)
            have hch3 : Chg (fun b => (Value.slice B k cv).ownBlock = some b) w2 w3 := ((show Chg (fun b => (Value.slice B k cv).ownBlock = some b) w2 w2 from Chg.refl _ _).alloc _).grown hg3 (fun b _ e => e)
            have hov3 : v3.ownBlock = (Value.slice B k cv).ownBlock ∨ ∀ b, v3.ownBlock = some b → w2.heap.size ≤ b := ho3.imp id (fun e b hb => by rw [e] at hb; injection hb with hb; rw [← hb]; simp)
            have hrow3' : Row w3 W.heap.size 3 v3 (s.lm.take k ++ [m]).length (movesV G4 (s.lm.take k ++ [m])) := by
              rw [movesV_snoc, List.length_append, HLK.out, List.length_singleton, mvV, HP4.out]
              exact hrow3
            obtain ⟨A3, c3, rfl, _, _, _, _⟩ := Row.form hrow3
            have HPU := Lib.hid (HY2.out.push (m := m) HIN.out hch3 hrow3' hov3)
            have HV3 := Lib.hid (HY2.out.disk.chg hch3 (fun e => by have h1 := HY2.out.mvo _ e; rw [HY2.out.rd] at h1; cases h1))
            have HVM3 := Lib.hid (HVM2.out.chg hch3 (fun e => by have := (HY2.out.mvr.lt _ e).2; have h1 := HMV.out _ e; exact h1 rfl))
            have f3 := HV3.out.frozen 3
            have q3 := HV3.out.cell (j := 3) rfl
            clear hrow3 hrow3' hg3 ho3 hch3 hov3
            refine hK.out _ _ ?_ (fun hHeld => ?_)
            · (try dsimp only)
              exact ⟨HVM3.out.cell (j := 0) rfl, HVM3.out.cell (j := 1) rfl, HVM3.out.cell (j := 2) rfl⟩
            clear hK K
            (try simp only [Act.put, List.setIfInBounds_toArray, List.set_cons_zero, List.set_cons_succ])
            refine wpAnyH_take (i := 16) (v := ?_) (by simp only [List.getElem?_toArray, List.getElem?_cons_succ, List.getElem?_cons_zero]; exact rfl) (by as_aux_lemma => kernel_rfl) (by as_aux_lemma => kernel_rfl) (by as_aux_lemma => kernel_rfl) (by exact fun _ _ _ h => h) (Or.inl ⟨by rfl, ?_⟩) (by assumption) ?_
            rotate_left
            · intro w hSw
              (try dsimp only at hSw)
              go_simp
              try with_reducible rfl
            (try simp only [Act.put, List.setIfInBounds_toArray, List.set_cons_zero, List.set_cons_succ])
            refine wpAnyH_take (i := 17) (v := ?_) (by simp only [List.getElem?_toArray, List.getElem?_cons_succ, List.getElem?_cons_zero]; exact rfl) (by as_aux_lemma => kernel_rfl) (by as_aux_lemma => kernel_rfl) (by as_aux_lemma => kernel_rfl) (by exact fun _ _ _ h => h) (Or.inl ⟨by rfl, ?_⟩) (by assumption) ?_
            rotate_left
            · intro w hSw
              (try dsimp only at hSw)
              go_simp
              try with_reducible rfl
            (try simp only [Act.put, List.setIfInBounds_toArray, List.set_cons_zero, List.set_cons_succ])
            refine wpAnyH_ready (rs := [18]) (by as_aux_lemma => kernel_rfl) (by simp) ?_
            refine AllReadyH.cons (by simp only [List.getElem?_toArray, List.getElem?_cons_succ, List.getElem?_cons_zero]; exact rfl) (fun K hK => ?_) AllReadyH.nil
            go_simp
            refine hK.out _ _ ?_ (fun hHeld => ?_)
            · (try dsimp only)
              exact ⟨(HVM3.out.set_other (p := ⟨cb, 3, none⟩) (by exact fun e => HMC.out e.symm) _).cell (j := 0) rfl, (HVM3.out.set_other (p := ⟨cb, 3, none⟩) (by exact fun e => HMC.out e.symm) _).cell (j := 1) rfl, (HVM3.out.set_other (p := ⟨cb, 3, none⟩) (by exact fun e => HMC.out e.symm) _).cell (j := 2) rfl⟩
            clear hK K
            refine wpAnyH_done (by as_aux_lemma => kernel_rfl) ?_ _
            clear f3 q3 hHeld
            go_wp2
            go_roundw
            case rel => exact ⟨k + 1, G4, _, I4, _, by omega, by go_num, by rw [take_snoc HMK.out]; exact HPU.out⟩
            case measure => simp [intOf]; omega
      · obtain rfl : k = nm := by omega
        have hnlt : ¬ (k : Int) < (k : Int) := by omega
        go_wp2
        go_meet
        exact ⟨G, κ3, I, mv, by have h := HYY.out; rw [HNM.out, List.take_length] at h; exact h⟩
  case rest =>
  obtain ⟨G3, κ3, I3, mv, hcy⟩ := hcut
  clear HRDM HRM HNM
  have HCY := Lib.hid hcy
  have hvw := HV.out.below_all hcy.c.bel
  have e4 := hvw.cell (j := 4) rfl
  have HFIN := Lib.hid (fun (w' : World) (κ : Roles) (va' : Value) (h : Cyc W w' ob (ob + 1) cb lb nb F ρ s G3 κ I3 s.dl ln0 (Dsk.dn s) nn0 mv s.lm va') (ha : ArmV w' κ va' s.arm) => (⟨cb, G3, κ, rfl, Cyc.mem HM.out h ha HL3.out HN3.out, h.c.bel, h.c.old⟩ : ∃ c G κ, Ending.returned (Value.pointer (some ⟨cb, 0, none⟩)) = .returned (.pointer (some ⟨c, 0, none⟩)) ∧ Mem w' c G κ s T ∧ Below W.heap.size W w' ∧ ∀ b, b < W.heap.size → κ b = dataOf ρ b))
  have HA2 := HA
  cases hsa : s.arm with
  | none =>
    have hav : va = .pointer none := by have h := HA2.out; rw [hsa] at h; exact h
    subst hav
    have HF2 := Lib.hid (HFIN.out wc κ3 _ hcy (by rw [hsa]; rfl))
    clear hcy hvw hsa HFIN
    go_wp2
    go_ret
    exact HF2.out
  | some x =>
    obtain ⟨k, cs⟩ := x
    obtain ⟨ab, v, hav, _, hvar, hdat⟩ : ∃ ab v, va = .pointer (some ⟨ab, 0, none⟩) ∧ ρ ab = some .arm ∧ Var W ab 84 [.int .i64 (k : Nat), v] ∧ Dat W ρ v cs.length (intsV cs) := by have h := HA2.out; rw [hsa] at h; exact h
    subst hav
    obtain ⟨A, c, rfl, hnc, hzA, hrdA, _⟩ := hdat
    obtain ⟨nc, hnc2⟩ : ∃ nc, nc = cs.length := ⟨_, rfl⟩
    rw [← hnc2] at hnc hzA hrdA hvar
    have hcs := (HM.out.fit.arm k cs hsa).2
    have hvb := hvar.below_all hcy.c.bel
    have habW : ab < W.heap.size := hvar.lt
    have HRA := Lib.hid ((hrdA.below hcy.c.bel).more hcy.c.bel.size)
    have HZA := Lib.hid hzA
    have hnb : nc ≤ 16777216 := by omega
    have HNC := Lib.hid hnc2
    have HSA := Lib.hid hsa
    have HB := Lib.hid hcy.c.bel
    clear e4 hrdA hzA hnc hnc2 hcs hcy HA HA2 hvar hsa
    have e4 := hvw.cell (j := 4) rfl
    have a0 := hvb.cell (j := 0) rfl
    have a1 := hvb.cell (j := 1) rfl
    have hdbl := hvw.lt
    have habl := hvb.lt
    clear hvw hvb
    go_upto_region 20 with (fail)
    have HCD := Lib.hid (HCY.out.past (S := fun _ => False) (show Chg (fun _ => False) wc wc.drew from Chg.drew (Chg.refl _ _)) (fun _ _ e => e.elim))
    have HKP := Lib.hid (fun (w' : World) (hb : Below wc.heap.size wc w') => (⟨(hb.cell (p := ⟨db, 4, none⟩) hdbl).trans e4, (hb.cell (p := ⟨ab, 0, none⟩) habl).trans a0, (hb.cell (p := ⟨ab, 1, none⟩) habl).trans a1⟩ : w'.cell? ⟨db, 4, none⟩ = some (.pointer (some ⟨ab, 0, none⟩)) ∧ w'.cell? ⟨ab, 0, none⟩ = some (.int .i64 (k : Nat)) ∧ w'.cell? ⟨ab, 1, none⟩ = some (.slice A nc c)))
    have hbd : Below wc.heap.size wc wc.drew := (Below.refl _ _).drew
    refine wp_region_held_drew (S := (fun w' => w'.cell? ⟨db, 4, none⟩ = some (.pointer (some ⟨ab, 0, none⟩)) ∧ w'.cell? ⟨ab, 0, none⟩ = some (.int .i64 (k : Nat)) ∧ w'.cell? ⟨ab, 1, none⟩ = some (.slice A nc c))) (by as_aux_lemma => kernel_rfl) ?_ (fun hHeld => ?_)
    · exact HKP.out _ hbd
    have HCL := Lib.hid (dcloneI_any A nc c cs wc.drew HZA.out (show Rd wc.drew wc.drew.heap.size 1 A nc (intsV cs) from HRA.out.drew) (by omega))
    have hsd : wc.drew.heap.size = wc.heap.size := rfl
    generalize wc.drew = wd at *
    clear e4 a0 a1
    refine wpAnyH_take (i := 0) (v := ?_) (by simp only [List.getElem?_toArray, List.getElem?_cons_zero]; exact rfl) (by as_aux_lemma => kernel_rfl) (by as_aux_lemma => kernel_rfl) (by as_aux_lemma => kernel_rfl) (by exact fun _ _ _ h => h) (Or.inl ⟨by rfl, ?_⟩) (by assumption) ?_
    rotate_left
    · intro w hSw
      (try dsimp only at hSw)
      go_simp
      try with_reducible rfl
    (try simp only [Act.put, List.setIfInBounds_toArray, List.set_cons_zero, List.set_cons_succ])
    refine wpAnyH_take (i := 1) (v := ?_) (by simp only [List.getElem?_toArray, List.getElem?_cons_succ, List.getElem?_cons_zero]; exact rfl) (by as_aux_lemma => kernel_rfl) (by as_aux_lemma => kernel_rfl) (by as_aux_lemma => kernel_rfl) (by exact fun _ _ _ h => h) (Or.inl ⟨by rfl, ?_⟩) (by assumption) ?_
    rotate_left
    · intro w hSw
      (try dsimp only at hSw)
      go_simp
      try with_reducible rfl
    (try simp only [Act.put, List.setIfInBounds_toArray, List.set_cons_zero, List.set_cons_succ])
    refine wpAnyH_take (i := 2) (v := ?_) (by simp only [List.getElem?_toArray, List.getElem?_cons_succ, List.getElem?_cons_zero]; exact rfl) (by as_aux_lemma => kernel_rfl) (by as_aux_lemma => kernel_rfl) (by as_aux_lemma => kernel_rfl) (by exact fun _ _ _ h => h) (Or.inl ⟨by rfl, ?_⟩) (by assumption) ?_
    rotate_left
    · intro w hSw
      (try dsimp only at hSw)
      go_simp
      try with_reducible rfl
    (try simp only [Act.put, List.setIfInBounds_toArray, List.set_cons_zero, List.set_cons_succ])
    refine wpAnyH_take (i := 3) (v := ?_) (by simp only [List.getElem?_toArray, List.getElem?_cons_succ, List.getElem?_cons_zero]; exact rfl) (by as_aux_lemma => kernel_rfl) (by as_aux_lemma => kernel_rfl) (by as_aux_lemma => kernel_rfl) (by exact fun _ _ _ h => h) (Or.inl ⟨by rfl, ?_⟩) (by assumption) ?_
    rotate_left
    · intro w hSw
      (try dsimp only at hSw)
      go_simp
      try with_reducible rfl
    (try simp only [Act.put, List.setIfInBounds_toArray, List.set_cons_zero, List.set_cons_succ])
    refine wpAnyH_take (i := 4) (v := ?_) (by simp only [List.getElem?_toArray, List.getElem?_cons_succ, List.getElem?_cons_zero]; exact rfl) (by as_aux_lemma => kernel_rfl) (by as_aux_lemma => kernel_rfl) (by as_aux_lemma => kernel_rfl) (by exact fun _ _ _ h => h) (Or.inl ⟨by rfl, ?_⟩) (by assumption) ?_
    rotate_left
    · intro w hSw
      (try dsimp only at hSw)
      go_simp
      try with_reducible rfl
    (try simp only [Act.put, List.setIfInBounds_toArray, List.set_cons_zero, List.set_cons_succ])
    refine wpAnyH_take (i := 5) (v := ?_) (by simp only [List.getElem?_toArray, List.getElem?_cons_succ, List.getElem?_cons_zero]; exact rfl) (by as_aux_lemma => kernel_rfl) (by as_aux_lemma => kernel_rfl) (by as_aux_lemma => kernel_rfl) (by exact fun _ _ _ h => h) (Or.inl ⟨by rfl, ?_⟩) (by assumption) ?_
    rotate_left
    · intro w hSw
      (try dsimp only at hSw)
      go_simp
      try with_reducible rfl
    (try simp only [Act.put, List.setIfInBounds_toArray, List.set_cons_zero, List.set_cons_succ])
    refine wpAnyH_take (i := 6) (v := ?_) (by simp only [List.getElem?_toArray, List.getElem?_cons_succ, List.getElem?_cons_zero]; exact rfl) (by as_aux_lemma => kernel_rfl) (by as_aux_lemma => kernel_rfl) (by as_aux_lemma => kernel_rfl) (by exact fun _ _ _ h => h) (Or.inl ⟨by rfl, ?_⟩) (by assumption) ?_
    rotate_left
    · intro w hSw
      (try dsimp only at hSw)
      go_simp
      try with_reducible rfl
    (try simp only [Act.put, List.setIfInBounds_toArray, List.set_cons_zero, List.set_cons_succ])
    refine wpAnyH_take (i := 7) (v := ?_) (by simp only [List.getElem?_toArray, List.getElem?_cons_succ, List.getElem?_cons_zero]; exact rfl) (by as_aux_lemma => kernel_rfl) (by as_aux_lemma => kernel_rfl) (by as_aux_lemma => kernel_rfl) (by exact fun _ _ _ h => h) (Or.inl ⟨by rfl, ?_⟩) (by assumption) ?_
    rotate_left
    · intro w hSw
      (try dsimp only at hSw)
      go_simp
      try with_reducible rfl
    (try simp only [Act.put, List.setIfInBounds_toArray, List.set_cons_zero, List.set_cons_succ])
    refine wpAnyH_take (i := 8) (v := ?_) (by simp only [List.getElem?_toArray, List.getElem?_cons_succ, List.getElem?_cons_zero]; exact rfl) (by as_aux_lemma => kernel_rfl) (by as_aux_lemma => kernel_rfl) (by as_aux_lemma => kernel_rfl) (by exact fun _ _ _ h => h) (Or.inl ⟨by rfl, ?_⟩) (by assumption) ?_
    rotate_left
    · intro w hSw
      (try dsimp only at hSw)
      go_simp
      try with_reducible rfl
    (try simp only [Act.put, List.setIfInBounds_toArray, List.set_cons_zero, List.set_cons_succ])
    refine wpAnyH_take (i := 9) (v := ?_) (by simp only [List.getElem?_toArray, List.getElem?_cons_succ, List.getElem?_cons_zero]; exact rfl) (by as_aux_lemma => kernel_rfl) (by as_aux_lemma => kernel_rfl) (by as_aux_lemma => kernel_rfl) (by exact fun _ _ _ h => h) (Or.inl ⟨by rfl, ?_⟩) (by assumption) ?_
    rotate_left
    · intro w hSw
      (try dsimp only at hSw)
      go_simp
      try with_reducible rfl
    (try simp only [Act.put, List.setIfInBounds_toArray, List.set_cons_zero, List.set_cons_succ])
    refine wpAnyH_take (i := 10) (v := ?_) (by simp only [List.getElem?_toArray, List.getElem?_cons_succ, List.getElem?_cons_zero]; exact rfl) (by as_aux_lemma => kernel_rfl) (by as_aux_lemma => kernel_rfl) (by as_aux_lemma => kernel_rfl) (by exact fun _ _ _ h => h) (Or.inl ⟨by rfl, ?_⟩) (by assumption) ?_
    rotate_left
    · intro w hSw
      (try dsimp only at hSw)
      go_simp
      try with_reducible rfl
    (try simp only [Act.put, List.setIfInBounds_toArray, List.set_cons_zero, List.set_cons_succ])
    refine wpAnyH_take (i := 11) (v := ?_) (by simp only [List.getElem?_toArray, List.getElem?_cons_succ, List.getElem?_cons_zero]; exact rfl) (by as_aux_lemma => kernel_rfl) (by as_aux_lemma => kernel_rfl) (by as_aux_lemma => kernel_rfl) (by exact fun _ _ _ h => h) (Or.inl ⟨by rfl, ?_⟩) (by assumption) ?_
    rotate_left
    · intro w hSw
      (try dsimp only at hSw)
      go_simp
      try with_reducible rfl
    (try simp only [Act.put, List.setIfInBounds_toArray, List.set_cons_zero, List.set_cons_succ])
    refine wpAnyH_take (i := 12) (v := ?_) (by simp only [List.getElem?_toArray, List.getElem?_cons_succ, List.getElem?_cons_zero]; exact rfl) (by as_aux_lemma => kernel_rfl) (by as_aux_lemma => kernel_rfl) (by as_aux_lemma => kernel_rfl) (by exact fun _ _ _ h => h) (Or.inl ⟨by rfl, ?_⟩) (by assumption) ?_
    rotate_left
    · intro w hSw
      (try dsimp only at hSw)
      go_simp
      try with_reducible rfl
    (try simp only [Act.put, List.setIfInBounds_toArray, List.set_cons_zero, List.set_cons_succ])
    refine wpAnyH_take (i := 13) (v := ?_) (by simp only [List.getElem?_toArray, List.getElem?_cons_succ, List.getElem?_cons_zero]; exact rfl) (by as_aux_lemma => kernel_rfl) (by as_aux_lemma => kernel_rfl) (by as_aux_lemma => kernel_rfl) (by exact fun _ _ _ h => h) (Or.inl ⟨by rfl, ?_⟩) (by assumption) ?_
    rotate_left
    · intro w hSw
      (try dsimp only at hSw)
      go_simp
      try with_reducible rfl
    (try simp only [Act.put, List.setIfInBounds_toArray, List.set_cons_zero, List.set_cons_succ])
    refine wpAnyH_take (i := 14) (v := ?_) (by simp only [List.getElem?_toArray, List.getElem?_cons_succ, List.getElem?_cons_zero]; exact rfl) (by as_aux_lemma => kernel_rfl) (by as_aux_lemma => kernel_rfl) (by as_aux_lemma => kernel_rfl) (by exact fun _ _ _ h => h) (Or.inl ⟨by rfl, ?_⟩) (by assumption) ?_
    rotate_left
    · intro w hSw
      (try dsimp only at hSw)
      go_simp
      try with_reducible rfl
    (try simp only [Act.put, List.setIfInBounds_toArray, List.set_cons_zero, List.set_cons_succ])
    refine wpAnyH_ready (rs := [15]) (by as_aux_lemma => kernel_rfl) (by simp) ?_
    refine AllReadyH.cons (by simp only [List.getElem?_toArray, List.getElem?_cons_succ, List.getElem?_cons_zero]; exact rfl) (fun K hK => ?_) AllReadyH.nil
    go_simp
    (refine HCL.out.mono ?_; rintro _ w4 ⟨v4, rfl, hr4, hb4⟩; obtain ⟨A4, c4, rfl, _, _, _, _⟩ := hr4.form)
    have hb4' : Below wc.heap.size wc w4 := hbd.trans (by rw [← hsd]; exact hb4)
    refine hK.out _ _ ?_ (fun hHeld => ?_)
    · (try dsimp only)
      exact HKP.out _ hb4'
    clear hK K
    (try simp only [Act.put, List.setIfInBounds_toArray, List.set_cons_zero, List.set_cons_succ])
    refine wpAnyH_take (i := 16) (v := ?_) (by simp only [List.getElem?_toArray, List.getElem?_cons_succ, List.getElem?_cons_zero]; exact rfl) (by as_aux_lemma => kernel_rfl) (by as_aux_lemma => kernel_rfl) (by as_aux_lemma => kernel_rfl) (by exact fun _ _ _ h => h) (Or.inl ⟨by rfl, ?_⟩) (by assumption) ?_
    rotate_left
    · intro w hSw
      (try dsimp only at hSw)
      go_simp
      try with_reducible rfl
    (try simp only [Act.put, List.setIfInBounds_toArray, List.set_cons_zero, List.set_cons_succ])
    refine wpAnyH_ready (rs := [17]) (by as_aux_lemma => kernel_rfl) (by simp) ?_
    refine AllReadyH.cons (by simp only [List.getElem?_toArray, List.getElem?_cons_succ, List.getElem?_cons_zero]; exact rfl) (fun K hK => ?_) AllReadyH.nil
    go_simp
    refine hK.out _ _ ?_ (fun hHeld => ?_)
    · (try dsimp only)
      exact HKP.out _ (hb4'.alloc hb4'.size _)
    clear hK K
    (try simp only [Act.put, List.setIfInBounds_toArray, List.set_cons_zero, List.set_cons_succ])
    obtain ⟨κ4, hcy5, ha5⟩ := HCD.out.armed hb4 (v := .slice A4 nc c4) (cs := cs) (by rw [← HNC.out]; exact hr4) k
    have HF2 := Lib.hid (HFIN.out _ κ4 _ hcy5 (by rw [HSA.out]; exact ha5))
    have hvx := (HCD.out.disk.below_all hb4).alloc (.cells #[.int .i64 (k : Nat), .slice A4 nc c4] 84)
    have q4 := hvx.cell (j := 4) rfl
    have f4 := hvx.frozen 4
    have HNE : Hid (cb ≠ db ∧ cb ≠ ab) := Lib.hid (by have h1 := HCY.out.ge.2.1; have h2 : db < W.heap.size := HV.out.lt; exact ⟨by omega, by omega⟩)
    clear hcy5 ha5 hvx
    refine wpAnyH_take (i := 18) (v := ?_) (by simp only [List.getElem?_toArray, List.getElem?_cons_succ, List.getElem?_cons_zero]; exact rfl) (by as_aux_lemma => kernel_rfl) (by as_aux_lemma => kernel_rfl) (by as_aux_lemma => kernel_rfl) (by exact fun _ _ _ h => h) (Or.inl ⟨by rfl, ?_⟩) (by assumption) ?_
    rotate_left
    · intro w hSw
      (try dsimp only at hSw)
      go_simp
      try with_reducible rfl
    (try simp only [Act.put, List.setIfInBounds_toArray, List.set_cons_zero, List.set_cons_succ])
    refine wpAnyH_take (i := 19) (v := ?_) (by simp only [List.getElem?_toArray, List.getElem?_cons_succ, List.getElem?_cons_zero]; exact rfl) (by as_aux_lemma => kernel_rfl) (by as_aux_lemma => kernel_rfl) (by as_aux_lemma => kernel_rfl) (by exact fun _ _ _ h => h) (Or.inl ⟨by rfl, ?_⟩) (by assumption) ?_
    rotate_left
    · intro w hSw
      (try dsimp only at hSw)
      go_simp
      try with_reducible rfl
    (try simp only [Act.put, List.setIfInBounds_toArray, List.set_cons_zero, List.set_cons_succ])
    refine wpAnyH_ready (rs := [20]) (by as_aux_lemma => kernel_rfl) (by simp) ?_
    refine AllReadyH.cons (by simp only [List.getElem?_toArray, List.getElem?_cons_succ, List.getElem?_cons_zero]; exact rfl) (fun K hK => ?_) AllReadyH.nil
    go_simp
    refine hK.out _ _ ?_ (fun hHeld => ?_)
    · (try dsimp only)
      exact ⟨(World.cell?_setCell_other _ ⟨cb, 4, none⟩ ⟨db, 4, none⟩ _ (by have := HNE.out.1; simp <;> omega)).trans (HKP.out _ (hb4'.alloc hb4'.size _)).1, (World.cell?_setCell_other _ ⟨cb, 4, none⟩ ⟨ab, 0, none⟩ _ (by have := HNE.out.2; simp <;> omega)).trans (HKP.out _ (hb4'.alloc hb4'.size _)).2.1, (World.cell?_setCell_other _ ⟨cb, 4, none⟩ ⟨ab, 1, none⟩ _ (by have := HNE.out.2; simp <;> omega)).trans (HKP.out _ (hb4'.alloc hb4'.size _)).2.2⟩
    clear hK K
    refine wpAnyH_done (by as_aux_lemma => kernel_rfl) ?_ _
    clear q4 f4 hHeld
    go_wp2
    go_ret
    exact HF2.out
end Go.Proofs.Ythgeppdoonbkpaa
