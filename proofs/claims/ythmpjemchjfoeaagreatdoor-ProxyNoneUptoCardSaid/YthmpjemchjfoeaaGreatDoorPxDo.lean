/- The calls of a new proxy. No condition. -/
import Derived.Test.YthmpjemchjfoeaaGreatDoorPxNew
import Derived.Test.YthmpjemchjfoeaaGreatDoorChg0
import Derived.Deep.MidRow
import Derived.Great.BuildSlice
namespace Go.Proofs.YthmpjemchjfoeaaGreatDoor
open Go.RowKit Go.MapKept Go.Maps Go.Sort Go.Shelf
theorem infoAct : (Tryz.prog.info? 41).map (fun i => (i.zero, i.size, i.bytes)) = some (some (.agg #[.int .i64 0, .int .i64 0, .slice none 0 0, .string ⟨#[]⟩, .int .i64 0]), 5, 64) := by kernel_rfl
theorem rangeAt_keep {w w' : World} {b o : Nat} {cs : List Value} (hb : w'.heap[b]? = w.heap[b]?) (h : World.rangeAt w b o cs) : World.rangeAt w' b o cs := fun j u hj => (World.cell?_of_block (w := w) (a := ⟨b, o + j, none⟩) hb).trans (h j u hj)
def act7 : List Value := [.int .i64 3, .int .i64 7, .slice none 0 0, .string ⟨#[]⟩, .int .i64 0]
section
variable {w : World} {pb xb yb : Nat}
set_option maxHeartbeats 1000000 in
set_option maxRecDepth 100000 in
theorem qDo (h : Px w pb xb yb (.slice none 0 0)) : Calls Tryz.prog 42 #[.pointer (some ⟨pb, 0, none⟩), .agg act7.toArray] w fun e w' => ∃ v, e = .returned (.tuple #[]) ∧ Px w' pb xb yb v ∧ Row w' w.heap.size 5 v 1 act7 ∧ Chg (fun x => x = pb) w w' := by
  obtain ⟨j0, hj0, jz0, jz1, jz2⟩ := info_parts infoAct
  have hcell := h.cells
  have hlt := h.lt
  have HP := Lib.hid h
  obtain ⟨wa, hwa⟩ : ∃ wa, wa = w.alloc (.cells act7.toArray 41) := ⟨_, rfl⟩
  have hva : Var wa w.heap.size 41 act7 := by rw [hwa]; exact Var.new w _ _
  have hba : Below w.heap.size w wa := by rw [hwa]; exact (Below.refl _ _).alloc (Nat.le_refl _) _
  have hza : wa.heap.size = w.heap.size + 1 := by rw [hwa]; simp
  go_enter Tryz.func42, Tryz.ntmps42
  go_upto_region 1 with (fail)
  obtain ⟨ab, hab0⟩ : ∃ ab, ab = w.heap.size := ⟨_, rfl⟩
  rw [← hwa, ← hab0]
  rw [← hab0] at hva
  have HPD := Lib.hid (HP.out.below (w' := wa.drew) hba.drew)
  have HBW := Lib.hid (show Below w.heap.size w wa.drew from hba.drew)
  have HVD : Hid (Var wa.drew ab 41 act7) := Lib.hid hva.drew
  have habl : ab < wa.drew.heap.size := hva.lt
  have hab : ab ≠ pb := by omega
  have hwd : w.heap.size ≤ wa.drew.heap.size := hba.size
  have hpd : pb < wa.drew.heap.size := by have := hba.size; exact Nat.lt_of_lt_of_le hlt this
  clear hwa hva hba hza hab0 hcell hlt
  refine wp_region_held_drew (S := (fun w' => World.rangeAt w' ab 0 act7)) (by as_aux_lemma => kernel_rfl) ?_ (fun hHeld => ?_)
  · exact HVD.out.range
  generalize wa.drew = wd at *
  have HKP := Lib.hid (fun (W : World) (hb : Below wd.heap.size wd W) => (HVD.out.below_all hb).range)
  have hcd := HPD.out.cells
  have q0 := hcd.2.2.1
  clear hcd
  refine wpAnyH_take (i := 0) (v := ?_) (by simp only [List.getElem?_toArray, List.getElem?_cons_zero]; exact rfl) (by as_aux_lemma => kernel_rfl) (by as_aux_lemma => kernel_rfl) (by as_aux_lemma => kernel_rfl) (by exact fun _ _ _ h => h) (Or.inl ⟨by rfl, ?_⟩) (by assumption) ?_
  rotate_left
  · intro w hSw
    (try dsimp only at hSw)
    go_simp
    try with_reducible rfl
  (try simp only [Act.put, List.setIfInBounds_toArray, List.set_cons_zero, List.set_cons_succ])
  refine wpAnyH_take (i := 1) (v := ?_) (by simp only [List.getElem?_toArray, List.getElem?_cons_succ, List.getElem?_cons_zero]; exact rfl) (by as_aux_lemma => kernel_rfl) (by as_aux_lemma => kernel_rfl) (by as_aux_lemma => kernel_rfl) (by exact fun _ _ _ h => h) (Or.inl ⟨by rfl, ?_⟩) (by assumption) ?_
  rotate_left
  · intro w hSw
    (try dsimp only at hSw)
    go_simp
    try with_reducible rfl
  (try simp only [Act.put, List.setIfInBounds_toArray, List.set_cons_zero, List.set_cons_succ])
  refine wpAnyH_take (i := 2) (v := ?_) (by simp only [List.getElem?_toArray, List.getElem?_cons_succ, List.getElem?_cons_zero]; exact rfl) (by as_aux_lemma => kernel_rfl) (by as_aux_lemma => kernel_rfl) (by as_aux_lemma => kernel_rfl) (by exact fun _ _ _ h => h) (Or.inl ⟨by rfl, ?_⟩) (by assumption) ?_
  rotate_left
  · intro w hSw
    (try dsimp only at hSw)
    go_simp
    try with_reducible rfl
  (try simp only [Act.put, List.setIfInBounds_toArray, List.set_cons_zero, List.set_cons_succ])
  refine wpAnyH_take (i := 3) (v := ?_) (by simp only [List.getElem?_toArray, List.getElem?_cons_succ, List.getElem?_cons_zero]; exact rfl) (by as_aux_lemma => kernel_rfl) (by as_aux_lemma => kernel_rfl) (by as_aux_lemma => kernel_rfl) (by exact fun _ _ _ h => h) (Or.inl ⟨by rfl, ?_⟩) (by assumption) ?_
  rotate_left
  · intro w hSw
    (try dsimp only at hSw)
    go_simp
    try with_reducible rfl
  (try simp only [Act.put, List.setIfInBounds_toArray, List.set_cons_zero, List.set_cons_succ])
  refine wpAnyH_take (i := 5) (v := .agg act7.toArray) (by simp only [List.getElem?_toArray, List.getElem?_cons_succ, List.getElem?_cons_zero]; exact rfl) (by as_aux_lemma => kernel_rfl) (by as_aux_lemma => kernel_rfl) (by as_aux_lemma => kernel_rfl) (by exact fun _ _ _ h => h) (yieldsIf_load_mid (by rfl) 41 (.tmp 3) rfl ab 0 rfl act7 _ (fun _ hw => hw) Tryz.underlying41 rfl (by kernel_rfl)) (by assumption) ?_
  (try simp only [Act.put, List.setIfInBounds_toArray, List.set_cons_zero, List.set_cons_succ])
  refine wpAnyH_ready (rs := [4, 6]) (by as_aux_lemma => kernel_rfl) (by simp) ?_
  refine AllReadyH.cons (by simp only [List.getElem?_toArray, List.getElem?_cons_succ, List.getElem?_cons_zero]; exact rfl) (fun K hK => ?_) ?_
  · go_simp
    refine hK.out _ _ ?_ (fun hHeld => ?_)
    · (try dsimp only)
      exact hHeld
    clear hK K
    (try simp only [Act.put, List.setIfInBounds_toArray, List.set_cons_zero, List.set_cons_succ])
    clear q0
    refine wpAnyH_ready (rs := [6]) (by as_aux_lemma => kernel_rfl) (by simp) ?_
    refine AllReadyH.cons (by simp only [List.getElem?_toArray, List.getElem?_cons_succ, List.getElem?_cons_zero]; exact rfl) (fun K hK => ?_) AllReadyH.nil
    go_simp
    refine hK.out _ _ ?_ (fun hHeld => ?_)
    · (try dsimp only)
      exact HKP.out _ ((Below.refl _ _).alloc (Nat.le_refl _) _)
    clear hK K
    (try simp only [Act.put, List.setIfInBounds_toArray, List.set_cons_zero, List.set_cons_succ])
    refine wpAnyH_ready (rs := [7]) (by as_aux_lemma => kernel_rfl) (by simp) ?_
    refine AllReadyH.cons (by simp only [List.getElem?_toArray, List.getElem?_cons_succ, List.getElem?_cons_zero]; exact rfl) (fun K hK => ?_) AllReadyH.nil
    (refine step_app _ (by rfl) (.tmp 8) (.tmp 10) 38 38 (by rfl) wd.heap.size 41 j0 (.agg #[.int .i64 0, .int .i64 0, .slice none 0 0, .string ⟨#[]⟩, .int .i64 0]) 5 64 Tryz.underlying38 hj0 jz0 jz1 jz2 rfl (.slice none 0 0) 0 [] (by rfl) (Row.nil _ _ _) _ 1 act7 (by rfl) (Src.built act7 41 Tryz.underlying38 rfl (by intro u hu; unfold act7 at hu; simp only [List.mem_cons, List.not_mem_nil, or_false] at hu; rcases hu with rfl | rfl | rfl | rfl | rfl <;> rfl)) (by omega) (by omega) (by omega) (by simp) ?_; intro v3 w3 hrow3 hg3 ho3)
    have hb3 : Below wd.heap.size wd w3 := ((Below.refl wd.heap.size wd).alloc (Nat.le_refl _) _).grown hg3 (by simp) (fun k e => by cases e)
    have HP3 := Lib.hid (HPD.out.below hb3)
    have hc3 := HP3.out.cells
    rw [List.nil_append, Nat.zero_add] at hrow3
    have HR3 := Lib.hid hrow3
    have HB3 := Lib.hid hb3
    obtain ⟨A3, c3, rfl, _, _, _, _⟩ := Row.form hrow3
    have q12 := hc3.2.2.1
    have f12 := hc3.2.2.2
    clear hrow3 hg3 ho3 hb3 hc3
    refine hK.out _ _ ?_ (fun hHeld => ?_)
    · (try dsimp only)
      exact HKP.out _ HB3.out
    clear hK K
    (try simp only [Act.put, List.setIfInBounds_toArray, List.set_cons_zero, List.set_cons_succ])
    refine wpAnyH_take (i := 8) (v := ?_) (by simp only [List.getElem?_toArray, List.getElem?_cons_succ, List.getElem?_cons_zero]; exact rfl) (by as_aux_lemma => kernel_rfl) (by as_aux_lemma => kernel_rfl) (by as_aux_lemma => kernel_rfl) (by exact fun _ _ _ h => h) (Or.inl ⟨by rfl, ?_⟩) (by assumption) ?_
    rotate_left
    · intro w hSw
      (try dsimp only at hSw)
      go_simp
      try with_reducible rfl
    (try simp only [Act.put, List.setIfInBounds_toArray, List.set_cons_zero, List.set_cons_succ])
    refine wpAnyH_take (i := 9) (v := ?_) (by simp only [List.getElem?_toArray, List.getElem?_cons_succ, List.getElem?_cons_zero]; exact rfl) (by as_aux_lemma => kernel_rfl) (by as_aux_lemma => kernel_rfl) (by as_aux_lemma => kernel_rfl) (by exact fun _ _ _ h => h) (Or.inl ⟨by rfl, ?_⟩) (by assumption) ?_
    rotate_left
    · intro w hSw
      (try dsimp only at hSw)
      go_simp
      try with_reducible rfl
    (try simp only [Act.put, List.setIfInBounds_toArray, List.set_cons_zero, List.set_cons_succ])
    refine wpAnyH_ready (rs := [10]) (by as_aux_lemma => kernel_rfl) (by simp) ?_
    refine AllReadyH.cons (by simp only [List.getElem?_toArray, List.getElem?_cons_succ, List.getElem?_cons_zero]; exact rfl) (fun K hK => ?_) AllReadyH.nil
    go_simp
    have hset : Chg (fun x => x = pb) w3 (w3.setCell ⟨pb, 12, none⟩ (.slice A3 1 c3)) := (show Chg (fun x => x = pb) w3 w3 from Chg.refl _ _).setCell (p := ⟨pb, 12, none⟩) (fun _ => rfl) _
    have HRW := Lib.hid (show Row (w3.setCell ⟨pb, 12, none⟩ (.slice A3 1 c3)) wd.heap.size 5 (.slice A3 1 c3) 1 act7 from HR3.out.chg hset (fun b hb e => by have := (HR3.out.lt b hb).1; omega))
    have HC3 := Lib.hid (hset)
    refine hK.out _ _ ?_ (fun hHeld => ?_)
    · (try dsimp only)
      exact rangeAt_keep (HC3.out.block ab (by have := HB3.out.size; omega) hab) (HKP.out _ HB3.out)
    clear hK K
    refine wpAnyH_done (by as_aux_lemma => kernel_rfl) ?_ _
    clear q12 f12 hHeld hset
    go_wp2
    go_end0
    exact ⟨_, rfl, HP3.out.put _, HRW.out.mono hwd, ((Chg.of_below HBW.out).trans (Chg.of_below HB3.out) (fun _ _ e => e)).trans HC3.out (fun _ _ e => e)⟩
  · refine AllReadyH.cons (by simp only [List.getElem?_toArray, List.getElem?_cons_succ, List.getElem?_cons_zero]; exact rfl) (fun K hK => ?_) AllReadyH.nil
    go_simp
    refine hK.out _ _ ?_ (fun hHeld => ?_)
    · (try dsimp only)
      exact HKP.out _ ((Below.refl _ _).alloc (Nat.le_refl _) _)
    clear hK K
    (try simp only [Act.put, List.setIfInBounds_toArray, List.set_cons_zero, List.set_cons_succ])
    clear q0
    have q0 := fun o => (HPD.out.below ((Below.refl wd.heap.size wd).alloc (Nat.le_refl _) o)).cells.2.2.1
    refine wpAnyH_ready (rs := [4]) (by as_aux_lemma => kernel_rfl) (by simp) ?_
    refine AllReadyH.cons (by simp only [List.getElem?_toArray, List.getElem?_cons_succ, List.getElem?_cons_zero]; exact rfl) (fun K hK => ?_) AllReadyH.nil
    go_simp
    refine hK.out _ _ ?_ (fun hHeld => ?_)
    · (try dsimp only)
      exact hHeld
    clear hK K
    (try simp only [Act.put, List.setIfInBounds_toArray, List.set_cons_zero, List.set_cons_succ])
    clear q0
    refine wpAnyH_ready (rs := [7]) (by as_aux_lemma => kernel_rfl) (by simp) ?_
    refine AllReadyH.cons (by simp only [List.getElem?_toArray, List.getElem?_cons_succ, List.getElem?_cons_zero]; exact rfl) (fun K hK => ?_) AllReadyH.nil
    (refine step_app _ (by rfl) (.tmp 8) (.tmp 10) 38 38 (by rfl) wd.heap.size 41 j0 (.agg #[.int .i64 0, .int .i64 0, .slice none 0 0, .string ⟨#[]⟩, .int .i64 0]) 5 64 Tryz.underlying38 hj0 jz0 jz1 jz2 rfl (.slice none 0 0) 0 [] (by rfl) (Row.nil _ _ _) _ 1 act7 (by rfl) (Src.built act7 41 Tryz.underlying38 rfl (by intro u hu; unfold act7 at hu; simp only [List.mem_cons, List.not_mem_nil, or_false] at hu; rcases hu with rfl | rfl | rfl | rfl | rfl <;> rfl)) (by omega) (by omega) (by omega) (by simp) ?_; intro v3 w3 hrow3 hg3 ho3)
    have hb3 : Below wd.heap.size wd w3 := ((Below.refl wd.heap.size wd).alloc (Nat.le_refl _) _).grown hg3 (by simp) (fun k e => by cases e)
    have HP3 := Lib.hid (HPD.out.below hb3)
    have hc3 := HP3.out.cells
    rw [List.nil_append, Nat.zero_add] at hrow3
    have HR3 := Lib.hid hrow3
    have HB3 := Lib.hid hb3
    obtain ⟨A3, c3, rfl, _, _, _, _⟩ := Row.form hrow3
    have q12 := hc3.2.2.1
    have f12 := hc3.2.2.2
    clear hrow3 hg3 ho3 hb3 hc3
    refine hK.out _ _ ?_ (fun hHeld => ?_)
    · (try dsimp only)
      exact HKP.out _ HB3.out
    clear hK K
    (try simp only [Act.put, List.setIfInBounds_toArray, List.set_cons_zero, List.set_cons_succ])
    refine wpAnyH_take (i := 8) (v := ?_) (by simp only [List.getElem?_toArray, List.getElem?_cons_succ, List.getElem?_cons_zero]; exact rfl) (by as_aux_lemma => kernel_rfl) (by as_aux_lemma => kernel_rfl) (by as_aux_lemma => kernel_rfl) (by exact fun _ _ _ h => h) (Or.inl ⟨by rfl, ?_⟩) (by assumption) ?_
    rotate_left
    · intro w hSw
      (try dsimp only at hSw)
      go_simp
      try with_reducible rfl
    (try simp only [Act.put, List.setIfInBounds_toArray, List.set_cons_zero, List.set_cons_succ])
    refine wpAnyH_take (i := 9) (v := ?_) (by simp only [List.getElem?_toArray, List.getElem?_cons_succ, List.getElem?_cons_zero]; exact rfl) (by as_aux_lemma => kernel_rfl) (by as_aux_lemma => kernel_rfl) (by as_aux_lemma => kernel_rfl) (by exact fun _ _ _ h => h) (Or.inl ⟨by rfl, ?_⟩) (by assumption) ?_
    rotate_left
    · intro w hSw
      (try dsimp only at hSw)
      go_simp
      try with_reducible rfl
    (try simp only [Act.put, List.setIfInBounds_toArray, List.set_cons_zero, List.set_cons_succ])
    refine wpAnyH_ready (rs := [10]) (by as_aux_lemma => kernel_rfl) (by simp) ?_
    refine AllReadyH.cons (by simp only [List.getElem?_toArray, List.getElem?_cons_succ, List.getElem?_cons_zero]; exact rfl) (fun K hK => ?_) AllReadyH.nil
    go_simp
    have hset : Chg (fun x => x = pb) w3 (w3.setCell ⟨pb, 12, none⟩ (.slice A3 1 c3)) := (show Chg (fun x => x = pb) w3 w3 from Chg.refl _ _).setCell (p := ⟨pb, 12, none⟩) (fun _ => rfl) _
    have HRW := Lib.hid (show Row (w3.setCell ⟨pb, 12, none⟩ (.slice A3 1 c3)) wd.heap.size 5 (.slice A3 1 c3) 1 act7 from HR3.out.chg hset (fun b hb e => by have := (HR3.out.lt b hb).1; omega))
    have HC3 := Lib.hid (hset)
    refine hK.out _ _ ?_ (fun hHeld => ?_)
    · (try dsimp only)
      exact rangeAt_keep (HC3.out.block ab (by have := HB3.out.size; omega) hab) (HKP.out _ HB3.out)
    clear hK K
    refine wpAnyH_done (by as_aux_lemma => kernel_rfl) ?_ _
    clear q12 f12 hHeld hset
    go_wp2
    go_end0
    exact ⟨_, rfl, HP3.out.put _, HRW.out.mono hwd, ((Chg.of_below HBW.out).trans (Chg.of_below HB3.out) (fun _ _ e => e)).trans HC3.out (fun _ _ e => e)⟩
end
end Go.Proofs.YthmpjemchjfoeaaGreatDoor
