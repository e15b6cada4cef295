/- the document's Reader of streams (chapter 24): Feed, Ended. Conditions: sizes. -/
import Derived.Test.YtklmpadcfioefaaGreatDoorQRdr
namespace Go.Proofs.YtklmpadcfioefaaGreatDoor
open Go.RowKit

def QFeedPost (w : World) (base qb : Nat) (rq : Bool) (All : Bs) (M : List ByteArray) (dead : Nat) (av mv : Value) (p : Bs) (e : Ending) (w' : World) : Prop :=
  (dead ≠ 0 ∧ e = .returned (.tuple #[.slice none 0 0, .int .i64 (dead : Int)]) ∧ Below w.heap.size w w') ∨
  (dead = 0 ∧ ∃ (v : Value) (EL : List QvE) (av' : Value), e = .returned (.tuple #[v, .int .i64 ((Strm.readF rq (All ++ p) M).2.1 : Nat)]) ∧ EL.map QvE.x = Strm.evP (Strm.readF rq All M).1 (Strm.readF rq (All ++ p) M).1 ∧ Row w' w.heap.size 11 v EL.length (EL.flatMap QvE.cells) ∧ (∀ e ∈ EL, QvR w' e) ∧ EL.length ≤ 50331648 ∧
    QMem w' base qb rq (All ++ p) M (Strm.readF rq (All ++ p) M).2.1 av' mv ∧ Chg (footQ qb av mv) w w' ∧ (∀ k, footQ qb av' mv k → footQ qb av mv k ∨ w.heap.size ≤ k))
set_option maxHeartbeats 4000000 in
set_option maxRecDepth 100000 in
theorem qsfeed_any {w : World} {base qb dead : Nat} {rq : Bool} {All : Bs} {M : List ByteArray} {av mv : Value} (h : QMem w base qb rq All M dead av mv) (A : Option Addr) (n c : Nat) (p : Bs) (hA : A = none → n = 0) (hrd : Rd w w.heap.size 1 A n (bytesV p)) (hT : All.length + n ≤ 16777216) (hm : M.length ≤ 100000000) :
    Calls Tryz.prog 10 #[.pointer (some ⟨qb, 0, none⟩), .slice A n c] w (QFeedPost w base qb rq All M dead av mv p) := by
  have hlp : p.length = n := by have := hrd.1; rw [bytesV_len] at this; omega
  have d3 := h.cell (j := 3) rfl
  by_cases hd : dead = 0
  · subst hd
    have HQM := Lib.hid h
    have HK := Lib.hid h.hk
    have HRD := Lib.hid (fun W (hW : Below w.heap.size w W) => (h.below hW).read (by omega) hm)
    have HP := Lib.hid hrd
    have HLP := Lib.hid hlp
    have hbw : base ≤ w.heap.size := by have := h.le; have := h.var.lt; omega
    clear h hrd hlp
    go_enter Tryz.func10, Tryz.ntmps10
    go_upto_region 5 with (fail)
    refine wp_region_held_drew (S := (fun w' => Below (w).heap.size (w) w' ∧ w'.cell? ⟨qb, 1, none⟩ = some (av) ∧ w'.cell? ⟨qb, 0, none⟩ = some (.bool rq) ∧ w'.cell? ⟨qb, 2, none⟩ = some mv)) (by as_aux_lemma => kernel_rfl) ?_ (fun hHeld => ?_)
    · exact HK.out _ (below_drewN (Below.refl _ _) _)
    refine wpAnyH_take (i := 0) (v := ?_) (by simp only [List.getElem?_toArray, List.getElem?_cons_zero]; exact rfl) (by as_aux_lemma => kernel_rfl) (by as_aux_lemma => kernel_rfl) (by as_aux_lemma => kernel_rfl) (by exact fun _ _ _ h => h) (Or.inl ⟨by rfl, ?_⟩) (by assumption) ?_
    rotate_left
    · intro w hSw
      (try dsimp only at hSw)
      go_simp
      try with_reducible rfl
    (try simp only [Act.put, List.setIfInBounds_toArray, List.set_cons_zero, List.set_cons_succ])
    refine wpAnyH_take (i := 1) (v := ?_) (by simp only [List.getElem?_toArray, List.getElem?_cons_succ, List.getElem?_cons_zero]; exact rfl) (by as_aux_lemma => kernel_rfl) (by as_aux_lemma => kernel_rfl) (by as_aux_lemma => kernel_rfl) (by exact fun _ _ _ h => h) (Or.inl ⟨by rfl, ?_⟩) (by assumption) ?_
    rotate_left
    · intro w hSw
      (try dsimp only at hSw)
      go_simp
      try with_reducible rfl
    (try simp only [Act.put, List.setIfInBounds_toArray, List.set_cons_zero, List.set_cons_succ])
    refine wpAnyH_take (i := 2) (v := ?_) (by simp only [List.getElem?_toArray, List.getElem?_cons_succ, List.getElem?_cons_zero]; exact rfl) (by as_aux_lemma => kernel_rfl) (by as_aux_lemma => kernel_rfl) (by as_aux_lemma => kernel_rfl) (by exact fun _ _ _ h => h) (Or.inl ⟨by rfl, ?_⟩) (by assumption) ?_
    rotate_left
    · intro w hSw
      (try dsimp only at hSw)
      go_simp
      try with_reducible rfl
    (try simp only [Act.put, List.setIfInBounds_toArray, List.set_cons_zero, List.set_cons_succ])
    refine wpAnyH_take (i := 3) (v := ?_) (by simp only [List.getElem?_toArray, List.getElem?_cons_succ, List.getElem?_cons_zero]; exact rfl) (by as_aux_lemma => kernel_rfl) (by as_aux_lemma => kernel_rfl) (by as_aux_lemma => kernel_rfl) (by exact fun _ _ _ h => h) (Or.inl ⟨by rfl, ?_⟩) (by assumption) ?_
    rotate_left
    · intro w hSw
      (try dsimp only at hSw)
      go_simp
      try with_reducible rfl
    (try simp only [Act.put, List.setIfInBounds_toArray, List.set_cons_zero, List.set_cons_succ])
    refine wpAnyH_take (i := 4) (v := ?_) (by simp only [List.getElem?_toArray, List.getElem?_cons_succ, List.getElem?_cons_zero]; exact rfl) (by as_aux_lemma => kernel_rfl) (by as_aux_lemma => kernel_rfl) (by as_aux_lemma => kernel_rfl) (by exact fun _ _ _ h => h) (Or.inl ⟨by rfl, ?_⟩) (by assumption) ?_
    rotate_left
    · intro w hSw
      (try dsimp only at hSw)
      go_simp
      try with_reducible rfl
    (try simp only [Act.put, List.setIfInBounds_toArray, List.set_cons_zero, List.set_cons_succ])
    refine wpAnyH_take (i := 5) (v := ?_) (by simp only [List.getElem?_toArray, List.getElem?_cons_succ, List.getElem?_cons_zero]; exact rfl) (by as_aux_lemma => kernel_rfl) (by as_aux_lemma => kernel_rfl) (by as_aux_lemma => kernel_rfl) (by exact fun _ _ _ h => h) (Or.inl ⟨by rfl, ?_⟩) (by assumption) ?_
    rotate_left
    · intro w hSw
      (try dsimp only at hSw)
      go_simp
      try with_reducible rfl
    (try simp only [Act.put, List.setIfInBounds_toArray, List.set_cons_zero, List.set_cons_succ])
    refine wpAnyH_take (i := 6) (v := ?_) (by simp only [List.getElem?_toArray, List.getElem?_cons_succ, List.getElem?_cons_zero]; exact rfl) (by as_aux_lemma => kernel_rfl) (by as_aux_lemma => kernel_rfl) (by as_aux_lemma => kernel_rfl) (by exact fun _ _ _ h => h) (Or.inl ⟨by rfl, ?_⟩) (by assumption) ?_
    rotate_left
    · intro w hSw
      (try dsimp only at hSw)
      go_simp
      try with_reducible rfl
    (try simp only [Act.put, List.setIfInBounds_toArray, List.set_cons_zero, List.set_cons_succ])
    refine wpAnyH_take (i := 7) (v := ?_) (by simp only [List.getElem?_toArray, List.getElem?_cons_succ, List.getElem?_cons_zero]; exact rfl) (by as_aux_lemma => kernel_rfl) (by as_aux_lemma => kernel_rfl) (by as_aux_lemma => kernel_rfl) (by exact fun _ _ _ h => h) (Or.inl ⟨by rfl, ?_⟩) (by assumption) ?_
    rotate_left
    · intro w hSw
      (try dsimp only at hSw)
      go_simp
      try with_reducible rfl
    (try simp only [Act.put, List.setIfInBounds_toArray, List.set_cons_zero, List.set_cons_succ])
    refine wpAnyH_take (i := 8) (v := ?_) (by simp only [List.getElem?_toArray, List.getElem?_cons_succ, List.getElem?_cons_zero]; exact rfl) (by as_aux_lemma => kernel_rfl) (by as_aux_lemma => kernel_rfl) (by as_aux_lemma => kernel_rfl) (by exact fun _ _ _ h => h) (Or.inl ⟨by rfl, ?_⟩) (by assumption) ?_
    rotate_left
    · intro w hSw
      (try dsimp only at hSw)
      go_simp
      try with_reducible rfl
    (try simp only [Act.put, List.setIfInBounds_toArray, List.set_cons_zero, List.set_cons_succ])
    refine wpAnyH_take (i := 9) (v := ?_) (by simp only [List.getElem?_toArray, List.getElem?_cons_succ, List.getElem?_cons_zero]; exact rfl) (by as_aux_lemma => kernel_rfl) (by as_aux_lemma => kernel_rfl) (by as_aux_lemma => kernel_rfl) (by exact fun _ _ _ h => h) (Or.inl ⟨by rfl, ?_⟩) (by assumption) ?_
    rotate_left
    · intro w hSw
      (try dsimp only at hSw)
      go_simp
      try with_reducible rfl
    (try simp only [Act.put, List.setIfInBounds_toArray, List.set_cons_zero, List.set_cons_succ])
    refine wpAnyH_take (i := 10) (v := ?_) (by simp only [List.getElem?_toArray, List.getElem?_cons_succ, List.getElem?_cons_zero]; exact rfl) (by as_aux_lemma => kernel_rfl) (by as_aux_lemma => kernel_rfl) (by as_aux_lemma => kernel_rfl) (by exact fun _ _ _ h => h) (Or.inl ⟨by rfl, ?_⟩) (by assumption) ?_
    rotate_left
    · intro w hSw
      (try dsimp only at hSw)
      go_simp
      try with_reducible rfl
    (try simp only [Act.put, List.setIfInBounds_toArray, List.set_cons_zero, List.set_cons_succ])
    refine wpAnyH_take (i := 11) (v := ?_) (by simp only [List.getElem?_toArray, List.getElem?_cons_succ, List.getElem?_cons_zero]; exact rfl) (by as_aux_lemma => kernel_rfl) (by as_aux_lemma => kernel_rfl) (by as_aux_lemma => kernel_rfl) (by exact fun _ _ _ h => h) (Or.inl ⟨by rfl, ?_⟩) (by assumption) ?_
    rotate_left
    · intro w hSw
      (try dsimp only at hSw)
      go_simp
      try with_reducible rfl
    (try simp only [Act.put, List.setIfInBounds_toArray, List.set_cons_zero, List.set_cons_succ])
    refine wpAnyH_ready (rs := [12]) (by as_aux_lemma => kernel_rfl) (by simp) ?_
    refine AllReadyH.cons (by simp only [List.getElem?_toArray, List.getElem?_cons_succ, List.getElem?_cons_zero]; exact rfl) (fun K hK => ?_) AllReadyH.nil
    go_simp
    (go_at_call 30; refine (HRD.out _ (Held.bl (W0 := w) (by assumption))).mono ?_; rintro _ w1a ⟨vla, Ea, rfl, hEa, hrowa, hmsa, hena, hb1a⟩; have hqa := Held.trans (W0 := w) (by assumption) hb1a; have hza := hb1a.size; have hya := (Held.bl (W0 := w) (by assumption)).size)
    refine hK.out _ _ ?_ (fun hHeld => ?_)
    · (try dsimp only)
      exact HK.out _ hqa
    clear hK K
    (try simp only [Act.put, List.setIfInBounds_toArray, List.set_cons_zero, List.set_cons_succ])
    refine wpAnyH_take (i := 13) (v := ?_) (by simp only [List.getElem?_toArray, List.getElem?_cons_succ, List.getElem?_cons_zero]; exact rfl) (by as_aux_lemma => kernel_rfl) (by as_aux_lemma => kernel_rfl) (by as_aux_lemma => kernel_rfl) (by exact fun _ _ _ h => h) (Or.inl ⟨by rfl, ?_⟩) (by assumption) ?_
    rotate_left
    · intro w hSw
      (try dsimp only at hSw)
      go_simp
      try with_reducible rfl
    (try simp only [Act.put, List.setIfInBounds_toArray, List.set_cons_zero, List.set_cons_succ])
    refine wpAnyH_take (i := 14) (v := ?_) (by simp only [List.getElem?_toArray, List.getElem?_cons_succ, List.getElem?_cons_zero]; exact rfl) (by as_aux_lemma => kernel_rfl) (by as_aux_lemma => kernel_rfl) (by as_aux_lemma => kernel_rfl) (by exact fun _ _ _ h => h) (Or.inl ⟨by rfl, ?_⟩) (by assumption) ?_
    rotate_left
    · intro w hSw
      (try dsimp only at hSw)
      go_simp
      try with_reducible rfl
    (try simp only [Act.put, List.setIfInBounds_toArray, List.set_cons_zero, List.set_cons_succ])
    refine wpAnyH_take (i := 15) (v := ?_) (by simp only [List.getElem?_toArray, List.getElem?_cons_succ, List.getElem?_cons_zero]; exact rfl) (by as_aux_lemma => kernel_rfl) (by as_aux_lemma => kernel_rfl) (by as_aux_lemma => kernel_rfl) (by exact fun _ _ _ h => h) (Or.inl ⟨by rfl, ?_⟩) (by assumption) ?_
    rotate_left
    · intro w hSw
      (try dsimp only at hSw)
      go_simp
      try with_reducible rfl
    (try simp only [Act.put, List.setIfInBounds_toArray, List.set_cons_zero, List.set_cons_succ])
    refine wpAnyH_take (i := 16) (v := ?_) (by simp only [List.getElem?_toArray, List.getElem?_cons_succ, List.getElem?_cons_zero]; exact rfl) (by as_aux_lemma => kernel_rfl) (by as_aux_lemma => kernel_rfl) (by as_aux_lemma => kernel_rfl) (by exact fun _ _ _ h => h) (Or.inl ⟨by rfl, ?_⟩) (by assumption) ?_
    rotate_left
    · intro w hSw
      (try dsimp only at hSw)
      go_simp
      try with_reducible rfl
    (try simp only [Act.put, List.setIfInBounds_toArray, List.set_cons_zero, List.set_cons_succ])
    refine wpAnyH_take (i := 17) (v := ?_) (by simp only [List.getElem?_toArray, List.getElem?_cons_succ, List.getElem?_cons_zero]; exact rfl) (by as_aux_lemma => kernel_rfl) (by as_aux_lemma => kernel_rfl) (by as_aux_lemma => kernel_rfl) (by exact fun _ _ _ h => h) (Or.inl ⟨by rfl, ?_⟩) (by assumption) ?_
    rotate_left
    · intro w hSw
      (try dsimp only at hSw)
      go_simp
      try with_reducible rfl
    (try simp only [Act.put, List.setIfInBounds_toArray, List.set_cons_zero, List.set_cons_succ])
    refine wpAnyH_take (i := 18) (v := ?_) (by simp only [List.getElem?_toArray, List.getElem?_cons_succ, List.getElem?_cons_zero]; exact rfl) (by as_aux_lemma => kernel_rfl) (by as_aux_lemma => kernel_rfl) (by as_aux_lemma => kernel_rfl) (by exact fun _ _ _ h => h) (Or.inl ⟨by rfl, ?_⟩) (by assumption) ?_
    rotate_left
    · intro w hSw
      (try dsimp only at hSw)
      go_simp
      try with_reducible rfl
    (try simp only [Act.put, List.setIfInBounds_toArray, List.set_cons_zero, List.set_cons_succ])
    refine wpAnyH_take (i := 19) (v := ?_) (by simp only [List.getElem?_toArray, List.getElem?_cons_succ, List.getElem?_cons_zero]; exact rfl) (by as_aux_lemma => kernel_rfl) (by as_aux_lemma => kernel_rfl) (by as_aux_lemma => kernel_rfl) (by exact fun _ _ _ h => h) (Or.inl ⟨by rfl, ?_⟩) (by assumption) ?_
    rotate_left
    · intro w hSw
      (try dsimp only at hSw)
      go_simp
      try with_reducible rfl
    (try simp only [Act.put, List.setIfInBounds_toArray, List.set_cons_zero, List.set_cons_succ])
    refine wpAnyH_done (by as_aux_lemma => kernel_rfl) ?_ _
    obtain ⟨Al, cl, rfl, _, _, _, _⟩ := hrowa.form
    have HB1 := Lib.hid (hqa : Below w.heap.size w w1a)
    have hz1 : base ≤ w1a.heap.size := Nat.le_trans hbw HB1.out.size
    have HQ1 := Lib.hid (HQM.out.below HB1.out)
    have HEA := Lib.hid hEa
    have HRA := Lib.hid hrowa
    have HMA := Lib.hid hmsa
    have HNA := Lib.hid hena
    have HSRC := Lib.hid (SrcB.slice (c := c) (HP.out.keeps HB1.out) hA)
    have e1 := HQ1.out.cell (j := 1) rfl
    have q1 := HQ1.out.var.frozen 1
    clear hqa hb1a hEa hrowa hmsa hena hza hya HK d3
    have hbnd : All.length + p.length ≤ 134217728 := by rw [HLP.out]; omega
    obtain ⟨All2, hAll2⟩ : ∃ X, X = All ++ p := ⟨_, rfl⟩
    have hl2 : All2.length ≤ 16777216 := by rw [hAll2, List.length_append, HLP.out]; omega
    have HAL := Lib.hid hAll2
    clear hAll2
    go_upto_region 7 with (first
      | (at_builtin; go_must (refine wpList_appB rfl (.tmp 44) (.tmp 45) 26 rfl base rfl HQ1.out.all rfl HSRC.out hbnd hz1 ?_); intro v2 w2 hrow2 hb2 hg2 ho2; rw [← HAL.out] at hrow2; have HV2 := Lib.hid (HQ1.out.var.grown hg2 (fun e => (HQ1.out.a1 qb e).1 rfl)); have e1 := HV2.out.cell (j := 1) rfl; have q1 := HV2.out.frozen 1; obtain ⟨A2, c2, rfl, _, _, _, _⟩ := RowB.form hrow2)
      | fail)
    obtain ⟨hq3, hc3, hf3⟩ := HQ1.out.more (p := p) (by rw [← HAL.out]; exact hrow2) hg2 ho2
    have HRA3 : Hid (Row (w2.setCell ⟨qb, 1, none⟩ (.slice A2 All2.length c2)) w.heap.size 11 (.slice Al Ea.length cl) Ea.length (Ea.flatMap MsE.cells)) := Lib.hid (by
      have h1 : ∀ k, (Value.slice Al Ea.length cl).ownBlock = some k → w.heap.size ≤ k := fun k hk => (HRA.out.lt k hk).1
      refine (HRA.out.kept hg2 ?_).setCell (p := ⟨qb, 1, none⟩) (fun e => ?_) _
      · cases ho : (Value.slice Al Ea.length cl).ownBlock with
        | none => exact .inl rfl
        | some k => exact .inr (fun e => by have := (HQM.out.lt k (.inr (.inl e.symm))).2; have := h1 k ho; omega)
      · have := h1 _ e; have := HQM.out.var.lt; dsimp only at *; omega)
    rw [← HAL.out] at hq3
    obtain ⟨w3, hw3⟩ : ∃ w3, w3 = w2.setCell ⟨qb, 1, none⟩ (.slice A2 All2.length c2) := ⟨_, rfl⟩
    rw [← hw3] at hq3 hc3 HRA3 ⊢
    obtain ⟨n2, hn2⟩ : ∃ n2, n2 = All2.length := ⟨_, rfl⟩
    have HF3 : Hid (∀ k, footQ qb (.slice A2 n2 c2) mv k → footQ qb av mv k ∨ w1a.heap.size ≤ k) := Lib.hid (by rw [hn2]; exact hf3)
    have HQ3 : Hid (QMem w3 base qb rq All2 M 0 (.slice A2 n2 c2) mv) := Lib.hid (by rw [hn2]; exact hq3)
    rw [← hn2]
    have HMV : Hid (∃ A4 c4, mv = .slice A4 M.length c4) := Lib.hid (by obtain ⟨A4, c4, e, _⟩ := HQ3.out.ms.form; exact ⟨A4, c4, e⟩)
    have HC3 := Lib.hid hc3
    have HK3 := Lib.hid HQ3.out.hk
    have HRD3 := Lib.hid (fun W (hW : Below w3.heap.size w3 W) => (HQ3.out.below hW).read hl2 hm)
    clear hq3 hc3 hf3 hw3 hn2 hrow2 hg2 ho2 hb2 HV2 e1 q1 HSRC HQ1 HRA HRD
    refine wp_region_held_drew (S := (fun w' => Below (w3).heap.size (w3) w' ∧ w'.cell? ⟨qb, 1, none⟩ = some ((.slice A2 n2 c2)) ∧ w'.cell? ⟨qb, 0, none⟩ = some (.bool rq) ∧ w'.cell? ⟨qb, 2, none⟩ = some mv)) (by as_aux_lemma => kernel_rfl) ?_ (fun hHeld => ?_)
    · exact HK3.out _ (below_drewN (Below.refl _ _) _)
    refine wpAnyH_take (i := 0) (v := ?_) (by simp only [List.getElem?_toArray, List.getElem?_cons_zero]; exact rfl) (by as_aux_lemma => kernel_rfl) (by as_aux_lemma => kernel_rfl) (by as_aux_lemma => kernel_rfl) (by exact fun _ _ _ h => h) (Or.inl ⟨by rfl, ?_⟩) (by assumption) ?_
    rotate_left
    · intro w hSw
      (try dsimp only at hSw)
      go_simp
      try with_reducible rfl
    (try simp only [Act.put, List.setIfInBounds_toArray, List.set_cons_zero, List.set_cons_succ])
    refine wpAnyH_take (i := 1) (v := ?_) (by simp only [List.getElem?_toArray, List.getElem?_cons_succ, List.getElem?_cons_zero]; exact rfl) (by as_aux_lemma => kernel_rfl) (by as_aux_lemma => kernel_rfl) (by as_aux_lemma => kernel_rfl) (by exact fun _ _ _ h => h) (Or.inl ⟨by rfl, ?_⟩) (by assumption) ?_
    rotate_left
    · intro w hSw
      (try dsimp only at hSw)
      go_simp
      try with_reducible rfl
    (try simp only [Act.put, List.setIfInBounds_toArray, List.set_cons_zero, List.set_cons_succ])
    refine wpAnyH_take (i := 2) (v := ?_) (by simp only [List.getElem?_toArray, List.getElem?_cons_succ, List.getElem?_cons_zero]; exact rfl) (by as_aux_lemma => kernel_rfl) (by as_aux_lemma => kernel_rfl) (by as_aux_lemma => kernel_rfl) (by exact fun _ _ _ h => h) (Or.inl ⟨by rfl, ?_⟩) (by assumption) ?_
    rotate_left
    · intro w hSw
      (try dsimp only at hSw)
      go_simp
      try with_reducible rfl
    (try simp only [Act.put, List.setIfInBounds_toArray, List.set_cons_zero, List.set_cons_succ])
    refine wpAnyH_take (i := 3) (v := ?_) (by simp only [List.getElem?_toArray, List.getElem?_cons_succ, List.getElem?_cons_zero]; exact rfl) (by as_aux_lemma => kernel_rfl) (by as_aux_lemma => kernel_rfl) (by as_aux_lemma => kernel_rfl) (by exact fun _ _ _ h => h) (Or.inl ⟨by rfl, ?_⟩) (by assumption) ?_
    rotate_left
    · intro w hSw
      (try dsimp only at hSw)
      go_simp
      try with_reducible rfl
    (try simp only [Act.put, List.setIfInBounds_toArray, List.set_cons_zero, List.set_cons_succ])
    refine wpAnyH_take (i := 4) (v := ?_) (by simp only [List.getElem?_toArray, List.getElem?_cons_succ, List.getElem?_cons_zero]; exact rfl) (by as_aux_lemma => kernel_rfl) (by as_aux_lemma => kernel_rfl) (by as_aux_lemma => kernel_rfl) (by exact fun _ _ _ h => h) (Or.inl ⟨by rfl, ?_⟩) (by assumption) ?_
    rotate_left
    · intro w hSw
      (try dsimp only at hSw)
      go_simp
      try with_reducible rfl
    (try simp only [Act.put, List.setIfInBounds_toArray, List.set_cons_zero, List.set_cons_succ])
    refine wpAnyH_take (i := 5) (v := ?_) (by simp only [List.getElem?_toArray, List.getElem?_cons_succ, List.getElem?_cons_zero]; exact rfl) (by as_aux_lemma => kernel_rfl) (by as_aux_lemma => kernel_rfl) (by as_aux_lemma => kernel_rfl) (by exact fun _ _ _ h => h) (Or.inl ⟨by rfl, ?_⟩) (by assumption) ?_
    rotate_left
    · intro w hSw
      (try dsimp only at hSw)
      go_simp
      try with_reducible rfl
    (try simp only [Act.put, List.setIfInBounds_toArray, List.set_cons_zero, List.set_cons_succ])
    refine wpAnyH_take (i := 6) (v := ?_) (by simp only [List.getElem?_toArray, List.getElem?_cons_succ, List.getElem?_cons_zero]; exact rfl) (by as_aux_lemma => kernel_rfl) (by as_aux_lemma => kernel_rfl) (by as_aux_lemma => kernel_rfl) (by exact fun _ _ _ h => h) (Or.inl ⟨by rfl, ?_⟩) (by assumption) ?_
    rotate_left
    · intro w hSw
      (try dsimp only at hSw)
      go_simp
      try with_reducible rfl
    (try simp only [Act.put, List.setIfInBounds_toArray, List.set_cons_zero, List.set_cons_succ])
    refine wpAnyH_take (i := 7) (v := ?_) (by simp only [List.getElem?_toArray, List.getElem?_cons_succ, List.getElem?_cons_zero]; exact rfl) (by as_aux_lemma => kernel_rfl) (by as_aux_lemma => kernel_rfl) (by as_aux_lemma => kernel_rfl) (by exact fun _ _ _ h => h) (Or.inl ⟨by rfl, ?_⟩) (by assumption) ?_
    rotate_left
    · intro w hSw
      (try dsimp only at hSw)
      go_simp
      try with_reducible rfl
    (try simp only [Act.put, List.setIfInBounds_toArray, List.set_cons_zero, List.set_cons_succ])
    refine wpAnyH_take (i := 8) (v := ?_) (by simp only [List.getElem?_toArray, List.getElem?_cons_succ, List.getElem?_cons_zero]; exact rfl) (by as_aux_lemma => kernel_rfl) (by as_aux_lemma => kernel_rfl) (by as_aux_lemma => kernel_rfl) (by exact fun _ _ _ h => h) (Or.inl ⟨by rfl, ?_⟩) (by assumption) ?_
    rotate_left
    · intro w hSw
      (try dsimp only at hSw)
      go_simp
      try with_reducible rfl
    (try simp only [Act.put, List.setIfInBounds_toArray, List.set_cons_zero, List.set_cons_succ])
    refine wpAnyH_take (i := 9) (v := ?_) (by simp only [List.getElem?_toArray, List.getElem?_cons_succ, List.getElem?_cons_zero]; exact rfl) (by as_aux_lemma => kernel_rfl) (by as_aux_lemma => kernel_rfl) (by as_aux_lemma => kernel_rfl) (by exact fun _ _ _ h => h) (Or.inl ⟨by rfl, ?_⟩) (by assumption) ?_
    rotate_left
    · intro w hSw
      (try dsimp only at hSw)
      go_simp
      try with_reducible rfl
    (try simp only [Act.put, List.setIfInBounds_toArray, List.set_cons_zero, List.set_cons_succ])
    refine wpAnyH_take (i := 10) (v := ?_) (by simp only [List.getElem?_toArray, List.getElem?_cons_succ, List.getElem?_cons_zero]; exact rfl) (by as_aux_lemma => kernel_rfl) (by as_aux_lemma => kernel_rfl) (by as_aux_lemma => kernel_rfl) (by exact fun _ _ _ h => h) (Or.inl ⟨by rfl, ?_⟩) (by assumption) ?_
    rotate_left
    · intro w hSw
      (try dsimp only at hSw)
      go_simp
      try with_reducible rfl
    (try simp only [Act.put, List.setIfInBounds_toArray, List.set_cons_zero, List.set_cons_succ])
    refine wpAnyH_take (i := 11) (v := ?_) (by simp only [List.getElem?_toArray, List.getElem?_cons_succ, List.getElem?_cons_zero]; exact rfl) (by as_aux_lemma => kernel_rfl) (by as_aux_lemma => kernel_rfl) (by as_aux_lemma => kernel_rfl) (by exact fun _ _ _ h => h) (Or.inl ⟨by rfl, ?_⟩) (by assumption) ?_
    rotate_left
    · intro w hSw
      (try dsimp only at hSw)
      go_simp
      try with_reducible rfl
    (try simp only [Act.put, List.setIfInBounds_toArray, List.set_cons_zero, List.set_cons_succ])
    refine wpAnyH_ready (rs := [12]) (by as_aux_lemma => kernel_rfl) (by simp) ?_
    refine AllReadyH.cons (by simp only [List.getElem?_toArray, List.getElem?_cons_succ, List.getElem?_cons_zero]; exact rfl) (fun K hK => ?_) AllReadyH.nil
    go_simp
    (go_at_call 30; refine (HRD3.out _ (Held.bl (W0 := w3) (by assumption))).mono ?_; rintro _ w1b ⟨vlb, Eb, rfl, hEb, hrowb, hmsb, henb, hb1b⟩; have hqb := Held.trans (W0 := w3) (by assumption) hb1b; have hzb := hb1b.size; have hyb := (Held.bl (W0 := w3) (by assumption)).size)
    refine hK.out _ _ ?_ (fun hHeld => ?_)
    · (try dsimp only)
      exact HK3.out _ hqb
    clear hK K
    (try simp only [Act.put, List.setIfInBounds_toArray, List.set_cons_zero, List.set_cons_succ])
    refine wpAnyH_take (i := 13) (v := ?_) (by simp only [List.getElem?_toArray, List.getElem?_cons_succ, List.getElem?_cons_zero]; exact rfl) (by as_aux_lemma => kernel_rfl) (by as_aux_lemma => kernel_rfl) (by as_aux_lemma => kernel_rfl) (by exact fun _ _ _ h => h) (Or.inl ⟨by rfl, ?_⟩) (by assumption) ?_
    rotate_left
    · intro w hSw
      (try dsimp only at hSw)
      go_simp
      try with_reducible rfl
    (try simp only [Act.put, List.setIfInBounds_toArray, List.set_cons_zero, List.set_cons_succ])
    refine wpAnyH_take (i := 14) (v := ?_) (by simp only [List.getElem?_toArray, List.getElem?_cons_succ, List.getElem?_cons_zero]; exact rfl) (by as_aux_lemma => kernel_rfl) (by as_aux_lemma => kernel_rfl) (by as_aux_lemma => kernel_rfl) (by exact fun _ _ _ h => h) (Or.inl ⟨by rfl, ?_⟩) (by assumption) ?_
    rotate_left
    · intro w hSw
      (try dsimp only at hSw)
      go_simp
      try with_reducible rfl
    (try simp only [Act.put, List.setIfInBounds_toArray, List.set_cons_zero, List.set_cons_succ])
    refine wpAnyH_take (i := 15) (v := ?_) (by simp only [List.getElem?_toArray, List.getElem?_cons_succ, List.getElem?_cons_zero]; exact rfl) (by as_aux_lemma => kernel_rfl) (by as_aux_lemma => kernel_rfl) (by as_aux_lemma => kernel_rfl) (by exact fun _ _ _ h => h) (Or.inl ⟨by rfl, ?_⟩) (by assumption) ?_
    rotate_left
    · intro w hSw
      (try dsimp only at hSw)
      go_simp
      try with_reducible rfl
    (try simp only [Act.put, List.setIfInBounds_toArray, List.set_cons_zero, List.set_cons_succ])
    refine wpAnyH_take (i := 16) (v := ?_) (by simp only [List.getElem?_toArray, List.getElem?_cons_succ, List.getElem?_cons_zero]; exact rfl) (by as_aux_lemma => kernel_rfl) (by as_aux_lemma => kernel_rfl) (by as_aux_lemma => kernel_rfl) (by exact fun _ _ _ h => h) (Or.inl ⟨by rfl, ?_⟩) (by assumption) ?_
    rotate_left
    · intro w hSw
      (try dsimp only at hSw)
      go_simp
      try with_reducible rfl
    (try simp only [Act.put, List.setIfInBounds_toArray, List.set_cons_zero, List.set_cons_succ])
    refine wpAnyH_take (i := 17) (v := ?_) (by simp only [List.getElem?_toArray, List.getElem?_cons_succ, List.getElem?_cons_zero]; exact rfl) (by as_aux_lemma => kernel_rfl) (by as_aux_lemma => kernel_rfl) (by as_aux_lemma => kernel_rfl) (by exact fun _ _ _ h => h) (Or.inl ⟨by rfl, ?_⟩) (by assumption) ?_
    rotate_left
    · intro w hSw
      (try dsimp only at hSw)
      go_simp
      try with_reducible rfl
    (try simp only [Act.put, List.setIfInBounds_toArray, List.set_cons_zero, List.set_cons_succ])
    refine wpAnyH_take (i := 18) (v := ?_) (by simp only [List.getElem?_toArray, List.getElem?_cons_succ, List.getElem?_cons_zero]; exact rfl) (by as_aux_lemma => kernel_rfl) (by as_aux_lemma => kernel_rfl) (by as_aux_lemma => kernel_rfl) (by exact fun _ _ _ h => h) (Or.inl ⟨by rfl, ?_⟩) (by assumption) ?_
    rotate_left
    · intro w hSw
      (try dsimp only at hSw)
      go_simp
      try with_reducible rfl
    (try simp only [Act.put, List.setIfInBounds_toArray, List.set_cons_zero, List.set_cons_succ])
    refine wpAnyH_take (i := 19) (v := ?_) (by simp only [List.getElem?_toArray, List.getElem?_cons_succ, List.getElem?_cons_zero]; exact rfl) (by as_aux_lemma => kernel_rfl) (by as_aux_lemma => kernel_rfl) (by as_aux_lemma => kernel_rfl) (by exact fun _ _ _ h => h) (Or.inl ⟨by rfl, ?_⟩) (by assumption) ?_
    rotate_left
    · intro w hSw
      (try dsimp only at hSw)
      go_simp
      try with_reducible rfl
    (try simp only [Act.put, List.setIfInBounds_toArray, List.set_cons_zero, List.set_cons_succ])
    refine wpAnyH_done (by as_aux_lemma => kernel_rfl) ?_ _
    have HBB := Lib.hid (hqb : Below w3.heap.size w3 w1b)
    obtain ⟨Ab, cb, rfl, _, _, _, _⟩ := hrowb.form
    obtain ⟨r, hr⟩ : ∃ r, r = (Strm.readF rq All2 M).2.1 := ⟨_, rfl⟩
    rw [← hr]
    have HRR := Lib.hid hr
    have HQB := Lib.hid (HQ3.out.below HBB.out)
    have e3 := HQB.out.cell (j := 3) rfl
    have q3 := HQB.out.var.frozen 3
    obtain ⟨hq5, hc5⟩ := HQB.out.die r
    have hqz : qb < w3.heap.size := HQ3.out.var.lt
    have hqz0 : qb < w.heap.size := HQM.out.var.lt
    have HRW := Lib.hid ((HRA3.out.below_all HBB.out).setCell (p := ⟨qb, 3, none⟩) (fun e => by have := (HRA3.out.lt _ e).1; dsimp only at this; omega) (.int .i64 (r : Int)))
    have HRN := Lib.hid (hrowb.setCell (p := ⟨qb, 3, none⟩) (fun e => by have := (hrowb.lt _ e).1; have := hyb; dsimp only at *; omega) (.int .i64 (r : Int)))
    have hmn : ∀ e ∈ Eb, MsR (w1b.setCell ⟨qb, 3, none⟩ (.int .i64 (r : Int))) e := fun e he => by
      obtain ⟨A4, c4, hmv⟩ := HMV.out
      have hv := HQB.out.var
      rw [hmv] at hv
      obtain ⟨k1, k2⟩ := qfar_var hv
      have hg := World.grownBy.set w1b ⟨qb, 3, none⟩ (.int .i64 (r : Int))
      have hx := hmsb e he
      exact ⟨hx.f.grown hg (k2 hx.f) hg.size, hx.d.grown hg (k1 hx.d) hg.size, hx.z⟩
    have HMN := Lib.hid hmn
    have HQ5 := Lib.hid hq5
    have HC5 := Lib.hid hc5
    have HEB := Lib.hid hEb
    have hnb : Eb.length ≤ 16777216 := Nat.le_trans henb hl2
    have hna : Ea.length ≤ 16777216 := Nat.le_trans HNA.out (by omega)
    clear hqb hb1b hrowb hr hyb hzb hq5 hc5 hmn hEb hmsb henb HRD3 HK3
    go_upto_region 9 with (fail)
    obtain ⟨w5, hw5⟩ : ∃ w5, w5 = w1b.setCell ⟨qb, 3, none⟩ (.int .i64 (r : Int)) := ⟨_, rfl⟩
    rw [← hw5] at HRW HRN HMN HQ5 HC5 ⊢
    have HEV : Hid (Calls Tryz.prog 31 #[.slice Al Ea.length cl, .slice Ab Eb.length cb] w5 (QevPost w5 (Strm.evP (Ea.map MsE.x) (Eb.map MsE.x)) (3 * Eb.length))) := Lib.hid (by
      obtain ⟨A5, c5, e5, _, _, _, hr5⟩ := HRW.out.form
      obtain ⟨A6, c6, e6, _, _, _, hr6⟩ := HRN.out.form
      injection e5 with e51 _ _
      injection e6 with e61 _ _
      rw [← e51] at hr5
      rw [← e61] at hr6
      exact qevents_any Al Ea.length cl Ea Ab Eb.length cb Eb w5 hr5 hr6 (fun e he => by obtain ⟨A7, c7, e7, _⟩ := (HMA.out e he).d; exact ⟨A7, c7, e7⟩) HMN.out hna hnb)
    clear hw5 e3 q3
    go_wp2_with (first
      | (go_at_call 31; go_must (refine HEV.out.mono ?_; rintro _ w6 ⟨v6, EL, rfl, hx6, hr6, hm6, hl6, hb6⟩))
      | fail)
    go_ret2
    have hz5 : w.heap.size ≤ w5.heap.size := by
      have := HB1.out.size
      have := HC3.out.size
      have := HBB.out.size
      have := HC5.out.size
      omega
    refine .inr ⟨rfl, v6, EL, .slice A2 n2 c2, by rw [← HAL.out, ← HRR.out]; rfl, by rw [← HAL.out, ← HEB.out, ← HEA.out]; exact hx6, hr6.mono hz5, hm6, by omega, by rw [← HAL.out, ← HRR.out]; exact HQ5.out.below hb6, ?_, fun k hk => ?_⟩
    · have c1 : Chg (footQ qb av mv) w w1a := (Chg.refl _ w).then_below HB1.out
      refine (((c1.trans HC3.out (fun _ _ h => h)).then_below HBB.out).trans HC5.out (fun j hj hs => ?_)).then_below hb6
      rcases HF3.out j hs with x | x
      · exact x
      · have := HB1.out.size; omega
    · rcases HF3.out k hk with x | x
      · exact .inl x
      · exact .inr (Nat.le_trans HB1.out.size x)
  · have e9 : ((dead : Int) != 0) = true := by simpa using hd
    clear h hrd
    go_enter Tryz.func10, Tryz.ntmps10
    go_wp2
    go_quiet (fail)
    go_wp2
    go_ret2
    exact .inl ⟨hd, rfl, below_drewN (Below.refl _ _) _⟩
theorem qrow_one (W : World) (base : Nat) (hb : base ≤ W.heap.size) (e : QvE) : Row (W.alloc (.cells e.cells.toArray 81)) base 11 (.slice (some ⟨W.heap.size, 0, none⟩) 1 1) 1 ([e].flatMap QvE.cells) := by
  have h := Row.of_block (w := W.alloc (.cells e.cells.toArray 81)) (b := W.heap.size) (base := base) (sz := 11) (n := 1) (t := 81) (cs := e.cells.toArray) (heap_alloc_new W _) hb (by rfl) (by decide)
  simpa using h
def QEndPost (w : World) (base qb : Nat) (rq : Bool) (All : Bs) (M : List ByteArray) (dead : Nat) (av mv : Value) (e : Ending) (w' : World) : Prop :=
  (dead ≠ 0 ∧ e = .returned (.tuple #[.slice none 0 0, .int .i64 (dead : Int)]) ∧ Below w.heap.size w w') ∨
  (dead = 0 ∧ ∃ (v : Value) (EL : List QvE), e = .returned (.tuple #[v, .int .i64 ((Strm.endQ (Strm.readF rq All M)).2 : Nat)]) ∧ EL.map QvE.x = (Strm.endQ (Strm.readF rq All M)).1 ∧ Row w' w.heap.size 11 v EL.length (EL.flatMap QvE.cells) ∧ (∀ e ∈ EL, QvR w' e) ∧
    QMem w' base qb rq All M 42 av mv ∧ Chg (footQ qb av mv) w w')
set_option maxHeartbeats 4000000 in
set_option maxRecDepth 100000 in
theorem qsended_any {w : World} {base qb dead : Nat} {rq : Bool} {All : Bs} {M : List ByteArray} {av mv : Value} (h : QMem w base qb rq All M dead av mv) (hn : All.length ≤ 16777216) (hm : M.length ≤ 100000000) :
    Calls Tryz.prog 17 #[.pointer (some ⟨qb, 0, none⟩)] w (QEndPost w base qb rq All M dead av mv) := by
  have d3 := h.cell (j := 3) rfl
  have p3 := h.var.frozen 3
  by_cases hd : dead = 0
  · subst hd
    obtain ⟨hq2, hc2⟩ := h.die 42
    have hz2 : (w.setCell ⟨qb, 3, none⟩ (.int .i64 ((42 : Nat) : Int))).heap.size = w.heap.size := by simp
    have HQM := Lib.hid hq2
    have HC2 := Lib.hid hc2
    have HZ2 := Lib.hid hz2
    clear h hq2 hc2 hz2
    go_enter Tryz.func17, Tryz.ntmps17
    go_upto_region 6 with (fail)
    change Hid (QMem (w.setCell ⟨qb, 3, none⟩ (.int .i64 42)) base qb rq All M 42 av mv) at HQM
    change Hid (Chg (footQ qb av mv) w (w.setCell ⟨qb, 3, none⟩ (.int .i64 42))) at HC2
    change Hid ((w.setCell ⟨qb, 3, none⟩ (.int .i64 42)).heap.size = w.heap.size) at HZ2
    obtain ⟨w2, hw2⟩ : ∃ w2, w2 = w.setCell ⟨qb, 3, none⟩ (.int .i64 42) := ⟨_, rfl⟩
    rw [← hw2] at HQM HC2 HZ2 ⊢
    have HK := Lib.hid HQM.out.hk
    have HRD := Lib.hid (fun W (hW : Below w2.heap.size w2 W) => (HQM.out.below hW).read hn hm)
    clear hw2 d3 p3
    refine wp_region_held_drew (S := (fun w' => Below (w2).heap.size (w2) w' ∧ w'.cell? ⟨qb, 1, none⟩ = some (av) ∧ w'.cell? ⟨qb, 0, none⟩ = some (.bool rq) ∧ w'.cell? ⟨qb, 2, none⟩ = some mv)) (by as_aux_lemma => kernel_rfl) ?_ (fun hHeld => ?_)
    · exact HK.out _ (below_drewN (Below.refl _ _) _)
    refine wpAnyH_take (i := 0) (v := ?_) (by simp only [List.getElem?_toArray, List.getElem?_cons_zero]; exact rfl) (by as_aux_lemma => kernel_rfl) (by as_aux_lemma => kernel_rfl) (by as_aux_lemma => kernel_rfl) (by exact fun _ _ _ h => h) (Or.inl ⟨by rfl, ?_⟩) (by assumption) ?_
    rotate_left
    · intro w hSw
      (try dsimp only at hSw)
      go_simp
      try with_reducible rfl
    (try simp only [Act.put, List.setIfInBounds_toArray, List.set_cons_zero, List.set_cons_succ])
    refine wpAnyH_take (i := 1) (v := ?_) (by simp only [List.getElem?_toArray, List.getElem?_cons_succ, List.getElem?_cons_zero]; exact rfl) (by as_aux_lemma => kernel_rfl) (by as_aux_lemma => kernel_rfl) (by as_aux_lemma => kernel_rfl) (by exact fun _ _ _ h => h) (Or.inl ⟨by rfl, ?_⟩) (by assumption) ?_
    rotate_left
    · intro w hSw
      (try dsimp only at hSw)
      go_simp
      try with_reducible rfl
    (try simp only [Act.put, List.setIfInBounds_toArray, List.set_cons_zero, List.set_cons_succ])
    refine wpAnyH_take (i := 2) (v := ?_) (by simp only [List.getElem?_toArray, List.getElem?_cons_succ, List.getElem?_cons_zero]; exact rfl) (by as_aux_lemma => kernel_rfl) (by as_aux_lemma => kernel_rfl) (by as_aux_lemma => kernel_rfl) (by exact fun _ _ _ h => h) (Or.inl ⟨by rfl, ?_⟩) (by assumption) ?_
    rotate_left
    · intro w hSw
      (try dsimp only at hSw)
      go_simp
      try with_reducible rfl
    (try simp only [Act.put, List.setIfInBounds_toArray, List.set_cons_zero, List.set_cons_succ])
    refine wpAnyH_take (i := 3) (v := ?_) (by simp only [List.getElem?_toArray, List.getElem?_cons_succ, List.getElem?_cons_zero]; exact rfl) (by as_aux_lemma => kernel_rfl) (by as_aux_lemma => kernel_rfl) (by as_aux_lemma => kernel_rfl) (by exact fun _ _ _ h => h) (Or.inl ⟨by rfl, ?_⟩) (by assumption) ?_
    rotate_left
    · intro w hSw
      (try dsimp only at hSw)
      go_simp
      try with_reducible rfl
    (try simp only [Act.put, List.setIfInBounds_toArray, List.set_cons_zero, List.set_cons_succ])
    refine wpAnyH_take (i := 4) (v := ?_) (by simp only [List.getElem?_toArray, List.getElem?_cons_succ, List.getElem?_cons_zero]; exact rfl) (by as_aux_lemma => kernel_rfl) (by as_aux_lemma => kernel_rfl) (by as_aux_lemma => kernel_rfl) (by exact fun _ _ _ h => h) (Or.inl ⟨by rfl, ?_⟩) (by assumption) ?_
    rotate_left
    · intro w hSw
      (try dsimp only at hSw)
      go_simp
      try with_reducible rfl
    (try simp only [Act.put, List.setIfInBounds_toArray, List.set_cons_zero, List.set_cons_succ])
    refine wpAnyH_take (i := 5) (v := ?_) (by simp only [List.getElem?_toArray, List.getElem?_cons_succ, List.getElem?_cons_zero]; exact rfl) (by as_aux_lemma => kernel_rfl) (by as_aux_lemma => kernel_rfl) (by as_aux_lemma => kernel_rfl) (by exact fun _ _ _ h => h) (Or.inl ⟨by rfl, ?_⟩) (by assumption) ?_
    rotate_left
    · intro w hSw
      (try dsimp only at hSw)
      go_simp
      try with_reducible rfl
    (try simp only [Act.put, List.setIfInBounds_toArray, List.set_cons_zero, List.set_cons_succ])
    refine wpAnyH_take (i := 6) (v := ?_) (by simp only [List.getElem?_toArray, List.getElem?_cons_succ, List.getElem?_cons_zero]; exact rfl) (by as_aux_lemma => kernel_rfl) (by as_aux_lemma => kernel_rfl) (by as_aux_lemma => kernel_rfl) (by exact fun _ _ _ h => h) (Or.inl ⟨by rfl, ?_⟩) (by assumption) ?_
    rotate_left
    · intro w hSw
      (try dsimp only at hSw)
      go_simp
      try with_reducible rfl
    (try simp only [Act.put, List.setIfInBounds_toArray, List.set_cons_zero, List.set_cons_succ])
    refine wpAnyH_take (i := 7) (v := ?_) (by simp only [List.getElem?_toArray, List.getElem?_cons_succ, List.getElem?_cons_zero]; exact rfl) (by as_aux_lemma => kernel_rfl) (by as_aux_lemma => kernel_rfl) (by as_aux_lemma => kernel_rfl) (by exact fun _ _ _ h => h) (Or.inl ⟨by rfl, ?_⟩) (by assumption) ?_
    rotate_left
    · intro w hSw
      (try dsimp only at hSw)
      go_simp
      try with_reducible rfl
    (try simp only [Act.put, List.setIfInBounds_toArray, List.set_cons_zero, List.set_cons_succ])
    refine wpAnyH_take (i := 8) (v := ?_) (by simp only [List.getElem?_toArray, List.getElem?_cons_succ, List.getElem?_cons_zero]; exact rfl) (by as_aux_lemma => kernel_rfl) (by as_aux_lemma => kernel_rfl) (by as_aux_lemma => kernel_rfl) (by exact fun _ _ _ h => h) (Or.inl ⟨by rfl, ?_⟩) (by assumption) ?_
    rotate_left
    · intro w hSw
      (try dsimp only at hSw)
      go_simp
      try with_reducible rfl
    (try simp only [Act.put, List.setIfInBounds_toArray, List.set_cons_zero, List.set_cons_succ])
    refine wpAnyH_take (i := 9) (v := ?_) (by simp only [List.getElem?_toArray, List.getElem?_cons_succ, List.getElem?_cons_zero]; exact rfl) (by as_aux_lemma => kernel_rfl) (by as_aux_lemma => kernel_rfl) (by as_aux_lemma => kernel_rfl) (by exact fun _ _ _ h => h) (Or.inl ⟨by rfl, ?_⟩) (by assumption) ?_
    rotate_left
    · intro w hSw
      (try dsimp only at hSw)
      go_simp
      try with_reducible rfl
    (try simp only [Act.put, List.setIfInBounds_toArray, List.set_cons_zero, List.set_cons_succ])
    refine wpAnyH_take (i := 10) (v := ?_) (by simp only [List.getElem?_toArray, List.getElem?_cons_succ, List.getElem?_cons_zero]; exact rfl) (by as_aux_lemma => kernel_rfl) (by as_aux_lemma => kernel_rfl) (by as_aux_lemma => kernel_rfl) (by exact fun _ _ _ h => h) (Or.inl ⟨by rfl, ?_⟩) (by assumption) ?_
    rotate_left
    · intro w hSw
      (try dsimp only at hSw)
      go_simp
      try with_reducible rfl
    (try simp only [Act.put, List.setIfInBounds_toArray, List.set_cons_zero, List.set_cons_succ])
    refine wpAnyH_take (i := 11) (v := ?_) (by simp only [List.getElem?_toArray, List.getElem?_cons_succ, List.getElem?_cons_zero]; exact rfl) (by as_aux_lemma => kernel_rfl) (by as_aux_lemma => kernel_rfl) (by as_aux_lemma => kernel_rfl) (by exact fun _ _ _ h => h) (Or.inl ⟨by rfl, ?_⟩) (by assumption) ?_
    rotate_left
    · intro w hSw
      (try dsimp only at hSw)
      go_simp
      try with_reducible rfl
    (try simp only [Act.put, List.setIfInBounds_toArray, List.set_cons_zero, List.set_cons_succ])
    refine wpAnyH_ready (rs := [12]) (by as_aux_lemma => kernel_rfl) (by simp) ?_
    refine AllReadyH.cons (by simp only [List.getElem?_toArray, List.getElem?_cons_succ, List.getElem?_cons_zero]; exact rfl) (fun K hK => ?_) AllReadyH.nil
    go_simp
    (go_at_call 30; refine (HRD.out _ (Held.bl (W0 := w2) (by assumption))).mono ?_; rintro _ w1a ⟨vla, Ea, rfl, hEa, hrowa, hmsa, hena, hb1a⟩; have hqa := Held.trans (W0 := w2) (by assumption) hb1a; have hza := hb1a.size; have hya := (Held.bl (W0 := w2) (by assumption)).size)
    refine hK.out _ _ ?_ (fun hHeld => ?_)
    · (try dsimp only)
      exact HK.out _ hqa
    clear hK K
    (try simp only [Act.put, List.setIfInBounds_toArray, List.set_cons_zero, List.set_cons_succ])
    refine wpAnyH_take (i := 13) (v := ?_) (by simp only [List.getElem?_toArray, List.getElem?_cons_succ, List.getElem?_cons_zero]; exact rfl) (by as_aux_lemma => kernel_rfl) (by as_aux_lemma => kernel_rfl) (by as_aux_lemma => kernel_rfl) (by exact fun _ _ _ h => h) (Or.inl ⟨by rfl, ?_⟩) (by assumption) ?_
    rotate_left
    · intro w hSw
      (try dsimp only at hSw)
      go_simp
      try with_reducible rfl
    (try simp only [Act.put, List.setIfInBounds_toArray, List.set_cons_zero, List.set_cons_succ])
    refine wpAnyH_take (i := 14) (v := ?_) (by simp only [List.getElem?_toArray, List.getElem?_cons_succ, List.getElem?_cons_zero]; exact rfl) (by as_aux_lemma => kernel_rfl) (by as_aux_lemma => kernel_rfl) (by as_aux_lemma => kernel_rfl) (by exact fun _ _ _ h => h) (Or.inl ⟨by rfl, ?_⟩) (by assumption) ?_
    rotate_left
    · intro w hSw
      (try dsimp only at hSw)
      go_simp
      try with_reducible rfl
    (try simp only [Act.put, List.setIfInBounds_toArray, List.set_cons_zero, List.set_cons_succ])
    refine wpAnyH_take (i := 15) (v := ?_) (by simp only [List.getElem?_toArray, List.getElem?_cons_succ, List.getElem?_cons_zero]; exact rfl) (by as_aux_lemma => kernel_rfl) (by as_aux_lemma => kernel_rfl) (by as_aux_lemma => kernel_rfl) (by exact fun _ _ _ h => h) (Or.inl ⟨by rfl, ?_⟩) (by assumption) ?_
    rotate_left
    · intro w hSw
      (try dsimp only at hSw)
      go_simp
      try with_reducible rfl
    (try simp only [Act.put, List.setIfInBounds_toArray, List.set_cons_zero, List.set_cons_succ])
    refine wpAnyH_take (i := 16) (v := ?_) (by simp only [List.getElem?_toArray, List.getElem?_cons_succ, List.getElem?_cons_zero]; exact rfl) (by as_aux_lemma => kernel_rfl) (by as_aux_lemma => kernel_rfl) (by as_aux_lemma => kernel_rfl) (by exact fun _ _ _ h => h) (Or.inl ⟨by rfl, ?_⟩) (by assumption) ?_
    rotate_left
    · intro w hSw
      (try dsimp only at hSw)
      go_simp
      try with_reducible rfl
    (try simp only [Act.put, List.setIfInBounds_toArray, List.set_cons_zero, List.set_cons_succ])
    refine wpAnyH_take (i := 17) (v := ?_) (by simp only [List.getElem?_toArray, List.getElem?_cons_succ, List.getElem?_cons_zero]; exact rfl) (by as_aux_lemma => kernel_rfl) (by as_aux_lemma => kernel_rfl) (by as_aux_lemma => kernel_rfl) (by exact fun _ _ _ h => h) (Or.inl ⟨by rfl, ?_⟩) (by assumption) ?_
    rotate_left
    · intro w hSw
      (try dsimp only at hSw)
      go_simp
      try with_reducible rfl
    (try simp only [Act.put, List.setIfInBounds_toArray, List.set_cons_zero, List.set_cons_succ])
    refine wpAnyH_take (i := 18) (v := ?_) (by simp only [List.getElem?_toArray, List.getElem?_cons_succ, List.getElem?_cons_zero]; exact rfl) (by as_aux_lemma => kernel_rfl) (by as_aux_lemma => kernel_rfl) (by as_aux_lemma => kernel_rfl) (by exact fun _ _ _ h => h) (Or.inl ⟨by rfl, ?_⟩) (by assumption) ?_
    rotate_left
    · intro w hSw
      (try dsimp only at hSw)
      go_simp
      try with_reducible rfl
    (try simp only [Act.put, List.setIfInBounds_toArray, List.set_cons_zero, List.set_cons_succ])
    refine wpAnyH_take (i := 19) (v := ?_) (by simp only [List.getElem?_toArray, List.getElem?_cons_succ, List.getElem?_cons_zero]; exact rfl) (by as_aux_lemma => kernel_rfl) (by as_aux_lemma => kernel_rfl) (by as_aux_lemma => kernel_rfl) (by exact fun _ _ _ h => h) (Or.inl ⟨by rfl, ?_⟩) (by assumption) ?_
    rotate_left
    · intro w hSw
      (try dsimp only at hSw)
      go_simp
      try with_reducible rfl
    (try simp only [Act.put, List.setIfInBounds_toArray, List.set_cons_zero, List.set_cons_succ])
    refine wpAnyH_done (by as_aux_lemma => kernel_rfl) ?_ _
    have HE := Lib.hid hEa
    obtain ⟨Al, cl, rfl, _, hcl, _, hrl⟩ := hrowa.form
    have HB1 := Lib.hid (hqa : Below w2.heap.size w2 w1a)
    have HEN := Lib.hid hena
    have HQ1 := Lib.hid (HQM.out.below HB1.out)
    have HC1 := Lib.hid (HC2.out.then_below HB1.out)
    have HZ : Hid (w.heap.size ≤ w1a.heap.size) := Lib.hid (by have := HZ2.out; have := HB1.out.size; omega)
    clear hEa hrowa hmsa hb1a hqa hena hcl hya hza HK HRD
    have HOUT0 : Hid (∀ r : Nat, Strm.endQ (Strm.readF rq All M) = ([], r) → QEndPost w base qb rq All M 0 av mv (.returned (.tuple #[.slice none 0 0, .int .i64 (r : Int)])) w1a) := Lib.hid (fun r hr => .inr ⟨rfl, .slice none 0 0, [], by rw [hr], by rw [hr]; rfl, Row.nil _ _ _, (fun e he => by cases he), HQ1.out, HC1.out⟩)
    obtain ⟨R, hR⟩ : ∃ R, R = Strm.readF rq All M := ⟨_, rfl⟩
    have HRR := Lib.hid hR
    rw [← hR] at HE HOUT0 ⊢
    clear hR
    obtain ⟨l, r, b⟩ := R
    dsimp only at HE ⊢
    cases b with
    | true =>
      go_wp2
      go_ret2
      exact HOUT0.out 42 rfl
    | false =>
      by_cases h0 : Ea.length = 0
      · have e0 : Ea = [] := List.length_eq_zero_iff.1 h0
        subst e0
        have HE0 : Hid (l = []) := Lib.hid (by rw [← HE.out]; rfl)
        clear h0
        go_wp2
        go_ret2
        exact HOUT0.out 0 (by rw [HE0.out]; rfl)
      · obtain ⟨e, he, _, hc⟩ := last_ms (E := Ea) (by omega)
        obtain ⟨g, o, rfl, _, hcell⟩ := hrl.2 (by omega)
        have c10 := hcell _ _ (hc 10 _ (by decide) rfl)
        have c7 := hcell _ _ (hc 7 _ (by decide) rfl)
        obtain ⟨N, hN⟩ : ∃ N, N = Ea.length := ⟨_, rfl⟩
        have hlast : l.getLast? = some e.x := by rw [← HE.out, List.getLast?_map, he]; rfl
        have HL := Lib.hid hlast
        rw [← hN] at c10 c7 h0 ⊢
        rw [← Nat.add_assoc] at c10 c7
        have HN : Hid (N ≤ 16777216) := Lib.hid (by rw [hN]; exact Nat.le_trans HEN.out hn)
        have k1 : (0 : Int) ≤ (N : Int) - 1 := by omega
        have k2 : (N : Int) - 1 < (N : Int) := by omega
        have k3 : ((N : Int) == 0) = false := by rw [beq_eq_false_iff_ne]; omega
        have k4 : ((N : Int) - 1).toNat = N - 1 := by omega
        have k5 : N ≤ 16777216 := HN.out
        obtain ⟨wh, hwh⟩ : ∃ wh, wh = e.x.wh := ⟨_, rfl⟩
        obtain ⟨fr, hfr⟩ : ∃ fr, fr = e.x.fr := ⟨_, rfl⟩
        rw [← hwh] at c10
        rw [← hfr] at c7
        have HEQ : Hid (Strm.endQ (l, r, false) = if wh = true then ([], 0) else if fr = 3 then ([.fin], 0) else ([], 42)) := Lib.hid (by
          unfold Strm.endQ Strm.lastW
          rw [if_neg (show ¬ (false = true) by decide)]
          dsimp only
          rw [HL.out, hwh, hfr])
        clear hcell hc he hrl hN hlast hwh hfr
        cases wh with
        | true =>
          go_wp2
          go_ret2
          exact HOUT0.out 0 HEQ.out
        | false =>
          by_cases hf3 : fr = 3
          · subst hf3
            go_wp2
            go_ret2
            have hee : Strm.endQ (l, r, false) = ([.fin], 0) := HEQ.out.trans (by simp)
            refine .inr ⟨rfl, .slice (some ⟨w1a.heap.size, 0, none⟩) 1 1, [⟨.fin, .slice none 0 0, .slice none 0 0⟩], by rw [← HRR.out, hee]; rfl, by rw [← HRR.out, hee]; rfl, qrow_one _ _ HZ.out _, fun e he => ?_, HQ1.out.below ((Below.refl _ _).alloc (Nat.le_refl _) _), HC1.out.alloc _⟩
            rw [List.mem_singleton] at he
            rw [he]
            exact ⟨FsR.nil _, BsR.nil _⟩
          · have k6 : ((fr : Int) == 3) = false := by rw [beq_eq_false_iff_ne]; omega
            have k7 : ¬ (fr : Int) = 3 := by omega
            have HF3 := Lib.hid hf3
            clear hf3
            go_wp2
            go_ret2
            exact HOUT0.out 42 (HEQ.out.trans ((if_neg (by decide)).trans (if_neg HF3.out)))
  · have e9 : ((dead : Int) != 0) = true := by simpa using hd
    clear h
    go_enter Tryz.func17, Tryz.ntmps17
    go_wp2
    go_quiet (fail)
    go_wp2
    go_ret2
    exact .inl ⟨hd, rfl, below_drewN (Below.refl _ _) _⟩
end Go.Proofs.YtklmpadcfioefaaGreatDoor
