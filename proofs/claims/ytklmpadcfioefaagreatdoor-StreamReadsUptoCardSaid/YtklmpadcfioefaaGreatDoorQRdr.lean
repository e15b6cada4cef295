/- the document's Reader of streams in memory (chapter 24): Expect, Between. Conditions: sizes. -/
import Derived.Test.YtklmpadcfioefaaGreatDoorQRd
import Derived.Test.YtklmpadcfioefaaGreatDoorQEvsW
import Derived.Test.YtklmpadcfioefaaGreatDoorMX2
import Derived.Deep.RegionHeld3
namespace Go.Proofs.YtklmpadcfioefaaGreatDoor
open Go.RowKit

/-- the document's reader at qb -/
structure QMem (w : World) (base qb : Nat) (rq : Bool) (All : Bs) (M : List ByteArray) (dead : Nat) (av mv : Value) : Prop where
  le : base ≤ qb
  var : Var w qb 29 [.bool rq, av, mv, .int .i64 (dead : Int)]
  all : RowB w base av All
  ms : Row w base 1 mv M.length (strsV M)
  a1 : ∀ k, av.ownBlock = some k → k ≠ qb ∧ mv.ownBlock ≠ some k
  a2 : ∀ k, mv.ownBlock = some k → k ≠ qb
def footQ (qb : Nat) (av mv : Value) (k : Nat) : Prop := k = qb ∨ av.ownBlock = some k ∨ mv.ownBlock = some k
section
variable {w w' : World} {base qb dead : Nat} {rq : Bool} {All : Bs} {M : List ByteArray} {av mv : Value} {S : Nat → Prop}
theorem QMem.lt (h : QMem w base qb rq All M dead av mv) : ∀ k, footQ qb av mv k → base ≤ k ∧ k < w.heap.size := by
  intro k hk
  rcases hk with x | x | x
  · subst x; exact ⟨h.le, h.var.lt⟩
  · exact Row.lt h.all k x
  · exact h.ms.lt k x
theorem QMem.chg (h : QMem w base qb rq All M dead av mv) (hc : Chg S w w') (hs : ∀ k, footQ qb av mv k → ¬ S k) : QMem w' base qb rq All M dead av mv :=
  ⟨h.le, h.var.chg hc (hs _ (.inl rfl)), Row.chg h.all hc (fun k hk => hs k (.inr (.inl hk))), h.ms.chg hc (fun k hk => hs k (.inr (.inr hk))), h.a1, h.a2⟩
theorem QMem.below (h : QMem w base qb rq All M dead av mv) (hb : Below w.heap.size w w') : QMem w' base qb rq All M dead av mv :=
  h.chg (S := fun _ => False) ((Chg.refl (fun _ => False) w).then_below hb) (fun _ _ e => e)
theorem QMem.mono {base' : Nat} (h : QMem w base qb rq All M dead av mv) (hb : base' ≤ base) : QMem w base' qb rq All M dead av mv :=
  ⟨Nat.le_trans hb h.le, h.var, Row.mono h.all hb, h.ms.mono hb, h.a1, h.a2⟩
theorem QMem.cell (h : QMem w base qb rq All M dead av mv) {j : Nat} {v : Value} (hj : ([Value.bool rq, av, mv, .int .i64 (dead : Int)])[j]? = some v) : w.cell? ⟨qb, j, none⟩ = some v := h.var.cell hj
/-- it reads -/
theorem QMem.read (h : QMem w base qb rq All M dead av mv) (hn : All.length ≤ 16777216) (hm : M.length ≤ 100000000) : Calls Tryz.prog 30 #[av, .bool rq, mv] w (RdPost w rq All M) := by
  obtain ⟨A, c, rfl, h1, h2, h3, h4⟩ := RowB.form h.all
  obtain ⟨A2, c2, rfl, _, _, _, k4⟩ := h.ms.form
  exact qread_any A All.length c All rq A2 M.length c2 M w h1 h2 h4 hn k4 hm
/-- its methods grow -/
theorem QMem.meth (h : QMem w base qb rq All M dead av mv) {o : Obj} {w2 : World} {m : ByteArray} {v2 : Value} (hr : Row w2 base 1 v2 (M.length + 1) (strsV M ++ [.string m])) (hg : (w.alloc o).grownBy w2 mv.ownBlock) (ho : v2.ownBlock = mv.ownBlock ∨ v2.ownBlock = some (w.alloc o).heap.size) :
    QMem (w2.setCell ⟨qb, 2, none⟩ v2) base qb rq All (M ++ [m]) dead av v2 ∧ Chg (footQ qb av mv) w (w2.setCell ⟨qb, 2, none⟩ v2) ∧ (∀ k, footQ qb av v2 k → footQ qb av mv k ∨ w.heap.size ≤ k) := by
  have hnew : ∀ k, v2.ownBlock = some k → mv.ownBlock = some k ∨ w.heap.size < k := fun k hk => by
    rcases ho with e | e
    · rw [e] at hk; exact .inl hk
    · rw [e] at hk; injection hk with hk; simp at hk; exact .inr (by omega)
  have hlq := h.var.lt
  have hb0 : Chg (fun k => mv.ownBlock = some k) w w2 := ((Chg.refl _ w).then_below ((Below.refl _ _).alloc (Nat.le_refl _) o)).grown hg (fun k _ hk => hk)
  have hcm := (hb0.more (S' := fun k => mv.ownBlock = some k ∨ k = qb) (fun k _ h => .inl h)).setCell (p := ⟨qb, 2, none⟩) (fun _ => .inr rfl) v2
  have hv2 : Var w2 qb 29 [.bool rq, av, mv, .int .i64 (dead : Int)] := h.var.chg hb0 (fun e => h.a2 qb e rfl)
  have hrow := hr.setCell (p := ⟨qb, 2, none⟩) (fun e => by
    rcases hnew _ e with x | x
    · exact h.a2 _ x rfl
    · dsimp only at x; omega) v2
  have est : strsV M ++ [.string m] = strsV (M ++ [m]) := by simp [strsV]
  rw [est] at hrow
  refine ⟨⟨h.le, hv2.set 2 _, Row.chg h.all hcm (fun k hk e => ?_), by rw [List.length_append]; exact hrow, fun k hk => ⟨(h.a1 k hk).1, fun e => ?_⟩, fun k hk => ?_⟩, hcm.more (fun k _ e => ?_), fun k hk => ?_⟩
  · rcases e with x | x
    · exact (h.a1 k hk).2 x
    · exact (h.a1 k hk).1 x
  · rcases hnew k e with x | x
    · exact (h.a1 k hk).2 x
    · have := (Row.lt h.all k hk).2; omega
  · rcases hnew k hk with x | x
    · exact h.a2 k x
    · omega
  · rcases e with x | x
    · exact .inr (.inr x)
    · exact .inl x
  · rcases hk with x | x | x
    · exact .inl (.inl x)
    · exact .inl (.inr (.inl x))
    · rcases hnew k x with y | y
      · exact .inl (.inr (.inr y))
      · exact .inr (by omega)
end
theorem QMem.hk {w : World} {base qb dead : Nat} {rq : Bool} {All : Bs} {M : List ByteArray} {av mv : Value} (h : QMem w base qb rq All M dead av mv) : ∀ W, Below w.heap.size w W → Below w.heap.size w W ∧ W.cell? ⟨qb, 1, none⟩ = some av ∧ W.cell? ⟨qb, 0, none⟩ = some (.bool rq) ∧ W.cell? ⟨qb, 2, none⟩ = some mv := fun W hW =>
  ⟨hW, (h.below hW).cell (j := 1) rfl, (h.below hW).cell (j := 0) rfl, (h.below hW).cell (j := 2) rfl⟩
theorem qfar_var {w : World} {qb dead : Nat} {rq : Bool} {A1 A2 : Option Addr} {n1 c1 n2 c2 : Nat} (hv : Var w qb 29 [.bool rq, .slice A1 n1 c1, .slice A2 n2 c2, .int .i64 (dead : Int)]) : (∀ {v : Value} {l : Bs}, BsR w v l → Far (some qb) v) ∧ (∀ {v : Value} {fs : List (Bs × Bs)}, FsR w v fs → Far (some qb) v) := by
  have key : ∀ (o : Nat) (u : Value), w.cell? ⟨qb, o, none⟩ = some u → ([Value.bool rq, .slice A1 n1 c1, .slice A2 n2 c2, .int .i64 (dead : Int)])[o]? = some u := fun o u h => by
    rw [cell_of_row w qb o _ _ (0, 0) hv] at h
    simpa using h
  refine ⟨fun {v l} h => ?_, fun {v fs} h => ?_⟩
  · obtain ⟨A, c, h1, _, _, _, h5⟩ := h
    intro g o n c' e hn e2
    rw [h1] at e
    injection e with e3 e4 _
    injection e2 with e2
    subst e4 e3
    obtain ⟨g', o', e5, _, hc⟩ := h5.2 hn
    injection e5 with e5
    injection e5 with e6 e7 _
    subst e6 e7
    have h0 := hc 0 _ (bytesV_get (l := l) (j := 0) hn)
    rw [← e2] at h0
    have := key _ _ h0
    rcases o with _ | _ | _ | _ | o <;> simp at this
  · obtain ⟨A, c, h1, _, _, _, h5⟩ := h
    intro g o n c' e hn e2
    rw [h1] at e
    injection e with e3 e4 _
    injection e2 with e2
    subst e4 e3
    obtain ⟨g', o', e5, _, hc⟩ := h5.2 hn
    injection e5 with e5
    injection e5 with e6 e7 _
    subst e6 e7
    cases fs with
    | nil => simp at hn
    | cons f r =>
      have h0 := hc 0 (.string ⟨f.1.toArray⟩) rfl
      rw [← e2] at h0
      have := key _ _ h0
      rcases o with _ | _ | _ | _ | o <;> simp at this
theorem last_ms {E : List MsE} (h : 0 < E.length) : ∃ e, E.getLast? = some e ∧ e ∈ E ∧ ∀ j u, j < 11 → e.cells[j]? = some u → (E.flatMap MsE.cells)[(E.length - 1) * 11 + j]? = some u := by
  have hl : E.length - 1 < E.length := by omega
  refine ⟨E[E.length - 1], by rw [List.getLast?_eq_getElem?, List.getElem?_eq_getElem hl], List.getElem_mem hl, fun j u hj hu => ?_⟩
  rw [ms_get E _ j hl hj]
  exact hu
set_option maxHeartbeats 4000000 in
set_option maxRecDepth 100000 in
theorem qbetween_any {w : World} {base qb dead : Nat} {rq : Bool} {All : Bs} {M : List ByteArray} {av mv : Value} (h : QMem w base qb rq All M dead av mv) (hn : All.length ≤ 16777216) (hm : M.length ≤ 100000000) :
    Calls Tryz.prog 15 #[.pointer (some ⟨qb, 0, none⟩)] w fun e w' => e = .returned (.bool (decide (dead = 0) && Strm.betQ (Strm.readF rq All M))) ∧ Below w.heap.size w w' := by
  have d3 := h.cell (j := 3) rfl
  have HK := Lib.hid h.hk
  have HRD := Lib.hid (fun W (hW : Below w.heap.size w W) => (h.below hW).read hn hm)
  clear h
  go_enter Tryz.func15, Tryz.ntmps15
  by_cases hd : dead = 0
  · subst hd
    go_upto_region 3 with (fail)
    refine wp_region_held_drew (S := (fun w' => Below (w).heap.size (w) w' ∧ w'.cell? ⟨qb, 1, none⟩ = some (av) ∧ w'.cell? ⟨qb, 0, none⟩ = some (.bool rq) ∧ w'.cell? ⟨qb, 2, none⟩ = some mv)) (by as_aux_lemma => kernel_rfl) ?_ (fun hHeld => ?_)
    · exact HK.out _ (below_drewN (Below.refl _ _) _)
    refine wpAnyH_take (i := 0) (v := ?_) (by simp only [List.getElem?_toArray, List.getElem?_cons_zero]; exact rfl) (by as_aux_lemma => kernel_rfl) (by as_aux_lemma => kernel_rfl) (by as_aux_lemma => kernel_rfl) (by exact fun _ _ _ h => h) (Or.inl ⟨by rfl, ?_⟩) (by assumption) ?_
    rotate_left
    · intro w hSw
      (try dsimp only at hSw)
      go_simp
      try with_reducible rfl
    (try simp only [Act.put, List.setIfInBounds_toArray, List.set_cons_zero, List.set_cons_succ])
    refine wpAnyH_take (i := 1) (v := ?_) (by simp only [List.getElem?_toArray, List.getElem?_cons_succ, List.getElem?_cons_zero]; exact rfl) (by as_aux_lemma => kernel_rfl) (by as_aux_lemma => kernel_rfl) (by as_aux_lemma => kernel_rfl) (by exact fun _ _ _ h => h) (Or.inl ⟨by rfl, ?_⟩) (by assumption) ?_
    rotate_left
    · intro w hSw
      (try dsimp only at hSw)
      go_simp
      try with_reducible rfl
    (try simp only [Act.put, List.setIfInBounds_toArray, List.set_cons_zero, List.set_cons_succ])
    refine wpAnyH_take (i := 2) (v := ?_) (by simp only [List.getElem?_toArray, List.getElem?_cons_succ, List.getElem?_cons_zero]; exact rfl) (by as_aux_lemma => kernel_rfl) (by as_aux_lemma => kernel_rfl) (by as_aux_lemma => kernel_rfl) (by exact fun _ _ _ h => h) (Or.inl ⟨by rfl, ?_⟩) (by assumption) ?_
    rotate_left
    · intro w hSw
      (try dsimp only at hSw)
      go_simp
      try with_reducible rfl
    (try simp only [Act.put, List.setIfInBounds_toArray, List.set_cons_zero, List.set_cons_succ])
    refine wpAnyH_take (i := 3) (v := ?_) (by simp only [List.getElem?_toArray, List.getElem?_cons_succ, List.getElem?_cons_zero]; exact rfl) (by as_aux_lemma => kernel_rfl) (by as_aux_lemma => kernel_rfl) (by as_aux_lemma => kernel_rfl) (by exact fun _ _ _ h => h) (Or.inl ⟨by rfl, ?_⟩) (by assumption) ?_
    rotate_left
    · intro w hSw
      (try dsimp only at hSw)
      go_simp
      try with_reducible rfl
    (try simp only [Act.put, List.setIfInBounds_toArray, List.set_cons_zero, List.set_cons_succ])
    refine wpAnyH_take (i := 4) (v := ?_) (by simp only [List.getElem?_toArray, List.getElem?_cons_succ, List.getElem?_cons_zero]; exact rfl) (by as_aux_lemma => kernel_rfl) (by as_aux_lemma => kernel_rfl) (by as_aux_lemma => kernel_rfl) (by exact fun _ _ _ h => h) (Or.inl ⟨by rfl, ?_⟩) (by assumption) ?_
    rotate_left
    · intro w hSw
      (try dsimp only at hSw)
      go_simp
      try with_reducible rfl
    (try simp only [Act.put, List.setIfInBounds_toArray, List.set_cons_zero, List.set_cons_succ])
    refine wpAnyH_take (i := 5) (v := ?_) (by simp only [List.getElem?_toArray, List.getElem?_cons_succ, List.getElem?_cons_zero]; exact rfl) (by as_aux_lemma => kernel_rfl) (by as_aux_lemma => kernel_rfl) (by as_aux_lemma => kernel_rfl) (by exact fun _ _ _ h => h) (Or.inl ⟨by rfl, ?_⟩) (by assumption) ?_
    rotate_left
    · intro w hSw
      (try dsimp only at hSw)
      go_simp
      try with_reducible rfl
    (try simp only [Act.put, List.setIfInBounds_toArray, List.set_cons_zero, List.set_cons_succ])
    refine wpAnyH_take (i := 6) (v := ?_) (by simp only [List.getElem?_toArray, List.getElem?_cons_succ, List.getElem?_cons_zero]; exact rfl) (by as_aux_lemma => kernel_rfl) (by as_aux_lemma => kernel_rfl) (by as_aux_lemma => kernel_rfl) (by exact fun _ _ _ h => h) (Or.inl ⟨by rfl, ?_⟩) (by assumption) ?_
    rotate_left
    · intro w hSw
      (try dsimp only at hSw)
      go_simp
      try with_reducible rfl
    (try simp only [Act.put, List.setIfInBounds_toArray, List.set_cons_zero, List.set_cons_succ])
    refine wpAnyH_take (i := 7) (v := ?_) (by simp only [List.getElem?_toArray, List.getElem?_cons_succ, List.getElem?_cons_zero]; exact rfl) (by as_aux_lemma => kernel_rfl) (by as_aux_lemma => kernel_rfl) (by as_aux_lemma => kernel_rfl) (by exact fun _ _ _ h => h) (Or.inl ⟨by rfl, ?_⟩) (by assumption) ?_
    rotate_left
    · intro w hSw
      (try dsimp only at hSw)
      go_simp
      try with_reducible rfl
    (try simp only [Act.put, List.setIfInBounds_toArray, List.set_cons_zero, List.set_cons_succ])
    refine wpAnyH_take (i := 8) (v := ?_) (by simp only [List.getElem?_toArray, List.getElem?_cons_succ, List.getElem?_cons_zero]; exact rfl) (by as_aux_lemma => kernel_rfl) (by as_aux_lemma => kernel_rfl) (by as_aux_lemma => kernel_rfl) (by exact fun _ _ _ h => h) (Or.inl ⟨by rfl, ?_⟩) (by assumption) ?_
    rotate_left
    · intro w hSw
      (try dsimp only at hSw)
      go_simp
      try with_reducible rfl
    (try simp only [Act.put, List.setIfInBounds_toArray, List.set_cons_zero, List.set_cons_succ])
    refine wpAnyH_take (i := 9) (v := ?_) (by simp only [List.getElem?_toArray, List.getElem?_cons_succ, List.getElem?_cons_zero]; exact rfl) (by as_aux_lemma => kernel_rfl) (by as_aux_lemma => kernel_rfl) (by as_aux_lemma => kernel_rfl) (by exact fun _ _ _ h => h) (Or.inl ⟨by rfl, ?_⟩) (by assumption) ?_
    rotate_left
    · intro w hSw
      (try dsimp only at hSw)
      go_simp
      try with_reducible rfl
    (try simp only [Act.put, List.setIfInBounds_toArray, List.set_cons_zero, List.set_cons_succ])
    refine wpAnyH_take (i := 10) (v := ?_) (by simp only [List.getElem?_toArray, List.getElem?_cons_succ, List.getElem?_cons_zero]; exact rfl) (by as_aux_lemma => kernel_rfl) (by as_aux_lemma => kernel_rfl) (by as_aux_lemma => kernel_rfl) (by exact fun _ _ _ h => h) (Or.inl ⟨by rfl, ?_⟩) (by assumption) ?_
    rotate_left
    · intro w hSw
      (try dsimp only at hSw)
      go_simp
      try with_reducible rfl
    (try simp only [Act.put, List.setIfInBounds_toArray, List.set_cons_zero, List.set_cons_succ])
    refine wpAnyH_take (i := 11) (v := ?_) (by simp only [List.getElem?_toArray, List.getElem?_cons_succ, List.getElem?_cons_zero]; exact rfl) (by as_aux_lemma => kernel_rfl) (by as_aux_lemma => kernel_rfl) (by as_aux_lemma => kernel_rfl) (by exact fun _ _ _ h => h) (Or.inl ⟨by rfl, ?_⟩) (by assumption) ?_
    rotate_left
    · intro w hSw
      (try dsimp only at hSw)
      go_simp
      try with_reducible rfl
    (try simp only [Act.put, List.setIfInBounds_toArray, List.set_cons_zero, List.set_cons_succ])
    refine wpAnyH_ready (rs := [12]) (by as_aux_lemma => kernel_rfl) (by simp) ?_
    refine AllReadyH.cons (by simp only [List.getElem?_toArray, List.getElem?_cons_succ, List.getElem?_cons_zero]; exact rfl) (fun K hK => ?_) AllReadyH.nil
    go_simp
    (go_at_call 30; refine (HRD.out _ (Held.bl (W0 := w) (by assumption))).mono ?_; rintro _ w1a ⟨vla, Ea, rfl, hEa, hrowa, hmsa, hena, hb1a⟩; have hqa := Held.trans (W0 := w) (by assumption) hb1a)
    refine hK.out _ _ ?_ (fun hHeld => ?_)
    · (try dsimp only)
      exact HK.out _ hqa
    clear hK K
    (try simp only [Act.put, List.setIfInBounds_toArray, List.set_cons_zero, List.set_cons_succ])
    refine wpAnyH_take (i := 13) (v := ?_) (by simp only [List.getElem?_toArray, List.getElem?_cons_succ, List.getElem?_cons_zero]; exact rfl) (by as_aux_lemma => kernel_rfl) (by as_aux_lemma => kernel_rfl) (by as_aux_lemma => kernel_rfl) (by exact fun _ _ _ h => h) (Or.inl ⟨by rfl, ?_⟩) (by assumption) ?_
    rotate_left
    · intro w hSw
      (try dsimp only at hSw)
      go_simp
      try with_reducible rfl
    (try simp only [Act.put, List.setIfInBounds_toArray, List.set_cons_zero, List.set_cons_succ])
    refine wpAnyH_take (i := 14) (v := ?_) (by simp only [List.getElem?_toArray, List.getElem?_cons_succ, List.getElem?_cons_zero]; exact rfl) (by as_aux_lemma => kernel_rfl) (by as_aux_lemma => kernel_rfl) (by as_aux_lemma => kernel_rfl) (by exact fun _ _ _ h => h) (Or.inl ⟨by rfl, ?_⟩) (by assumption) ?_
    rotate_left
    · intro w hSw
      (try dsimp only at hSw)
      go_simp
      try with_reducible rfl
    (try simp only [Act.put, List.setIfInBounds_toArray, List.set_cons_zero, List.set_cons_succ])
    refine wpAnyH_take (i := 15) (v := ?_) (by simp only [List.getElem?_toArray, List.getElem?_cons_succ, List.getElem?_cons_zero]; exact rfl) (by as_aux_lemma => kernel_rfl) (by as_aux_lemma => kernel_rfl) (by as_aux_lemma => kernel_rfl) (by exact fun _ _ _ h => h) (Or.inl ⟨by rfl, ?_⟩) (by assumption) ?_
    rotate_left
    · intro w hSw
      (try dsimp only at hSw)
      go_simp
      try with_reducible rfl
    (try simp only [Act.put, List.setIfInBounds_toArray, List.set_cons_zero, List.set_cons_succ])
    refine wpAnyH_take (i := 16) (v := ?_) (by simp only [List.getElem?_toArray, List.getElem?_cons_succ, List.getElem?_cons_zero]; exact rfl) (by as_aux_lemma => kernel_rfl) (by as_aux_lemma => kernel_rfl) (by as_aux_lemma => kernel_rfl) (by exact fun _ _ _ h => h) (Or.inl ⟨by rfl, ?_⟩) (by assumption) ?_
    rotate_left
    · intro w hSw
      (try dsimp only at hSw)
      go_simp
      try with_reducible rfl
    (try simp only [Act.put, List.setIfInBounds_toArray, List.set_cons_zero, List.set_cons_succ])
    refine wpAnyH_take (i := 17) (v := ?_) (by simp only [List.getElem?_toArray, List.getElem?_cons_succ, List.getElem?_cons_zero]; exact rfl) (by as_aux_lemma => kernel_rfl) (by as_aux_lemma => kernel_rfl) (by as_aux_lemma => kernel_rfl) (by exact fun _ _ _ h => h) (Or.inl ⟨by rfl, ?_⟩) (by assumption) ?_
    rotate_left
    · intro w hSw
      (try dsimp only at hSw)
      go_simp
      try with_reducible rfl
    (try simp only [Act.put, List.setIfInBounds_toArray, List.set_cons_zero, List.set_cons_succ])
    refine wpAnyH_take (i := 18) (v := ?_) (by simp only [List.getElem?_toArray, List.getElem?_cons_succ, List.getElem?_cons_zero]; exact rfl) (by as_aux_lemma => kernel_rfl) (by as_aux_lemma => kernel_rfl) (by as_aux_lemma => kernel_rfl) (by exact fun _ _ _ h => h) (Or.inl ⟨by rfl, ?_⟩) (by assumption) ?_
    rotate_left
    · intro w hSw
      (try dsimp only at hSw)
      go_simp
      try with_reducible rfl
    (try simp only [Act.put, List.setIfInBounds_toArray, List.set_cons_zero, List.set_cons_succ])
    refine wpAnyH_take (i := 19) (v := ?_) (by simp only [List.getElem?_toArray, List.getElem?_cons_succ, List.getElem?_cons_zero]; exact rfl) (by as_aux_lemma => kernel_rfl) (by as_aux_lemma => kernel_rfl) (by as_aux_lemma => kernel_rfl) (by exact fun _ _ _ h => h) (Or.inl ⟨by rfl, ?_⟩) (by assumption) ?_
    rotate_left
    · intro w hSw
      (try dsimp only at hSw)
      go_simp
      try with_reducible rfl
    (try simp only [Act.put, List.setIfInBounds_toArray, List.set_cons_zero, List.set_cons_succ])
    refine wpAnyH_done (by as_aux_lemma => kernel_rfl) ?_ _
    have HE := Lib.hid hEa
    obtain ⟨Al, cl, rfl, _, hcl, _, hrl⟩ := hrowa.form
    have HB1 := Lib.hid (hqa : Below w.heap.size w w1a)
    have HEN := Lib.hid hena
    clear hEa hrowa hmsa hb1a hqa hena hcl
    obtain ⟨R, hR⟩ : ∃ R, R = Strm.readF rq All M := ⟨_, rfl⟩
    have HRR := Lib.hid hR
    rw [← hR] at HE ⊢
    clear hR
    obtain ⟨l, r, b⟩ := R
    dsimp only at HE ⊢
    cases b with
    | true =>
      go_wp2
      go_ret
      exact ⟨by rw [← HRR.out]; rfl, HB1.out⟩
    | false =>
      by_cases h0 : Ea.length = 0
      · have e0 : Ea = [] := List.length_eq_zero_iff.1 h0
        subst e0
        have HE0 : Hid (l = []) := Lib.hid (by rw [← HE.out]; rfl)
        clear h0
        go_wp2
        go_ret
        exact ⟨by rw [← HRR.out, HE0.out]; rfl, HB1.out⟩
      · obtain ⟨e, he, _, hc⟩ := last_ms (E := Ea) (by omega)
        obtain ⟨g, o, rfl, _, hcell⟩ := hrl.2 (by omega)
        have c10 := hcell _ _ (hc 10 _ (by decide) rfl)
        obtain ⟨N, hN⟩ : ∃ N, N = Ea.length := ⟨_, rfl⟩
        have hlast : l.getLast? = some e.x := by rw [← HE.out, List.getLast?_map, he]; rfl
        have HL := Lib.hid hlast
        rw [← hN] at c10 h0 ⊢
        rw [← Nat.add_assoc] at c10
        have HN : Hid (N ≤ 16777216) := Lib.hid (by rw [hN]; exact Nat.le_trans HEN.out hn)
        have k1 : (0 : Int) ≤ (N : Int) - 1 := by omega
        have k2 : (N : Int) - 1 < (N : Int) := by omega
        have k3 : ((N : Int) == 0) = false := by rw [beq_eq_false_iff_ne]; omega
        have k4 : ((N : Int) - 1).toNat = N - 1 := by omega
        have k5 : N ≤ 16777216 := HN.out
        clear hcell hc he hrl hN hlast
        have hbq : Strm.betQ (l, r, false) = e.x.wh := by
          unfold Strm.betQ Strm.lastW
          dsimp only
          rw [HL.out]
          rfl
        have HBQ := Lib.hid hbq
        clear hbq
        go_wp2
        go_ret
        exact ⟨by rw [← HRR.out, HBQ.out]; rfl, HB1.out⟩
  · have e9 : ((dead : Int) != 0) = true := by simpa using hd
    go_wp2
    go_ret
    exact ⟨by rw [decide_eq_false hd]; rfl, Below.refl _ _⟩

/-- its bytes grow -/
theorem QMem.more {w w2 : World} {base qb dead : Nat} {rq : Bool} {All p : Bs} {M : List ByteArray} {av mv v2 : Value} (h : QMem w base qb rq All M dead av mv) (hr : RowB w2 base v2 (All ++ p)) (hg : w.grownBy w2 av.ownBlock) (ho : v2.ownBlock = av.ownBlock ∨ v2.ownBlock = some w.heap.size) :
    QMem (w2.setCell ⟨qb, 1, none⟩ v2) base qb rq (All ++ p) M dead v2 mv ∧ Chg (footQ qb av mv) w (w2.setCell ⟨qb, 1, none⟩ v2) ∧ (∀ k, footQ qb v2 mv k → footQ qb av mv k ∨ w.heap.size ≤ k) := by
  have hnew : ∀ k, v2.ownBlock = some k → av.ownBlock = some k ∨ w.heap.size ≤ k := fun k hk => by
    rcases ho with e | e
    · rw [e] at hk; exact .inl hk
    · rw [e] at hk; injection hk with hk; exact .inr (by omega)
  have hlq := h.var.lt
  have hb0 : Chg (fun k => av.ownBlock = some k) w w2 := (Chg.refl _ w).grown hg (fun k _ hk => hk)
  have hcm := (hb0.more (S' := fun k => av.ownBlock = some k ∨ k = qb) (fun k _ h => .inl h)).setCell (p := ⟨qb, 1, none⟩) (fun _ => .inr rfl) v2
  have hv2 : Var w2 qb 29 [.bool rq, av, mv, .int .i64 (dead : Int)] := h.var.chg hb0 (fun e => (h.a1 qb e).1 rfl)
  have hrow := Row.setCell hr (p := ⟨qb, 1, none⟩) (fun e => by
    rcases hnew _ e with x | x
    · exact (h.a1 _ x).1 rfl
    · dsimp only at x; omega) v2
  refine ⟨⟨h.le, hv2.set 1 _, hrow, h.ms.chg hcm (fun k hk e => ?_), fun k hk => ?_, h.a2⟩, hcm.more (fun k _ e => ?_), fun k hk => ?_⟩
  · rcases e with x | x
    · exact (h.a1 k x).2 hk
    · exact h.a2 k hk x
  · rcases hnew k hk with x | x
    · exact h.a1 k x
    · exact ⟨by omega, fun e => by have := (h.ms.lt k e).2; omega⟩
  · rcases e with x | x
    · exact .inr (.inl x)
    · exact .inl x
  · rcases hk with x | x | x
    · exact .inl (.inl x)
    · rcases hnew k x with y | y
      · exact .inl (.inr (.inl y))
      · exact .inr y
    · exact .inl (.inr (.inr x))
/-- it dies, or not -/
theorem QMem.die {w : World} {base qb dead : Nat} {rq : Bool} {All : Bs} {M : List ByteArray} {av mv : Value} (h : QMem w base qb rq All M dead av mv) (d : Nat) :
    QMem (w.setCell ⟨qb, 3, none⟩ (.int .i64 (d : Int))) base qb rq All M d av mv ∧ Chg (footQ qb av mv) w (w.setCell ⟨qb, 3, none⟩ (.int .i64 (d : Int))) := by
  have hc : Chg (fun k => k = qb) w (w.setCell ⟨qb, 3, none⟩ (.int .i64 (d : Int))) := (show Chg (fun k => k = qb) w w from Chg.refl _ w).setCell (p := ⟨qb, 3, none⟩) (fun _ => rfl) _
  exact ⟨⟨h.le, h.var.set 3 _, Row.chg h.all hc (fun k hk => (h.a1 k hk).1), h.ms.chg hc (fun k hk => h.a2 k hk), h.a1, h.a2⟩, hc.more (fun k _ e => .inl e)⟩
theorem cnt_take (l : List Strm.RM) (i : Nat) (m : Strm.RM) (h : l[i]? = some m) : Strm.cnt (l.take (i + 1)) = Strm.cnt (l.take i) + if 200 ≤ m.hd.st then 1 else 0 := by
  obtain ⟨hi, hm⟩ := List.getElem?_eq_some_iff.1 h
  rw [List.take_succ_eq_append_getElem hi, Strm.cnt_app, hm, Strm.cnt_one]
  simp
theorem cnt_le (l : List Strm.RM) : Strm.cnt l ≤ l.length := List.length_filter_le _ _
set_option maxHeartbeats 4000000 in
set_option maxRecDepth 100000 in
theorem qexpect_any {w : World} {base qb dead : Nat} {rq : Bool} {All : Bs} {M : List ByteArray} {av mv : Value} (h : QMem w base qb rq All M dead av mv) (m : ByteArray) (hn : All.length ≤ 16777216) (hm : M.length ≤ 50000000) :
    Calls Tryz.prog 8 #[.pointer (some ⟨qb, 0, none⟩), .string m] w fun e w' => e = .returned (.tuple #[]) ∧ ∃ mv', QMem w' base qb rq All (Strm.padM M (Strm.cnt (Strm.readF rq All M).1) ++ [m]) dead av mv' ∧ Chg (footQ qb av mv) w w' ∧ (∀ k, footQ qb av mv' k → footQ qb av mv k ∨ w.heap.size ≤ k) := by
  have HQM := Lib.hid h
  have HK := Lib.hid h.hk
  have HRD := Lib.hid (fun W (hW : Below w.heap.size w W) => (h.below hW).read hn (by omega))
  have hbw : base ≤ w.heap.size := by have := h.le; have := h.var.lt; omega
  obtain ⟨j0, hj0, jz0, jz1, jz2⟩ := info_parts info9
  clear h
  go_enter Tryz.func8, Tryz.ntmps8
  go_upto_region 1 with (fail)
  refine wp_region_held_drew (S := (fun w' => Below (w).heap.size (w) w' ∧ w'.cell? ⟨qb, 1, none⟩ = some (av) ∧ w'.cell? ⟨qb, 0, none⟩ = some (.bool rq) ∧ w'.cell? ⟨qb, 2, none⟩ = some mv)) (by as_aux_lemma => kernel_rfl) ?_ (fun hHeld => ?_)
  · exact HK.out _ (below_drewN (Below.refl _ _) _)
  refine wpAnyH_take (i := 0) (v := ?_) (by simp only [List.getElem?_toArray, List.getElem?_cons_zero]; exact rfl) (by as_aux_lemma => kernel_rfl) (by as_aux_lemma => kernel_rfl) (by as_aux_lemma => kernel_rfl) (by exact fun _ _ _ h => h) (Or.inl ⟨by rfl, ?_⟩) (by assumption) ?_
  rotate_left
  · intro w hSw
    (try dsimp only at hSw)
    go_simp
    try with_reducible rfl
  (try simp only [Act.put, List.setIfInBounds_toArray, List.set_cons_zero, List.set_cons_succ])
  refine wpAnyH_take (i := 1) (v := ?_) (by simp only [List.getElem?_toArray, List.getElem?_cons_succ, List.getElem?_cons_zero]; exact rfl) (by as_aux_lemma => kernel_rfl) (by as_aux_lemma => kernel_rfl) (by as_aux_lemma => kernel_rfl) (by exact fun _ _ _ h => h) (Or.inl ⟨by rfl, ?_⟩) (by assumption) ?_
  rotate_left
  · intro w hSw
    (try dsimp only at hSw)
    go_simp
    try with_reducible rfl
  (try simp only [Act.put, List.setIfInBounds_toArray, List.set_cons_zero, List.set_cons_succ])
  refine wpAnyH_take (i := 2) (v := ?_) (by simp only [List.getElem?_toArray, List.getElem?_cons_succ, List.getElem?_cons_zero]; exact rfl) (by as_aux_lemma => kernel_rfl) (by as_aux_lemma => kernel_rfl) (by as_aux_lemma => kernel_rfl) (by exact fun _ _ _ h => h) (Or.inl ⟨by rfl, ?_⟩) (by assumption) ?_
  rotate_left
  · intro w hSw
    (try dsimp only at hSw)
    go_simp
    try with_reducible rfl
  (try simp only [Act.put, List.setIfInBounds_toArray, List.set_cons_zero, List.set_cons_succ])
  refine wpAnyH_take (i := 3) (v := ?_) (by simp only [List.getElem?_toArray, List.getElem?_cons_succ, List.getElem?_cons_zero]; exact rfl) (by as_aux_lemma => kernel_rfl) (by as_aux_lemma => kernel_rfl) (by as_aux_lemma => kernel_rfl) (by exact fun _ _ _ h => h) (Or.inl ⟨by rfl, ?_⟩) (by assumption) ?_
  rotate_left
  · intro w hSw
    (try dsimp only at hSw)
    go_simp
    try with_reducible rfl
  (try simp only [Act.put, List.setIfInBounds_toArray, List.set_cons_zero, List.set_cons_succ])
  refine wpAnyH_take (i := 4) (v := ?_) (by simp only [List.getElem?_toArray, List.getElem?_cons_succ, List.getElem?_cons_zero]; exact rfl) (by as_aux_lemma => kernel_rfl) (by as_aux_lemma => kernel_rfl) (by as_aux_lemma => kernel_rfl) (by exact fun _ _ _ h => h) (Or.inl ⟨by rfl, ?_⟩) (by assumption) ?_
  rotate_left
  · intro w hSw
    (try dsimp only at hSw)
    go_simp
    try with_reducible rfl
  (try simp only [Act.put, List.setIfInBounds_toArray, List.set_cons_zero, List.set_cons_succ])
  refine wpAnyH_take (i := 5) (v := ?_) (by simp only [List.getElem?_toArray, List.getElem?_cons_succ, List.getElem?_cons_zero]; exact rfl) (by as_aux_lemma => kernel_rfl) (by as_aux_lemma => kernel_rfl) (by as_aux_lemma => kernel_rfl) (by exact fun _ _ _ h => h) (Or.inl ⟨by rfl, ?_⟩) (by assumption) ?_
  rotate_left
  · intro w hSw
    (try dsimp only at hSw)
    go_simp
    try with_reducible rfl
  (try simp only [Act.put, List.setIfInBounds_toArray, List.set_cons_zero, List.set_cons_succ])
  refine wpAnyH_take (i := 6) (v := ?_) (by simp only [List.getElem?_toArray, List.getElem?_cons_succ, List.getElem?_cons_zero]; exact rfl) (by as_aux_lemma => kernel_rfl) (by as_aux_lemma => kernel_rfl) (by as_aux_lemma => kernel_rfl) (by exact fun _ _ _ h => h) (Or.inl ⟨by rfl, ?_⟩) (by assumption) ?_
  rotate_left
  · intro w hSw
    (try dsimp only at hSw)
    go_simp
    try with_reducible rfl
  (try simp only [Act.put, List.setIfInBounds_toArray, List.set_cons_zero, List.set_cons_succ])
  refine wpAnyH_take (i := 7) (v := ?_) (by simp only [List.getElem?_toArray, List.getElem?_cons_succ, List.getElem?_cons_zero]; exact rfl) (by as_aux_lemma => kernel_rfl) (by as_aux_lemma => kernel_rfl) (by as_aux_lemma => kernel_rfl) (by exact fun _ _ _ h => h) (Or.inl ⟨by rfl, ?_⟩) (by assumption) ?_
  rotate_left
  · intro w hSw
    (try dsimp only at hSw)
    go_simp
    try with_reducible rfl
  (try simp only [Act.put, List.setIfInBounds_toArray, List.set_cons_zero, List.set_cons_succ])
  refine wpAnyH_take (i := 8) (v := ?_) (by simp only [List.getElem?_toArray, List.getElem?_cons_succ, List.getElem?_cons_zero]; exact rfl) (by as_aux_lemma => kernel_rfl) (by as_aux_lemma => kernel_rfl) (by as_aux_lemma => kernel_rfl) (by exact fun _ _ _ h => h) (Or.inl ⟨by rfl, ?_⟩) (by assumption) ?_
  rotate_left
  · intro w hSw
    (try dsimp only at hSw)
    go_simp
    try with_reducible rfl
  (try simp only [Act.put, List.setIfInBounds_toArray, List.set_cons_zero, List.set_cons_succ])
  refine wpAnyH_take (i := 9) (v := ?_) (by simp only [List.getElem?_toArray, List.getElem?_cons_succ, List.getElem?_cons_zero]; exact rfl) (by as_aux_lemma => kernel_rfl) (by as_aux_lemma => kernel_rfl) (by as_aux_lemma => kernel_rfl) (by exact fun _ _ _ h => h) (Or.inl ⟨by rfl, ?_⟩) (by assumption) ?_
  rotate_left
  · intro w hSw
    (try dsimp only at hSw)
    go_simp
    try with_reducible rfl
  (try simp only [Act.put, List.setIfInBounds_toArray, List.set_cons_zero, List.set_cons_succ])
  refine wpAnyH_take (i := 10) (v := ?_) (by simp only [List.getElem?_toArray, List.getElem?_cons_succ, List.getElem?_cons_zero]; exact rfl) (by as_aux_lemma => kernel_rfl) (by as_aux_lemma => kernel_rfl) (by as_aux_lemma => kernel_rfl) (by exact fun _ _ _ h => h) (Or.inl ⟨by rfl, ?_⟩) (by assumption) ?_
  rotate_left
  · intro w hSw
    (try dsimp only at hSw)
    go_simp
    try with_reducible rfl
  (try simp only [Act.put, List.setIfInBounds_toArray, List.set_cons_zero, List.set_cons_succ])
  refine wpAnyH_take (i := 11) (v := ?_) (by simp only [List.getElem?_toArray, List.getElem?_cons_succ, List.getElem?_cons_zero]; exact rfl) (by as_aux_lemma => kernel_rfl) (by as_aux_lemma => kernel_rfl) (by as_aux_lemma => kernel_rfl) (by exact fun _ _ _ h => h) (Or.inl ⟨by rfl, ?_⟩) (by assumption) ?_
  rotate_left
  · intro w hSw
    (try dsimp only at hSw)
    go_simp
    try with_reducible rfl
  (try simp only [Act.put, List.setIfInBounds_toArray, List.set_cons_zero, List.set_cons_succ])
  refine wpAnyH_ready (rs := [12]) (by as_aux_lemma => kernel_rfl) (by simp) ?_
  refine AllReadyH.cons (by simp only [List.getElem?_toArray, List.getElem?_cons_succ, List.getElem?_cons_zero]; exact rfl) (fun K hK => ?_) AllReadyH.nil
  go_simp
  (go_at_call 30; refine (HRD.out _ (Held.bl (W0 := w) (by assumption))).mono ?_; rintro _ w1a ⟨vla, Ea, rfl, hEa, hrowa, hmsa, hena, hb1a⟩; have hqa := Held.trans (W0 := w) (by assumption) hb1a)
  refine hK.out _ _ ?_ (fun hHeld => ?_)
  · (try dsimp only)
    exact HK.out _ hqa
  clear hK K
  (try simp only [Act.put, List.setIfInBounds_toArray, List.set_cons_zero, List.set_cons_succ])
  refine wpAnyH_take (i := 13) (v := ?_) (by simp only [List.getElem?_toArray, List.getElem?_cons_succ, List.getElem?_cons_zero]; exact rfl) (by as_aux_lemma => kernel_rfl) (by as_aux_lemma => kernel_rfl) (by as_aux_lemma => kernel_rfl) (by exact fun _ _ _ h => h) (Or.inl ⟨by rfl, ?_⟩) (by assumption) ?_
  rotate_left
  · intro w hSw
    (try dsimp only at hSw)
    go_simp
    try with_reducible rfl
  (try simp only [Act.put, List.setIfInBounds_toArray, List.set_cons_zero, List.set_cons_succ])
  refine wpAnyH_take (i := 14) (v := ?_) (by simp only [List.getElem?_toArray, List.getElem?_cons_succ, List.getElem?_cons_zero]; exact rfl) (by as_aux_lemma => kernel_rfl) (by as_aux_lemma => kernel_rfl) (by as_aux_lemma => kernel_rfl) (by exact fun _ _ _ h => h) (Or.inl ⟨by rfl, ?_⟩) (by assumption) ?_
  rotate_left
  · intro w hSw
    (try dsimp only at hSw)
    go_simp
    try with_reducible rfl
  (try simp only [Act.put, List.setIfInBounds_toArray, List.set_cons_zero, List.set_cons_succ])
  refine wpAnyH_take (i := 15) (v := ?_) (by simp only [List.getElem?_toArray, List.getElem?_cons_succ, List.getElem?_cons_zero]; exact rfl) (by as_aux_lemma => kernel_rfl) (by as_aux_lemma => kernel_rfl) (by as_aux_lemma => kernel_rfl) (by exact fun _ _ _ h => h) (Or.inl ⟨by rfl, ?_⟩) (by assumption) ?_
  rotate_left
  · intro w hSw
    (try dsimp only at hSw)
    go_simp
    try with_reducible rfl
  (try simp only [Act.put, List.setIfInBounds_toArray, List.set_cons_zero, List.set_cons_succ])
  refine wpAnyH_take (i := 16) (v := ?_) (by simp only [List.getElem?_toArray, List.getElem?_cons_succ, List.getElem?_cons_zero]; exact rfl) (by as_aux_lemma => kernel_rfl) (by as_aux_lemma => kernel_rfl) (by as_aux_lemma => kernel_rfl) (by exact fun _ _ _ h => h) (Or.inl ⟨by rfl, ?_⟩) (by assumption) ?_
  rotate_left
  · intro w hSw
    (try dsimp only at hSw)
    go_simp
    try with_reducible rfl
  (try simp only [Act.put, List.setIfInBounds_toArray, List.set_cons_zero, List.set_cons_succ])
  refine wpAnyH_take (i := 17) (v := ?_) (by simp only [List.getElem?_toArray, List.getElem?_cons_succ, List.getElem?_cons_zero]; exact rfl) (by as_aux_lemma => kernel_rfl) (by as_aux_lemma => kernel_rfl) (by as_aux_lemma => kernel_rfl) (by exact fun _ _ _ h => h) (Or.inl ⟨by rfl, ?_⟩) (by assumption) ?_
  rotate_left
  · intro w hSw
    (try dsimp only at hSw)
    go_simp
    try with_reducible rfl
  (try simp only [Act.put, List.setIfInBounds_toArray, List.set_cons_zero, List.set_cons_succ])
  refine wpAnyH_take (i := 18) (v := ?_) (by simp only [List.getElem?_toArray, List.getElem?_cons_succ, List.getElem?_cons_zero]; exact rfl) (by as_aux_lemma => kernel_rfl) (by as_aux_lemma => kernel_rfl) (by as_aux_lemma => kernel_rfl) (by exact fun _ _ _ h => h) (Or.inl ⟨by rfl, ?_⟩) (by assumption) ?_
  rotate_left
  · intro w hSw
    (try dsimp only at hSw)
    go_simp
    try with_reducible rfl
  (try simp only [Act.put, List.setIfInBounds_toArray, List.set_cons_zero, List.set_cons_succ])
  refine wpAnyH_take (i := 19) (v := ?_) (by simp only [List.getElem?_toArray, List.getElem?_cons_succ, List.getElem?_cons_zero]; exact rfl) (by as_aux_lemma => kernel_rfl) (by as_aux_lemma => kernel_rfl) (by as_aux_lemma => kernel_rfl) (by exact fun _ _ _ h => h) (Or.inl ⟨by rfl, ?_⟩) (by assumption) ?_
  rotate_left
  · intro w hSw
    (try dsimp only at hSw)
    go_simp
    try with_reducible rfl
  (try simp only [Act.put, List.setIfInBounds_toArray, List.set_cons_zero, List.set_cons_succ])
  refine wpAnyH_done (by as_aux_lemma => kernel_rfl) ?_ _
  obtain ⟨Al, cl, rfl, _, hcl, _, hrl⟩ := hrowa.form
  have HE := Lib.hid hEa
  have HRL := Lib.hid hrl
  have HB1 := Lib.hid (hqa : Below w.heap.size w w1a)
  have hE : Ea.length ≤ 16777216 := Nat.le_trans hena hn
  clear hEa hrowa hmsa hb1a hqa hena hcl hrl
  go_wp2
  go_loopw [7, 8] (fun nn ii wr => ∃ i : Nat, i ≤ Ea.length ∧ ii = .int .i64 i ∧ nn = .int .i64 (Strm.cnt ((Ea.map MsE.x).take i) : Nat) ∧ Below w1a.heap.size w1a wr) (fun _ ii _ => Ea.length - (intOf ii).toNat)
  case atStart => exact ⟨0, Nat.zero_le _, rfl, rfl, Below.refl _ _⟩
  case round =>
    obtain ⟨i, hi, rfl, rfl, hb⟩ := hrel
    have hci := cnt_le ((Ea.map MsE.x).take i)
    rw [List.length_take, List.length_map] at hci
    by_cases hlt : i < Ea.length
    · --P rnd
      obtain ⟨g, o, rfl, hg, hcell⟩ := HRL.out.2 (by omega)
      have c3 : wr.cell? ⟨g, o + i * 11 + 3, none⟩ = some (.int .i64 (Ea[i].x.hd.st : Int)) := (hb.cell (p := ⟨g, o + i * 11 + 3, none⟩) hg).trans (by rw [Nat.add_assoc]; exact hcell _ _ ((ms_get Ea i 3 hlt (by decide)).trans rfl))
      have hct := cnt_take (Ea.map MsE.x) i Ea[i].x (by rw [List.getElem?_map, List.getElem?_eq_getElem hlt]; rfl)
      have HCT := Lib.hid hct
      obtain ⟨cn, hcn⟩ : ∃ cn, cn = Strm.cnt ((Ea.map MsE.x).take i) := ⟨_, rfl⟩
      rw [← hcn] at hci ⊢
      have HCN := Lib.hid hcn
      have HBR := Lib.hid hb
      generalize Ea[i].x.hd.st = st at *
      clear hcell hct hcn hb
      by_cases h200 : 200 ≤ st
      · have k1 : (200 : Int) ≤ (st : Int) := by omega
        go_wp2
        go_roundw
        case rel => exact ⟨i + 1, by omega, by go_num, by rw [HCT.out, if_pos h200, ← HCN.out]; go_num, HBR.out⟩
        case measure => simp [intOf]; omega
      · have k1 : ¬ (200 : Int) ≤ (st : Int) := by omega
        go_wp2
        go_roundw
        case rel => exact ⟨i + 1, by omega, by go_num, by rw [HCT.out, if_neg h200, ← HCN.out]; rfl, HBR.out⟩
        case measure => simp [intOf]; omega
      --Q rnd
    · obtain rfl : i = Ea.length := by omega
      rw [List.take_of_length_le (by rw [List.length_map]; exact Nat.le_refl _), HE.out]
      obtain ⟨N, hN⟩ : ∃ N, N = Strm.cnt (Strm.readF rq All M).1 := ⟨_, rfl⟩
      rw [← hN]
      have HN := Lib.hid hN
      have hNle : N ≤ 16777216 := by rw [hN, ← HE.out]; have := cnt_le (Ea.map MsE.x); rw [List.length_map] at this; omega
      have HBR : Hid (Below w.heap.size w wr) := Lib.hid (HB1.out.trans (hb.mono HB1.out.size))
      have hend : ¬ (Ea.length : Int) < (Ea.length : Int) := by omega
      clear hb hci hN HE HRL
      go_wp2
      go_loopg [] (N - M.length) (fun gf wx => ∃ (j : Nat) (mv' : Value), j + gf = N - M.length ∧ QMem wx base qb rq All (M ++ List.replicate j Strm.qGET) dead av mv' ∧ Chg (footQ qb av mv) w wx ∧ (∀ k, footQ qb av mv' k → footQ qb av mv k ∨ w.heap.size ≤ k))
      case atStart => exact ⟨0, mv, by omega, by rw [List.replicate_zero, List.append_nil]; exact HQM.out.below HBR.out, (Chg.refl _ _).then_below HBR.out, fun k hk => .inl hk⟩
      case round =>
        obtain ⟨j, mv', hj, hq, hc, hf⟩ := hrel
        obtain ⟨MM, hMM⟩ : ∃ MM, MM = M ++ List.replicate j Strm.qGET := ⟨_, rfl⟩
        rw [← hMM] at hq
        have hLL : MM.length = M.length + j := by rw [hMM, List.length_append, List.length_replicate]
        obtain ⟨A2, c2, rfl, hc2, hm2, _, _⟩ := hq.ms.form
        obtain ⟨L, hL⟩ : ∃ L, L = MM.length := ⟨_, rfl⟩
        rw [← hL] at hq hf hLL
        have d2 := hq.cell (j := 2) rfl
        have p2 := hq.var.frozen 2
        have hq2 : QMem wr base qb rq All MM dead av (.slice A2 L c2) ∧ Row wr base 1 (.slice A2 L c2) L (strsV MM) := ⟨hq, by have := hq.ms; rw [← hL] at this; exact this⟩
        have HQ2 := Lib.hid hq2.1
        have HR2 := Lib.hid hq2.2
        have HC := Lib.hid hc
        have HF := Lib.hid hf
        have HM := Lib.hid hMM
        have HLM := Lib.hid hL
        have hzb : base ≤ wr.heap.size := by have := hq.le; have := hq.var.lt; omega
        have hLa : L ≤ M.length + j := by omega
        have hLb : M.length + j ≤ L := by omega
        have HJ := Lib.hid hj
        clear hq hq2 hc hf hMM hL hc2 hm2 HQM HK HRD HBR HB1 hLL
        cases gk with
        | zero =>
          have k1 : ¬ (L : Int) < (N : Int) := by omega
          have k2 : L ≤ 100000000 := by omega
          clear hj
          go_wp2_with (first
            | (at_builtin; go_must (refine wpList_app _ rfl (.tmp 63) (.tmp 65) 27 27 rfl base 9 j0 (.string ⟨#[]⟩) 1 16 Tryz.underlying27 hj0 jz0 jz1 jz2 rfl (.slice A2 L c2) L (strsV MM) rfl (HR2.out.alloc _) _ 1 [.string m] rfl (Src.built [.string m] 9 Tryz.underlying27 rfl (by intro u hu; simp at hu; subst hu; rfl)) (by omega) (by omega) (by omega) (by simp; omega) ?_); intro v2 w2 hrow2 hg2 ho2; obtain ⟨A3, c3, rfl, _, _, _, _⟩ := hrow2.form; have HV2 := Lib.hid ((HQ2.out.var.alloc _).grown hg2 (fun e => HQ2.out.a2 qb e rfl)); have e2 := HV2.out.cell (j := 2) rfl; have q2 := HV2.out.frozen 2)
            | fail)
          go_end0
          obtain ⟨h1, h2, h3⟩ := HQ2.out.meth (m := m) (by rw [← HLM.out]; exact hrow2) hg2 ho2
          refine ⟨rfl, .slice A3 (L + 1) c3, ?_, HC.out.trans h2 (fun k hk hs => ?_), fun k hk => ?_⟩
          · rw [← HN.out]
            have e : Strm.padM M N ++ [m] = MM ++ [m] := by rw [HM.out]; unfold Strm.padM; rw [show j = N - M.length from HJ.out]
            rw [e]
            exact h1
          · rcases HF.out k hs with x | x
            · exact x
            · omega
          · rcases h3 k hk with x | x
            · exact HF.out k x
            · exact .inr (Nat.le_trans HC.out.size x)
        | succ g =>
          have k1 : (L : Int) < (N : Int) := by omega
          have k2 : L ≤ 100000000 := by omega
          clear hj
          go_wp2_with (first
            | (at_builtin; go_must (refine wpList_app _ rfl (.tmp 54) (.tmp 55) 27 27 rfl base 9 j0 (.string ⟨#[]⟩) 1 16 Tryz.underlying27 hj0 jz0 jz1 jz2 rfl (.slice A2 L c2) L (strsV MM) rfl (HR2.out.alloc _) _ 1 [.string ⟨#[71, 69, 84]⟩] rfl (Src.built [.string ⟨#[71, 69, 84]⟩] 9 Tryz.underlying27 rfl (by intro u hu; simp at hu; subst hu; rfl)) (by omega) (by omega) (by omega) (by simp; omega) ?_); intro v2 w2 hrow2 hg2 ho2; obtain ⟨A3, c3, rfl, _, _, _, _⟩ := hrow2.form; have HV2 := Lib.hid ((HQ2.out.var.alloc _).grown hg2 (fun e => HQ2.out.a2 qb e rfl)); have e2 := HV2.out.cell (j := 2) rfl; have q2 := HV2.out.frozen 2)
            | fail)
          go_roundg g
          case measure => omega
          case rel =>
            obtain ⟨h1, h2, h3⟩ := HQ2.out.meth (m := Strm.qGET) (by rw [← HLM.out]; exact hrow2) hg2 ho2
            refine ⟨j + 1, .slice A3 (L + 1) c3, by have := HJ.out; omega, ?_, HC.out.trans h2 (fun k hk hs => ?_), fun k hk => ?_⟩
            · have e : M ++ List.replicate (j + 1) Strm.qGET = MM ++ [Strm.qGET] := by rw [HM.out, List.replicate_succ', List.append_assoc]
              rw [e]
              exact h1
            · rcases HF.out k hs with x | x
              · exact x
              · omega
            · rcases h3 k hk with x | x
              · exact HF.out k x
              · exact .inr (Nat.le_trans HC.out.size x)
end Go.Proofs.YtklmpadcfioefaaGreatDoor
