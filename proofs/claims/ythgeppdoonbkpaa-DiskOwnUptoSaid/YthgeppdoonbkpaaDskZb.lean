/- the calls of a disk: Arm. Conditions: sizes. -/
import Derived.Test.YthgeppdoonbkpaaDskZa
namespace Go.Proofs.Ythgeppdoonbkpaa
open Go.RowKit Go.Maps Go.WideMaps
theorem infoInt : (Try.prog.info? 3).map (fun i => (i.zero, i.size, i.bytes)) = some (some (.int .i64 0), 1, 8) := by kernel_rfl
theorem intsV_len (l : List Int) : (intsV l).length = l.length := by unfold intsV; rw [List.length_map]
set_option maxHeartbeats 1000000 in
set_option maxRecDepth 100000 in
theorem dcloneI_any (A : Option Addr) (n c : Nat) (l : List Int) (w : World) (hA : A = none → n = 0 ∧ c = 0) (hrd : Rd w w.heap.size 1 A n (intsV l)) (hn : n ≤ 100000000) :
    Calls Try.prog 41 #[.slice A n c] w fun e w' => ∃ v, e = .returned v ∧ Row w' w.heap.size 1 v n (intsV l) ∧ Below w.heap.size w w' := by
  obtain ⟨j0, hj0, jz0, jz1, jz2⟩ := info_parts infoInt
  have hl : l.length = n := by have := hrd.1; rw [intsV_len] at this; omega
  have hq := fun (W : World) (a : Option Addr) (l c : Nat) => Go.run_eql_slice_nil (P := Try.prog) W 23 3 a l c Try.underlying23
  cases A with
  | none =>
    obtain ⟨rfl, rfl⟩ := hA rfl
    obtain rfl : l = [] := List.length_eq_zero_iff.1 hl
    clear hrd hA hl
    go_enter Try.func41, Try.ntmps41
    go_wp2
    go_ret
    exact ⟨_, rfl, Row.nil _ _ _, Below.refl _ _⟩
  | some a =>
    have HS : Hid (Src Try.prog (w.alloc (.cells #[] 3)) 23 1 (.slice (some a) n c) n (intsV l)) := Lib.hid (Src.slice Try.underlying23 (hrd.keeps ((Below.refl w.heap.size w).alloc (Nat.le_refl _) (.cells #[] 3))) (fun e => by cases e) (by intro u hu; unfold intsV at hu; obtain ⟨x, _, rfl⟩ := List.mem_map.1 hu; rfl))
    clear hrd hA hl
    go_enter Try.func41, Try.ntmps41
    go_wp2_with (first
      | (at_builtin; (refine wpList_app (P := Try.prog) _ rfl (.tmp 5) (.tmp 6) 23 23 rfl w.heap.size 3 j0 (.int .i64 0) 1 8 Try.underlying23 hj0 jz0 jz1 jz2 rfl (.slice (some ⟨w.heap.size, 0, none⟩) 0 0) 0 [] rfl (empty_row w _ 1) _ n (intsV l) rfl HS.out (by omega) (by omega) (by omega) (by simp) ?_); intro v3 w3 hrow3 hg3 ho3; rw [List.nil_append, Nat.zero_add] at hrow3; have HB3 := Lib.hid (((Below.refl w.heap.size w).alloc (Nat.le_refl _) (.cells #[] 3)).grown hg3 (by simp) (fun k e => by injection e with e; have : w.heap.size = k := e; omega)); clear hg3 ho3)
      | fail)
    go_ret
    exact ⟨v3, rfl, hrow3, HB3.out⟩
section
variable {w : World} {db : Nat} {F : Nat → Nat} {ρ : Roles} {s : Dsk.St} {T : Nat}
theorem arm_mem {W : World} (hm : Mem w db F ρ s T) (hd : s.down = false) {a : Int} {cs : List Int} {v : Value} (ha : a ≤ 9223372036854775807) (hcs : cs.length ≤ 16777216) (hb : Below w.heap.size w W) (hrow : Row W w.heap.size 1 v cs.length (intsV cs)) :
    Out w db ρ { s with arm := some (a.toNat, cs) } T ((W.alloc (.cells #[.int .i64 (max a 0), v] 84)).setCell ⟨db, 4, none⟩ (.pointer (some ⟨W.heap.size, 0, none⟩))) := by
  have hdb := hm.lt db _ hm.disk
  have hz := hb.size
  have hb2 : Below w.heap.size w (W.alloc (.cells #[.int .i64 (max a 0), v] 84)) := hb.alloc hz _
  have hc1 : Chg (fun k => k = db) w ((W.alloc (.cells #[.int .i64 (max a 0), v] 84)).setCell ⟨db, 4, none⟩ (.pointer (some ⟨W.heap.size, 0, none⟩))) := (show Chg (fun k => k = db) w _ from Chg.of_below hb2).setCell (p := ⟨db, 4, none⟩) (fun _ => rfl) _
  have hrow2 : Row ((W.alloc (.cells #[.int .i64 (max a 0), v] 84)).setCell ⟨db, 4, none⟩ (.pointer (some ⟨W.heap.size, 0, none⟩))) w.heap.size 1 v cs.length (intsV cs) := (hrow.alloc _).chg ((show Chg (fun k => k = db) (W.alloc (.cells #[.int .i64 (max a 0), v] 84)) (W.alloc (.cells #[.int .i64 (max a 0), v] 84)) from Chg.refl _ _).setCell (p := ⟨db, 4, none⟩) (fun _ => rfl) _) (fun k hk e => by have := (hrow.lt k hk).1; omega)
  have hva : Var ((W.alloc (.cells #[.int .i64 (max a 0), v] 84)).setCell ⟨db, 4, none⟩ (.pointer (some ⟨W.heap.size, 0, none⟩))) W.heap.size 84 [.int .i64 (max a 0), v] := (Var.new W 84 [.int .i64 (max a 0), v]).set_other (p := ⟨db, 4, none⟩) (by show db ≠ W.heap.size; omega) _
  have hsz : ((W.alloc (.cells #[.int .i64 (max a 0), v] 84)).setCell ⟨db, 4, none⟩ (.pointer (some ⟨W.heap.size, 0, none⟩))).heap.size = W.heap.size + 1 := by simp
  have hvd := fun {cs : List Value} (hv : Var w db 65 cs) => (hv.below_all hb2).set 4 (.pointer (some ⟨W.heap.size, 0, none⟩))
  generalize (W.alloc (.cells #[.int .i64 (max a 0), v] 84)).setCell ⟨db, 4, none⟩ (.pointer (some ⟨W.heap.size, 0, none⟩)) = W2 at *
  obtain ⟨ρ', hρ⟩ : ∃ ρ' : Roles, ρ' = fun b => if b < w.heap.size then ρ b else if b = W.heap.size then some .arm else if b < W.heap.size then some .data else none := ⟨_, rfl⟩
  have hold : ∀ b, b < w.heap.size → ρ' b = ρ b := fun b hb => by rw [hρ]; exact if_pos hb
  have hnew : ρ' W.heap.size = some .arm := by rw [hρ]; dsimp only; rw [if_neg (by omega), if_pos rfl]
  have hst : Step ρ ρ' (fun r => r = .disk) w W2 := ⟨hc1.more (fun b _ e => by subst e; exact ⟨_, hm.disk, rfl⟩), hold⟩
  have hls := hst.lies
  obtain ⟨lb, nb, ln, nn, vl, va, hv, hl, hn, hmv, _⟩ := hm.get
  refine ⟨F, ρ', ⟨fun b r e => ?_, (hold db hdb).trans hm.disk, ⟨lb, nb, ln, nn, vl, .pointer (some ⟨W.heap.size, 0, none⟩), hvd hv, ⟨(hold lb hl.2.1.lt).trans hl.1, hl.2.1.keep hls hl.1 (by intro e; cases e), hl.2.2⟩, ⟨(hold nb hn.2.1.lt).trans hn.1, hn.2.1.keep hls hn.1 (by intro e; cases e), hn.2.2⟩, ⟨hmv.1.block_eq (fun b hb => hls.block (hmv.1.lt b hb).2 (hmv.2 b hb) (by intro e; cases e)), fun b hb => (hold b (hmv.1.lt b hb).2).trans (hmv.2 b hb)⟩, ⟨W.heap.size, v, rfl, hnew, ?_, ?_⟩⟩, fun i hi => (hm.file i hi).keep hls (by intro e; cases e) (by intro e; cases e) (by intro e; cases e), Dsk.fit_arm hm.fit hd (fun x y e => by
    injection e with e
    injection e with e1 e2
    subst e1 e2
    exact ⟨by omega, hcs⟩)⟩, hst.more (fun r q => by rw [q]; intro e; cases e)⟩
  · rw [hρ] at e
    dsimp only at e
    rw [hsz]
    by_cases h1 : b < w.heap.size
    · omega
    · rw [if_neg h1] at e
      by_cases h2 : b = W.heap.size
      · omega
      · rw [if_neg h2] at e
        by_cases h3 : b < W.heap.size
        · omega
        · rw [if_neg h3] at e; cases e
  · rw [show ((a.toNat : Nat) : Int) = max a 0 by omega]; exact hva
  · obtain ⟨A, c, e, h1, _, h3, h4⟩ := Row.form hrow2
    refine ⟨A, c, e, h1, h3, h4, fun hn g o p ea => ?_⟩
    have hl := hrow.lt g (by rw [e, ea]; rfl)
    rw [hρ]
    dsimp only
    rw [if_neg (by omega), if_neg (by omega), if_pos hl.2]
set_option maxHeartbeats 1000000 in
set_option maxRecDepth 100000 in
theorem darm_any (hm : Mem w db F ρ s T) (a : Int) (ha : a ≤ 9223372036854775807) {A : Option Addr} {n c : Nat} {cs : List Int} (hA : A = none → n = 0 ∧ c = 0) (hrd : Rd w w.heap.size 1 A n (intsV cs)) (hcs : n ≤ 16777216) :
    Calls Try.prog 14 #[.pointer (some ⟨db, 0, none⟩), .int .i64 a, .slice A n c] w fun e w' => e = .returned (.tuple #[]) ∧ Out w db ρ (Dsk.armed s a cs) T w' := by
  have hl : cs.length = n := by have := hrd.1; rw [intsV_len] at this; omega
  have HM := Lib.hid hm
  have e5 := hm.down
  cases hd : s.down with
  | true =>
    have HQ : Hid (Dsk.armed s a cs = s) := Lib.hid (by unfold Dsk.armed; rw [hd, if_pos rfl])
    rw [hd] at e5
    clear hm hA hrd hl hd
    go_enter Try.func14, Try.ntmps14
    go_wp2
    go_end0
    rw [HQ.out]
    exact ⟨rfl, Out.below HM.out (Below.refl _ _)⟩
  | false =>
    have HQ : Hid (Dsk.armed s a cs = { s with arm := some (a.toNat, cs) }) := Lib.hid (by unfold Dsk.armed; rw [hd, if_neg (by decide)])
    have HAM := Lib.hid (fun W v hb hrow => arm_mem (W := W) (v := v) hm hd ha (by omega : cs.length ≤ 16777216) hb hrow)
    have HC := Lib.hid (dcloneI_any A n c cs w hA hrd (by omega))
    rw [hl] at HAM
    obtain ⟨lb, nb, ln, nn, vl, va, hv, _, _, _, _⟩ := hm.get
    have HV := Lib.hid hv
    rw [hd] at e5
    clear hm hA hrd hl hd hv ha
    go_enter Try.func14, Try.ntmps14
    go_wp2_with (first
      | (go_at_call 41; go_must (refine HC.out.mono ?_; rintro _ w2 ⟨v, rfl, hrow, hb⟩; have HV2 := Lib.hid (HV.out.below_all hb); have y4 := HV2.out.cell (j := 4) rfl; have x4 := HV2.out.frozen 4; obtain ⟨A2, c2, rfl, _, _, _, _⟩ := Row.form hrow; have ho := HAM.out w2 _ hb hrow; rw [World.setCell_alloc_past _ _ _ _ HV2.out.lt] at ho; have HO := Lib.hid ho; clear ho; have hdbl := HV2.out.lt; clear hrow hb))
      | fail)
    go_end0
    rw [HQ.out]
    exact ⟨rfl, HO.out⟩
end
end Go.Proofs.Ythgeppdoonbkpaa
