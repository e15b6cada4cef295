/- The law DiskPlaces, walked. Printed by gen_dpl.py. Conditions: sizes. -/
import Derived.Test.YthgeppdoonbkpaaDskAw
import Derived.Test.YthgeppdoonbkpaaDskPl
namespace Go.Proofs.Ythgeppdoonbkpaa
open Go.RowKit
namespace Dsk
theorem base_start (Old : Bs) (h : Old.length ≤ 4096) : (write (create (new 65536) nF).1 nF 0 Old).2 = 0 ∧ (sync (write (create (new 65536) nF).1 nF 0 Old).1 nF).2 = 0 ∧ (syncDir (sync (write (create (new 65536) nF).1 nF 0 Old).1 nF).1).2 = 0 ∧ Base Old (syncDir (sync (write (create (new 65536) nF).1 nF 0 Old).1 nF).1).1 := by
  have e1 : (create (new 65536) nF).1 = ⟨65536, [⟨[], []⟩], [], [⟨[], nF, some 0⟩], none, false⟩ := by kernel_rfl
  have e2 : write ⟨65536, [⟨[], []⟩], [], [⟨[], nF, some 0⟩], none, false⟩ nF 0 Old = (⟨65536, [⟨[], [.wr 0 Old]⟩], [], [⟨[], nF, some 0⟩], none, false⟩, 0) := by
    have hf : find ⟨65536, [⟨[], []⟩], [], [⟨[], nF, some 0⟩], none, false⟩ nF = (0, 0) := by kernel_rfl
    have hh : held ⟨65536, [⟨[], []⟩], [], [⟨[], nF, some 0⟩], none, false⟩ = 0 := by kernel_rfl
    have hn : (fil ⟨65536, [⟨[], []⟩], [], [⟨[], nF, some 0⟩], none, false⟩ 0).now.length = 0 := by kernel_rfl
    unfold write
    rw [hf]
    dsimp only
    rw [if_neg (by decide), hn, hh, if_neg (by decide), if_neg (by simp; omega), if_neg (by simp; omega)]
    rfl
  have e3 : sync ⟨65536, [⟨[], [.wr 0 Old]⟩], [], [⟨[], nF, some 0⟩], none, false⟩ nF = (⟨65536, [⟨Old, []⟩], [], [⟨[], nF, some 0⟩], none, false⟩, 0) := by
    have hf : find ⟨65536, [⟨[], [.wr 0 Old]⟩], [], [⟨[], nF, some 0⟩], none, false⟩ nF = (0, 0) := rfl
    have hn : (fil ⟨65536, [⟨[], [.wr 0 Old]⟩], [], [⟨[], nF, some 0⟩], none, false⟩ 0).now = Old := by
      show over [] 0 Old Old.length = Old
      unfold over
      simp
    unfold sync
    rw [hf]
    dsimp only
    rw [if_neg (by decide), hn]
    rfl
  have e4 : syncDir ⟨65536, [⟨Old, []⟩], [], [⟨[], nF, some 0⟩], none, false⟩ = (⟨65536, [⟨Old, []⟩], [(nF, 0)], [], none, false⟩, 0) := rfl
  rw [e1, e2]
  dsimp only
  rw [e3]
  dsimp only
  rw [e4]
  exact ⟨rfl, rfl, rfl, rfl, rfl, rfl, rfl, rfl⟩
theorem base_armed {Old : Bs} {s : St} (h : Base Old s) (a : Int) (cs : List Int) : Base Old (armed s a cs) := by
  unfold armed
  split
  · exact h
  · exact ⟨h.dl, h.lm, h.fs, h.up, h.room⟩
end Dsk
/-- a cell of what the law had at first -/
theorem Live.first {w0 W : World} {O : Nat → Prop} {db : Nat} {s : Dsk.St} {T : Nat} (h : Live w0 O W db s T) {b o : Nat} {u : Value} (hc : w0.cell? ⟨b, o, none⟩ = some u) : W.cell? ⟨b, o, none⟩ = some u := (h.bel.cell (p := ⟨b, o, none⟩) (cell_lt hc)).trans hc
theorem Live.firstRd {w0 W : World} {O : Nat → Prop} {db : Nat} {s : Dsk.St} {T : Nat} (h : Live w0 O W db s T) {sz n : Nat} {A : Option Addr} {xs : List Value} (hr : Rd w0 w0.heap.size sz A n xs) : Rd W W.heap.size sz A n xs := (hr.below h.bel).more h.bel.size
theorem lent_rd {w' : World} {base g o n c : Nat} {l : Bs} (hl : l.length = n) (h : Row w' base 1 (.slice (some ⟨g, o, none⟩) (n + 2) c) (n + 2) (bytesV (l ++ [201, 202]))) : Rd w' w'.heap.size 1 (some ⟨g, o, none⟩) n (bytesV l) := by
  obtain ⟨A, c', e, _, _, _, hr⟩ := Row.form h
  injection e with e _ _
  subst e
  have := hr.pre (k := n) (by omega)
  rw [Nat.mul_one, bytesV_take, ← hl, List.take_left] at this
  rw [hl] at this
  exact this
theorem ints_rd {w' : World} {base g o n c : Nat} {l : List Int} (hl : l.length = n) (h : Row w' base 1 (.slice (some ⟨g, o, none⟩) (n + 1) c) (n + 1) (intsV (l ++ [-77]))) : Rd w' w'.heap.size 1 (some ⟨g, o, none⟩) n (intsV l) := by
  obtain ⟨A, c', e, _, _, _, hr⟩ := Row.form h
  injection e with e _ _
  subst e
  have := hr.pre (k := n) (by omega)
  rw [Nat.mul_one, show (intsV (l ++ [-77])).take n = intsV l by unfold intsV; rw [List.map_append, List.take_append_of_le_length (by rw [List.length_map]; omega), List.take_of_length_le (by rw [List.length_map]; omega)]] at this
  exact this

set_option maxHeartbeats 4000000 in
set_option maxRecDepth 100000 in
theorem dplaces_any (A0 : Option Addr) (n0 c0 : Nat) (Old : Bs) (A1 : Option Addr) (n1 c1 : Nat) (New : Bs) (pc af : Int) (A4 : Option Addr) (n4 c4 : Nat) (cs : List Int) (w : World)
    (h0 : A0 = none → n0 = 0 ∧ c0 = 0) (r0 : Rd w w.heap.size 1 A0 n0 (bytesV Old)) (_k0 : n0 ≤ c0) (h1 : A1 = none → n1 = 0 ∧ c1 = 0) (r1 : Rd w w.heap.size 1 A1 n1 (bytesV New)) (k1 : n1 ≤ c1) (h4 : A4 = none → n4 = 0 ∧ c4 = 0) (r4 : Rd w w.heap.size 1 A4 n4 (intsV cs)) (haf : af ≤ 9223372036854775807) (hn4 : n4 ≤ 1048576) :
    Calls Try.prog 3 #[.agg #[.slice A0 n0 c0, .slice A1 n1 c1, .int .i64 pc, .int .i64 af, .slice A4 n4 c4]] w fun e w' => e = .returned (.bool true) ∧ Below w.heap.size w w' := by
  have l0 : Old.length = n0 := by have := r0.1; rw [bytesV_len] at this; omega
  have l1 : New.length = n1 := by have := r1.1; rw [bytesV_len] at this; omega
  have l4 : cs.length = n4 := by have := r4.1; rw [intsV_len] at this; omega
  obtain ⟨wx, hwx⟩ : ∃ wx, wx = w.alloc (.cells #[.slice A0 n0 c0, .slice A1 n1 c1, .int .i64 pc, .int .i64 af, .slice A4 n4 c4] 25) := ⟨_, rfl⟩
  have hbx : Below w.heap.size w wx := by rw [hwx]; exact (Below.refl _ _).alloc (Nat.le_refl _) _
  have hvx : Var wx w.heap.size 25 [.slice A0 n0 c0, .slice A1 n1 c1, .int .i64 pc, .int .i64 af, .slice A4 n4 c4] := by rw [hwx]; exact Var.new _ _ _
  have HBX := Lib.hid hbx
  have R0 := Lib.hid ((r0.below hbx).more hbx.size)
  have R1 := Lib.hid ((r1.below hbx).more hbx.size)
  have R4 := Lib.hid ((r4.below hbx).more hbx.size)
  have HVX := Lib.hid hvx
  have HL0 := Lib.hid l0
  have HL1 := Lib.hid l1
  have HL4 := Lib.hid l4
  have HWX := Lib.hid hwx
  have HAF := Lib.hid haf
  have P0 := Lib.hid h0
  have P1 := Lib.hid h1
  have P4 := Lib.hid h4
  have p0 := hvx.cell (j := 0) rfl
  have p1 := hvx.cell (j := 1) rfl
  have HAW := Lib.hid (dawake_any wx)
  clear h0 r0 h1 r1 h4 r4 l0 l1 l4 hbx hvx haf
  go_enter Try.func3, Try.ntmps3
  go_upto_region 1 with (fail)
  rw [← hwx]
  clear hwx
  go_upto_region 3 with (first
    | (go_at_call 7; go_must (refine HAW.out.mono ?_; rintro _ wa ⟨rfl, ba⟩; have BA := Lib.hid ba))
    | fail)
  have q0 := (BA.out.cell (p := ⟨w.heap.size, 0, none⟩) (cell_lt p0)).trans p0
  have q1 := (BA.out.cell (p := ⟨w.heap.size, 1, none⟩) (cell_lt p1)).trans p1
  by_cases g0 : 4096 < n0
  · have g0i : (4096 : Int) < (n0 : Int) := by omega
    clear ba
    go_wp2
    go_ret
    exact ⟨rfl, HBX.out.trans (BA.out.mono HBX.out.size)⟩
  by_cases g1 : 4096 < n1
  · have g1i : (4096 : Int) < (n1 : Int) := by omega
    have g0i : ¬ (4096 : Int) < (n0 : Int) := by omega
    clear ba
    go_wp2
    go_ret
    exact ⟨rfl, HBX.out.trans (BA.out.mono HBX.out.size)⟩
  have g0i : ¬ (4096 : Int) < (n0 : Int) := by omega
  have g1i : ¬ (4096 : Int) < (n1 : Int) := by omega
  have HBS := Lib.hid (Dsk.base_start Old (by rw [HL0.out]; omega))
  have HN := Lib.hid (lnew wx wa (fun _ => False) BA.out (fun b h => h.elim) 65536 (by omega))
  clear ba
  go_upto_region 6 with (first
    | (go_at_call 8; go_must (refine HN.out.mono ?_; rintro _ wn ⟨db, rfl, l0, _⟩; have LN := Lib.hid l0; clear l0))
    | fail)
  have C1 : Hid (Calls Try.prog 9 #[.pointer (some ⟨db, 0, none⟩), .string ⟨#[102]⟩] wn fun e w' => e = .returned (.int .i64 ((Dsk.create (Dsk.new 65536) Dsk.nF).2 : Nat)) ∧ Live wx (fun _ => False) w' db (Dsk.create (Dsk.new 65536) Dsk.nF).1 1 ∧ Kept (fun _ => False) wn w') := Lib.hid (lcreate LN.out (by omega) Dsk.nF (by decide))
  clear q0 q1
  go_upto_region 7 with (first
    | (go_at_call 9; go_must (refine C1.out.mono ?_; rintro _ w1 ⟨rfl, l1, _⟩; have L1 := Lib.hid l1; clear l1))
    | fail)
  have q0 := L1.out.first p0
  have CL := Lib.hid (dlent_any A0 n0 c0 Old w1 (fun e => (P0.out e).1) (L1.out.firstRd R0.out) (by omega))
  go_upto_region 9 with (first
    | (go_at_call 11; go_must (refine CL.out.mono ?_; rintro _ w2 ⟨g2, o2, c2, rfl, _, _, _, _, hr2, hb2⟩; have CW : Hid (Calls Try.prog 10 #[.pointer (some ⟨db, 0, none⟩), .string ⟨#[102]⟩, .int .i64 0, .slice (some ⟨g2, o2, none⟩) n0 c2] w2 fun e w' => e = .returned (.int .i64 0) ∧ Live wx (fun _ => False) w' db (Dsk.write (Dsk.create (Dsk.new 65536) Dsk.nF).1 Dsk.nF 0 Old).1 2 ∧ Kept (fun _ => False) w2 w') := Lib.hid (by have h := lwrite (L1.out.grow hb2) (by omega) Dsk.nF (by decide) 0 (c := c2) (p := Old) (fun e => by cases e) (lent_rd HL0.out hr2) (by omega); rw [HBS.out.1] at h; exact h); clear hr2 hb2))
    | (go_at_call 10; go_must (refine CW.out.mono ?_; rintro _ w3 ⟨rfl, l3, _⟩; have L3 := Lib.hid l3; clear l3; have CS : Hid (Calls Try.prog 12 #[.pointer (some ⟨db, 0, none⟩), .string ⟨#[102]⟩] w3 fun e w' => e = .returned (.int .i64 0) ∧ Live wx (fun _ => False) w' db (Dsk.sync (Dsk.write (Dsk.create (Dsk.new 65536) Dsk.nF).1 Dsk.nF 0 Old).1 Dsk.nF).1 3 ∧ Kept (fun _ => False) w3 w') := Lib.hid (by have h := lsync L3.out (by omega) Dsk.nF (by decide); rw [HBS.out.2.1] at h; exact h)))
    | (go_at_call 12; go_must (refine CS.out.mono ?_; rintro _ w4 ⟨rfl, l4, _⟩; have L4 := Lib.hid l4; clear l4; have CD : Hid (Calls Try.prog 13 #[.pointer (some ⟨db, 0, none⟩)] w4 fun e w' => e = .returned (.int .i64 0) ∧ Live wx (fun _ => False) w' db (Dsk.syncDir (Dsk.sync (Dsk.write (Dsk.create (Dsk.new 65536) Dsk.nF).1 Dsk.nF 0 Old).1 Dsk.nF).1).1 4 ∧ Kept (fun _ => False) w4 w') := Lib.hid (by have h := lsyncDir L4.out (by omega); rw [HBS.out.2.2.1] at h; exact h)))
    | (go_at_call 13; go_must (refine CD.out.mono ?_; rintro _ w5 ⟨rfl, l5, _⟩; have L5 := Lib.hid l5; clear l5))
    | fail)
  have HB5 := Lib.hid (Dsk.base_armed HBS.out.2.2.2 af cs)
  have p3 := HVX.out.cell (j := 3) rfl
  have p4 := HVX.out.cell (j := 4) rfl
  have q3 := L5.out.first p3
  have q4 := L5.out.first p4
  refine wp_region_held_drew (S := (fun w' => w'.cell? ⟨w.heap.size, 3, none⟩ = some (.int .i64 af) ∧ w'.cell? ⟨w.heap.size, 4, none⟩ = some (.slice A4 n4 c4))) (by as_aux_lemma => kernel_rfl) ?_ (fun hHeld => ?_)
  · exact ⟨q3, q4⟩
  have L5d := Lib.hid (L5.out.grow ((Below.refl _ _).drew))
  generalize w5.drew = w5d at *
  have CI := Lib.hid (dints_any A4 n4 c4 cs w5d (fun e => (P4.out e).1) (L5d.out.firstRd R4.out) (by omega))
  refine wpAnyH_take (i := 0) (v := ?_) (by simp only [List.getElem?_toArray, List.getElem?_cons_zero]; exact rfl) (by as_aux_lemma => kernel_rfl) (by as_aux_lemma => kernel_rfl) (by as_aux_lemma => kernel_rfl) (by exact fun _ _ _ h => h) (Or.inl ⟨by rfl, ?_⟩) (by assumption) ?_
  rotate_left
  · intro w hSw
    (try dsimp only at hSw)
    go_simp
    try with_reducible rfl
  (try simp only [Act.put, List.setIfInBounds_toArray, List.set_cons_zero, List.set_cons_succ])
  refine wpAnyH_take (i := 1) (v := ?_) (by simp only [List.getElem?_toArray, List.getElem?_cons_succ, List.getElem?_cons_zero]; exact rfl) (by as_aux_lemma => kernel_rfl) (by as_aux_lemma => kernel_rfl) (by as_aux_lemma => kernel_rfl) (by exact fun _ _ _ h => h) (Or.inl ⟨by rfl, ?_⟩) (by assumption) ?_
  rotate_left
  · intro w hSw
    (try dsimp only at hSw)
    go_simp
    try with_reducible rfl
  (try simp only [Act.put, List.setIfInBounds_toArray, List.set_cons_zero, List.set_cons_succ])
  refine wpAnyH_take (i := 2) (v := ?_) (by simp only [List.getElem?_toArray, List.getElem?_cons_succ, List.getElem?_cons_zero]; exact rfl) (by as_aux_lemma => kernel_rfl) (by as_aux_lemma => kernel_rfl) (by as_aux_lemma => kernel_rfl) (by exact fun _ _ _ h => h) (Or.inl ⟨by rfl, ?_⟩) (by assumption) ?_
  rotate_left
  · intro w hSw
    (try dsimp only at hSw)
    go_simp
    try with_reducible rfl
  (try simp only [Act.put, List.setIfInBounds_toArray, List.set_cons_zero, List.set_cons_succ])
  refine wpAnyH_take (i := 3) (v := ?_) (by simp only [List.getElem?_toArray, List.getElem?_cons_succ, List.getElem?_cons_zero]; exact rfl) (by as_aux_lemma => kernel_rfl) (by as_aux_lemma => kernel_rfl) (by as_aux_lemma => kernel_rfl) (by exact fun _ _ _ h => h) (Or.inl ⟨by rfl, ?_⟩) (by assumption) ?_
  rotate_left
  · intro w hSw
    (try dsimp only at hSw)
    go_simp
    try with_reducible rfl
  (try simp only [Act.put, List.setIfInBounds_toArray, List.set_cons_zero, List.set_cons_succ])
  refine wpAnyH_take (i := 4) (v := ?_) (by simp only [List.getElem?_toArray, List.getElem?_cons_succ, List.getElem?_cons_zero]; exact rfl) (by as_aux_lemma => kernel_rfl) (by as_aux_lemma => kernel_rfl) (by as_aux_lemma => kernel_rfl) (by exact fun _ _ _ h => h) (Or.inl ⟨by rfl, ?_⟩) (by assumption) ?_
  rotate_left
  · intro w hSw
    (try dsimp only at hSw)
    go_simp
    try with_reducible rfl
  (try simp only [Act.put, List.setIfInBounds_toArray, List.set_cons_zero, List.set_cons_succ])
  refine wpAnyH_ready (rs := [5]) (by as_aux_lemma => kernel_rfl) (by simp) ?_
  refine AllReadyH.cons (by simp only [List.getElem?_toArray, List.getElem?_cons_succ, List.getElem?_cons_zero]; exact rfl) (fun K hK => ?_) AllReadyH.nil
  go_simp
  (go_at_call 15; refine CI.out.mono ?_; rintro _ w6 ⟨g6, o6, c6, rfl, hg6, hg6b, _, _, hr6, hb6⟩)
  have L6 := Lib.hid (L5d.out.own (O' := fun b => b = g6) hb6 (fun b e => .inr (by subst e; exact ⟨hg6, hg6b⟩)))
  have CA : Hid (Calls Try.prog 14 #[.pointer (some ⟨db, 0, none⟩), .int .i64 af, .slice (some ⟨g6, o6, none⟩) n4 c6] w6 fun e w' => e = .returned (.tuple #[]) ∧ Live wx (fun b => b = g6) w' db (Dsk.armed (Dsk.syncDir (Dsk.sync (Dsk.write (Dsk.create (Dsk.new 65536) Dsk.nF).1 Dsk.nF 0 Old).1 Dsk.nF).1).1 af cs) 4 ∧ Kept (fun b => b = g6) w6 w') := Lib.hid (larm L6.out af HAF.out (fun e => by cases e) (ints_rd HL4.out hr6) (by omega))
  have q63 := L6.out.first p3
  have q64 := L6.out.first p4
  refine hK.out _ _ ?_ (fun hHeld => ?_)
  · (try dsimp only)
    exact ⟨q63, q64⟩
  clear hK K
  (try simp only [Act.put, List.setIfInBounds_toArray, List.set_cons_zero, List.set_cons_succ])
  refine wpAnyH_ready (rs := [6]) (by as_aux_lemma => kernel_rfl) (by simp) ?_
  refine AllReadyH.cons (by simp only [List.getElem?_toArray, List.getElem?_cons_succ, List.getElem?_cons_zero]; exact rfl) (fun K hK => ?_) AllReadyH.nil
  go_simp
  (go_at_call 14; refine CA.out.mono ?_; rintro _ w7 ⟨rfl, l7, _⟩)
  have L7 := Lib.hid (l7.less (O' := fun _ => False) (fun b h => h.elim))
  have q73 := L7.out.first p3
  have q74 := L7.out.first p4
  refine hK.out _ _ ?_ (fun hHeld => ?_)
  · (try dsimp only)
    exact ⟨q73, q74⟩
  clear hK K
  (try simp only [Act.put, List.setIfInBounds_toArray, List.set_cons_zero, List.set_cons_succ])
  refine wpAnyH_done (by as_aux_lemma => kernel_rfl) ?_ _
  clear hr6 hb6 l7 q3 q4 q63 q64 q73 q74 hg6 hg6b hHeld q0
  obtain ⟨s7, hs7⟩ : ∃ s7, s7 = Dsk.armed (Dsk.syncDir (Dsk.sync (Dsk.write (Dsk.create (Dsk.new 65536) Dsk.nF).1 Dsk.nF 0 Old).1 Dsk.nF).1).1 af cs := ⟨_, rfl⟩
  rw [← hs7] at HB5 L7
  clear hs7
  obtain ⟨ec, s8, hs8⟩ : ∃ ec s8, Dsk.create s7 Dsk.nG = (s8, ec) := ⟨_, _, rfl⟩
  have HBC : Hid ((ec = 0 ∧ Dsk.Work Old New s8 0) ∨ (ec = 32 ∧ Dsk.Dead Old New s8 (0 = n1))) := Lib.hid (by have h := Dsk.base_create (New := New) HB5.out (0 = n1); rw [hs8] at h; exact h)
  have CG : Hid (Calls Try.prog 9 #[.pointer (some ⟨db, 0, none⟩), .string ⟨#[103]⟩] w7 fun e w' => e = .returned (.int .i64 (ec : Nat)) ∧ Live wx (fun _ => False) w' db s8 5 ∧ Kept (fun _ => False) w7 w') := Lib.hid (by have h := lcreate L7.out (by omega) Dsk.nG (by decide); rw [hs8] at h; exact h)
  clear hs8
  go_wp2_with (first
    | (go_at_call 9; go_must (refine CG.out.mono ?_; rintro _ w8 ⟨rfl, l8, _⟩; have L8 := Lib.hid l8; clear l8))
    | fail)
  go_loopw [4, 5] (fun ev av wr => ∃ (ap ee : Nat) (s : Dsk.St) (T : Nat), av = .int .i64 (ap : Nat) ∧ ev = .int .i64 (ee : Nat) ∧ ap ≤ n1 ∧ T ≤ ap + 10 ∧ Live wx (fun _ => False) wr db s T ∧ ((ee = 0 ∧ Dsk.Work Old New s ap) ∨ (ee = 32 ∧ Dsk.Dead Old New s (ap = n1)))) (fun _ av _ => n1 - (intOf av).toNat)
  case atStart => exact ⟨0, ec, s8, 5, rfl, rfl, Nat.zero_le _, by omega, L8.out, HBC.out⟩
  case round =>
    obtain ⟨ap, ee, s, T, rfl, rfl, hap, hTT, hlv, hst⟩ := hrel
    have LV := Lib.hid hlv
    have q1 := hlv.first p1
    clear hlv
    obtain ⟨wo, rfl⟩ : ∃ wo : World, wo = wr := ⟨_, rfl⟩
    rcases hst with ⟨he, hst⟩ | ⟨he, hst⟩
    · subst he
      have HST := Lib.hid hst
      clear hst
      by_cases hlt : ap < n1
      · have hlti : (ap : Int) < (n1 : Int) := by omega
        have p2 := LV.out.first (HVX.out.cell (j := 2) rfl)
        obtain ⟨g1, o1, rfl, hg1, _⟩ := R1.out.2 (by omega)
        have CR := Lib.hid (dround_any pc 100 wo (by omega) (by omega))
        obtain ⟨r, hr⟩ : ∃ r, r = (pc % ((100 : Nat) : Int)).toNat := ⟨_, rfl⟩
        have hr99 : r ≤ 99 := by have h1 := Int.emod_lt_of_pos pc (show (0 : Int) < ((100 : Nat) : Int) by omega); have h2 := Int.emod_nonneg pc (show ((100 : Nat) : Int) ≠ 0 by omega); omega
        rw [← hr] at CR
        have CR2 : Hid (Calls Try.prog 16 #[.int .i64 pc, .int .i64 100] wo fun e w' => e = .returned (.int .i64 (r : Int)) ∧ wo = w') := Lib.hid CR.out
        clear hr CR
        go_upto_region 14 with (first
          | (go_at_call 16; go_must (refine CR2.out.mono ?_; rintro _ wq ⟨rfl, hwq⟩; obtain rfl := hwq))
          | fail)
        by_cases hgt : n1 - ap < 1 + r
        · obtain ⟨m, hm⟩ : ∃ m : Nat, m = n1 - ap := ⟨_, rfl⟩
          have hm1 : 1 ≤ m := by omega
          have hm2 : ap + m ≤ n1 := by omega
          have hgti : (n1 : Int) - (ap : Int) < 1 + (r : Int) := by omega
          have hmi : (n1 : Int) - (ap : Int) = (m : Int) := by omega
          have HMM := Lib.hid hm
          have hne : ¬ c1 = ap := by omega
          have hsz : New.length = n1 := HL1.out
          have hrs : Rd wo wo.heap.size 1 (some ⟨g1, o1 + ap, none⟩) m (bytesV ((New.drop ap).take m)) := by
            have h := (LV.out.firstRd R1.out).shift (k := ap) (cap := c1) (by omega) k1
            rw [if_neg hne] at h
            have h2 := h.pre (k := m) (by omega)
            simp only [Nat.mul_one, bytesV_drop, bytesV_take, Option.map_some, Addr.add_lit] at h2
            exact h2
          have CL2 := Lib.hid (dlent_any (some ⟨g1, o1 + ap, none⟩) m (c1 - ap) ((New.drop ap).take m) wo (fun e => by cases e) hrs (by omega))
          obtain ⟨ew, s9, hs9⟩ : ∃ ew s9, Dsk.write s Dsk.nG (ap : Int) ((New.drop ap).take m) = (s9, ew) := ⟨_, _, rfl⟩
          have HWK : Hid ((ew = 0 ∧ Dsk.Work Old New s9 (ap + m)) ∨ (ew = 32 ∧ Dsk.Dead Old New s9 (ap + m = n1))) := Lib.hid (by have h := Dsk.work_write (n := m) HST.out (by omega) (by rw [HL0.out]; omega) (by omega) (ap + m = n1); rw [hs9] at h; exact h)
          have HS9 := Lib.hid hs9
          have hcm : ap + m ≤ c1 := by omega
          have hpl : ((New.drop ap).take m).length = m := by rw [List.length_take, List.length_drop]; omega
          have HPL := Lib.hid hpl
          clear hrs hs9 hsz hm hpl
          go_upto_region 17 with (first
            | (go_at_call 11; go_must (refine CL2.out.mono ?_; rintro _ w2' ⟨gx, ox, cx, rfl, _, _, _, _, hrx, hbx'⟩; have CW2 : Hid (Calls Try.prog 10 #[.pointer (some ⟨db, 0, none⟩), .string ⟨#[103]⟩, .int .i64 (ap : Int), .slice (some ⟨gx, ox, none⟩) m cx] w2' fun e w' => e = .returned (.int .i64 (ew : Nat)) ∧ Live wx (fun _ => False) w' db s9 (T + 1) ∧ Kept (fun _ => False) w2' w') := Lib.hid (by have h := lwrite (LV.out.grow hbx') (by omega) Dsk.nG (by decide) (ap : Int) (c := cx) (p := (New.drop ap).take m) (fun e => by cases e) (lent_rd HPL.out hrx) (by omega); rw [HS9.out] at h; exact h); clear hrx hbx'))
            | (go_at_call 10; go_must (refine CW2.out.mono ?_; rintro _ wy ⟨rfl, ly, _⟩; have LY := Lib.hid ly; clear ly))
            | fail)
          go_wp2
          go_roundw
          case rel => exact ⟨ap + m, ew, s9, T + 1, by go_num, rfl, hm2, by omega, LY.out, HWK.out⟩
          case measure => simp [intOf]; omega
        · obtain ⟨m, hm⟩ : ∃ m : Nat, m = 1 + r := ⟨_, rfl⟩
          have hm1 : 1 ≤ m := by omega
          have hm2 : ap + m ≤ n1 := by omega
          have hgti : ¬ (n1 : Int) - (ap : Int) < 1 + (r : Int) := by omega
          have hmi : 1 + (r : Int) = (m : Int) := by omega
          have HMM := Lib.hid hm
          have hne : ¬ c1 = ap := by omega
          have hsz : New.length = n1 := HL1.out
          have hrs : Rd wo wo.heap.size 1 (some ⟨g1, o1 + ap, none⟩) m (bytesV ((New.drop ap).take m)) := by
            have h := (LV.out.firstRd R1.out).shift (k := ap) (cap := c1) (by omega) k1
            rw [if_neg hne] at h
            have h2 := h.pre (k := m) (by omega)
            simp only [Nat.mul_one, bytesV_drop, bytesV_take, Option.map_some, Addr.add_lit] at h2
            exact h2
          have CL2 := Lib.hid (dlent_any (some ⟨g1, o1 + ap, none⟩) m (c1 - ap) ((New.drop ap).take m) wo (fun e => by cases e) hrs (by omega))
          obtain ⟨ew, s9, hs9⟩ : ∃ ew s9, Dsk.write s Dsk.nG (ap : Int) ((New.drop ap).take m) = (s9, ew) := ⟨_, _, rfl⟩
          have HWK : Hid ((ew = 0 ∧ Dsk.Work Old New s9 (ap + m)) ∨ (ew = 32 ∧ Dsk.Dead Old New s9 (ap + m = n1))) := Lib.hid (by have h := Dsk.work_write (n := m) HST.out (by omega) (by rw [HL0.out]; omega) (by omega) (ap + m = n1); rw [hs9] at h; exact h)
          have HS9 := Lib.hid hs9
          have hcm : ap + m ≤ c1 := by omega
          have hpl : ((New.drop ap).take m).length = m := by rw [List.length_take, List.length_drop]; omega
          have HPL := Lib.hid hpl
          clear hrs hs9 hsz hm hpl
          go_upto_region 17 with (first
            | (go_at_call 11; go_must (refine CL2.out.mono ?_; rintro _ w2' ⟨gx, ox, cx, rfl, _, _, _, _, hrx, hbx'⟩; have CW2 : Hid (Calls Try.prog 10 #[.pointer (some ⟨db, 0, none⟩), .string ⟨#[103]⟩, .int .i64 (ap : Int), .slice (some ⟨gx, ox, none⟩) m cx] w2' fun e w' => e = .returned (.int .i64 (ew : Nat)) ∧ Live wx (fun _ => False) w' db s9 (T + 1) ∧ Kept (fun _ => False) w2' w') := Lib.hid (by have h := lwrite (LV.out.grow hbx') (by omega) Dsk.nG (by decide) (ap : Int) (c := cx) (p := (New.drop ap).take m) (fun e => by cases e) (lent_rd HPL.out hrx) (by omega); rw [HS9.out] at h; exact h); clear hrx hbx'))
            | (go_at_call 10; go_must (refine CW2.out.mono ?_; rintro _ wy ⟨rfl, ly, _⟩; have LY := Lib.hid ly; clear ly))
            | fail)
          go_wp2
          go_roundw
          case rel => exact ⟨ap + m, ew, s9, T + 1, by go_num, rfl, hm2, by omega, LY.out, HWK.out⟩
          case measure => simp [intOf]; omega
      · obtain rfl : ap = n1 := by omega
        have hend : ¬ (ap : Int) < (ap : Int) := by omega
        have HAT : Hid (Dsk.Work Old New s New.length) := Lib.hid (by rw [HL1.out]; exact HST.out)
        obtain ⟨e9, s9, hs9⟩ : ∃ e9 s9, Dsk.sync s Dsk.nG = (s9, e9) := ⟨_, _, rfl⟩
        have hsy := Dsk.work_sync HAT.out True
        rw [hs9] at hsy
        have CSY : Hid (Calls Try.prog 12 #[.pointer (some ⟨db, 0, none⟩), .string ⟨#[103]⟩] wo fun e w' => e = .returned (.int .i64 (e9 : Nat)) ∧ Live wx (fun _ => False) w' db s9 (T + 1) ∧ Kept (fun _ => False) wo w') := Lib.hid (by have h := lsync LV.out (by omega) Dsk.nG (by decide); rw [hs9] at h; exact h)
        clear hs9
        rcases hsy with ⟨he9, hsy⟩ | ⟨he9, hsy⟩
        · dsimp only at he9 hsy
          subst he9
          have HSY := Lib.hid hsy
          clear hsy
          go_upto_region 20 with (first
            | (go_at_call 12; go_must (refine CSY.out.mono ?_; rintro _ wa1 ⟨rfl, la1, _⟩; have LA1 := Lib.hid la1; clear la1))
            | fail)
          obtain ⟨e10, s10, hs10⟩ : ∃ e10 s10, Dsk.rename s9 Dsk.nG Dsk.nF = (s10, e10) := ⟨_, _, rfl⟩
          have hre := Dsk.syncd_rename HSY.out (whole := True) trivial
          rw [hs10] at hre
          have CRE : Hid (Calls Try.prog 17 #[.pointer (some ⟨db, 0, none⟩), .string ⟨#[103]⟩, .string ⟨#[102]⟩] wa1 fun e w' => e = .returned (.int .i64 (e10 : Nat)) ∧ Live wx (fun _ => False) w' db s10 (T + 2) ∧ Kept (fun _ => False) wa1 w') := Lib.hid (by have h := lrename LA1.out (by omega) Dsk.nG Dsk.nF (by decide) (by decide); rw [hs10] at h; exact h)
          clear hs10
          rcases hre with ⟨he10, hre⟩ | ⟨he10, hre⟩
          · dsimp only at he10 hre
            subst he10
            have HRE := Lib.hid hre
            clear hre
            go_upto_region 22 with (first
              | (go_at_call 17; go_must (refine CRE.out.mono ?_; rintro _ wa2 ⟨rfl, la2, _⟩; have LA2 := Lib.hid la2; clear la2))
              | fail)
            obtain ⟨e11, s11, hs11⟩ : ∃ e11 s11, Dsk.syncDir s10 = (s11, e11) := ⟨_, _, rfl⟩
            have hsd := Dsk.ren_syncDir HRE.out (whole := True) trivial
            rw [hs11] at hsd
            have CSD : Hid (Calls Try.prog 13 #[.pointer (some ⟨db, 0, none⟩)] wa2 fun e w' => e = .returned (.int .i64 (e11 : Nat)) ∧ Live wx (fun _ => False) w' db s11 (T + 3) ∧ Kept (fun _ => False) wa2 w') := Lib.hid (by have h := lsyncDir LA2.out (by omega); rw [hs11] at h; exact h)
            clear hs11
            rcases hsd with ⟨he11, hsd⟩ | ⟨he11, hsd⟩
            · dsimp only at he11 hsd
              subst he11
              have HSD := Lib.hid hsd
              clear hsd
              go_upto_region 26 with (first
                | (go_at_call 13; go_must (refine CSD.out.mono ?_; rintro _ wa3 ⟨rfl, la3, _⟩; have LA3 := Lib.hid la3; clear la3))
                | fail)
              have qa4 := LA3.out.first (HVX.out.cell (j := 4) rfl)
              have CI2 := Lib.hid (dints_any A4 n4 c4 cs wa3 (fun e => (P4.out e).1) (LA3.out.firstRd R4.out) (by omega))
              obtain ⟨s12, hs12⟩ : ∃ s12, s12 = Dsk.crash s11 cs := ⟨_, rfl⟩
              have HS12 := Lib.hid hs12
              have HDE : Hid (Dsk.Dead New New s12 True) := Lib.hid (by rw [hs12]; exact Dsk.placed_crash HSD.out cs)
              clear hs12
              go_upto_region 27 with (first
                | (go_at_call 15; go_must (refine CI2.out.mono ?_; rintro _ wa4 ⟨ga, oa, ca, rfl, hga, hgb, hgc, _, hra, hba⟩; have LA4 := Lib.hid (LA3.out.own (O' := fun b => b = ga) hba (fun b e => .inr (by subst e; exact ⟨hga, hgb⟩))); have CCR : Hid (Calls Try.prog 18 #[.pointer (some ⟨db, 0, none⟩), .slice (some ⟨ga, oa, none⟩) n4 ca] wa4 fun e w' => e = .returned (.tuple #[]) ∧ Live wx (fun b => b = ga) w' db s12 (T + 4) ∧ Kept (fun b => b = ga) wa4 w') := Lib.hid (by have h := lcrash LA4.out (by omega) (cs := cs) (c := ca) (ints_rd HL4.out hra) (by omega) (by omega) (fun _ g o e => by injection e with e; injection e with e _ _; exact e.symm); rw [← HS12.out] at h; exact h); clear hga hgb hgc hra hba))
                | (go_at_call 18; go_must (refine CCR.out.mono ?_; rintro _ wa5 ⟨rfl, la5, _⟩; have LA5 := Lib.hid la5; clear la5))
                | fail)
              have CDN := Lib.hid (ldown LA5.out)
              rw [HDE.out.down] at CDN
              go_upto_region 29 with (first
                | (go_at_call 19; go_must (refine CDN.out.mono ?_; rintro _ wd1 ⟨rfl, ld1, _⟩; have LD1 := Lib.hid ld1; clear ld1))
                | fail)
              have CUP := Lib.hid (lup LD1.out)
              go_upto_region 30 with (first
                | (go_at_call 20; go_must (refine CUP.out.mono ?_; rintro _ wd2 ⟨rfl, ld2, _⟩; have LD2 := Lib.hid ld2; clear ld2))
                | fail)
              obtain ⟨hrd0, hrd1⟩ := Dsk.dead_read HDE.out
              have CRD : Hid (Calls Try.prog 21 #[.pointer (some ⟨db, 0, none⟩), .string ⟨#[102]⟩] wd2 _) := Lib.hid (lread LD2.out Dsk.nF (by decide))
              rw [hrd0] at CRD
              have hrd2 : (Dsk.read (Dsk.up s12) Dsk.nF).1 = New := by rcases hrd1 with e | e; exact e; exact e.1
              rw [hrd2] at CRD
              clear hrd0 hrd1 hrd2
              go_upto_region 31 with (first
                | (go_at_call 21; go_must (refine CRD.out.mono ?_; rintro _ wd3 ⟨vb, rfl, rb, ld3, _⟩; have LD3 := Lib.hid ld3; obtain ⟨Ab, cb, rfl, _, _, hnb, hrb⟩ := RowB.form rb; clear ld3 rb))
                | fail)
              have cvb := conv_str (P := Try.prog) 22 9 5 Try.underlying22 Try.underlying5 Try.underlying9 (c := cb) hrb (fun e => (hnb e).1)
              have cvN := conv_str (P := Try.prog) 22 9 5 Try.underlying22 Try.underlying5 Try.underlying9 (c := c1) (LD3.out.firstRd R1.out) (fun e => (P1.out e).1)
              have qq0 := LD3.out.first p0
              have qq1 := LD3.out.first p1
              clear hrb hnb
              obtain ⟨sN, hsN⟩ : ∃ sN : ByteArray, sN = ⟨New.toArray⟩ := ⟨_, rfl⟩
              rw [← hsN] at cvb cvN
              clear hsN
              go_wp2
              go_ret
              exact ⟨rfl, HBX.out.trans (LD3.out.bel.mono HBX.out.size)⟩
            · dsimp only at he11 hsd
              subst he11
              have HSD := Lib.hid hsd
              clear hsd
              go_upto_region 27 with (first
                | (go_at_call 13; go_must (refine CSD.out.mono ?_; rintro _ wa3 ⟨rfl, la3, _⟩; have LA3 := Lib.hid la3; clear la3))
                | fail)
              have CDN := Lib.hid (ldown LA3.out)
              rw [HSD.out.down] at CDN
              go_upto_region 29 with (first
                | (go_at_call 19; go_must (refine CDN.out.mono ?_; rintro _ wd1 ⟨rfl, ld1, _⟩; have LD1 := Lib.hid ld1; clear ld1))
                | fail)
              have CUP := Lib.hid (lup LD1.out)
              go_upto_region 30 with (first
                | (go_at_call 20; go_must (refine CUP.out.mono ?_; rintro _ wd2 ⟨rfl, ld2, _⟩; have LD2 := Lib.hid ld2; clear ld2))
                | fail)
              obtain ⟨hrd0, hrd1⟩ := Dsk.dead_read HSD.out
              have CRD : Hid (Calls Try.prog 21 #[.pointer (some ⟨db, 0, none⟩), .string ⟨#[102]⟩] wd2 _) := Lib.hid (lread LD2.out Dsk.nF (by decide))
              rw [hrd0] at CRD
              have HWH := Lib.hid hrd1
              obtain ⟨bb, hbb⟩ : ∃ bb, bb = (Dsk.read (Dsk.up s11) Dsk.nF).1 := ⟨_, rfl⟩
              rw [← hbb] at CRD HWH
              clear hrd0 hrd1 hbb
              go_upto_region 31 with (first
                | (go_at_call 21; go_must (refine CRD.out.mono ?_; rintro _ wd3 ⟨vb, rfl, rb, ld3, _⟩; have LD3 := Lib.hid ld3; obtain ⟨Ab, cb, rfl, _, _, hnb, hrb⟩ := RowB.form rb; clear ld3 rb))
                | fail)
              have cvb := conv_str (P := Try.prog) 22 9 5 Try.underlying22 Try.underlying5 Try.underlying9 (c := cb) hrb (fun e => (hnb e).1)
              have cvO := conv_str (P := Try.prog) 22 9 5 Try.underlying22 Try.underlying5 Try.underlying9 (c := c0) (LD3.out.firstRd R0.out) (fun e => (P0.out e).1)
              have cvN := conv_str (P := Try.prog) 22 9 5 Try.underlying22 Try.underlying5 Try.underlying9 (c := c1) (LD3.out.firstRd R1.out) (fun e => (P1.out e).1)
              have qq0 := LD3.out.first p0
              have qq1 := LD3.out.first p1
              clear hrb hnb
              by_cases hbo : bb = Old
              · subst hbo
                obtain ⟨sO, hsO⟩ : ∃ sO : ByteArray, sO = ⟨bb.toArray⟩ := ⟨_, rfl⟩
                rw [← hsO] at cvb cvO
                have HLB : Hid (bb.length = n0) := Lib.hid HL0.out
                obtain ⟨nb, hnb⟩ : ∃ nb, nb = bb.length := ⟨_, rfl⟩
                clear hsO
                go_wp2
                go_ret
                exact ⟨rfl, HBX.out.trans (LD3.out.bel.mono HBX.out.size)⟩
              · have hbn : bb = New ∧ True := by rcases HWH.out with e | e; exact absurd e hbo; exact e
                obtain ⟨rfl, hwh⟩ := hbn
                obtain ⟨sO, hsO⟩ : ∃ sO : ByteArray, sO = ⟨Old.toArray⟩ := ⟨_, rfl⟩
                obtain ⟨sN, hsN⟩ : ∃ sN : ByteArray, sN = ⟨bb.toArray⟩ := ⟨_, rfl⟩
                have hne2 : (sN == sO) = false := by
                  rw [hsN, hsO]
                  show (bb.toArray == Old.toArray) = false
                  rw [beq_eq_false_iff_ne]
                  intro e
                  exact hbo (by have := congrArg Array.toList e; simpa using this)
                have hne3 : (sN.toList == sO.toList) = false := by
                  rw [hsN, hsO, ByteArray.toList_eq, ByteArray.toList_eq, beq_eq_false_iff_ne]
                  exact hbo
                have hne4 : ¬ sN.toList = sO.toList := by
                  rw [hsN, hsO, ByteArray.toList_eq, ByteArray.toList_eq]
                  exact hbo
                rw [← hsN] at cvb cvN
                rw [← hsO] at cvO
                clear hsO hsN hbo
                clear hwh
                go_wp2
                go_ret
                exact ⟨rfl, HBX.out.trans (LD3.out.bel.mono HBX.out.size)⟩
          · dsimp only at he10 hre
            subst he10
            have HRE := Lib.hid hre
            clear hre
            go_upto_region 27 with (first
              | (go_at_call 17; go_must (refine CRE.out.mono ?_; rintro _ wa2 ⟨rfl, la2, _⟩; have LA2 := Lib.hid la2; clear la2))
              | fail)
            have CDN := Lib.hid (ldown LA2.out)
            rw [HRE.out.down] at CDN
            go_upto_region 29 with (first
              | (go_at_call 19; go_must (refine CDN.out.mono ?_; rintro _ wd1 ⟨rfl, ld1, _⟩; have LD1 := Lib.hid ld1; clear ld1))
              | fail)
            have CUP := Lib.hid (lup LD1.out)
            go_upto_region 30 with (first
              | (go_at_call 20; go_must (refine CUP.out.mono ?_; rintro _ wd2 ⟨rfl, ld2, _⟩; have LD2 := Lib.hid ld2; clear ld2))
              | fail)
            obtain ⟨hrd0, hrd1⟩ := Dsk.dead_read HRE.out
            have CRD : Hid (Calls Try.prog 21 #[.pointer (some ⟨db, 0, none⟩), .string ⟨#[102]⟩] wd2 _) := Lib.hid (lread LD2.out Dsk.nF (by decide))
            rw [hrd0] at CRD
            have HWH := Lib.hid hrd1
            obtain ⟨bb, hbb⟩ : ∃ bb, bb = (Dsk.read (Dsk.up s10) Dsk.nF).1 := ⟨_, rfl⟩
            rw [← hbb] at CRD HWH
            clear hrd0 hrd1 hbb
            go_upto_region 31 with (first
              | (go_at_call 21; go_must (refine CRD.out.mono ?_; rintro _ wd3 ⟨vb, rfl, rb, ld3, _⟩; have LD3 := Lib.hid ld3; obtain ⟨Ab, cb, rfl, _, _, hnb, hrb⟩ := RowB.form rb; clear ld3 rb))
              | fail)
            have cvb := conv_str (P := Try.prog) 22 9 5 Try.underlying22 Try.underlying5 Try.underlying9 (c := cb) hrb (fun e => (hnb e).1)
            have cvO := conv_str (P := Try.prog) 22 9 5 Try.underlying22 Try.underlying5 Try.underlying9 (c := c0) (LD3.out.firstRd R0.out) (fun e => (P0.out e).1)
            have cvN := conv_str (P := Try.prog) 22 9 5 Try.underlying22 Try.underlying5 Try.underlying9 (c := c1) (LD3.out.firstRd R1.out) (fun e => (P1.out e).1)
            have qq0 := LD3.out.first p0
            have qq1 := LD3.out.first p1
            clear hrb hnb
            by_cases hbo : bb = Old
            · subst hbo
              obtain ⟨sO, hsO⟩ : ∃ sO : ByteArray, sO = ⟨bb.toArray⟩ := ⟨_, rfl⟩
              rw [← hsO] at cvb cvO
              have HLB : Hid (bb.length = n0) := Lib.hid HL0.out
              obtain ⟨nb, hnb⟩ : ∃ nb, nb = bb.length := ⟨_, rfl⟩
              clear hsO
              go_wp2
              go_ret
              exact ⟨rfl, HBX.out.trans (LD3.out.bel.mono HBX.out.size)⟩
            · have hbn : bb = New ∧ True := by rcases HWH.out with e | e; exact absurd e hbo; exact e
              obtain ⟨rfl, hwh⟩ := hbn
              obtain ⟨sO, hsO⟩ : ∃ sO : ByteArray, sO = ⟨Old.toArray⟩ := ⟨_, rfl⟩
              obtain ⟨sN, hsN⟩ : ∃ sN : ByteArray, sN = ⟨bb.toArray⟩ := ⟨_, rfl⟩
              have hne2 : (sN == sO) = false := by
                rw [hsN, hsO]
                show (bb.toArray == Old.toArray) = false
                rw [beq_eq_false_iff_ne]
                intro e
                exact hbo (by have := congrArg Array.toList e; simpa using this)
              have hne3 : (sN.toList == sO.toList) = false := by
                rw [hsN, hsO, ByteArray.toList_eq, ByteArray.toList_eq, beq_eq_false_iff_ne]
                exact hbo
              have hne4 : ¬ sN.toList = sO.toList := by
                rw [hsN, hsO, ByteArray.toList_eq, ByteArray.toList_eq]
                exact hbo
              rw [← hsN] at cvb cvN
              rw [← hsO] at cvO
              clear hsO hsN hbo
              clear hwh
              go_wp2
              go_ret
              exact ⟨rfl, HBX.out.trans (LD3.out.bel.mono HBX.out.size)⟩
        · dsimp only at he9 hsy
          subst he9
          have HSY := Lib.hid hsy
          clear hsy
          go_upto_region 27 with (first
            | (go_at_call 12; go_must (refine CSY.out.mono ?_; rintro _ wa1 ⟨rfl, la1, _⟩; have LA1 := Lib.hid la1; clear la1))
            | fail)
          have CDN := Lib.hid (ldown LA1.out)
          rw [HSY.out.down] at CDN
          go_upto_region 29 with (first
            | (go_at_call 19; go_must (refine CDN.out.mono ?_; rintro _ wd1 ⟨rfl, ld1, _⟩; have LD1 := Lib.hid ld1; clear ld1))
            | fail)
          have CUP := Lib.hid (lup LD1.out)
          go_upto_region 30 with (first
            | (go_at_call 20; go_must (refine CUP.out.mono ?_; rintro _ wd2 ⟨rfl, ld2, _⟩; have LD2 := Lib.hid ld2; clear ld2))
            | fail)
          obtain ⟨hrd0, hrd1⟩ := Dsk.dead_read HSY.out
          have CRD : Hid (Calls Try.prog 21 #[.pointer (some ⟨db, 0, none⟩), .string ⟨#[102]⟩] wd2 _) := Lib.hid (lread LD2.out Dsk.nF (by decide))
          rw [hrd0] at CRD
          have HWH := Lib.hid hrd1
          obtain ⟨bb, hbb⟩ : ∃ bb, bb = (Dsk.read (Dsk.up s9) Dsk.nF).1 := ⟨_, rfl⟩
          rw [← hbb] at CRD HWH
          clear hrd0 hrd1 hbb
          go_upto_region 31 with (first
            | (go_at_call 21; go_must (refine CRD.out.mono ?_; rintro _ wd3 ⟨vb, rfl, rb, ld3, _⟩; have LD3 := Lib.hid ld3; obtain ⟨Ab, cb, rfl, _, _, hnb, hrb⟩ := RowB.form rb; clear ld3 rb))
            | fail)
          have cvb := conv_str (P := Try.prog) 22 9 5 Try.underlying22 Try.underlying5 Try.underlying9 (c := cb) hrb (fun e => (hnb e).1)
          have cvO := conv_str (P := Try.prog) 22 9 5 Try.underlying22 Try.underlying5 Try.underlying9 (c := c0) (LD3.out.firstRd R0.out) (fun e => (P0.out e).1)
          have cvN := conv_str (P := Try.prog) 22 9 5 Try.underlying22 Try.underlying5 Try.underlying9 (c := c1) (LD3.out.firstRd R1.out) (fun e => (P1.out e).1)
          have qq0 := LD3.out.first p0
          have qq1 := LD3.out.first p1
          clear hrb hnb
          by_cases hbo : bb = Old
          · subst hbo
            obtain ⟨sO, hsO⟩ : ∃ sO : ByteArray, sO = ⟨bb.toArray⟩ := ⟨_, rfl⟩
            rw [← hsO] at cvb cvO
            have HLB : Hid (bb.length = n0) := Lib.hid HL0.out
            obtain ⟨nb, hnb⟩ : ∃ nb, nb = bb.length := ⟨_, rfl⟩
            clear hsO
            go_wp2
            go_ret
            exact ⟨rfl, HBX.out.trans (LD3.out.bel.mono HBX.out.size)⟩
          · have hbn : bb = New ∧ True := by rcases HWH.out with e | e; exact absurd e hbo; exact e
            obtain ⟨rfl, hwh⟩ := hbn
            obtain ⟨sO, hsO⟩ : ∃ sO : ByteArray, sO = ⟨Old.toArray⟩ := ⟨_, rfl⟩
            obtain ⟨sN, hsN⟩ : ∃ sN : ByteArray, sN = ⟨bb.toArray⟩ := ⟨_, rfl⟩
            have hne2 : (sN == sO) = false := by
              rw [hsN, hsO]
              show (bb.toArray == Old.toArray) = false
              rw [beq_eq_false_iff_ne]
              intro e
              exact hbo (by have := congrArg Array.toList e; simpa using this)
            have hne3 : (sN.toList == sO.toList) = false := by
              rw [hsN, hsO, ByteArray.toList_eq, ByteArray.toList_eq, beq_eq_false_iff_ne]
              exact hbo
            have hne4 : ¬ sN.toList = sO.toList := by
              rw [hsN, hsO, ByteArray.toList_eq, ByteArray.toList_eq]
              exact hbo
            rw [← hsN] at cvb cvN
            rw [← hsO] at cvO
            clear hsO hsN hbo
            clear hwh
            go_wp2
            go_ret
            exact ⟨rfl, HBX.out.trans (LD3.out.bel.mono HBX.out.size)⟩
    · subst he
      have HST := Lib.hid hst
      clear hst
      go_upto_region 27 with (fail)
      have CDN := Lib.hid (ldown LV.out)
      rw [HST.out.down] at CDN
      go_upto_region 29 with (first
        | (go_at_call 19; go_must (refine CDN.out.mono ?_; rintro _ wd1 ⟨rfl, ld1, _⟩; have LD1 := Lib.hid ld1; clear ld1))
        | fail)
      have CUP := Lib.hid (lup LD1.out)
      go_upto_region 30 with (first
        | (go_at_call 20; go_must (refine CUP.out.mono ?_; rintro _ wd2 ⟨rfl, ld2, _⟩; have LD2 := Lib.hid ld2; clear ld2))
        | fail)
      obtain ⟨hrd0, hrd1⟩ := Dsk.dead_read HST.out
      have CRD : Hid (Calls Try.prog 21 #[.pointer (some ⟨db, 0, none⟩), .string ⟨#[102]⟩] wd2 _) := Lib.hid (lread LD2.out Dsk.nF (by decide))
      rw [hrd0] at CRD
      have HWH := Lib.hid hrd1
      obtain ⟨bb, hbb⟩ : ∃ bb, bb = (Dsk.read (Dsk.up s) Dsk.nF).1 := ⟨_, rfl⟩
      rw [← hbb] at CRD HWH
      clear hrd0 hrd1 hbb
      go_upto_region 31 with (first
        | (go_at_call 21; go_must (refine CRD.out.mono ?_; rintro _ wd3 ⟨vb, rfl, rb, ld3, _⟩; have LD3 := Lib.hid ld3; obtain ⟨Ab, cb, rfl, _, _, hnb, hrb⟩ := RowB.form rb; clear ld3 rb))
        | fail)
      have cvb := conv_str (P := Try.prog) 22 9 5 Try.underlying22 Try.underlying5 Try.underlying9 (c := cb) hrb (fun e => (hnb e).1)
      have cvO := conv_str (P := Try.prog) 22 9 5 Try.underlying22 Try.underlying5 Try.underlying9 (c := c0) (LD3.out.firstRd R0.out) (fun e => (P0.out e).1)
      have cvN := conv_str (P := Try.prog) 22 9 5 Try.underlying22 Try.underlying5 Try.underlying9 (c := c1) (LD3.out.firstRd R1.out) (fun e => (P1.out e).1)
      have qq0 := LD3.out.first p0
      have qq1 := LD3.out.first p1
      clear hrb hnb
      by_cases hbo : bb = Old
      · subst hbo
        obtain ⟨sO, hsO⟩ : ∃ sO : ByteArray, sO = ⟨bb.toArray⟩ := ⟨_, rfl⟩
        rw [← hsO] at cvb cvO
        have HLB : Hid (bb.length = n0) := Lib.hid HL0.out
        obtain ⟨nb, hnb⟩ : ∃ nb, nb = bb.length := ⟨_, rfl⟩
        clear hsO
        go_wp2
        go_ret
        exact ⟨rfl, HBX.out.trans (LD3.out.bel.mono HBX.out.size)⟩
      · have hbn : bb = New ∧ ap = n1 := by rcases HWH.out with e | e; exact absurd e hbo; exact e
        obtain ⟨rfl, hwh⟩ := hbn
        obtain ⟨sO, hsO⟩ : ∃ sO : ByteArray, sO = ⟨Old.toArray⟩ := ⟨_, rfl⟩
        obtain ⟨sN, hsN⟩ : ∃ sN : ByteArray, sN = ⟨bb.toArray⟩ := ⟨_, rfl⟩
        have hne2 : (sN == sO) = false := by
          rw [hsN, hsO]
          show (bb.toArray == Old.toArray) = false
          rw [beq_eq_false_iff_ne]
          intro e
          exact hbo (by have := congrArg Array.toList e; simpa using this)
        have hne3 : (sN.toList == sO.toList) = false := by
          rw [hsN, hsO, ByteArray.toList_eq, ByteArray.toList_eq, beq_eq_false_iff_ne]
          exact hbo
        have hne4 : ¬ sN.toList = sO.toList := by
          rw [hsN, hsO, ByteArray.toList_eq, ByteArray.toList_eq]
          exact hbo
        rw [← hsN] at cvb cvN
        rw [← hsO] at cvO
        clear hsO hsN hbo
        have hwi : (ap : Int) = (n1 : Int) := by omega
        subst hwh
        go_wp2
        go_ret
        exact ⟨rfl, HBX.out.trans (LD3.out.bel.mono HBX.out.size)⟩
end Go.Proofs.Ythgeppdoonbkpaa
