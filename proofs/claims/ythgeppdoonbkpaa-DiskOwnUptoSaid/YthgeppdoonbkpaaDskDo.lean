/- does: an Op played at the program's disk. Printed by gen_does.py. Conditions: sizes. -/
import Derived.Test.YthgeppdoonbkpaaDskSt
import Derived.Test.YthgeppdoonbkpaaDskOps
import Derived.Test.YthgeppdoonbkpaaDskPw
namespace Go.Proofs.Ythgeppdoonbkpaa
open Go.RowKit
/-- an Op at the plain disk -/
def step (s : Dsk.St) (o : OpV) : Dsk.St × Nat :=
  if o.kind = 0 then Dsk.create s o.nm
  else if o.kind = 1 then Dsk.write s o.nm o.n o.d
  else if o.kind = 2 then Dsk.cut s o.nm o.n
  else if o.kind = 3 then Dsk.sync s o.nm
  else if o.kind = 4 then Dsk.rename s o.nm o.tt
  else if o.kind = 5 then Dsk.remove s o.nm
  else if o.kind = 6 then Dsk.syncDir s
  else if o.kind = 7 then (Dsk.crash s o.c, 0)
  else if o.kind = 8 then (Dsk.armed s o.n o.c, 0)
  else if o.kind = 9 then (Dsk.up s, 0)
  else (s, 0)
theorem Kept.from {O O' : Nat → Prop} {W wx w' : World} (k : Kept O' wx w') (hb : Below W.heap.size W wx) (hlt : ∀ b, O b → b < W.heap.size) (hO : ∀ b, O b → O' b) : Kept O W w' :=
  ⟨Nat.le_trans hb.size k.1, fun b h => (k.2 b (hO b h)).trans (hb.block b (hlt b h))⟩
theorem Kept.less {O O' : Nat → Prop} {W w' : World} (k : Kept O' W w') (hO : ∀ b, O b → O' b) : Kept O W w' := ⟨k.1, fun b h => k.2 b (hO b h)⟩
theorem Kept.past {O : Nat → Prop} {W w1 w' : World} (k : Kept O W w1) (hb : Below w1.heap.size w1 w') (hlt : ∀ b, O b → b < W.heap.size) : Kept O W w' :=
  ⟨Nat.le_trans k.1 hb.size, fun b h => (hb.block b (Nat.lt_of_lt_of_le (hlt b h) k.1)).trans (k.2 b h)⟩
theorem Kept.chg {O S : Nat → Prop} {W w1 w' : World} (k : Kept O W w1) (hc : Chg S w1 w') (hS : ∀ b, O b → ¬ S b) (hlt : ∀ b, O b → b < W.heap.size) : Kept O W w' :=
  ⟨Nat.le_trans k.1 hc.size, fun b h => (hc.block b (Nat.lt_of_lt_of_le (hlt b h) k.1) (hS b h)).trans (k.2 b h)⟩

set_option maxHeartbeats 4000000 in
set_option maxRecDepth 100000 in
theorem ddoes_any {w0 W : World} {O : Nat → Prop} {db : Nat} {s : Dsk.St} {T : Nat} (h : Live w0 O W db s T) (hT : T ≤ 99999) (kd : Int) (nm tt : Bs) (nn : Int) (dA : Option Addr) (dn dc : Nat) (d : Bs) (cA : Option Addr) (cn cc : Nat) (cs : List Int) (onb : Bool)
    (hin : OpIn w0 ⟨kd, nm, tt, nn, dA, dn, dc, d, cA, cn, cc, cs, onb⟩) (h1 : nm.length ≤ 1000000000) (h2 : tt.length ≤ 1000000000) (h3 : dn ≤ 10000000) (h4 : cn ≤ 10000000) :
    Calls Try.prog 28 #[.pointer (some ⟨db, 0, none⟩), .agg #[.int .i64 kd, .string (strB nm), .string (strB tt), .int .i64 nn, .slice dA dn dc, .slice cA cn cc, .bool onb]] W fun e w' => e = .returned (.tuple #[.int .i64 ((step s ⟨kd, nm, tt, nn, dA, dn, dc, d, cA, cn, cc, cs, onb⟩).2 : Nat), .bool true]) ∧ Live w0 O w' db (step s ⟨kd, nm, tt, nn, dA, dn, dc, d, cA, cn, cc, cs, onb⟩).1 (T + 1) ∧ Kept O W w' := by
  obtain ⟨wx, hwx⟩ : ∃ wx, wx = W.alloc (.cells #[.int .i64 kd, .string (strB nm), .string (strB tt), .int .i64 nn, .slice dA dn dc, .slice cA cn cc, .bool onb] 47) := ⟨_, rfl⟩
  have hbx : Below W.heap.size W wx := by rw [hwx]; exact (Below.refl _ _).alloc (Nat.le_refl _) _
  have hvx : Var wx W.heap.size 47 [.int .i64 kd, .string (strB nm), .string (strB tt), .int .i64 nn, .slice dA dn dc, .slice cA cn cc, .bool onb] := by rw [hwx]; exact Var.new _ _ _
  obtain ⟨bx, hbxe⟩ : ∃ bx, bx = W.heap.size := ⟨_, rfl⟩
  have HBX := Lib.hid hbx
  have HBE := Lib.hid hbxe
  have HVX : Hid (Var wx bx 47 [.int .i64 kd, .string (strB nm), .string (strB tt), .int .i64 nn, .slice dA dn dc, .slice cA cn cc, .bool onb]) := Lib.hid (by rw [hbxe]; exact hvx)
  have HLT := Lib.hid (fun b (hb : O b) => h.olt hb)
  have HNE := Lib.hid (fun b (hb : O b) => (show b ≠ bx by have := h.olt hb; omega))
  have LX := Lib.hid (h.own (O' := fun b => O b ∨ b = bx) hbx (fun b e => e.imp id (fun e => by subst e; exact ⟨by omega, by rw [hbxe]; exact hvx.lt⟩)))
  have HW0 := Lib.hid (show w0.heap.size ≤ bx by rw [hbxe]; exact h.bel.size)
  have HIN := Lib.hid hin
  have HWX := Lib.hid hwx
  clear hvx hbx h hin
  go_enter Try.func28, Try.ntmps28
  go_upto_region 1 with (fail)
  rw [← hwx, ← hbxe]
  clear hwx hbxe
  have x0 := HVX.out.cell (j := 0) rfl
  have x1 := HVX.out.cell (j := 1) rfl
  have x2 := HVX.out.cell (j := 2) rfl
  have x3 := HVX.out.cell (j := 3) rfl
  have x4 := HVX.out.cell (j := 4) rfl
  have x5 := HVX.out.cell (j := 5) rfl
  by_cases e0 : kd = 0
  · subst e0
    have CC := Lib.hid (lcreate LX.out hT nm h1)
    clear x0
    have x0 := HVX.out.cell (j := 0) rfl
    go_wp2_with (first
      | (go_at_call 9; go_must (refine CC.out.mono ?_; rintro _ w1 ⟨rfl, l1, k1⟩))
      | fail)
    go_ret2
    exact ⟨rfl, l1.less (fun b hb => .inl hb), k1.from HBX.out HLT.out (fun b hb => .inl hb)⟩
  have n0 : (kd == 0) = false := by rw [beq_eq_false_iff_ne]; exact e0
  by_cases e1 : kd = 1
  · subst e1
    have CL := Lib.hid (dlent_any dA dn dc d wx (fun e => (HIN.out.dnil e).1) (LX.out.firstRd HIN.out.drd) (by omega))
    have HDL := Lib.hid (show d.length = dn by have := HIN.out.drd.1; rw [bytesV_len] at this; dsimp only at this; omega)
    clear x0
    have x0 := HVX.out.cell (j := 0) rfl
    go_upto_region 6 with (first
      | (go_at_call 11; go_must (refine CL.out.mono ?_; rintro _ w1 ⟨gp, op, cp, rfl, hg1, hg2, hcp, hcm, hr1, hb1⟩))
      | fail)
    have LP := Lib.hid (LX.out.own (O' := fun b => (O b ∨ b = bx) ∨ b = gp) hb1 (fun b e => e.imp id (fun e => by subst e; exact ⟨hg1, hg2⟩)))
    have HVP := Lib.hid (HVX.out.below_all hb1)
    have HRP := Lib.hid hr1
    have HGP := Lib.hid (show wx.heap.size ≤ gp from hg1)
    have HB1 := Lib.hid hb1
    have CW := Lib.hid (lwrite LP.out hT nm h1 nn (c := cp) (p := d) (fun e => by cases e) (lent_rd HDL.out hr1) (by omega))
    clear x0 x1 x2 x3 x4 x5 hg1 hg2 hcm hr1 hb1
    have x1 := HVP.out.cell (j := 1) rfl
    have x3 := HVP.out.cell (j := 3) rfl
    go_upto_region 7 with (first
      | (go_at_call 10; go_must (refine CW.out.mono ?_; rintro _ w2 ⟨rfl, l2, k2⟩))
      | fail)
    obtain ⟨s9, hs9⟩ : ∃ s9, s9 = (Dsk.write s nm nn d).1 := ⟨_, rfl⟩
    rw [← hs9] at l2
    have L2 := Lib.hid l2
    have K2 := Lib.hid k2
    have HS9 := Lib.hid hs9
    have HV2 : Hid (Var w2 bx 47 [.int .i64 1, .string (strB nm), .string (strB tt), .int .i64 nn, .slice dA dn dc, .slice cA cn cc, .bool onb]) := Lib.hid ((k2.2 bx (.inl (.inr rfl))).trans HVP.out)
    have HR2 : Hid (Row w2 wx.heap.size 1 (.slice (some ⟨gp, op, none⟩) (dn + 2) cp) (dn + 2) (bytesV (d ++ [201, 202]))) := Lib.hid (HRP.out.block_eq (fun b hb => k2.2 b (.inr (by simpa [Value.ownBlock] using hb.symm))))
    obtain ⟨_, _, er, _, _, _, hrd2⟩ := HR2.out.form
    injection er with er xa1 xa2
    subst er
    clear xa1 xa2
    have CK := Lib.hid (dkept_any gp op dn cp dA dc d w2 hcp hrd2 (L2.out.firstRd HIN.out.drd) (fun e => (HIN.out.dnil e).1) (by omega))
    have HKE : Hid (Kept O W w2) := Lib.hid ((k2.less (O := O) (fun b hb => .inl (.inl hb))).from (HBX.out.trans (HB1.out.mono HBX.out.size)) HLT.out (fun b hb => hb))
    clear x1 x3 l2 k2 hs9 hrd2
    have x4 := HV2.out.cell (j := 4) rfl
    go_upto_region 8 with (first
      | (go_at_call 49; go_must (refine CK.out.mono ?_; rintro _ _ ⟨rfl, rfl⟩))
      | fail)
    go_wp2
    go_loopw [9] (fun kk wr => ∃ (i : Nat) (xs : List Value), i ≤ dn ∧ kk = .int .i64 i ∧ xs.length = dn + 2 ∧ (∀ j, j < dn + 2 → ∃ z : Int, xs[j]? = some (.int .u8 z)) ∧ Row wr wx.heap.size 1 (.slice (some ⟨gp, op, none⟩) (dn + 2) cp) (dn + 2) xs ∧ Live w0 (fun b => (O b ∨ b = bx) ∨ b = gp) wr db s9 (T + 1) ∧ Kept O W wr) (fun kk _ => dn - (intOf kk).toNat)
    case atStart => exact ⟨0, _, Nat.zero_le _, rfl, by rw [bytesV_len, List.length_append, HDL.out]; rfl, (fun j hj => ⟨_, by unfold bytesV; rw [List.getElem?_map, List.getElem?_eq_getElem (by rw [List.length_append, HDL.out]; exact hj)]; rfl⟩), HR2.out, L2.out, HKE.out⟩
    case round =>
      obtain ⟨i, xs, hi, rfl, hxl, hxz, hrow, hlv, hke⟩ := hrel
      have HXL := Lib.hid hxl
      have HXZ := Lib.hid hxz
      have HRW := Lib.hid hrow
      have LV := Lib.hid hlv
      have KE := Lib.hid hke
      clear hlv hke
      obtain ⟨wo, rfl⟩ : ∃ wo : World, wo = wr := ⟨_, rfl⟩
      by_cases hlt : i < dn
      · have hlti : (i : Int) < (dn : Int) := by omega
        obtain ⟨z, hz⟩ := hxz i (by omega)
        obtain ⟨g', o', e, hgw, hgl, hcell, hfr⟩ := hrow.own (by omega)
        injection e with e
        injection e with ea eb _
        subst ea eb
        have d1 := hcell i _ hz
        have f1 := hfr i (by omega)
        clear hxl hxz hrow hcell hfr hz hgw hgl
        go_wp2
        have hset := HRW.out.set (j := i) (u := .int .u8 (IntKind.u8.wrap (z + 91))) (by rw [HXL.out]; omega)
        have hcg : Chg (fun k => k = gp) wo (wo.setCell ⟨gp, op + i, none⟩ (.int .u8 (IntKind.u8.wrap (z + 91)))) := (Chg.refl (fun k => k = gp) wo).setCell (p := ⟨gp, op + i, none⟩) (fun _ => rfl) _
        go_roundw
        case rel => exact ⟨i + 1, _, by omega, by go_num, by rw [List.length_set]; exact HXL.out, (fun j hj => by
            by_cases hji : i = j
            · subst hji
              exact ⟨_, by rw [List.getElem?_set_self (by rw [HXL.out]; exact hj)]⟩
            · rw [List.getElem?_set_ne hji]; exact HXZ.out j hj), hset, LV.out.wrote hcg (fun b _ e => ⟨.inr e, by subst e; have := HGP.out; have := HBX.out.size; have := HW0.out; have := HBE.out; omega⟩), KE.out.chg hcg (fun b hb e => by subst e; have := HLT.out _ hb; have := HGP.out; have := HBX.out.size; omega) HLT.out⟩
        case measure => simp [intOf]; omega
      · obtain rfl : i = dn := by omega
        have hnlt : ¬ (i : Int) < (i : Int) := by omega
        clear hxl hxz hrow
        go_wp2
        go_ret2
        refine ⟨rfl, ?_, KE.out⟩
        have e : (step s ⟨1, nm, tt, nn, dA, i, dc, d, cA, cn, cc, cs, onb⟩).1 = s9 := HS9.out.symm
        rw [e]
        exact LV.out.less (fun b hb => .inl (.inl hb))
  have n1 : (kd == 1) = false := by rw [beq_eq_false_iff_ne]; exact e1
  by_cases e2 : kd = 2
  · subst e2
    have CC := Lib.hid (lcut LX.out hT nm h1 nn)
    clear x0
    have x0 := HVX.out.cell (j := 0) rfl
    go_wp2_with (first
      | (go_at_call 22; go_must (refine CC.out.mono ?_; rintro _ w1 ⟨rfl, l1, k1⟩))
      | fail)
    go_ret2
    exact ⟨rfl, l1.less (fun b hb => .inl hb), k1.from HBX.out HLT.out (fun b hb => .inl hb)⟩
  have n2 : (kd == 2) = false := by rw [beq_eq_false_iff_ne]; exact e2
  by_cases e3 : kd = 3
  · subst e3
    have CC := Lib.hid (lsync LX.out hT nm h1)
    clear x0
    have x0 := HVX.out.cell (j := 0) rfl
    go_wp2_with (first
      | (go_at_call 12; go_must (refine CC.out.mono ?_; rintro _ w1 ⟨rfl, l1, k1⟩))
      | fail)
    go_ret2
    exact ⟨rfl, l1.less (fun b hb => .inl hb), k1.from HBX.out HLT.out (fun b hb => .inl hb)⟩
  have n3 : (kd == 3) = false := by rw [beq_eq_false_iff_ne]; exact e3
  by_cases e4 : kd = 4
  · subst e4
    have CC := Lib.hid (lrename LX.out hT nm tt h1 h2)
    clear x0
    have x0 := HVX.out.cell (j := 0) rfl
    go_wp2_with (first
      | (go_at_call 17; go_must (refine CC.out.mono ?_; rintro _ w1 ⟨rfl, l1, k1⟩))
      | fail)
    go_ret2
    exact ⟨rfl, l1.less (fun b hb => .inl hb), k1.from HBX.out HLT.out (fun b hb => .inl hb)⟩
  have n4 : (kd == 4) = false := by rw [beq_eq_false_iff_ne]; exact e4
  by_cases e5 : kd = 5
  · subst e5
    have CC := Lib.hid (lremove LX.out hT nm h1)
    clear x0
    have x0 := HVX.out.cell (j := 0) rfl
    go_wp2_with (first
      | (go_at_call 50; go_must (refine CC.out.mono ?_; rintro _ w1 ⟨rfl, l1, k1⟩))
      | fail)
    go_ret2
    exact ⟨rfl, l1.less (fun b hb => .inl hb), k1.from HBX.out HLT.out (fun b hb => .inl hb)⟩
  have n5 : (kd == 5) = false := by rw [beq_eq_false_iff_ne]; exact e5
  by_cases e6 : kd = 6
  · subst e6
    have CC := Lib.hid (lsyncDir LX.out hT)
    clear x0
    have x0 := HVX.out.cell (j := 0) rfl
    go_wp2_with (first
      | (go_at_call 13; go_must (refine CC.out.mono ?_; rintro _ w1 ⟨rfl, l1, k1⟩))
      | fail)
    go_ret2
    exact ⟨rfl, l1.less (fun b hb => .inl hb), k1.from HBX.out HLT.out (fun b hb => .inl hb)⟩
  have n6 : (kd == 6) = false := by rw [beq_eq_false_iff_ne]; exact e6
  by_cases e7 : kd = 7
  · subst e7
    have HCL := Lib.hid (show cs.length = cn by have := HIN.out.crd.1; rw [intsV_len] at this; dsimp only at this; omega)
    have CI := Lib.hid (dints_any cA cn cc cs wx (fun e => (HIN.out.cnil e).1) (LX.out.firstRd HIN.out.crd) (by omega))
    clear x0
    have x0 := HVX.out.cell (j := 0) rfl
    go_upto_region 26 with (first
      | (go_at_call 15; go_must (refine CI.out.mono ?_; rintro _ w1 ⟨gp, op, cp, rfl, hg1, hg2, hcp, hcm, hr1, hb1⟩))
      | fail)
    have LP := Lib.hid (LX.out.own (O' := fun b => (O b ∨ b = bx) ∨ b = gp) hb1 (fun b e => e.imp id (fun e => by subst e; exact ⟨hg1, hg2⟩)))
    have HVP := Lib.hid (HVX.out.below_all hb1)
    have HRP := Lib.hid hr1
    have HGP := Lib.hid (show wx.heap.size ≤ gp from hg1)
    have HB1 := Lib.hid hb1
    have CW := Lib.hid (lcrash LP.out hT (c := cp) (cs := cs) (ints_rd HCL.out hr1) (by omega) (by omega) (fun _ g o e => by injection e with e; injection e with e _ _; exact .inr e.symm))
    clear x0 x1 x2 x3 x4 x5 hg1 hg2 hcm hr1 hb1
    have x0 := HVP.out.cell (j := 0) rfl
    have x3 := HVP.out.cell (j := 3) rfl
    go_upto_region 29 with (first
      | (go_at_call 18; go_must (refine CW.out.mono ?_; rintro _ w2 ⟨rfl, l2, k2⟩))
      | fail)
    obtain ⟨s9, hs9⟩ : ∃ s9, s9 = Dsk.crash s cs := ⟨_, rfl⟩
    rw [← hs9] at l2
    have L2 := Lib.hid (l2.more (T' := T + 1) (by omega))
    have K2 := Lib.hid k2
    have HS9 := Lib.hid hs9
    have HV2 : Hid (Var w2 bx 47 [.int .i64 7, .string (strB nm), .string (strB tt), .int .i64 nn, .slice dA dn dc, .slice cA cn cc, .bool onb]) := Lib.hid ((k2.2 bx (.inl (.inr rfl))).trans HVP.out)
    have HR2 : Hid (Row w2 wx.heap.size 1 (.slice (some ⟨gp, op, none⟩) (cn + 1) cp) (cn + 1) (intsV (cs ++ [-77]))) := Lib.hid (HRP.out.block_eq (fun b hb => k2.2 b (.inr (by simpa [Value.ownBlock] using hb.symm))))
    obtain ⟨_, _, er, _, _, _, hrd2⟩ := HR2.out.form
    injection er with er xa1 xa2
    subst er
    clear xa1 xa2
    have CK := Lib.hid (dstay_any gp op cn cp cA cc cs w2 hcp hrd2 (L2.out.firstRd HIN.out.crd) (by omega))
    have HKE : Hid (Kept O W w2) := Lib.hid ((k2.less (O := O) (fun b hb => .inl (.inl hb))).from (HBX.out.trans (HB1.out.mono HBX.out.size)) HLT.out (fun b hb => hb))
    clear x0 x3 l2 k2 hs9 hrd2
    have x5 := HV2.out.cell (j := 5) rfl
    go_upto_region 30 with (first
      | (go_at_call 51; go_must (refine CK.out.mono ?_; rintro _ w3 ⟨rfl, hb3⟩))
      | fail)
    have L3 := Lib.hid (L2.out.grow hb3)
    have HR3 := Lib.hid (HR2.out.below_all hb3)
    have KE3 := Lib.hid (HKE.out.past hb3 HLT.out)
    clear hb3 x5
    go_wp2
    go_loopw [12] (fun kk wr => ∃ (i : Nat) (xs : List Value), i ≤ cn ∧ kk = .int .i64 i ∧ xs.length = cn + 1 ∧ (∀ j, j < cn + 1 → ∃ z : Int, xs[j]? = some (.int .i64 z)) ∧ Row wr wx.heap.size 1 (.slice (some ⟨gp, op, none⟩) (cn + 1) cp) (cn + 1) xs ∧ Live w0 (fun b => (O b ∨ b = bx) ∨ b = gp) wr db s9 (T + 1) ∧ Kept O W wr) (fun kk _ => cn - (intOf kk).toNat)
    case atStart => exact ⟨0, _, Nat.zero_le _, rfl, by rw [intsV_len, List.length_append, HCL.out]; rfl, (fun j hj => ⟨_, intsV_get (by rw [List.length_append, HCL.out]; exact hj)⟩), HR3.out, L3.out, KE3.out⟩
    case round =>
      obtain ⟨i, xs, hi, rfl, hxl, hxz, hrow, hlv, hke⟩ := hrel
      have HXL := Lib.hid hxl
      have HXZ := Lib.hid hxz
      have HRW := Lib.hid hrow
      have LV := Lib.hid hlv
      have KE := Lib.hid hke
      clear hlv hke
      obtain ⟨wo, rfl⟩ : ∃ wo : World, wo = wr := ⟨_, rfl⟩
      by_cases hlt : i < cn
      · have hlti : (i : Int) < (cn : Int) := by omega
        obtain ⟨z, hz⟩ := hxz i (by omega)
        obtain ⟨g', o', e, hgw, hgl, hcell, hfr⟩ := hrow.own (by omega)
        injection e with e
        injection e with ea eb _
        subst ea eb
        have d1 := hcell i _ hz
        have f1 := hfr i (by omega)
        clear hxl hxz hrow hcell hfr hz hgw hgl
        go_wp2
        have hset := HRW.out.set (j := i) (u := .int .i64 (wrap64 (z + 91))) (by rw [HXL.out]; omega)
        have hcg : Chg (fun k => k = gp) wo (wo.setCell ⟨gp, op + i, none⟩ (.int .i64 (wrap64 (z + 91)))) := (Chg.refl (fun k => k = gp) wo).setCell (p := ⟨gp, op + i, none⟩) (fun _ => rfl) _
        go_roundw
        case rel => exact ⟨i + 1, _, by omega, by go_num, by rw [List.length_set]; exact HXL.out, (fun j hj => by
            by_cases hji : i = j
            · subst hji
              exact ⟨_, by rw [List.getElem?_set_self (by rw [HXL.out]; exact hj)]⟩
            · rw [List.getElem?_set_ne hji]; exact HXZ.out j hj), hset, LV.out.wrote hcg (fun b _ e => ⟨.inr e, by subst e; have := HGP.out; have := HBX.out.size; have := HW0.out; have := HBE.out; omega⟩), KE.out.chg hcg (fun b hb e => by subst e; have := HLT.out _ hb; have := HGP.out; have := HBX.out.size; omega) HLT.out⟩
        case measure => simp [intOf]; omega
      · obtain rfl : i = cn := by omega
        have hnlt : ¬ (i : Int) < (i : Int) := by omega
        clear hxl hxz hrow
        go_wp2
        go_ret2
        refine ⟨rfl, ?_, KE.out⟩
        have e : (step s ⟨7, nm, tt, nn, dA, dn, dc, d, cA, i, cc, cs, onb⟩).1 = s9 := HS9.out.symm
        rw [e]
        exact LV.out.less (fun b hb => .inl (.inl hb))
  have n7 : (kd == 7) = false := by rw [beq_eq_false_iff_ne]; exact e7
  by_cases e8 : kd = 8
  · subst e8
    have HCL := Lib.hid (show cs.length = cn by have := HIN.out.crd.1; rw [intsV_len] at this; dsimp only at this; omega)
    have CI := Lib.hid (dints_any cA cn cc cs wx (fun e => (HIN.out.cnil e).1) (LX.out.firstRd HIN.out.crd) (by omega))
    clear x0
    have x0 := HVX.out.cell (j := 0) rfl
    go_upto_region 26 with (first
      | (go_at_call 15; go_must (refine CI.out.mono ?_; rintro _ w1 ⟨gp, op, cp, rfl, hg1, hg2, hcp, hcm, hr1, hb1⟩))
      | fail)
    have LP := Lib.hid (LX.out.own (O' := fun b => (O b ∨ b = bx) ∨ b = gp) hb1 (fun b e => e.imp id (fun e => by subst e; exact ⟨hg1, hg2⟩)))
    have HVP := Lib.hid (HVX.out.below_all hb1)
    have HRP := Lib.hid hr1
    have HGP := Lib.hid (show wx.heap.size ≤ gp from hg1)
    have HB1 := Lib.hid hb1
    have CW := Lib.hid (larm LP.out nn HIN.out.nwf.2 (c := cp) (cs := cs) (fun e => by cases e) (ints_rd HCL.out hr1) (by omega))
    clear x0 x1 x2 x3 x4 x5 hg1 hg2 hcm hr1 hb1
    have x0 := HVP.out.cell (j := 0) rfl
    have x3 := HVP.out.cell (j := 3) rfl
    go_upto_region 29 with (first
      | (go_at_call 14; go_must (refine CW.out.mono ?_; rintro _ w2 ⟨rfl, l2, k2⟩))
      | fail)
    obtain ⟨s9, hs9⟩ : ∃ s9, s9 = Dsk.armed s nn cs := ⟨_, rfl⟩
    rw [← hs9] at l2
    have L2 := Lib.hid (l2.more (T' := T + 1) (by omega))
    have K2 := Lib.hid k2
    have HS9 := Lib.hid hs9
    have HV2 : Hid (Var w2 bx 47 [.int .i64 8, .string (strB nm), .string (strB tt), .int .i64 nn, .slice dA dn dc, .slice cA cn cc, .bool onb]) := Lib.hid ((k2.2 bx (.inl (.inr rfl))).trans HVP.out)
    have HR2 : Hid (Row w2 wx.heap.size 1 (.slice (some ⟨gp, op, none⟩) (cn + 1) cp) (cn + 1) (intsV (cs ++ [-77]))) := Lib.hid (HRP.out.block_eq (fun b hb => k2.2 b (.inr (by simpa [Value.ownBlock] using hb.symm))))
    obtain ⟨_, _, er, _, _, _, hrd2⟩ := HR2.out.form
    injection er with er xa1 xa2
    subst er
    clear xa1 xa2
    have CK := Lib.hid (dstay_any gp op cn cp cA cc cs w2 hcp hrd2 (L2.out.firstRd HIN.out.crd) (by omega))
    have HKE : Hid (Kept O W w2) := Lib.hid ((k2.less (O := O) (fun b hb => .inl (.inl hb))).from (HBX.out.trans (HB1.out.mono HBX.out.size)) HLT.out (fun b hb => hb))
    clear x0 x3 l2 k2 hs9 hrd2
    have x5 := HV2.out.cell (j := 5) rfl
    go_upto_region 30 with (first
      | (go_at_call 51; go_must (refine CK.out.mono ?_; rintro _ w3 ⟨rfl, hb3⟩))
      | fail)
    have L3 := Lib.hid (L2.out.grow hb3)
    have HR3 := Lib.hid (HR2.out.below_all hb3)
    have KE3 := Lib.hid (HKE.out.past hb3 HLT.out)
    clear hb3 x5
    go_wp2
    go_loopw [12] (fun kk wr => ∃ (i : Nat) (xs : List Value), i ≤ cn ∧ kk = .int .i64 i ∧ xs.length = cn + 1 ∧ (∀ j, j < cn + 1 → ∃ z : Int, xs[j]? = some (.int .i64 z)) ∧ Row wr wx.heap.size 1 (.slice (some ⟨gp, op, none⟩) (cn + 1) cp) (cn + 1) xs ∧ Live w0 (fun b => (O b ∨ b = bx) ∨ b = gp) wr db s9 (T + 1) ∧ Kept O W wr) (fun kk _ => cn - (intOf kk).toNat)
    case atStart => exact ⟨0, _, Nat.zero_le _, rfl, by rw [intsV_len, List.length_append, HCL.out]; rfl, (fun j hj => ⟨_, intsV_get (by rw [List.length_append, HCL.out]; exact hj)⟩), HR3.out, L3.out, KE3.out⟩
    case round =>
      obtain ⟨i, xs, hi, rfl, hxl, hxz, hrow, hlv, hke⟩ := hrel
      have HXL := Lib.hid hxl
      have HXZ := Lib.hid hxz
      have HRW := Lib.hid hrow
      have LV := Lib.hid hlv
      have KE := Lib.hid hke
      clear hlv hke
      obtain ⟨wo, rfl⟩ : ∃ wo : World, wo = wr := ⟨_, rfl⟩
      by_cases hlt : i < cn
      · have hlti : (i : Int) < (cn : Int) := by omega
        obtain ⟨z, hz⟩ := hxz i (by omega)
        obtain ⟨g', o', e, hgw, hgl, hcell, hfr⟩ := hrow.own (by omega)
        injection e with e
        injection e with ea eb _
        subst ea eb
        have d1 := hcell i _ hz
        have f1 := hfr i (by omega)
        clear hxl hxz hrow hcell hfr hz hgw hgl
        go_wp2
        have hset := HRW.out.set (j := i) (u := .int .i64 (wrap64 (z + 91))) (by rw [HXL.out]; omega)
        have hcg : Chg (fun k => k = gp) wo (wo.setCell ⟨gp, op + i, none⟩ (.int .i64 (wrap64 (z + 91)))) := (Chg.refl (fun k => k = gp) wo).setCell (p := ⟨gp, op + i, none⟩) (fun _ => rfl) _
        go_roundw
        case rel => exact ⟨i + 1, _, by omega, by go_num, by rw [List.length_set]; exact HXL.out, (fun j hj => by
            by_cases hji : i = j
            · subst hji
              exact ⟨_, by rw [List.getElem?_set_self (by rw [HXL.out]; exact hj)]⟩
            · rw [List.getElem?_set_ne hji]; exact HXZ.out j hj), hset, LV.out.wrote hcg (fun b _ e => ⟨.inr e, by subst e; have := HGP.out; have := HBX.out.size; have := HW0.out; have := HBE.out; omega⟩), KE.out.chg hcg (fun b hb e => by subst e; have := HLT.out _ hb; have := HGP.out; have := HBX.out.size; omega) HLT.out⟩
        case measure => simp [intOf]; omega
      · obtain rfl : i = cn := by omega
        have hnlt : ¬ (i : Int) < (i : Int) := by omega
        clear hxl hxz hrow
        go_wp2
        go_ret2
        refine ⟨rfl, ?_, KE.out⟩
        have e : (step s ⟨8, nm, tt, nn, dA, dn, dc, d, cA, i, cc, cs, onb⟩).1 = s9 := HS9.out.symm
        rw [e]
        exact LV.out.less (fun b hb => .inl (.inl hb))
  have n8 : (kd == 8) = false := by rw [beq_eq_false_iff_ne]; exact e8
  by_cases e9 : kd = 9
  · subst e9
    have CC := Lib.hid (lup LX.out)
    clear x0
    have x0 := HVX.out.cell (j := 0) rfl
    go_wp2_with (first
      | (go_at_call 20; go_must (refine CC.out.mono ?_; rintro _ w1 ⟨rfl, l1, k1⟩))
      | fail)
    go_ret2
    exact ⟨rfl, (l1.less (fun b hb => .inl hb)).more (by omega), k1.from HBX.out HLT.out (fun b hb => .inl hb)⟩
  have n9 : (kd == 9) = false := by rw [beq_eq_false_iff_ne]; exact e9
  have es : step s ⟨kd, nm, tt, nn, dA, dn, dc, d, cA, cn, cc, cs, onb⟩ = (s, 0) := by
    unfold step
    dsimp only
    rw [if_neg e0, if_neg e1, if_neg e2, if_neg e3, if_neg e4, if_neg e5, if_neg e6, if_neg e7, if_neg e8, if_neg e9]
  have HES := Lib.hid es
  clear es
  go_wp2
  go_ret2
  rw [HES.out]
  exact ⟨rfl, (LX.out.less (fun b hb => .inl hb)).more (by omega), (Kept.refl (fun b => O b ∨ b = bx) wx).from HBX.out HLT.out (fun b hb => .inl hb)⟩
end Go.Proofs.Ythgeppdoonbkpaa
