/- The law DiskBegins, walked. Conditions: sizes. -/
import Derived.Test.YthgeppdoonbkpaaDskAw
import Derived.Test.YthgeppdoonbkpaaDskPw
import Derived.Test.YthgeppdoonbkpaaDskBs
import Derived.Test.YthgeppdoonbkpaaDskOv
namespace Go.Proofs.Ythgeppdoonbkpaa
open Go.RowKit
theorem infoOp3 : (Try.prog.info? 47).map (fun i => (i.zero, i.size, i.bytes)) = some (some (.agg #[.int .i64 0, .string ⟨#[]⟩, .string ⟨#[]⟩, .int .i64 0, .slice none 0 0, .slice none 0 0, .bool false]), 7, 104) := by kernel_rfl
theorem nil_rowB (W : World) (base : Nat) (hb : base ≤ W.heap.size) : RowB (W.alloc (.cells #[] 5)) base (.slice (some ⟨W.heap.size, 0, none⟩) 0 0) [] := by
  refine ⟨by simp [bytesV], .inr ⟨W.heap.size, 0, 0, #[], 5, (0, 0), rfl, hb, heap_alloc_new W _, Nat.le_refl _, Nat.zero_le _, by simp, by intro j h1 h2; omega, by simp [bytesV]⟩⟩
set_option maxHeartbeats 4000000 in
set_option maxRecDepth 100000 in
theorem dbegins_any (A0 : Option Addr) (n0 c0 : Nat) (Old : Bs) (A1 : Option Addr) (n1 c1 : Nat) (os : List OpV) (kp tn : Int) (w : World)
    (h0 : A0 = none → n0 = 0 ∧ c0 = 0) (r0 : Rd w w.heap.size 1 A0 n0 (bytesV Old)) (h1 : A1 = none → n1 = 0 ∧ c1 = 0) (r1 : OpsIn w A1 n1 os) :
    Calls Try.prog 4 #[.agg #[.slice A0 n0 c0, .slice A1 n1 c1, .int .i64 kp, .int .i64 tn]] w fun e w' => e = .returned (.bool true) ∧ Below w.heap.size w w' := by
  have l0 : Old.length = n0 := by have := r0.1; rw [bytesV_len] at this; omega
  obtain ⟨wx, hwx⟩ : ∃ wx, wx = w.alloc (.cells #[.slice A0 n0 c0, .slice A1 n1 c1, .int .i64 kp, .int .i64 tn] 44) := ⟨_, rfl⟩
  have hbx : Below w.heap.size w wx := by rw [hwx]; exact (Below.refl _ _).alloc (Nat.le_refl _) _
  have hvx : Var wx w.heap.size 44 [.slice A0 n0 c0, .slice A1 n1 c1, .int .i64 kp, .int .i64 tn] := by rw [hwx]; exact Var.new _ _ _
  have HBX := Lib.hid hbx
  have R0 := Lib.hid ((r0.below hbx).more hbx.size)
  have R1 := Lib.hid (r1.below hbx)
  have HVX := Lib.hid hvx
  have HL0 := Lib.hid l0
  have HWX := Lib.hid hwx
  have P0 := Lib.hid h0
  have P1 := Lib.hid h1
  have p0 := hvx.cell (j := 0) rfl
  have p1 := hvx.cell (j := 1) rfl
  have p2 := hvx.cell (j := 2) rfl
  have p3 := hvx.cell (j := 3) rfl
  have HAW := Lib.hid (dawake_any wx)
  clear h0 r0 h1 r1 l0 hbx hvx
  go_enter Try.func4, Try.ntmps4
  go_upto_region 1 with (fail)
  rw [← hwx]
  clear hwx
  go_upto_region 3 with (first
    | (go_at_call 7; go_must (refine HAW.out.mono ?_; rintro _ wa ⟨rfl, ba⟩; have BA := Lib.hid ba))
    | fail)
  have q0 := (BA.out.cell (p := ⟨w.heap.size, 0, none⟩) (cell_lt p0)).trans p0
  have q1 := (BA.out.cell (p := ⟨w.heap.size, 1, none⟩) (cell_lt p1)).trans p1
  have q2 := (BA.out.cell (p := ⟨w.heap.size, 2, none⟩) (cell_lt p2)).trans p2
  have q3 := (BA.out.cell (p := ⟨w.heap.size, 3, none⟩) (cell_lt p3)).trans p3
  by_cases g0 : 4096 < n0
  · have g0i : (4096 : Int) < (n0 : Int) := by omega
    clear ba
    go_wp2
    go_ret
    exact ⟨rfl, HBX.out.trans (BA.out.mono HBX.out.size)⟩
  by_cases g1 : 40 < n1
  · have g1i : (40 : Int) < (n1 : Int) := by omega
    have g0i : ¬ (4096 : Int) < (n0 : Int) := by omega
    clear ba
    go_wp2
    go_ret
    exact ⟨rfl, HBX.out.trans (BA.out.mono HBX.out.size)⟩
  have g0i : ¬ (4096 : Int) < (n0 : Int) := by omega
  have g1i : ¬ (40 : Int) < (n1 : Int) := by omega
  have HBS := Lib.hid (Dsk.beg_start Old (by rw [HL0.out]; omega))
  have HN := Lib.hid (lnew wx wa (fun _ => False) BA.out (fun b h => h.elim) 1048576 (by omega))
  clear ba
  go_upto_region 10 with (first
    | (go_at_call 8; go_must (refine HN.out.mono ?_; rintro _ wn ⟨db, rfl, l0, _⟩; have LN := Lib.hid l0; clear l0))
    | fail)
  have C1 : Hid (Calls Try.prog 9 #[.pointer (some ⟨db, 0, none⟩), .string ⟨#[102]⟩] wn fun e w' => e = .returned (.int .i64 ((Dsk.create (Dsk.new 1048576) Dsk.nF).2 : Nat)) ∧ Live wx (fun _ => False) w' db (Dsk.create (Dsk.new 1048576) Dsk.nF).1 1 ∧ Kept (fun _ => False) wn w') := Lib.hid (lcreate LN.out (by omega) Dsk.nF (by decide))
  clear q0 q1 q2 q3
  go_upto_region 11 with (first
    | (go_at_call 9; go_must (refine C1.out.mono ?_; rintro _ w1 ⟨rfl, l1, _⟩; have L1 := Lib.hid l1; clear l1))
    | fail)
  have CL := Lib.hid (dlent_any A0 n0 c0 Old w1 (fun e => (P0.out e).1) (L1.out.firstRd R0.out) (by omega))
  go_upto_region 13 with (first
    | (go_at_call 11; go_must (refine CL.out.mono ?_; rintro _ w2 ⟨g2, o2, c2, rfl, _, _, _, _, hr2, hb2⟩; have CW : Hid (Calls Try.prog 10 #[.pointer (some ⟨db, 0, none⟩), .string ⟨#[102]⟩, .int .i64 0, .slice (some ⟨g2, o2, none⟩) n0 c2] w2 fun e w' => e = .returned (.int .i64 0) ∧ Live wx (fun _ => False) w' db (Dsk.write (Dsk.create (Dsk.new 1048576) Dsk.nF).1 Dsk.nF 0 Old).1 2 ∧ Kept (fun _ => False) w2 w') := Lib.hid (by have h := lwrite (L1.out.grow hb2) (by omega) Dsk.nF (by decide) 0 (c := c2) (p := Old) (fun e => by cases e) (lent_rd HL0.out hr2) (by omega); rw [HBS.out.1] at h; exact h); clear hr2 hb2))
    | (go_at_call 10; go_must (refine CW.out.mono ?_; rintro _ w3 ⟨rfl, l3, _⟩; have L3 := Lib.hid l3; clear l3; have CS : Hid (Calls Try.prog 12 #[.pointer (some ⟨db, 0, none⟩), .string ⟨#[102]⟩] w3 fun e w' => e = .returned (.int .i64 0) ∧ Live wx (fun _ => False) w' db (Dsk.sync (Dsk.write (Dsk.create (Dsk.new 1048576) Dsk.nF).1 Dsk.nF 0 Old).1 Dsk.nF).1 3 ∧ Kept (fun _ => False) w3 w') := Lib.hid (by have h := lsync L3.out (by omega) Dsk.nF (by decide); rw [HBS.out.2.1] at h; exact h)))
    | (go_at_call 12; go_must (refine CS.out.mono ?_; rintro _ w4 ⟨rfl, l4, _⟩; have L4 := Lib.hid l4; clear l4; have CD : Hid (Calls Try.prog 13 #[.pointer (some ⟨db, 0, none⟩)] w4 fun e w' => e = .returned (.int .i64 0) ∧ Live wx (fun _ => False) w' db (Dsk.syncDir (Dsk.sync (Dsk.write (Dsk.create (Dsk.new 1048576) Dsk.nF).1 Dsk.nF 0 Old).1 Dsk.nF).1).1 4 ∧ Kept (fun _ => False) w4 w') := Lib.hid (by have h := lsyncDir L4.out (by omega); rw [HBS.out.2.2.1] at h; exact h)))
    | (go_at_call 13; go_must (refine CD.out.mono ?_; rintro _ w5 ⟨rfl, l5, _⟩; have L5 := Lib.hid l5; clear l5))
    | fail)
  have HSB := Lib.hid (SrcB.slice (c := c0) (B := w5.heap.size) ((L5.out.firstRd R0.out).alloc (Nat.le_refl _) (.cells #[] 5)) (fun e => (P0.out e).1) : SrcB (w5.alloc (.cells #[] 5)) 22 (.slice A0 n0 c0) Old)
  have hoff : Below w5.heap.size w5 (w5.alloc (.cells #[] 5)) := (Below.refl _ _).alloc (Nat.le_refl _) _
  have HOFF := Lib.hid hoff
  clear hoff
  go_upto_region 14 with (first
    | (at_builtin; (refine wpList_appB (v := .slice (some ⟨w5.heap.size, 0, none⟩) 0 0) (L := []) (M := Old) rfl (.tmp 54) (.tmp 55) 22 rfl w5.heap.size rfl (nil_rowB _ _ (Nat.le_refl _)) rfl HSB.out (by rw [HL0.out]; simp; omega) (by simp) ?_); intro v8 w6 hr6 hb6 hg6 ho6)
    | fail)
  rw [List.nil_append] at hr6
  have HR6 := Lib.hid hr6
  have HB6 := Lib.hid (HOFF.out.trans hb6)
  obtain ⟨B8, k8, rfl, _, _, _, _⟩ := RowB.form hr6
  have LA := Lib.hid (L5.out.less (O' := Own (fun _ => none)) (fun b e => absurd rfl e))
  have LB := Lib.hid (LA.out.own (O' := Own (grow (fun _ => none) w5.heap.size w6.heap.size (fun _ => .data))) HB6.out (fun b e => grow_own e HB6.out.size))
  have LO := Lib.hid (fun (b : Nat) (r : Role) (e : grow (fun _ => none) w5.heap.size w6.heap.size (fun _ => .data) b = some r) => grow_old_ge (n := wx.heap.size) (fun b r e => by cases e) L5.out.bel.size b r e)
  have LY := Lib.hid (Byt.made (ρ := grow (fun _ => none) w5.heap.size w6.heap.size (fun _ => .data)) hr6 (fun b h1 h2 => grow_new _ _ h1 h2))
  obtain ⟨own1, hown1⟩ : ∃ own1, own1 = grow (fun _ => none) w5.heap.size w6.heap.size (fun _ => Role.data) := ⟨_, rfl⟩
  rw [← hown1] at LB LO LY
  clear hr6 hb6 hg6 ho6 hown1
  obtain ⟨j0, hj0, jz0, jz1, jz2⟩ := info_parts infoSlB
  obtain ⟨i0, hi0, iz0, iz1, iz2⟩ := info_parts infoOp3
  obtain ⟨nO, hnO⟩ : ∃ nO, nO = Old.length := ⟨_, rfl⟩
  have HNO := Lib.hid hnO
  rw [← hnO]
  have LY2 : Hid (Byt w6 own1 (.slice B8 nO k8) Old) := Lib.hid (by have := LY.out; rw [← hnO] at this; exact this)
  clear hnO
  have hal6 : Below w6.heap.size w6 (w6.alloc (.cells #[.slice B8 nO k8] 22)) := (Below.refl _ _).alloc (Nat.le_refl _) _
  have HAL6 := Lib.hid hal6
  clear hal6
  have hx6 : wx.heap.size ≤ w6.heap.size := LB.out.bel.size
  go_upto_region 17 with (first
    | (at_builtin; (refine wpList_app _ rfl (.tmp 57) (.tmp 59) 45 45 rfl wx.heap.size 22 j0 (.slice none 0 0) 1 24 Try.underlying45 hj0 jz0 jz1 jz2 rfl (.slice none 0 0) 0 [] rfl (Row.nil _ _ _) _ 1 [.slice B8 nO k8] rfl (Src.built [.slice B8 nO k8] 22 Try.underlying45 rfl (by intro u hu; simp at hu; rcases hu with rfl; rfl)) (by omega) (by omega) (by omega) (by simp; omega) ?_); intro v9 w7 hr7 hg7 ho7)
    | fail)
  rw [List.nil_append, Nat.zero_add] at hr7
  have hb7 : Below w6.heap.size w6 w7 := HAL6.out.trans (Below.app (Below.refl _ _) (Row.nil _ w6.heap.size 1) hg7 (Nat.le_refl _) (by simp))
  have HG0 := Lib.hid (BgS.start LB.out LO.out LY2.out hb7 hr7 (fun b e => by
    rcases ho7 with x | x
    · rw [x] at e; simp [Value.ownBlock] at e
    · rw [x] at e; injection e with e; rw [← e]; simp))
  obtain ⟨B9, k9, rfl, _, _, _, _⟩ := Row.form hr7
  clear hr7 hg7 ho7 hb7 hx6
  have HNB := Lib.hid (show (⟨Old, []⟩ : Dsk.Fi).now.length ≤ 4096 * (0 + 1) by show Old.length ≤ _; rw [HL0.out]; omega)
  go_upto_region 18 with (fail)
  go_loopw [8, 9, 10, 11] (fun v8 v9 v10 iv wr => ∃ (i : Nat) (own : Roles) (l : List Dsk.Ch) (ds : List OpV) (s : Dsk.St), i ≤ n1 ∧ l.length ≤ i ∧ iv = .int .i64 (i : Nat) ∧ (⟨Old, l⟩ : Dsk.Fi).now.length ≤ 4096 * (l.length + 1) ∧ Dsk.Beg Old l s ∧ BgS wx wr own db s (i + 4) Old l l v8 v9 v10 ds) (fun _ _ _ iv _ => n1 - (intOf iv).toNat)
  case atStart => exact ⟨0, _, [], [], _, Nat.zero_le _, Nat.le_refl _, rfl, HNB.out, HBS.out.2.2.2, HG0.out⟩
  case round =>
    obtain ⟨i, own, l, ds, s, hi, hli, rfl, hnl, hbeg, hg⟩ := hrel
    obtain ⟨B8', k8', rfl, hk8, hz8, hr8⟩ := hg.form8
    obtain ⟨B9', k9', rfl⟩ := hg.form9
    obtain ⟨B10, k10, rfl⟩ := hg.form10
    obtain ⟨m, hm⟩ : ∃ m, m = (⟨Old, l⟩ : Dsk.Fi).now.length := ⟨_, rfl⟩
    obtain ⟨ll, hll⟩ : ∃ ll, ll = l.length := ⟨_, rfl⟩
    rw [← hm, ← hll] at hg
    rw [← hm] at hk8 hz8 hr8 hnl
    rw [← hll] at hnl hli
    rw [← hm, ← hll]
    have HG := Lib.hid hg
    have HBG := Lib.hid hbeg
    have HM := Lib.hid hm
    have HLL := Lib.hid hll
    have HZ8 := Lib.hid hz8
    have HR8 := Lib.hid hr8
    have c2' := hg.live.first p2
    have c3' := hg.live.first p3
    obtain ⟨wo, rfl⟩ : ∃ wo : World, wo = wr := ⟨_, rfl⟩
    clear hg hbeg hm hll hz8 hr8
    by_cases hlt : i < n1
    · have hlti : (i : Int) < (n1 : Int) := by omega
      obtain ⟨⟨kd, nm, tt, nn, dA, dn, dc, d, cA, cn, cc, cs, onb⟩, g, f, hoi, hin, rfl, hgl, hcell⟩ := R1.out.pick (k := i) hlt
      have HOI := Lib.hid hoi
      have HIN := Lib.hid hin
      have hrange : World.rangeAt wo g (f + i * 7) (opV ⟨kd, nm, tt, nn, dA, dn, dc, d, cA, cn, cc, cs, onb⟩) := fun j u hj => by rw [Nat.add_assoc]; exact HG.out.live.first (hcell j u hj)
      have HRG := Lib.hid hrange
      clear hoi hin hcell hrange
      go_upto_region 21 with (first
        | (refine wpList_load_mid rfl 47 (.tmp 69) rfl g (f + i * 7) rfl _ _ HRG.out Try.underlying47 rfl (by kernel_rfl) ?_)
        | (refine wpList_put rfl 47 (.tmp 12) (.tmp 70) rfl wo.heap.size rfl (Var.new wo 47 [.int .i64 0, .string ⟨#[]⟩, .string ⟨#[]⟩, .int .i64 0, .slice none 0 0, .slice none 0 0, .bool false]) (opV ⟨kd, nm, tt, nn, dA, dn, dc, d, cA, cn, cc, cs, onb⟩) rfl rfl (by kernel_rfl) (by simp [opV, Value.oneCell']) ?_; intro w2 hv2 hg2 hs2)
        | fail)
      have hb2 : Below wo.heap.size wo w2 := ((Below.refl _ _).alloc (Nat.le_refl _) _).grown hg2 (by simp) (fun k e => by injection e with e; omega)
      have HG2 := Lib.hid (HG.out.grow hb2 (fun _ => .arm))
      have HOB : Hid (grow own wo.heap.size w2.heap.size (fun _ => .arm) wo.heap.size = some Role.arm) := Lib.hid (grow_new own (fun _ => .arm) (Nat.le_refl _) hv2.lt)
      obtain ⟨own2, hown2⟩ : ∃ own2, own2 = grow own wo.heap.size w2.heap.size (fun _ => Role.arm) := ⟨_, rfl⟩
      rw [← hown2] at HG2 HOB
      obtain ⟨ob, hob⟩ : ∃ ob, ob = wo.heap.size := ⟨_, rfl⟩
      rw [← hob] at hv2 HOB ⊢
      have HV2 := Lib.hid hv2
      have x0 : w2.cell? ⟨ob, 0, none⟩ = some (.int .i64 kd) := hv2.cell (j := 0) rfl
      have x3 : w2.cell? ⟨ob, 3, none⟩ = some (.int .i64 nn) := hv2.cell (j := 3) rfl
      have x4 : w2.cell? ⟨ob, 4, none⟩ = some (.slice dA dn dc) := hv2.cell (j := 4) rfl
      have cc2 := HG2.out.live.first p2
      have cc3 := HG2.out.live.first p3
      clear hv2 hg2 hs2 hb2 hown2 hob c2' c3' HRG
      by_cases hcc : 4096 < dn ∨ nn < 0 ∨ (m : Int) < nn
      · by_cases hc1 : 4096 < dn
        · have hc1i : (4096 : Int) < (dn : Int) := by omega
          go_wp2
          go_roundw
          case rel => exact ⟨i + 1, own2, l, ds, s, by omega, by rw [← HLL.out]; omega, by go_num, by rw [← HM.out, ← HLL.out]; exact hnl, HBG.out, HG2.out.more (by omega)⟩
          case measure => simp [intOf]; omega
        · have hc1i : ¬ (4096 : Int) < (dn : Int) := by omega
          by_cases hc2 : nn < 0
          · go_wp2
            go_roundw
            case rel => exact ⟨i + 1, own2, l, ds, s, by omega, by rw [← HLL.out]; omega, by go_num, by rw [← HM.out, ← HLL.out]; exact hnl, HBG.out, HG2.out.more (by omega)⟩
            case measure => simp [intOf]; omega
          · have hc3 : (m : Int) < nn := by omega
            go_wp2
            go_roundw
            case rel => exact ⟨i + 1, own2, l, ds, s, by omega, by rw [← HLL.out]; omega, by go_num, by rw [← HM.out, ← HLL.out]; exact hnl, HBG.out, HG2.out.more (by omega)⟩
            case measure => simp [intOf]; omega
      · have hc1i : ¬ (4096 : Int) < (dn : Int) := by omega
        have hc2i : ¬ nn < 0 := by omega
        have hc3i : ¬ (m : Int) < nn := by omega
        obtain ⟨a, rfl⟩ : ∃ a : Nat, nn = (a : Int) := ⟨nn.toNat, by omega⟩
        have ham : a ≤ m := by omega
        clear hcc
        go_upto_if 89 with (fail)
        go_cut [8] from 61 to 126 (fun v wy => ∃ (own3 : Roles) (s3 : Dsk.St) (ch : Dsk.Ch) (kx : Int), BgS wx wy own3 db s3 (i + 5) Old l l (.slice B8' m k8') (.slice B9' (ll + 1) k9') (.slice B10 ll k10) ds ∧ Byt wy own3 v (⟨Old, l ++ [ch]⟩ : Dsk.Fi).now ∧ Dsk.Beg Old (l ++ [ch]) s3 ∧ OpC ch ⟨kx, nm, tt, (a : Int), dA, dn, dc, d, cA, cn, cc, cs, onb⟩ ∧ Var wy ob 47 (opV ⟨kx, nm, tt, (a : Int), dA, dn, dc, d, cA, cn, cc, cs, onb⟩) ∧ (⟨Old, l ++ [ch]⟩ : Dsk.Fi).now.length ≤ 4096 * (ll + 1 + 1))
        case first =>
          by_cases hkd : kd = 2
          · subst hkd
            obtain ⟨e9, s9, hs9⟩ : ∃ e9 s9, Dsk.cut s Dsk.nF (a : Int) = (s9, e9) := ⟨_, _, rfl⟩
            have hcu := Dsk.beg_cut HBG.out (a := a) (by rw [← HM.out]; exact ham)
            rw [hs9] at hcu
            have CCT : Hid (Calls Try.prog 22 #[.pointer (some ⟨db, 0, none⟩), .string ⟨#[102]⟩, .int .i64 (a : Int)] w2 fun e w' => e = .returned (.int .i64 0) ∧ Live wx (Own own2) w' db s9 (i + 4 + 1) ∧ Kept (Own own2) w2 w') := Lib.hid (by have h := lcut HG2.out.live (by omega) Dsk.nF (by decide) (a : Int); rw [hs9, hcu.1] at h; exact h)
            have HCU := Lib.hid hcu.2
            clear hcu hs9
            go_upto_region 25 with (first
              | (go_at_call 22; go_must (refine CCT.out.mono ?_; rintro _ wz ⟨rfl, lz, kz⟩))
              | fail)
            have HG3 := Lib.hid (HG2.out.call lz kz)
            have HV3 := Lib.hid (BgS.var kz HOB.out HV2.out)
            have y3 : wz.cell? ⟨ob, 3, none⟩ = some (.int .i64 (a : Int)) := HV3.out.cell (j := 3) rfl
            have hoff : Below wz.heap.size wz (wz.alloc (.cells #[] 5)) := (Below.refl _ _).alloc (Nat.le_refl _) _
            have y3a : (wz.alloc (.cells #[] 5)).cell? ⟨ob, 3, none⟩ = some (.int .i64 (a : Int)) := (hoff.cell (p := ⟨ob, 3, none⟩) (cell_lt y3)).trans y3
            have hrk : Rd wz wz.heap.size 1 B8' a (bytesV ((⟨Old, l⟩ : Dsk.Fi).now.take a)) := by
              have h := HG3.out.rd8.pre (k := a) ham
              simpa only [Nat.mul_one, bytesV_take] using h
            have HSK := Lib.hid (SrcB.slice (c := k8') (hrk.keeps hoff) (fun e => by have := (HZ8.out e).1; omega) : SrcB (wz.alloc (.cells #[] 5)) 22 (.slice B8' a k8') ((⟨Old, l⟩ : Dsk.Fi).now.take a))
            have hak : (a : Int) ≤ (k8' : Int) := by omega
            have HOFZ := Lib.hid hoff
            have HLK := Lib.hid (show ((⟨Old, l⟩ : Dsk.Fi).now.take a).length = a by rw [List.length_take, ← HM.out]; omega)
            have hlt40 : ll + 1 ≤ 41 := by omega
            have ham2 : a ≤ 200000 := by omega
            clear lz kz hoff hrk x0 x3 x4
            go_wp2_with (first
              | (at_builtin; (refine wpList_appB (v := .slice (some ⟨wz.heap.size, 0, none⟩) 0 0) (L := []) (M := (⟨Old, l⟩ : Dsk.Fi).now.take a) rfl (.tmp 95) (.tmp 99) 22 rfl wz.heap.size rfl (nil_rowB _ _ (Nat.le_refl _)) rfl HSK.out (by rw [HLK.out]; simp; omega) (by simp) ?_); intro vz wy hrz hbz hgz hoz)
              | fail)
            rw [List.nil_append] at hrz
            have hbzz := HOFZ.out.trans hbz
            have enow : (⟨Old, l ++ [.cut a]⟩ : Dsk.Fi).now = (⟨Old, l⟩ : Dsk.Fi).now.take a := by rw [Dsk.Fi.now_snoc]; rfl
            go_meet
            exact ⟨grow own2 wz.heap.size wy.heap.size (fun _ => .data), s9, .cut a, 2, HG3.out.grow hbzz _, by rw [enow]; exact Byt.made hrz (fun b h1 h2 => grow_new _ _ h1 h2), HCU.out, rfl, HV3.out.below_all hbzz, by have := Dsk.now_len_cut Old l a; rw [← HM.out] at this; omega⟩
          · have hkb : (kd == 2) = false := by rw [beq_eq_false_iff_ne]; exact hkd
            have z0 := HV2.out.frozen 0
            have e3 : (w2.setCell ⟨ob, 0, none⟩ (.int .i64 1)).cell? ⟨ob, 3, none⟩ = some (.int .i64 (a : Int)) := (HV2.out.set 0 (.int .i64 1)).cell (j := 3) rfl
            have e4 : (w2.setCell ⟨ob, 0, none⟩ (.int .i64 1)).cell? ⟨ob, 4, none⟩ = some (.slice dA dn dc) := (HV2.out.set 0 (.int .i64 1)).cell (j := 4) rfl
            go_upto_region 27 with (fail)
            obtain ⟨w3, hw3⟩ : ∃ w3, w3 = w2.setCell ⟨ob, 0, none⟩ (.int .i64 1) := ⟨_, rfl⟩
            rw [← hw3] at e3 e4 ⊢
            have HG3 : Hid (BgS wx w3 own2 db s (i + 4) Old l l (.slice B8' m k8') (.slice B9' (ll + 1) k9') (.slice B10 ll k10) ds) := Lib.hid (by rw [hw3]; exact HG2.out.put HOB.out _)
            have HV3 : Hid (Var w3 ob 47 (opV ⟨1, nm, tt, (a : Int), dA, dn, dc, d, cA, cn, cc, cs, onb⟩)) := Lib.hid (by rw [hw3]; exact HV2.out.set 0 (.int .i64 1))
            clear hw3 x0 x3 x4
            have HIO := Lib.hid ((HIN.out.below HG3.out.live.bel))
            have HDL := Lib.hid (show d.length = dn by have := HIN.out.drd.1; rw [bytesV_len] at this; dsimp only at this; omega)
            have CL5 := Lib.hid (dlent_any dA dn dc d w3.drew (fun e => (HIO.out.dnil e).1) HIO.out.drd (by omega))
            have HKP := Lib.hid (fun (W : World) (hv : Var W ob 47 (opV ⟨1, nm, tt, (a : Int), dA, dn, dc, d, cA, cn, cc, cs, onb⟩)) => (⟨hv.cell (j := 3) rfl, hv.cell (j := 4) rfl⟩ : W.cell? ⟨ob, 3, none⟩ = some (.int .i64 (a : Int)) ∧ W.cell? ⟨ob, 4, none⟩ = some (.slice dA dn dc)))
            obtain ⟨e9, s9, hs9⟩ : ∃ e9 s9, Dsk.write s Dsk.nF (a : Int) d = (s9, e9) := ⟨_, _, rfl⟩
            have hwr := Dsk.beg_write HBG.out (a := a) (d := d) (by rw [← HM.out]; exact ham) (by rw [← HM.out]; omega) (by rw [HDL.out]; omega)
            rw [hs9] at hwr
            have HWR := Lib.hid hwr
            have HS9 := Lib.hid hs9
            clear hwr hs9
            refine wp_region_held_drew (S := (fun w' => w'.cell? ⟨ob, 3, none⟩ = some (.int .i64 (a : Int)) ∧ w'.cell? ⟨ob, 4, none⟩ = some (.slice dA dn dc))) (by as_aux_lemma => kernel_rfl) ?_ (fun hHeld => ?_)
            · exact HKP.out _ HV3.out
            refine wpAnyH_take (i := 0) (v := ?_) (by simp only [List.getElem?_toArray, List.getElem?_cons_zero]; exact rfl) (by as_aux_lemma => kernel_rfl) (by as_aux_lemma => kernel_rfl) (by as_aux_lemma => kernel_rfl) (by exact fun _ _ _ h => h) (Or.inl ⟨by rfl, ?_⟩) (by assumption) ?_
            rotate_left
            · intro w hSw
              (try dsimp only at hSw)
              go_simp
              try with_reducible rfl
            (try simp only [Act.put, List.setIfInBounds_toArray, List.set_cons_zero, List.set_cons_succ])
            refine wpAnyH_take (i := 1) (v := ?_) (by simp only [List.getElem?_toArray, List.getElem?_cons_succ, List.getElem?_cons_zero]; exact rfl) (by as_aux_lemma => kernel_rfl) (by as_aux_lemma => kernel_rfl) (by as_aux_lemma => kernel_rfl) (by exact fun _ _ _ h => h) (Or.inl ⟨by rfl, ?_⟩) (by assumption) ?_
            rotate_left
            · intro w hSw
              (try dsimp only at hSw)
              go_simp
              try with_reducible rfl
            (try simp only [Act.put, List.setIfInBounds_toArray, List.set_cons_zero, List.set_cons_succ])
            refine wpAnyH_take (i := 2) (v := ?_) (by simp only [List.getElem?_toArray, List.getElem?_cons_succ, List.getElem?_cons_zero]; exact rfl) (by as_aux_lemma => kernel_rfl) (by as_aux_lemma => kernel_rfl) (by as_aux_lemma => kernel_rfl) (by exact fun _ _ _ h => h) (Or.inl ⟨by rfl, ?_⟩) (by assumption) ?_
            rotate_left
            · intro w hSw
              (try dsimp only at hSw)
              go_simp
              try with_reducible rfl
            (try simp only [Act.put, List.setIfInBounds_toArray, List.set_cons_zero, List.set_cons_succ])
            refine wpAnyH_take (i := 3) (v := ?_) (by simp only [List.getElem?_toArray, List.getElem?_cons_succ, List.getElem?_cons_zero]; exact rfl) (by as_aux_lemma => kernel_rfl) (by as_aux_lemma => kernel_rfl) (by as_aux_lemma => kernel_rfl) (by exact fun _ _ _ h => h) (Or.inl ⟨by rfl, ?_⟩) (by assumption) ?_
            rotate_left
            · intro w hSw
              (try dsimp only at hSw)
              go_simp
              try with_reducible rfl
            (try simp only [Act.put, List.setIfInBounds_toArray, List.set_cons_zero, List.set_cons_succ])
            refine wpAnyH_take (i := 4) (v := ?_) (by simp only [List.getElem?_toArray, List.getElem?_cons_succ, List.getElem?_cons_zero]; exact rfl) (by as_aux_lemma => kernel_rfl) (by as_aux_lemma => kernel_rfl) (by as_aux_lemma => kernel_rfl) (by exact fun _ _ _ h => h) (Or.inl ⟨by rfl, ?_⟩) (by assumption) ?_
            rotate_left
            · intro w hSw
              (try dsimp only at hSw)
              go_simp
              try with_reducible rfl
            (try simp only [Act.put, List.setIfInBounds_toArray, List.set_cons_zero, List.set_cons_succ])
            refine wpAnyH_ready (rs := [5]) (by as_aux_lemma => kernel_rfl) (by simp) ?_
            refine AllReadyH.cons (by simp only [List.getElem?_toArray, List.getElem?_cons_succ, List.getElem?_cons_zero]; exact rfl) (fun K hK => ?_) AllReadyH.nil
            go_simp
            (go_at_call 11; refine CL5.out.mono ?_; rintro _ w4 ⟨gx, ox, cx, rfl, _, _, _, _, hrx, hbx'⟩)
            refine hK.out _ _ ?_ (fun hHeld => ?_)
            · (try dsimp only)
              exact HKP.out _ (HV3.out.below_all (Below.of_drew hbx'))
            clear hK K
            (try simp only [Act.put, List.setIfInBounds_toArray, List.set_cons_zero, List.set_cons_succ])
            have HG4 := Lib.hid (HG3.out.past (Below.of_drew hbx'))
            have HV4 := Lib.hid (HV3.out.below_all (Below.of_drew hbx'))
            have CW5 : Hid (Calls Try.prog 10 #[.pointer (some ⟨db, 0, none⟩), .string ⟨#[102]⟩, .int .i64 (a : Int), .slice (some ⟨gx, ox, none⟩) dn cx] w4 fun e w' => e = .returned (.int .i64 0) ∧ Live wx (Own own2) w' db s9 (i + 4 + 1) ∧ Kept (Own own2) w4 w') := Lib.hid (by have h := lwrite HG4.out.live (by omega) Dsk.nF (by decide) (a : Int) (c := cx) (p := d) (fun e => by cases e) (lent_rd HDL.out hrx) (by omega); rw [HS9.out, HWR.out.1] at h; exact h)
            clear hrx hbx'
            refine wpAnyH_ready (rs := [6]) (by as_aux_lemma => kernel_rfl) (by simp) ?_
            refine AllReadyH.cons (by simp only [List.getElem?_toArray, List.getElem?_cons_succ, List.getElem?_cons_zero]; exact rfl) (fun K hK => ?_) AllReadyH.nil
            go_simp
            (go_at_call 10; refine CW5.out.mono ?_; rintro _ w5' ⟨rfl, lz, kz⟩)
            have HG5 := Lib.hid (HG4.out.call lz kz)
            have HV5 := Lib.hid (BgS.var kz HOB.out HV4.out)
            refine hK.out _ _ ?_ (fun hHeld => ?_)
            · (try dsimp only)
              exact HKP.out _ HV5.out
            clear hK K
            (try simp only [Act.put, List.setIfInBounds_toArray, List.set_cons_zero, List.set_cons_succ])
            refine wpAnyH_take (i := 7) (v := ?_) (by simp only [List.getElem?_toArray, List.getElem?_cons_succ, List.getElem?_cons_zero]; exact rfl) (by as_aux_lemma => kernel_rfl) (by as_aux_lemma => kernel_rfl) (by as_aux_lemma => kernel_rfl) (by exact fun _ _ _ h => h) (Or.inl ⟨by rfl, ?_⟩) (by assumption) ?_
            rotate_left
            · intro w hSw
              (try dsimp only at hSw)
              go_simp
              try with_reducible rfl
            (try simp only [Act.put, List.setIfInBounds_toArray, List.set_cons_zero, List.set_cons_succ])
            refine wpAnyH_done (by as_aux_lemma => kernel_rfl) ?_ _
            clear lz kz hHeld e3 e4 z0
            have x3 : w5'.cell? ⟨ob, 3, none⟩ = some (.int .i64 (a : Int)) := HV5.out.cell (j := 3) rfl
            have x4 : w5'.cell? ⟨ob, 4, none⟩ = some (.slice dA dn dc) := HV5.out.cell (j := 4) rfl
            have HI5 := Lib.hid ((HIN.out.below HG5.out.live.bel))
            have CO5 := Lib.hid (dover_any B8' m k8' (⟨Old, l⟩ : Dsk.Fi).now dA dn dc d a dn w5' HZ8.out HG5.out.rd8 hk8 (by omega) ham HI5.out.dnil HI5.out.drd HI5.out.dle (by omega) (Nat.le_refl _))
            go_wp2_with (first
              | (go_at_call 23; go_must (refine CO5.out.mono ?_; rintro _ wy ⟨vz, rfl, hrz, hbz⟩))
              | fail)
            have enow : (⟨Old, l ++ [.wr a d]⟩ : Dsk.Fi).now = Dsk.over (⟨Old, l⟩ : Dsk.Fi).now a d dn := by rw [Dsk.Fi.now_snoc, ← HDL.out]; rfl
            go_meet
            exact ⟨grow own2 w5'.heap.size wy.heap.size (fun _ => .data), s9, .wr a d, 1, HG5.out.grow hbz _, by rw [enow]; exact Byt.made hrz (fun b h1 h2 => grow_new _ _ h1 h2), HWR.out.2, ⟨rfl, rfl, rfl⟩, HV5.out.below_all hbz, by have := Dsk.now_len_wr Old l a d (by rw [← HM.out]; exact ham); rw [← HM.out, HDL.out] at this; omega⟩
        case rest =>
          obtain ⟨own3, s3, ch, kx, hg3, hby, hbg3, hoc, hv3, hlen⟩ := hcut
          have HG3 := Lib.hid hg3
          have HBY := Lib.hid hby
          have HBG3 := Lib.hid hbg3
          have HOC := Lib.hid hoc
          have HV3 := Lib.hid hv3
          have HLEN := Lib.hid hlen
          have HOI3 := Lib.hid (opC_in (o := ⟨kd, nm, tt, (a : Int), dA, dn, dc, d, cA, cn, cc, cs, onb⟩) hoc HIN.out)
          obtain ⟨A8, c8, rfl, _, _, _, _⟩ := id hby
          obtain ⟨m8, hm8⟩ : ∃ m8, m8 = (bytesV (⟨Old, l ++ [ch]⟩ : Dsk.Fi).now).length := ⟨_, rfl⟩
          have HROW10 : Hid (Row wc wx.heap.size 7 (.slice B10 ll k10) ll (opsV ds)) := Lib.hid (by have := hg3.dn.2.1; rw [← HLL.out] at this; exact this)
          have hx10 : wx.heap.size ≤ wc.heap.size := hg3.live.bel.size
          have hlt41 : ll ≤ 40 := by omega
          clear hg3 hby hbg3 hoc hv3 hlen hm8 x0 x3 x4 cc2 cc3
          go_upto_region 31 with (first
            | (refine wpList_load_mid rfl 47 (.tmp 12) rfl ob 0 rfl [.int .i64 kx, .string (strB nm), .string (strB tt), .int .i64 (a : Int), .slice dA dn dc, .slice cA cn cc, .bool onb] _ HV3.out.range Try.underlying47 rfl (by kernel_rfl) ?_)
            | (at_builtin; (refine wpList_app _ rfl (.tmp 119) (.tmp 121) 42 42 rfl wx.heap.size 47 i0 (.agg #[.int .i64 0, .string ⟨#[]⟩, .string ⟨#[]⟩, .int .i64 0, .slice none 0 0, .slice none 0 0, .bool false]) 7 104 Try.underlying42 hi0 iz0 iz1 iz2 rfl (.slice B10 ll k10) ll (opsV ds) rfl (HROW10.out.alloc _) _ 1 [.int .i64 kx, .string (strB nm), .string (strB tt), .int .i64 (a : Int), .slice dA dn dc, .slice cA cn cc, .bool onb] rfl (Src.built [.int .i64 kx, .string (strB nm), .string (strB tt), .int .i64 (a : Int), .slice dA dn dc, .slice cA cn cc, .bool onb] 47 Try.underlying42 rfl (by intro u hu; simp only [List.mem_cons, List.not_mem_nil, or_false] at hu; rcases hu with rfl | rfl | rfl | rfl | rfl | rfl | rfl <;> rfl)) (by omega) (by omega) (by omega) (by simp; omega) ?_); intro v10' w7' hr10 hg10 ho10)
            | fail)
          obtain ⟨B10', k10', rfl, _, _, _, _⟩ := Row.form hr10
          have hal : Chg (fun k => (Value.slice B10 ll k10).ownBlock = some k) wc w7' := ((Chg.refl _ _).alloc _).grown hg10 (fun k _ e => e)
          have HLD := Lib.hid (HG3.out.lieD hal)
          have HG7 := Lib.hid (HG3.out.pushD HOC.out HOI3.out hal (v10' := .slice B10' (ll + 1) k10') (by rw [← HLL.out]; exact hr10) (ho10.imp id (fun e b e2 => by rw [e] at e2; injection e2 with e2; rw [← e2]; simp)))
          have hby7 := HBY.out.keep HLD.out (by intro e; cases e)
          obtain ⟨own4, hown4⟩ : ∃ own4, own4 = grow own3 wc.heap.size w7'.heap.size (fun _ => Role.now) := ⟨_, rfl⟩
          rw [← hown4] at HG7 hby7
          obtain ⟨m9, hm9⟩ : ∃ m9, m9 = (⟨Old, l ++ [ch]⟩ : Dsk.Fi).now.length := ⟨_, rfl⟩
          rw [← hm9] at hby7 ⊢
          have HBY7 := Lib.hid hby7
          have HM9 := Lib.hid hm9
          obtain ⟨vs, hvs1, hvs2, hvs3, hvs4⟩ := HG7.out.st
          have HVS := Lib.hid (And.intro hvs1 (And.intro hvs2 (And.intro hvs3 hvs4)))
          have HROW9 : Hid (Row w7' wx.heap.size 1 (.slice B9' (ll + 1) k9') (ll + 1) vs) := Lib.hid (by rw [← HLL.out] at hvs1; exact hvs1)
          have hx7 : wx.heap.size ≤ w7'.heap.size := HG7.out.live.bel.size
          clear hr10 hg10 ho10 hal hby7 hown4 hm9 hvs1 hvs2 hvs3 hvs4
          go_wp2_with (first
            | (at_builtin; (refine wpList_app _ rfl (.tmp 123) (.tmp 125) 45 45 rfl wx.heap.size 22 j0 (.slice none 0 0) 1 24 Try.underlying45 hj0 jz0 jz1 jz2 rfl (.slice B9' (ll + 1) k9') (ll + 1) vs rfl (HROW9.out.alloc _) _ 1 [.slice A8 m9 c8] rfl (Src.built [.slice A8 m9 c8] 22 Try.underlying45 rfl (by intro u hu; simp at hu; rcases hu with rfl; rfl)) (by omega) (by omega) (by omega) (by simp; omega) ?_); intro v9' w8' hr9 hg9 ho9)
            | fail)
          obtain ⟨B9n, k9n, rfl, _, _, _, _⟩ := Row.form hr9
          have hal : Chg (fun k => (Value.slice B9' (ll + 1) k9').ownBlock = some k) w7' w8' := ((Chg.refl _ _).alloc _).grown hg9 (fun k _ e => e)
          have HG8 := Lib.hid (HG7.out.pushS (c := ch) HVS.out HBY7.out hal (v9' := .slice B9n (ll + 1 + 1) k9n) (by rw [← HLL.out]; exact hr9) (ho9.imp id (fun e b e2 => by rw [e] at e2; injection e2 with e2; rw [← e2]; simp)))
          clear hr9 hg9 ho9 hal
          go_roundw
          case rel => exact ⟨i + 1, _, l ++ [ch], ds ++ [_], s3, by omega, by rw [List.length_append, List.length_singleton, ← HLL.out]; omega, by go_num, by rw [List.length_append, List.length_singleton, ← HLL.out]; exact HLEN.out, HBG3.out, HG8.out.more (by omega)⟩
          case measure => simp [intOf]; omega
    · have hnlt : ¬ (i : Int) < (n1 : Int) := by omega
      have HRE := Lib.hid (Dsk.beg_read HBG.out)
      have CRD : Hid (Calls Try.prog 21 #[.pointer (some ⟨db, 0, none⟩), .string ⟨#[102]⟩] wo _) := Lib.hid (lread HG.out.live Dsk.nF (by decide))
      rw [HRE.out] at CRD
      go_upto_region 33 with (first
        | (go_at_call 21; go_must (refine CRD.out.mono ?_; rintro _ wr1 ⟨vb, rfl, rb, ld1, hb1⟩; obtain ⟨Ab, cb, rfl, _, _, hnb, hrb⟩ := RowB.form rb))
        | fail)
      have HGa := Lib.hid (HG.out.past hb1)
      have HZ8a := HZ8
      have cvb := conv_str (P := Try.prog) 22 9 5 Try.underlying22 Try.underlying5 Try.underlying9 (c := cb) hrb (fun e => (hnb e).1)
      have cvn := conv_str (P := Try.prog) 22 9 5 Try.underlying22 Try.underlying5 Try.underlying9 (c := k8') HGa.out.rd8 (fun e => (HZ8.out e).1)
      have CLO : Hid (Calls Try.prog 24 #[.pointer (some ⟨db, 0, none⟩), .string ⟨#[102]⟩] wr1 fun e w' => e = .returned (.int .i64 (ll : Nat)) ∧ Live wx (Own own) w' db s (i + 4) ∧ Below wr1.heap.size wr1 w') := Lib.hid (by have h := lloose HGa.out.live (by omega) Dsk.nF (by decide); rw [Dsk.beg_loose HBG.out, ← HLL.out] at h; exact h)
      obtain ⟨sN, hsN⟩ : ∃ sN : ByteArray, sN = ⟨(⟨Old, l⟩ : Dsk.Fi).now.toArray⟩ := ⟨_, rfl⟩
      rw [← hsN] at cvb cvn
      rw [← HM.out] at cvb ⊢
      clear hsN rb ld1 hb1 hnb hrb
      go_upto_region 35 with (first
        | (go_at_call 24; go_must (refine CLO.out.mono ?_; rintro _ wr2 ⟨rfl, _, hb2⟩))
        | fail)
      have HGb := Lib.hid (HGa.out.past hb2)
      clear hb2 cvb cvn
      obtain ⟨k, hk⟩ : ∃ k, k = Dsk.rnd kp ll := ⟨_, rfl⟩
      have hkl : k ≤ ll := by
        have h1 := Int.emod_nonneg kp (show (ll : Int) + 1 ≠ 0 by omega)
        have h2 := Int.emod_lt_of_pos kp (show 0 < (ll : Int) + 1 by omega)
        rw [hk]
        unfold Dsk.rnd
        omega
      have CRO : Hid (Calls Try.prog 16 #[.int .i64 kp, .int .i64 ((ll : Int) + 1)] wr2 fun e w' => e = .returned (.int .i64 (k : Nat)) ∧ wr2 = w') := Lib.hid (by
        have h := dround_any kp (ll + 1) wr2 (by omega) (by omega)
        rw [show (((ll + 1 : Nat) : Int)) = (ll : Int) + 1 by omega] at h
        rw [hk]
        exact h)
      have HK := Lib.hid hk
      clear hk
      go_upto_region 36 with (first
        | (go_at_call 16; go_must (refine CRO.out.mono ?_; rintro _ _ ⟨rfl, rfl⟩))
        | fail)
      obtain ⟨vs, hvs1, _, hvs3, _⟩ := HGb.out.st
      obtain ⟨_, _, e9, _, _, _, hrd9⟩ := Row.form hvs1
      injection e9 with e9 xa1 xa2
      subst e9
      clear xa1 xa2
      obtain ⟨g9, o9, rfl, _, hc9⟩ := hrd9.2 (by omega)
      have hvl : vs.length = ll + 1 := by have := hvs1.1; rw [HLL.out]; omega
      have hvk : vs[k]? = some vs[k] := List.getElem?_eq_getElem (by omega)
      have hbk := hvs3 k _ hvk
      have c9 := hc9 k _ hvk
      obtain ⟨vk, hvkk⟩ : ∃ vk, vk = vs[k] := ⟨_, rfl⟩
      rw [← hvkk] at hbk c9
      have HBK := Lib.hid hbk
      obtain ⟨Ak, ck, rfl, hnk, hzk, hrk, _⟩ := id hbk
      have HZK := Lib.hid hzk
      have HRK := Lib.hid hrk
      have hbl : ((⟨Old, l⟩ : Dsk.Fi).bytes k).length ≤ 1048576 := by
        have h := (HGb.out.live.fit.good 0 (.inl ⟨Dsk.nF, by rw [HBG.out.dl]; exact List.mem_singleton.2 rfl⟩)).bytes_len k
        rw [Dsk.beg_fil HBG.out] at h
        exact h
      obtain ⟨nk, hnkk⟩ : ∃ nk, nk = ((⟨Old, l⟩ : Dsk.Fi).bytes k).length := ⟨_, rfl⟩
      rw [← hnkk] at c9 HZK HRK hbl hnk HBK
      have HNK := Lib.hid hnkk
      have hki : (k : Int) < (ll : Int) + 1 := by omega
      clear hvs1 hvs3 hrd9 hc9 hvl hvk hbk hvkk hzk hrk hnkk
      obtain ⟨bw, hbw⟩ : ∃ bw, bw = isWr l k := ⟨_, rfl⟩
      have HBW := Lib.hid hbw
      clear hbw
      go_upto_region 38 with (fail)
      go_cut [168] (fun v wy => v = .bool bw ∧ wr2 = wy)
      case first =>
        by_cases hkl2 : k < ll
        · have hkl2i : (k : Int) < (ll : Int) := by omega
          have hlk : l[k]? = some (l[k]'(by rw [← HLL.out]; exact hkl2)) := List.getElem?_eq_getElem _
          obtain ⟨ch, hch⟩ : ∃ ch, ch = (l[k]'(by rw [← HLL.out]; exact hkl2)) := ⟨_, rfl⟩
          rw [← hch] at hlk
          obtain ⟨o, g10, o10, rfl, hoc, hoi, hge⟩ := HGb.out.done hlk
          have y0 := hge 0 _ rfl
          rw [Nat.add_zero] at y0
          have HCH := Lib.hid hlk
          have HOC := Lib.hid hoc
          clear hlk hch hoc hoi hge
          cases ch with
          | wr aa dd =>
            have hkx : o.kind = 1 := HOC.out.1
            have e : bw = true := by rw [HBW.out]; unfold isWr; rw [HCH.out]
            rw [hkx] at y0
            subst e
            clear hkx
            go_wp2
            go_meet
            exact ⟨rfl, rfl⟩
          | cut nn2 =>
            have hkx : o.kind = 2 := HOC.out
            have e : bw = false := by rw [HBW.out]; unfold isWr; rw [HCH.out]
            rw [hkx] at y0
            subst e
            clear hkx
            go_wp2
            go_meet
            exact ⟨rfl, rfl⟩
        · have hkl2i : ¬ (k : Int) < (ll : Int) := by omega
          have e : bw = false := by rw [HBW.out]; unfold isWr; rw [List.getElem?_eq_none (by rw [← HLL.out]; omega)]
          subst e
          go_wp2
          go_meet
          exact ⟨rfl, rfl⟩
      case rest =>
      obtain ⟨rfl, rfl⟩ := hcut
      go_upto_if 168 with (fail)
      go_cut [16] (fun v wy => ∃ own', BgS wx wy own' db s (i + 4) Old l l (.slice B8' m k8') (.slice (some ⟨g9, o9, none⟩) (ll + 1) k9') (.slice B10 ll k10) ds ∧ Byt wy own' v (Dsk.wantB ⟨Old, l⟩ kp tn))
      case first =>
        cases bw with
        | true =>
          obtain ⟨aa, d, hlk⟩ : ∃ aa d, l[k]? = some (.wr aa d) := by
            have h := HBW.out
            unfold isWr at h
            split at h
            · rename_i a d e; exact ⟨a, d, e⟩
            · cases h
          obtain ⟨⟨kx, nm, tt, nn, dA, dn, dc, d', cA, cn, cc, cs, onb⟩, g10, o10, rfl, hoc, hoi, hge⟩ := HGb.out.done hlk
          obtain ⟨hkx, hnn, hdd⟩ := hoc
          dsimp only at hkx hnn hdd
          subst hkx hnn hdd
          have y3 := hge 3 _ rfl
          have y4 := hge 4 _ rfl
          dsimp only at y3 y4
          have HCH := Lib.hid hlk
          have HOI := Lib.hid hoi
          have hkl2 : k < ll := by rw [HLL.out]; exact (List.getElem?_eq_some_iff.1 hlk).1
          have hkl2i : (k : Int) < (ll : Int) := by omega
          have HDL := Lib.hid (show d'.length = dn by have := HOI.out.drd.1; rw [bytesV_len] at this; dsimp only at this; omega)
          obtain ⟨r, hr⟩ : ∃ r, r = Dsk.rnd tn dn := ⟨_, rfl⟩
          have hrl : r ≤ dn := by
            have h1 := Int.emod_nonneg tn (show (dn : Int) + 1 ≠ 0 by omega)
            have h2 := Int.emod_lt_of_pos tn (show 0 < (dn : Int) + 1 by omega)
            rw [hr]
            unfold Dsk.rnd
            omega
          have hft := (HGb.out.live.fit.good 0 (.inl ⟨Dsk.nF, by rw [HBG.out.dl]; exact List.mem_singleton.2 rfl⟩)).fits k (.wr aa d') (by rw [Dsk.beg_fil HBG.out]; exact hlk)
          rw [Dsk.beg_fil HBG.out] at hft
          have hdn : dn ≤ 1048576 := by
            have h2 : aa + d'.length ≤ 1048576 := hft.2
            rw [HDL.out] at h2
            omega
          have haa : aa ≤ nk := by
            have h2 : aa ≤ ((⟨Old, l⟩ : Dsk.Fi).bytes k).length := hft.1
            rw [HNK.out]
            exact h2
          have CRT : Hid (Calls Try.prog 16 #[.int .i64 tn, .int .i64 ((dn : Int) + 1)] wr2 fun e w' => e = .returned (.int .i64 (r : Nat)) ∧ wr2 = w') := Lib.hid (by
            have h := dround_any tn (dn + 1) wr2 (by omega) (by omega)
            rw [show (((dn + 1 : Nat) : Int)) = (dn : Int) + 1 by omega] at h
            rw [hr]
            exact h)
          have HR := Lib.hid hr
          have HIB := Lib.hid (HOI.out.below HGb.out.live.bel)
          have COV := Lib.hid (dover_any Ak nk ck ((⟨Old, l⟩ : Dsk.Fi).bytes k) dA dn dc d' aa r wr2.drew HZK.out HRK.out hnk (by omega) haa HIB.out.dnil HIB.out.drd HIB.out.dle (by omega) hrl)
          clear hr hft hlk hoi hge
          go_upto_region 40 with (first
            | (go_at_call 16; go_must (refine CRT.out.mono ?_; rintro _ _ ⟨rfl, rfl⟩))
            | fail)
          have HKP := Lib.hid (fun (W : World) (hb : Below wr2.heap.size wr2 W) => (⟨(hb.cell (p := ⟨g10, o10 + k * 7 + 3, none⟩) (cell_lt y3)).trans y3, (hb.cell (p := ⟨g10, o10 + k * 7 + 4, none⟩) (cell_lt y4)).trans y4⟩ : W.cell? ⟨g10, o10 + k * 7 + 3, none⟩ = some (.int .i64 (aa : Int)) ∧ W.cell? ⟨g10, o10 + k * 7 + 4, none⟩ = some (.slice dA dn dc)))
          refine wp_region_held_drew (S := (fun w' => w'.cell? ⟨g10, o10 + k * 7 + 3, none⟩ = some (.int .i64 (aa : Int)) ∧ w'.cell? ⟨g10, o10 + k * 7 + 4, none⟩ = some (.slice dA dn dc))) (by as_aux_lemma => kernel_rfl) ?_ (fun hHeld => ?_)
          · exact HKP.out _ ((Below.refl _ _).drew)
          clear y3 y4
          refine wpAnyH_take (i := 0) (v := ?_) (by simp only [List.getElem?_toArray, List.getElem?_cons_zero]; exact rfl) (by as_aux_lemma => kernel_rfl) (by as_aux_lemma => kernel_rfl) (by as_aux_lemma => kernel_rfl) (by exact fun _ _ _ h => h) (Or.inl ⟨by rfl, ?_⟩) (by assumption) ?_
          rotate_left
          · intro w hSw
            (try dsimp only at hSw)
            go_simp
            try with_reducible rfl
          (try simp only [Act.put, List.setIfInBounds_toArray, List.set_cons_zero, List.set_cons_succ])
          refine wpAnyH_take (i := 1) (v := ?_) (by simp only [List.getElem?_toArray, List.getElem?_cons_succ, List.getElem?_cons_zero]; exact rfl) (by as_aux_lemma => kernel_rfl) (by as_aux_lemma => kernel_rfl) (by as_aux_lemma => kernel_rfl) (by exact fun _ _ _ h => h) (Or.inl ⟨by rfl, ?_⟩) (by assumption) ?_
          rotate_left
          · intro w hSw
            (try dsimp only at hSw)
            go_simp
            try with_reducible rfl
          (try simp only [Act.put, List.setIfInBounds_toArray, List.set_cons_zero, List.set_cons_succ])
          refine wpAnyH_take (i := 2) (v := ?_) (by simp only [List.getElem?_toArray, List.getElem?_cons_succ, List.getElem?_cons_zero]; exact rfl) (by as_aux_lemma => kernel_rfl) (by as_aux_lemma => kernel_rfl) (by as_aux_lemma => kernel_rfl) (by exact fun _ _ _ h => h) (Or.inl ⟨by rfl, ?_⟩) (by assumption) ?_
          rotate_left
          · intro w hSw
            (try dsimp only at hSw)
            go_simp
            try with_reducible rfl
          (try simp only [Act.put, List.setIfInBounds_toArray, List.set_cons_zero, List.set_cons_succ])
          refine wpAnyH_take (i := 3) (v := ?_) (by simp only [List.getElem?_toArray, List.getElem?_cons_succ, List.getElem?_cons_zero]; exact rfl) (by as_aux_lemma => kernel_rfl) (by as_aux_lemma => kernel_rfl) (by as_aux_lemma => kernel_rfl) (by exact fun _ _ _ h => h) (Or.inl ⟨by rfl, ?_⟩) (by assumption) ?_
          rotate_left
          · intro w hSw
            (try dsimp only at hSw)
            go_simp
            try with_reducible rfl
          (try simp only [Act.put, List.setIfInBounds_toArray, List.set_cons_zero, List.set_cons_succ])
          refine wpAnyH_take (i := 4) (v := ?_) (by simp only [List.getElem?_toArray, List.getElem?_cons_succ, List.getElem?_cons_zero]; exact rfl) (by as_aux_lemma => kernel_rfl) (by as_aux_lemma => kernel_rfl) (by as_aux_lemma => kernel_rfl) (by exact fun _ _ _ h => h) (Or.inl ⟨by rfl, ?_⟩) (by assumption) ?_
          rotate_left
          · intro w hSw
            (try dsimp only at hSw)
            go_simp
            try with_reducible rfl
          (try simp only [Act.put, List.setIfInBounds_toArray, List.set_cons_zero, List.set_cons_succ])
          refine wpAnyH_take (i := 5) (v := ?_) (by simp only [List.getElem?_toArray, List.getElem?_cons_succ, List.getElem?_cons_zero]; exact rfl) (by as_aux_lemma => kernel_rfl) (by as_aux_lemma => kernel_rfl) (by as_aux_lemma => kernel_rfl) (by exact fun _ _ _ h => h) (Or.inl ⟨by rfl, ?_⟩) (by assumption) ?_
          rotate_left
          · intro w hSw
            (try dsimp only at hSw)
            go_simp
            try with_reducible rfl
          (try simp only [Act.put, List.setIfInBounds_toArray, List.set_cons_zero, List.set_cons_succ])
          refine wpAnyH_take (i := 6) (v := ?_) (by simp only [List.getElem?_toArray, List.getElem?_cons_succ, List.getElem?_cons_zero]; exact rfl) (by as_aux_lemma => kernel_rfl) (by as_aux_lemma => kernel_rfl) (by as_aux_lemma => kernel_rfl) (by exact fun _ _ _ h => h) (Or.inl ⟨by rfl, ?_⟩) (by assumption) ?_
          rotate_left
          · intro w hSw
            (try dsimp only at hSw)
            go_simp
            try with_reducible rfl
          (try simp only [Act.put, List.setIfInBounds_toArray, List.set_cons_zero, List.set_cons_succ])
          refine wpAnyH_take (i := 7) (v := ?_) (by simp only [List.getElem?_toArray, List.getElem?_cons_succ, List.getElem?_cons_zero]; exact rfl) (by as_aux_lemma => kernel_rfl) (by as_aux_lemma => kernel_rfl) (by as_aux_lemma => kernel_rfl) (by exact fun _ _ _ h => h) (Or.inl ⟨by rfl, ?_⟩) (by assumption) ?_
          rotate_left
          · intro w hSw
            (try dsimp only at hSw)
            go_simp
            try with_reducible rfl
          (try simp only [Act.put, List.setIfInBounds_toArray, List.set_cons_zero, List.set_cons_succ])
          refine wpAnyH_take (i := 8) (v := ?_) (by simp only [List.getElem?_toArray, List.getElem?_cons_succ, List.getElem?_cons_zero]; exact rfl) (by as_aux_lemma => kernel_rfl) (by as_aux_lemma => kernel_rfl) (by as_aux_lemma => kernel_rfl) (by exact fun _ _ _ h => h) (Or.inl ⟨by rfl, ?_⟩) (by assumption) ?_
          rotate_left
          · intro w hSw
            (try dsimp only at hSw)
            go_simp
            try with_reducible rfl
          (try simp only [Act.put, List.setIfInBounds_toArray, List.set_cons_zero, List.set_cons_succ])
          refine wpAnyH_take (i := 9) (v := ?_) (by simp only [List.getElem?_toArray, List.getElem?_cons_succ, List.getElem?_cons_zero]; exact rfl) (by as_aux_lemma => kernel_rfl) (by as_aux_lemma => kernel_rfl) (by as_aux_lemma => kernel_rfl) (by exact fun _ _ _ h => h) (Or.inl ⟨by rfl, ?_⟩) (by assumption) ?_
          rotate_left
          · intro w hSw
            (try dsimp only at hSw)
            go_simp
            try with_reducible rfl
          (try simp only [Act.put, List.setIfInBounds_toArray, List.set_cons_zero, List.set_cons_succ])
          refine wpAnyH_take (i := 10) (v := ?_) (by simp only [List.getElem?_toArray, List.getElem?_cons_succ, List.getElem?_cons_zero]; exact rfl) (by as_aux_lemma => kernel_rfl) (by as_aux_lemma => kernel_rfl) (by as_aux_lemma => kernel_rfl) (by exact fun _ _ _ h => h) (Or.inl ⟨by rfl, ?_⟩) (by assumption) ?_
          rotate_left
          · intro w hSw
            (try dsimp only at hSw)
            go_simp
            try with_reducible rfl
          (try simp only [Act.put, List.setIfInBounds_toArray, List.set_cons_zero, List.set_cons_succ])
          refine wpAnyH_take (i := 11) (v := ?_) (by simp only [List.getElem?_toArray, List.getElem?_cons_succ, List.getElem?_cons_zero]; exact rfl) (by as_aux_lemma => kernel_rfl) (by as_aux_lemma => kernel_rfl) (by as_aux_lemma => kernel_rfl) (by exact fun _ _ _ h => h) (Or.inl ⟨by rfl, ?_⟩) (by assumption) ?_
          rotate_left
          · intro w hSw
            (try dsimp only at hSw)
            go_simp
            try with_reducible rfl
          (try simp only [Act.put, List.setIfInBounds_toArray, List.set_cons_zero, List.set_cons_succ])
          refine wpAnyH_ready (rs := [12]) (by as_aux_lemma => kernel_rfl) (by simp) ?_
          refine AllReadyH.cons (by simp only [List.getElem?_toArray, List.getElem?_cons_succ, List.getElem?_cons_zero]; exact rfl) (fun K hK => ?_) AllReadyH.nil
          go_simp
          (go_at_call 23; refine COV.out.mono ?_; rintro _ wy ⟨vz, rfl, hrz, hbz⟩)
          refine hK.out _ _ ?_ (fun hHeld => ?_)
          · (try dsimp only)
            exact HKP.out _ (Below.of_drew hbz)
          clear hK K
          (try simp only [Act.put, List.setIfInBounds_toArray, List.set_cons_zero, List.set_cons_succ])
          refine wpAnyH_take (i := 13) (v := ?_) (by simp only [List.getElem?_toArray, List.getElem?_cons_succ, List.getElem?_cons_zero]; exact rfl) (by as_aux_lemma => kernel_rfl) (by as_aux_lemma => kernel_rfl) (by as_aux_lemma => kernel_rfl) (by exact fun _ _ _ h => h) (Or.inl ⟨by rfl, ?_⟩) (by assumption) ?_
          rotate_left
          · intro w hSw
            (try dsimp only at hSw)
            go_simp
            try with_reducible rfl
          (try simp only [Act.put, List.setIfInBounds_toArray, List.set_cons_zero, List.set_cons_succ])
          refine wpAnyH_done (by as_aux_lemma => kernel_rfl) ?_ _
          clear hHeld
          go_wp2
          go_meet
          have hbw := Below.of_drew hbz
          refine ⟨grow own wr2.heap.size wy.heap.size (fun _ => .data), HGb.out.grow hbw _, ?_⟩
          have e : Dsk.wantB ⟨Old, l⟩ kp tn = Dsk.over ((⟨Old, l⟩ : Dsk.Fi).bytes k) aa d' r := by
            rw [Dsk.wantB_wr (by rw [← HLL.out]; exact HK.out) HCH.out, HDL.out, ← HR.out]
          rw [e]
          exact Byt.made hrz (fun b h1 h2 => grow_new _ _ h1 h2)
        | false =>
          go_wp2
          go_meet
          refine ⟨own, HGb.out, ?_⟩
          have e : Dsk.wantB ⟨Old, l⟩ kp tn = (⟨Old, l⟩ : Dsk.Fi).bytes k := Dsk.wantB_no (by rw [← HLL.out]; exact HK.out) (fun a d e => by have h := HBW.out; unfold isWr at h; rw [e] at h; cases h)
          rw [e]
          exact HBK.out
      case rest =>
        obtain ⟨own', hg', hb'⟩ := hcut
        obtain ⟨s2, hs2⟩ : ∃ s2, s2 = Dsk.crash s [0, kp, tn] := ⟨_, rfl⟩
        have HBC := Lib.hid (Dsk.beg_crash HBG.out kp tn)
        rw [← hs2] at HBC
        obtain ⟨bb, hbb⟩ : ∃ bb, bb = Dsk.wantB ⟨Old, l⟩ kp tn := ⟨_, rfl⟩
        rw [← hbb] at HBC hb'
        have hal : Below wc.heap.size wc (wc.alloc (.cells #[.int .i64 0, .int .i64 kp, .int .i64 tn] 3)) := (Below.refl _ _).alloc (Nat.le_refl _) _
        have LC0 := hg'.live.own (O' := fun b => Own own' b ∨ b = wc.heap.size) hal (fun b e => e.imp id (fun e => by subst e; exact ⟨Nat.le_refl _, by simp⟩))
        have hri : Rd (wc.alloc (.cells #[.int .i64 0, .int .i64 kp, .int .i64 tn] 3)) (wc.alloc (.cells #[.int .i64 0, .int .i64 kp, .int .i64 tn] 3)).heap.size 1 (some ⟨wc.heap.size, 0, none⟩) 3 (intsV [0, kp, tn]) :=
          ⟨rfl, fun _ => ⟨wc.heap.size, 0, rfl, by simp, fun j u hu => by rw [Nat.zero_add]; exact (Var.new wc 3 [.int .i64 0, .int .i64 kp, .int .i64 tn]).cell hu⟩⟩
        have CCR : Hid (Calls Try.prog 18 #[.pointer (some ⟨db, 0, none⟩), .slice (some ⟨wc.heap.size, 0, none⟩) 3 3] (wc.alloc (.cells #[.int .i64 0, .int .i64 kp, .int .i64 tn] 3)) fun e w' => e = .returned (.tuple #[]) ∧ Live wx (fun b => Own own' b ∨ b = wc.heap.size) w' db s2 (i + 4 + 1) ∧ Kept (fun b => Own own' b ∨ b = wc.heap.size) (wc.alloc (.cells #[.int .i64 0, .int .i64 kp, .int .i64 tn] 3)) w') := Lib.hid (by
          have h := lcrash LC0 (by omega) hri (Nat.le_refl 3) (by omega) (fun _ g o e => by injection e with e; injection e with e _ _; exact .inr e.symm)
          rw [← hs2] at h
          exact h)
        have HBY := Lib.hid (Byt.keep hb' (below_lies hal) id)
        obtain ⟨Aw, cw, rfl, hnw, hzw, _, _⟩ := id hb'
        have HZW := Lib.hid hzw
        obtain ⟨nw, hnw'⟩ : ∃ nw, nw = bb.length := ⟨_, rfl⟩
        rw [← hnw'] at HBY HZW
        have HNW := Lib.hid hnw'
        clear hg' hb' hs2 hbb hal LC0 hri hzw
        rw [← hnw'] at hnw ⊢
        clear hnw'
        go_upto_region 42 with (first
          | (go_at_call 18; go_must (refine CCR.out.mono ?_; rintro _ wk1 ⟨rfl, lk1, kk1⟩))
          | fail)
        have LK1 := Lib.hid lk1
        have HY1 := Lib.hid (Byt.keep HBY.out (Kept.lies (own := own') ⟨kk1.1, fun b hb => kk1.2 b (.inl hb)⟩) id)
        clear lk1 kk1
        have CUP := Lib.hid (lup LK1.out)
        go_upto_region 43 with (first
          | (go_at_call 20; go_must (refine CUP.out.mono ?_; rintro _ wk2 ⟨rfl, lk2, kk2⟩))
          | fail)
        have LK2 := Lib.hid lk2
        have HY2 := Lib.hid (Byt.keep HY1.out (Kept.lies (own := own') ⟨kk2.1, fun b hb => kk2.2 b (.inl hb)⟩) id)
        clear lk2 kk2
        have CR2 : Hid (Calls Try.prog 21 #[.pointer (some ⟨db, 0, none⟩), .string ⟨#[102]⟩] wk2 _) := Lib.hid (lread LK2.out Dsk.nF (by decide))
        rw [HBC.out.1] at CR2
        go_upto_region 44 with (first
          | (go_at_call 21; go_must (refine CR2.out.mono ?_; rintro _ wk3 ⟨vb2, rfl, rb2, ld3, hb3⟩; obtain ⟨Ab2, cb2, rfl, _, _, hnb2, hrb2⟩ := RowB.form rb2))
          | fail)
        have LK3 := Lib.hid ld3
        obtain ⟨_, _, ew, _, _, hrw, _⟩ := Byt.keep HY2.out (below_lies hb3) id
        injection ew with ew xa1 xa2
        subst ew
        clear xa1 xa2
        have cvb := conv_str (P := Try.prog) 22 9 5 Try.underlying22 Try.underlying5 Try.underlying9 (c := cb2) hrb2 (fun e => (hnb2 e).1)
        have cvn := conv_str (P := Try.prog) 22 9 5 Try.underlying22 Try.underlying5 Try.underlying9 (c := cw) hrw (fun e => by have := (HZW.out e).1; rw [HNW.out] at this; exact this)
        have CL2 : Hid (Calls Try.prog 24 #[.pointer (some ⟨db, 0, none⟩), .string ⟨#[102]⟩] wk3 fun e w' => e = .returned (.int .i64 0) ∧ Live wx (fun b => Own own' b ∨ b = wc.heap.size) w' db (Dsk.up s2) (i + 4 + 1) ∧ Below wk3.heap.size wk3 w') := Lib.hid (by have h := lloose LK3.out (by omega) Dsk.nF (by decide); rw [HBC.out.2] at h; exact h)
        obtain ⟨sW, hsW⟩ : ∃ sW : ByteArray, sW = ⟨bb.toArray⟩ := ⟨_, rfl⟩
        rw [← hsW] at cvb cvn
        rw [← HNW.out] at cvb cvn ⊢
        clear hsW rb2 ld3 hb3 hnb2 hrb2 hrw
        go_wp2_with (first
          | (go_at_call 24; go_must (refine CL2.out.mono ?_; rintro _ wk4 ⟨rfl, lk4, _⟩))
          | fail)
        go_ret
        exact ⟨rfl, HBX.out.trans (lk4.bel.mono HBX.out.size)⟩
end Go.Proofs.Ythgeppdoonbkpaa
