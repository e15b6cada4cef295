/- the law StreamReads. Conditions: sizes, the world's shape. -/
import Derived.Test.YtklmpadcfioefaaGreatDoorSRdP
import Derived.Lib.SlBytesConst
namespace Go.Proofs.YtklmpadcfioefaaGreatDoor
open Go.RowKit

/-- a piece: bytes, methods ahead of them -/
structure Pc where
  d : Bs
  ms : List ByteArray
/-- pieces with methods, as an argument, all below block B -/
structure PcM (w : World) (B : Nat) (A : Option Addr) (n : Nat) (ps : List Pc) : Prop where
  len : ps.length = n
  get : ∀ k (hk : k < ps.length), ∃ g o a c a2 c2, A = some ⟨g, o, none⟩ ∧ g < B ∧ w.cell? ⟨g, o + k * 2, none⟩ = some (.slice a ps[k].d.length c) ∧ (a = none → ps[k].d.length = 0) ∧ Rd w B 1 a ps[k].d.length (bytesV ps[k].d) ∧
    w.cell? ⟨g, o + k * 2 + 1, none⟩ = some (.slice a2 ps[k].ms.length c2) ∧ Rd w B 1 a2 ps[k].ms.length (strsV ps[k].ms)
def wtM (ps : List Pc) : Nat := (ps.map fun p => p.d.length + p.ms.length).sum
theorem wtM_take (ps : List Pc) (k : Nat) (hk : k < ps.length) : wtM (ps.take (k + 1)) = wtM (ps.take k) + (ps[k].d.length + ps[k].ms.length) := by
  unfold wtM
  rw [List.take_succ_eq_append_getElem hk, List.map_append, List.sum_append]; simp
theorem wtM_le (ps : List Pc) (k : Nat) : wtM (ps.take k) ≤ wtM ps := by
  unfold wtM
  have h : (ps.map fun p => p.d.length + p.ms.length).sum = ((ps.take k).map fun p => p.d.length + p.ms.length).sum + ((ps.drop k).map fun p => p.d.length + p.ms.length).sum := by
    rw [← List.sum_append, ← List.map_append, List.take_append_drop]
  omega
theorem qnew_mem (w : World) (rq : Bool) (base : Nat) (hb : base ≤ w.heap.size) : QMem (w.alloc (.cells #[.bool rq, .slice none 0 0, .slice none 0 0, .int .i64 0] 29)) base w.heap.size rq [] [] 0 (.slice none 0 0) (.slice none 0 0) :=
  ⟨hb, Var.new w 29 [.bool rq, .slice none 0 0, .slice none 0 0, .int .i64 0], RowB.nil _ _, Row.nil _ _ _, fun k hk => (nil_own hk).elim, fun k hk => (nil_own hk).elim⟩
theorem foot_nil {k b : Nat} (h : footQ b (.slice none 0 0) (.slice none 0 0) k) : k = b := by
  rcases h with x | x | x
  · exact x
  · exact (nil_own x).elim
  · exact (nil_own x).elim
set_option maxHeartbeats 8000000 in
set_option maxRecDepth 100000 in
theorem sreads_any (rq : Bool) (A : Option Addr) (n c : Nat) (ps : List Pc) (nn : Bool) (w : World) (hsh : w.ShapedOpen Tryz.prog) (hp : PcM w w.heap.size A n ps) (hn : n ≤ 1048576) (hsz : wtM ps ≤ 1048576) :
    Calls Tryz.prog 3 #[.bool rq, .slice A n c, .bool nn] w fun e w' => e = .returned (.bool true) ∧ Below w.heap.size w w' := by
  have HS := Lib.hid hsh
  have HPJ := Lib.hid hp
  have HSZ := Lib.hid hsz
  clear hsh hp hsz
  go_enter Tryz.func3, Tryz.ntmps3
  go_upto_region 2 with (first
    | (go_at_call 6; go_must (refine (snew_any _ rq).mono ?_; rintro _ w1 ⟨rfl, hm1, hb1, hz1⟩; have HM1 := Lib.hid hm1; have HB1 := Lib.hid hb1; have HZ1 := Lib.hid hz1; clear hm1 hb1 hz1))
    | fail)
  go_upto_region 5 with (fail)
  obtain ⟨w2, hw2⟩ : ∃ w2, w2 = w1.alloc (.cells #[.bool rq, .slice none 0 0, .slice none 0 0, .int .i64 0] 29) := ⟨_, rfl⟩
  obtain ⟨qb, hqb⟩ : ∃ qb, qb = w1.heap.size := ⟨_, rfl⟩
  rw [← hw2, ← hqb]
  have HR0 : Hid (Rds w w2 rq w.heap.size { rq := rq } (newV w.heap.size) 0 qb [] [] (.slice none 0 0) (.slice none 0 0) 0) := Lib.hid (by
    have hz := HB1.out.size
    rw [hw2, hqb]
    have hb : Below w1.heap.size w1 (w1.alloc (.cells #[.bool rq, .slice none 0 0, .slice none 0 0, .int .i64 0] 29)) := (Below.refl _ _).alloc (Nat.le_refl _) _
    refine ⟨HM1.out.below hb, qnew_mem w1 rq _ hz, fun j x y => ?_, fun _ => ⟨rfl, Strm.Inv.init rq, rfl⟩, fun _ => ⟨⟨[], none, Strm.RelR.init rq⟩, fun e => by cases e⟩, HB1.out.trans (hb.mono hz), Nat.le_refl _, Nat.le_refl _, Nat.le_refl _⟩
    have h1 := new_foot x
    have h2 := foot_nil y
    have := HZ1.out
    omega)
  have HB2 : Hid (Below w.heap.size w w2) := Lib.hid HR0.out.bl
  clear hw2 hqb HM1 HB1 HZ1
  cases nn with
  | true =>
    --P nil
    go_wp2
    go_loopw [9] (fun ii wr => ∃ i : Nat, ii = .int .i64 i ∧ i ≤ n ∧ Below w.heap.size w wr) (fun ii _ => n - (intOf ii).toNat)
    case atStart => exact ⟨0, rfl, Nat.zero_le _, HB2.out⟩
    case round =>
      obtain ⟨i, rfl, hin, hb⟩ := hrel
      by_cases hi : i < n
      · have hip : i < ps.length := by rw [HPJ.out.len]; exact hi
        obtain ⟨g, o, a, cd, a2, c2, rfl, hg, hc0, ha0, hrd, hc1, hrs⟩ := HPJ.out.get i hip
        have hwt := wtM_take ps i hip
        have hwl := wtM_le ps (i + 1)
        have hsz := HSZ.out
        generalize ps[i] = P at *
        obtain ⟨d, ml⟩ := P
        dsimp only at hc0 ha0 hrd hc1 hrs hwt
        have hdl : d.length ≤ 1048576 := by omega
        have hml : ml.length ≤ 1048576 := by omega
        obtain ⟨nd, hnd⟩ : ∃ nd, nd = d.length := ⟨_, rfl⟩
        obtain ⟨nm, hnm⟩ : ∃ nm, nm = ml.length := ⟨_, rfl⟩
        rw [← hnd] at hc0 ha0 hrd hdl
        rw [← hnm] at hc1 hrs hml
        have HC : Hid (∀ W, Below w.heap.size w W → W.cell? ⟨g, o + i * 2, none⟩ = some (.slice a nd cd) ∧ W.cell? ⟨g, o + i * 2 + 1, none⟩ = some (.slice a2 nm c2) ∧ Rd W W.heap.size 1 a nd (bytesV d) ∧ Rd W W.heap.size 1 a2 nm (strsV ml)) := Lib.hid (fun W hW =>
          ⟨(hW.cell (p := ⟨g, o + i * 2, none⟩) hg).trans hc0, (hW.cell (p := ⟨g, o + i * 2 + 1, none⟩) hg).trans hc1, hrd.keeps hW, hrs.keeps hW⟩)
        have HND := Lib.hid hnd
        have HNM := Lib.hid hnm
        have HA0 := Lib.hid ha0
        have HBO := Lib.hid hb
        clear hwt hwl hsz hnd hnm ha0 hg hc0 hrd hc1 hrs hip hb
        obtain ⟨wo, rfl⟩ : ∃ wo : World, wo = wr := ⟨_, rfl⟩
        go_wp2
        go_loopw [10] (fun kk wx => ∃ k : Nat, kk = .int .i64 k ∧ k ≤ nm ∧ Below w.heap.size w wx) (fun kk _ => nm - (intOf kk).toNat)
        case atStart => exact ⟨0, rfl, Nat.zero_le _, HBO.out⟩
        case round =>
          obtain ⟨k, rfl, hkn, hb⟩ := hrel
          obtain ⟨c00, c01, _, hrs⟩ := HC.out _ hb
          have HBR := Lib.hid hb
          by_cases hk : k < nm
          · obtain ⟨g2, o2, rfl, hg2, hcs⟩ := hrs.2 (by omega)
            have hkm : k < ml.length := by rw [← HNM.out]; exact hk
            have hcm := hcs k _ (strsV_get2 hkm)
            generalize ml[k] = m at *
            have HE := Lib.hid (fun W => nexpect m W)
            have HQE := Lib.hid (fun W => nqexpect m W)
            clear hrs hcs hkm c00 hb
            go_wp2_with (first
              | (go_at_call 7; go_must (refine (HE.out _).mono ?_; rintro _ _ ⟨rfl, rfl⟩))
              | (go_at_call 8; go_must (refine (HQE.out _).mono ?_; rintro _ _ ⟨rfl, rfl⟩))
              | fail)
            go_roundw
            case rel => exact ⟨k + 1, by go_num, by omega, HBR.out⟩
            case measure => simp [intOf]; omega
          · obtain rfl : k = nm := by omega
            have hk2 : ¬ (k : Int) < (k : Int) := by omega
            clear hrs hb
            obtain ⟨wa, rfl⟩ : ∃ wa : World, wa = wr := ⟨_, rfl⟩
            go_upto_region 16 with (fail)
            clear c00 c01
            have hza : w.heap.size ≤ wa.heap.size := HBR.out.size
            have hba : Below wa.heap.size wa (wa.alloc (.cells #[] 5)) := (Below.refl _ _).alloc (Nat.le_refl _) _
            have HCA := Lib.hid (HC.out (wa.alloc (.cells #[] 5)) (HBR.out.trans (hba.mono hza)))
            have c00b := HCA.out.1
            clear hba
            go_upto_region 17 with (first
              | (at_builtin; (refine wpList_appB (v := .slice (some ⟨wa.heap.size, 0, none⟩) 0 0) (L := []) (M := d) rfl (.tmp 70) (.tmp 75) 26 rfl wa.heap.size rfl (empty_row wa _ 1) rfl (SrcB.slice HCA.out.2.2.1 HA0.out) (by rw [← HND.out]; simp; omega) (by simp) ?_); intro v3 w3 hrow3 hb3 hg3 ho3; rw [List.nil_append] at hrow3; obtain ⟨A3, c3, e3, hc3, hm3, hA3, hr3⟩ := RowB.form hrow3; rw [← HND.out] at e3 hc3 hA3 hr3; subst e3)
              | fail)
            have hbw3 : Below wa.heap.size wa w3 := ((Below.refl _ _).alloc (Nat.le_refl _) _).trans hb3
            have HB3 := Lib.hid (HBR.out.trans (hbw3.mono hza))
            have hrow : Row w3 wa.heap.size 1 (.slice A3 nd c3) nd (bytesV d) := by have h := hrow3; unfold RowB at h; rw [← HND.out] at h; exact h
            have HROW := Lib.hid hrow
            have c00 := (HC.out w3 HB3.out).1
            have HF1 := Lib.hid (nfeed A3 nd c3 w3)
            have HF2 := Lib.hid (nqfeed a nd cd w3)
            have HEV := Lib.hid (evs_nil w3)
            have HSM : Hid (∀ W, Below w3.heap.size w3 W → Calls Tryz.prog 13 #[.slice A3 nd c3, .slice a nd cd] W fun e w' => e = .returned (.bool true) ∧ Below W.heap.size W w') := Lib.hid (fun W hW => by
              obtain ⟨A3', c3', e3, _, _, _, h3⟩ := (hrow.below_all hW).form
              injection e3 with e31 _ _
              rw [← e31] at h3
              exact ssame_any A3 a nd c3 cd d W h3 (HC.out W (HB3.out.trans (hW.mono HB3.out.size))).2.2.1 (by omega))
            have HCELL : Hid (∀ W, Below w3.heap.size w3 W → W.cell? ⟨g, o + i * 2, none⟩ = some (.slice a nd cd)) := Lib.hid (fun W hW => (HC.out W (HB3.out.trans (hW.mono HB3.out.size))).1)
            have HN1 := Lib.hid (fun W => nbetween W)
            have HN2 := Lib.hid (fun W => nqbetween W)
            have HNU : Hid (∀ W, Calls Tryz.prog 11 #[.int .i64 1] W fun e w' => e = .returned (.int .i64 1) ∧ w' = W) := Lib.hid (fun W => snum_any 1 W)
            clear hrow3 hb3 hg3 ho3 hc3 hm3 hA3 hr3 hbw3 hrow c00b HCA
            go_upto_region 19 with (first
              | (go_at_call 9; go_must (refine HF1.out.mono ?_; rintro _ _ ⟨rfl, rfl⟩))
              | (go_at_call 10; go_must (refine HF2.out.mono ?_; rintro _ _ ⟨rfl, rfl⟩))
              | fail)
            go_upto_region 21 with (first
              | (go_at_call 11; go_must (refine (HNU.out _).mono ?_; rintro _ _ ⟨rfl, rfl⟩))
              | (go_at_call 12; go_must (refine HEV.out.mono ?_; rintro _ w6 ⟨rfl, hb6⟩; have c6 := HCELL.out w6 hb6))
              | (go_at_call 13; go_must (refine (HSM.out _ hb6).mono ?_; rintro _ w7 ⟨rfl, hb7⟩; have hb57 := hb6.trans (hb7.mono hb6.size)))
              | (go_at_call 14; go_must (refine (HN1.out _).mono ?_; rintro _ wz ⟨rfl, hw⟩; obtain rfl := hw.symm))
              | (go_at_call 15; go_must (refine (HN2.out _).mono ?_; rintro _ wz ⟨rfl, hw⟩; obtain rfl := hw.symm))
              | fail)
            have HB9 := Lib.hid (HB3.out.trans (hb57.mono HB3.out.size))
            have HROW9 := Lib.hid (HROW.out.below_all hb57)
            clear hb6 hb7 hb57 c6 c00 HROW HEV HSM HCELL HF1 HF2
            obtain ⟨wl, rfl⟩ : ∃ wl : World, wl = w7 := ⟨_, rfl⟩
            go_wp2
            go_loopw [16] (fun jj wx => ∃ (j : Nat) (xs : List Value), jj = .int .i64 j ∧ j ≤ nd ∧ Row wx wa.heap.size 1 (.slice A3 nd c3) nd xs ∧ (∀ z, j ≤ z → xs[z]? = (bytesV d)[z]?) ∧ Below w.heap.size w wx) (fun jj _ => nd - (intOf jj).toNat)
            case atStart => exact ⟨0, bytesV d, rfl, Nat.zero_le _, HROW9.out, fun _ _ => rfl, HB9.out⟩
            case round =>
              obtain ⟨j, xs, rfl, hjn, hrow, hxs, hb⟩ := hrel
              by_cases hj : j < nd
              · obtain ⟨g3, o3, rfl, hg31, hg32, hcl, hfr⟩ := hrow.own (by omega)
                have hjd : j < d.length := by rw [← HND.out]; exact hj
                have hxj := (hxs j (Nat.le_refl _)).trans (bytesV_get hjd)
                have hlx : xs.length = nd := by have := hrow.1; omega
                have e3 := hcl j _ hxj
                have f3 := hfr j (by omega)
                have hx256 : d[j].toNat < 256 := d[j].toNat_lt
                generalize d[j].toNat = x at *
                have HRW := Lib.hid hrow
                have HXS := Lib.hid hxs
                have HRR := Lib.hid hb
                have HLX := Lib.hid hlx
                clear hrow hxs hb hlx hcl hfr hxj hjd
                go_wp2
                go_roundw
                case rel =>
                  refine ⟨j + 1, _, by go_num, by omega, HRW.out.set (by rw [HLX.out]; exact hj), fun z hz => ?_, HRR.out.setCell (p := ⟨g3, o3 + j, none⟩) (by dsimp only; omega) _⟩
                  rw [List.getElem?_set_ne (by omega)]
                  exact HXS.out z (by omega)
                case measure => simp [intOf]; omega
              · obtain rfl : j = nd := by omega
                have hj2 : ¬ (j : Int) < (j : Int) := by omega
                have HRR := Lib.hid hb
                clear hb hrow hxs
                go_wp2
                go_roundw
                case rel => exact ⟨i + 1, by go_num, by omega, HRR.out⟩
                case measure => simp [intOf]; omega
      · obtain ⟨we, rfl⟩ : ∃ we : World, we = wr := ⟨_, rfl⟩
        have HBE := Lib.hid hb
        have hin2 : ¬ (i : Int) < (n : Int) := by omega
        clear hb hin hi HPJ HSZ HR0
        have HNU : Hid (∀ W, Calls Tryz.prog 11 #[.int .i64 1] W fun e w' => e = .returned (.int .i64 1) ∧ w' = W) := Lib.hid (fun W => snum_any 1 W)
        go_wp2
        go_loopw [17] (fun kk wx => ∃ k : Nat, kk = .int .i64 k ∧ k ≤ 2 ∧ Below w.heap.size w wx) (fun kk _ => 2 - (intOf kk).toNat)
        case atStart => exact ⟨0, rfl, Nat.zero_le _, HBE.out⟩
        case round =>
          obtain ⟨k, rfl, hk2, hb⟩ := hrel
          have HBK := Lib.hid hb
          clear hb
          by_cases hk : k < 2
          · have HE1 := Lib.hid (fun W => nended W)
            have HE2 := Lib.hid (fun W => nqended W)
            have HEV := Lib.hid (fun W => evs_nil W)
            go_wp2_with (first
              | (go_at_call 16; go_must (refine (HE1.out _).mono ?_; rintro _ _ ⟨rfl, rfl⟩))
              | (go_at_call 17; go_must (refine (HE2.out _).mono ?_; rintro _ _ ⟨rfl, rfl⟩))
              | (go_at_call 11; go_must (refine (HNU.out _).mono ?_; rintro _ _ ⟨rfl, rfl⟩))
              | (go_at_call 12; go_must (refine (HEV.out _).mono ?_; rintro _ w6 ⟨rfl, hb6⟩))
              | fail)
            go_roundw
            case rel => exact ⟨k + 1, by go_num, by omega, HBK.out.trans (hb6.mono HBK.out.size)⟩
            case measure => simp [intOf]; omega
          · obtain rfl : k = 2 := by omega
            obtain ⟨wg, rfl⟩ : ∃ wg : World, wg = wr := ⟨_, rfl⟩
            have kc := Lib.run_convert_bytes_const (P := Tryz.prog) wg 26 5 #[.int .u8 71, .int .u8 69, .int .u8 84] 3 3 Tryz.underlying26 Tryz.underlying5
            have HB1 := Lib.hid (HBK.out.alloc HBK.out.size (.cells #[.int .u8 71, .int .u8 69, .int .u8 84] 5 (3, 4)))
            have HF1 := Lib.hid (fun A n c W => nfeed A n c W)
            have HF2 := Lib.hid (fun A n c W => nqfeed A n c W)
            go_upto_region 33 with (first
              | (go_at_call 9; go_must (refine (HF1.out _ _ _ _).mono ?_; rintro _ _ ⟨rfl, rfl⟩))
              | fail)
            clear kc
            generalize wg.alloc (.cells #[.int .u8 71, .int .u8 69, .int .u8 84] 5 (3, 4)) = wh at *
            have kc := Lib.run_convert_bytes_const (P := Tryz.prog) wh 26 5 #[.int .u8 71, .int .u8 69, .int .u8 84] 3 3 Tryz.underlying26 Tryz.underlying5
            have HB3 := Lib.hid (HB1.out.alloc HB1.out.size (.cells #[.int .u8 71, .int .u8 69, .int .u8 84] 5 (3, 4)))
            go_wp2_with (first
              | (go_at_call 10; go_must (refine (HF2.out _ _ _ _).mono ?_; rintro _ _ ⟨rfl, rfl⟩))
              | (go_at_call 11; go_must (refine (HNU.out _).mono ?_; rintro _ _ ⟨rfl, rfl⟩))
              | fail)
            go_ret
            exact ⟨rfl, HB3.out⟩
    --Q nil
  | false =>
    go_wp2
    go_loopw [9] (fun ii wr => ∃ (i N q : Nat) (s : Strm.S) (V : SV) (All : Bs) (M : List ByteArray) (av mv : Value), ii = .int .i64 i ∧ i ≤ n ∧ Rds w wr rq w.heap.size s V q qb All M av mv N ∧ N ≤ wtM (ps.take i)) (fun ii _ => n - (intOf ii).toNat)
    case atStart => exact ⟨0, 0, 0, _, _, _, _, _, _, rfl, Nat.zero_le _, HR0.out, Nat.zero_le _⟩
    case round =>
      obtain ⟨i, N, q, s, V, All, M, av, mv, rfl, hin, hr, hN⟩ := hrel
      by_cases hi : i < n
      · --P round
        have hip : i < ps.length := by rw [HPJ.out.len]; exact hi
        obtain ⟨g, o, a, cd, a2, c2, rfl, hg, hc0, ha0, hrd, hc1, hrs⟩ := HPJ.out.get i hip
        have hwt := wtM_take ps i hip
        have hwl := wtM_le ps (i + 1)
        have hsz := HSZ.out
        generalize ps[i] = P at *
        obtain ⟨d, ml⟩ := P
        dsimp only at hc0 ha0 hrd hc1 hrs hwt
        have hdl : d.length ≤ 1048576 := by omega
        have hml : ml.length ≤ 1048576 := by omega
        have hNl : N + d.length + ml.length ≤ 1048576 := by omega
        obtain ⟨nd, hnd⟩ : ∃ nd, nd = d.length := ⟨_, rfl⟩
        obtain ⟨nm, hnm⟩ : ∃ nm, nm = ml.length := ⟨_, rfl⟩
        rw [← hnd] at hc0 ha0 hrd hdl
        rw [← hnm] at hc1 hrs hml
        have HC : Hid (∀ W, Below w.heap.size w W → W.cell? ⟨g, o + i * 2, none⟩ = some (.slice a nd cd) ∧ W.cell? ⟨g, o + i * 2 + 1, none⟩ = some (.slice a2 nm c2) ∧ Rd W W.heap.size 1 a nd (bytesV d) ∧ Rd W W.heap.size 1 a2 nm (strsV ml)) := Lib.hid (fun W hW =>
          ⟨(hW.cell (p := ⟨g, o + i * 2, none⟩) hg).trans hc0, (hW.cell (p := ⟨g, o + i * 2 + 1, none⟩) hg).trans hc1, hrd.keeps hW, hrs.keeps hW⟩)
        have HR := Lib.hid hr
        have HN := Lib.hid hN
        have HWT := Lib.hid hwt
        have HNL := Lib.hid hNl
        have HND := Lib.hid hnd
        have HNM := Lib.hid hnm
        have HA0 := Lib.hid ha0
        have HGW := Lib.hid hg
        clear hr hN hwt hwl hsz hNl hnd hnm ha0 hg hc0 hrd hc1 hrs hip
        obtain ⟨wo, rfl⟩ : ∃ wo : World, wo = wr := ⟨_, rfl⟩
        go_wp2
        go_loopw [10] (fun kk wx => ∃ (k q : Nat) (s : Strm.S) (V : SV) (All : Bs) (M : List ByteArray) (av mv : Value), kk = .int .i64 k ∧ k ≤ nm ∧ Rds w wx rq w.heap.size s V q qb All M av mv (N + k)) (fun kk _ => nm - (intOf kk).toNat)
        case atStart => exact ⟨0, q, s, V, All, M, av, mv, rfl, Nat.zero_le _, HR.out⟩
        case round =>
          obtain ⟨k, q, s, V, All, M, av, mv, rfl, hkn, hr⟩ := hrel
          obtain ⟨c00, c01, _, hrs⟩ := HC.out wr hr.bl
          have HR2 := Lib.hid hr
          by_cases hk : k < nm
          · --P meth
            obtain ⟨g2, o2, rfl, hg2, hcs⟩ := hrs.2 (by omega)
            have hkm : k < ml.length := by rw [← HNM.out]; exact hk
            have hcm := hcs k _ (strsV_get2 hkm)
            generalize ml[k] = m at *
            have hz3 := hr.z3
            have hnl := HNL.out
            have hnm2 := HNM.out
            have HE := Lib.hid (sexpect_any hr.m m (by omega))
            have hcW : ∀ W, Below wr.heap.size wr W → W.cell? ⟨g2, o2 + k, none⟩ = some (.string m) := fun W hW => (hW.cell (p := ⟨g2, o2 + k, none⟩) hg2).trans hcm
            have HG2 : Hid (g2 < w.heap.size) := Lib.hid (by
              obtain ⟨_, _, _, h4⟩ := HC.out w (Below.refl _ _)
              obtain ⟨g', o', e, hg', _⟩ := h4.2 (by omega)
              injection e with e
              injection e with e _ _
              omega)
            clear hr hrs hcs hcW hz3 hnl hnm2 hkm
            go_upto_region 15 with (first
              | (go_at_call 7; go_must (refine HE.out.mono ?_; rintro _ w3 ⟨rfl, V', hm3, hc3, hf3⟩))
              | fail)
            have hb3 : Below w.heap.size w w3 := Below.chg HR2.out.bl hc3 HR2.out.bl.size (fun j hj => (HR2.out.m.lt j hj).1)
            obtain ⟨_, d01, _, hrs3⟩ := HC.out w3 hb3
            have hcm3 : w3.cell? ⟨g2, o2 + k, none⟩ = some (.string m) := by
              have h1 := (hb3.cell (p := ⟨g2, o2 + k, none⟩) HG2.out)
              have h2 := (HR2.out.bl.cell (p := ⟨g2, o2 + k, none⟩) HG2.out)
              rw [h1, ← h2]
              exact hcm
            have hk3 := HR2.out.k.chg hc3 (fun j y x => HR2.out.ap j x y)
            have HQE := Lib.hid (qexpect_any hk3 m (by have := HR2.out.z1; have := HNL.out; omega) (by have := HR2.out.z2; have := HNL.out; omega))
            have HM3 := Lib.hid hm3
            have HC3 := Lib.hid hc3
            have HF3 := Lib.hid hf3
            clear hm3 hc3 hf3 hb3 hrs3 hk3 c00 c01 hcm HE
            go_wp2_with (first
              | (go_at_call 8; go_must (refine HQE.out.mono ?_; rintro _ w4 ⟨rfl, mv', hk4, hc4, hf4⟩))
              | fail)
            go_roundw
            case rel => exact ⟨k + 1, q, _, V', All, _, av, mv', by go_num, by omega, HR2.out.exp HM3.out HC3.out HF3.out hk4 hc4 hf4⟩
            case measure => simp [intOf]; omega
            --Q meth
          · --P piece
            obtain rfl : k = nm := by omega
            have hk2 : ¬ (k : Int) < (k : Int) := by omega
            clear hrs hr
            obtain ⟨wa, rfl⟩ : ∃ wa : World, wa = wr := ⟨_, rfl⟩
            go_upto_region 16 with (fail)
            clear c00 c01
            have hza : w.heap.size ≤ wa.heap.size := HR2.out.bl.size
            have hba : Below wa.heap.size wa (wa.alloc (.cells #[] 5)) := (Below.refl _ _).alloc (Nat.le_refl _) _
            have HCA := Lib.hid (HC.out (wa.alloc (.cells #[] 5)) (HR2.out.bl.trans (hba.mono hza)))
            have c00b := HCA.out.1
            clear hba
            go_upto_region 17 with (first
              | (at_builtin; (refine wpList_appB (v := .slice (some ⟨wa.heap.size, 0, none⟩) 0 0) (L := []) (M := d) rfl (.tmp 70) (.tmp 75) 26 rfl wa.heap.size rfl (empty_row wa _ 1) rfl (SrcB.slice HCA.out.2.2.1 HA0.out) (by rw [← HND.out]; simp; omega) (by simp) ?_); intro v3 w3 hrow3 hb3 hg3 ho3; rw [List.nil_append] at hrow3; obtain ⟨A3, c3, e3, hc3, hm3, hA3, hr3⟩ := RowB.form hrow3; rw [← HND.out] at e3 hc3 hA3 hr3; subst e3)
              | fail)
            have hbw3 : Below wa.heap.size wa w3 := ((Below.refl _ _).alloc (Nat.le_refl _) _).trans hb3
            have HR3 := Lib.hid (HR2.out.below hbw3)
            have hrow : Row w3 wa.heap.size 1 (.slice A3 nd c3) nd (bytesV d) := by have h := hrow3; unfold RowB at h; rw [← HND.out] at h; exact h
            have HROW := Lib.hid hrow
            have HLT : Hid (∀ j, (Value.slice A3 nd c3).ownBlock = some j → wa.heap.size ≤ j ∧ j < w3.heap.size) := Lib.hid (fun j hj => hrow.lt j hj)
            have HLS : Hid (∀ j, footS w.heap.size V j ∨ footQ qb av mv j → j < wa.heap.size) := Lib.hid (fun j hj => (HR2.out.lt j hj).2)
            have HSF := Lib.hid (sfeed_o (Shp.below (Shp.of HS.out) HR3.out.bl) HR3.out.m HR3.out.al A3 nd c3 d (by have := HNL.out; have := HND.out; omega) (by omega) hc3 hA3 hr3 (fun h0 g' o' e f => by
              obtain ⟨g3, o3, e2, hg3, _⟩ := hrow.own h0
              rw [e] at e2
              injection e2 with e2
              injection e2 with e2 _ _
              have := HLS.out g' (.inl f)
              omega))
            unfold FeedO at HSF
            clear hrow3 hb3 hg3 ho3 hc3 hm3 hA3 hr3 hbw3 hrow c00b HCA
            go_upto_region 18 with (first
              | (go_at_call 9; go_must (refine HSF.out.mono ?_; rintro _ w4 ⟨v4, L, u, V', r, q', rfl, hfd, ho4, hm4, hr0, hr1, hc4, hf4, ha4⟩))
              | fail)
            have hb4 : Below w.heap.size w w4 := Below.chg HR3.out.bl hc4 HR3.out.bl.size (fun j hj => (HR3.out.m.lt j hj).1)
            obtain ⟨c00, _, hrd4, _⟩ := HC.out w4 hb4
            have hk4 := HR3.out.k.chg hc4 (fun j x y => HR3.out.ap j y x)
            have HK4 := Lib.hid hk4
            have HQF := Lib.hid (qsfeed_any hk4 a nd cd d HA0.out hrd4 (by have := HR3.out.z1; have := HNL.out; have := HND.out; have := HNM.out; omega) (by have := HR3.out.z2; have := HNL.out; have := HNM.out; omega))
            have HFD := Lib.hid hfd
            have HO4 := Lib.hid ho4
            have HM4 := Lib.hid hm4
            have HR00 := Lib.hid hr0
            have HR11 := Lib.hid hr1
            have HC4 := Lib.hid hc4
            have HF4 := Lib.hid hf4
            have HSP := Lib.hid (hfd.sz HR3.out.al)
            obtain ⟨Av, cv, rfl, _, _, _, _⟩ := ho4.row.form
            clear hfd ho4 hm4 hr0 hr1 hc4 hf4 ha4 hk4 hrd4 hb4 HSF
            go_upto_region 19 with (first
              | (go_at_call 10; go_must (refine HQF.out.mono ?_; rintro e5 w5 hqf; obtain ⟨vq, EL, av', All', d', rfl, hx5, hr5, hq5, hk5, hc5, hf5, hd5, hd6⟩ := HR3.out.both HFD.out HK4.out hqf))
              | fail)
            obtain ⟨Aq, cq, rfl, _, _, _, hrq⟩ := hr5.form
            have hR5 := HR3.out.feed HM4.out HC4.out HF4.out HFD.out HR00.out HR11.out hk5 hc5 hf5 hd5 hd6
            have HR5 := Lib.hid hR5
            have hel : EL.length = L.length := by
              have := congrArg List.length hx5
              rw [List.length_map, List.length_map] at this
              exact this
            have hll : L.length ≤ 3145729 := by
              have h3 := HSP.out.2.2
              rw [List.length_map] at h3
              have := HND.out
              omega
            have HEL := Lib.hid hel
            rw [hel] at hrq ⊢
            have hO5 := HO4.out.chg hc5 (fun j hj f => by
              have h1 := (HO4.out.lt hj).1
              have h2 := HLS.out j (.inr f)
              have h3 := HR2.out.bl.size
              have h4 := HR3.out.bl.size
              have h5 := (HR3.out.k.lt j f).2
              omega)
            obtain ⟨Av', cv', ev, _, _, _, hrv⟩ := hO5.row.form
            injection ev with ev1 ev2 ev3
            subst ev1
            have HEV := Lib.hid (evs24_any Av Aq L.length cv cq L EL w5 hx5.symm hrv hrq (fun e he => (hO5.el e he).v) hq5 (by omega) (fun e he => es_sz HSP.out.1 HSP.out.2.1 (by have := HND.out; omega) e.x (List.mem_map.2 ⟨e, he, rfl⟩)))
            have hrow5 : Row w5 wa.heap.size 1 (.slice A3 nd c3) nd (bytesV d) := (HROW.out.chg HC4.out (fun j hj f => by have := (HLT.out j hj).1; have := HLS.out j (.inl f); omega)).chg hc5 (fun j hj f => by have := (HLT.out j hj).1; have := HLS.out j (.inr f); omega)
            have HROW5 := Lib.hid hrow5
            have hsep : ∀ j, (Value.slice A3 nd c3).ownBlock = some j → ¬ footS w.heap.size V' j ∧ ¬ footQ qb av' mv j := fun j hj => ⟨fun f => by
              have h1 := HLT.out j hj
              rcases HF4.out j f with x | x
              · have := HLS.out j (.inl x); omega
              · omega, fun f => by
              have h1 := HLT.out j hj
              have h2 := HC4.out.size
              rcases hf5 j f with x | x
              · have := HLS.out j (.inr x); omega
              · omega⟩
            have HSEP := Lib.hid hsep
            have HSM : Hid (∀ W, Below w5.heap.size w5 W → Calls Tryz.prog 13 #[.slice A3 nd c3, .slice a nd cd] W fun e w' => e = .returned (.bool true) ∧ Below W.heap.size W w') := Lib.hid (fun W hW => by
              obtain ⟨A3', c3', e3, _, _, _, h3⟩ := (hrow5.below_all hW).form
              injection e3 with e31 _ _
              rw [← e31] at h3
              exact ssame_any A3 a nd c3 cd d W h3 (HC.out W (hR5.bl.trans (hW.mono hR5.bl.size))).2.2.1 (by omega))
            have hcell5 : ∀ W, Below w5.heap.size w5 W → W.cell? ⟨g, o + i * 2, none⟩ = some (.slice a nd cd) := fun W hW => (HC.out W (hR5.bl.trans (hW.mono hR5.bl.size))).1
            have HCELL := Lib.hid hcell5
            have hne : ((r : Int) != (r : Int)) = false := by simp
            obtain ⟨bt, hbt⟩ : ∃ bt : Bool, bt = (decide (u.dead = 0) && !u.win) := ⟨_, rfl⟩
            have HB1' : Hid (∀ W, Below w5.heap.size w5 W → Calls Tryz.prog 14 #[.pointer (some ⟨w.heap.size, 0, none⟩)] W fun e w' => e = .returned (.bool bt) ∧ Below W.heap.size W w') := Lib.hid (fun W hW => by rw [hbt]; exact sbetween_any (hR5.below hW).m)
            have HB2' : Hid (∀ W, Below w5.heap.size w5 W → Calls Tryz.prog 15 #[.pointer (some ⟨qb, 0, none⟩)] W fun e w' => e = .returned (.bool bt) ∧ Below W.heap.size W w') := Lib.hid (fun W hW => by rw [hbt, ← hR5.bet]; exact qbetween_any (hR5.below hW).k (by have := hR5.z1; have := HNL.out; have := HND.out; have := HNM.out; omega) (by have := hR5.z2; have := HNL.out; have := HND.out; have := HNM.out; omega))
            have hbb : (bt != bt) = false := by simp
            clear hR5 hel hO5 hrv hrq hrow5 hsep hcell5 hbt hx5 hr5 hq5 hk5 hc5 hf5 hd5 hd6 ev2 ev3 c00 hll HQF
            go_upto_region 21 with (first
              | (go_at_call 11; go_must (refine (snum_any r _).mono ?_; rintro _ _ ⟨rfl, rfl⟩))
              | (go_at_call 12; go_must (refine HEV.out.mono ?_; rintro _ w6 ⟨rfl, hb6⟩; have c6 := HCELL.out w6 hb6))
              | (go_at_call 13; go_must (refine (HSM.out _ hb6).mono ?_; rintro _ w7 ⟨rfl, hb7⟩; have hb57 := hb6.trans (hb7.mono hb6.size)))
              | (go_at_call 14; go_must (refine (HB1'.out _ hb57).mono ?_; rintro _ w8 ⟨rfl, hb8⟩; have hb58 := hb57.trans (hb8.mono hb57.size)))
              | (go_at_call 15; go_must (refine (HB2'.out _ hb58).mono ?_; rintro _ w9 ⟨rfl, hb9⟩; have hb59 := hb58.trans (hb9.mono hb58.size)))
              | fail)
            have HR9 := Lib.hid (HR5.out.below hb59)
            have HROW9 := Lib.hid (HROW5.out.below_all hb59)
            have hzw : w.heap.size ≤ w9.heap.size := HR9.out.bl.size
            clear hb6 hb7 hb57 hb8 hb58 hb9 hb59 c6 HR5 HROW5 HEV HSM HCELL HB1' HB2' hne hbb HR3 HROW HK4 HO4 HM4 HR00 HR11 HC4 HF4 HFD HSP HEL
            obtain ⟨wl, rfl⟩ : ∃ wl : World, wl = w9 := ⟨_, rfl⟩
            go_wp2
            go_loopw [16] (fun jj wx => ∃ (j : Nat) (xs : List Value), jj = .int .i64 j ∧ j ≤ nd ∧ Row wx wa.heap.size 1 (.slice A3 nd c3) nd xs ∧ (∀ z, j ≤ z → xs[z]? = (bytesV d)[z]?) ∧ Rds w wx rq w.heap.size u V' q' qb All' M av' mv (N + k + d.length)) (fun jj _ => nd - (intOf jj).toNat)
            case atStart => exact ⟨0, bytesV d, rfl, Nat.zero_le _, HROW9.out, fun _ _ => rfl, HR9.out⟩
            case round =>
              obtain ⟨j, xs, rfl, hjn, hrow, hxs, hr⟩ := hrel
              by_cases hj : j < nd
              · --P mark
                obtain ⟨g3, o3, rfl, hg31, hg32, hcl, hfr⟩ := hrow.own (by omega)
                have hjd : j < d.length := by rw [← HND.out]; exact hj
                have hxj := (hxs j (Nat.le_refl _)).trans (bytesV_get hjd)
                have hlx : xs.length = nd := by have := hrow.1; omega
                have e3 := hcl j _ hxj
                have f3 := hfr j (by omega)
                have hx256 : d[j].toNat < 256 := d[j].toNat_lt
                generalize d[j].toNat = x at *
                have HRW := Lib.hid hrow
                have HXS := Lib.hid hxs
                have HRR := Lib.hid hr
                have HLX := Lib.hid hlx
                have HSJ := Lib.hid (HSEP.out g3 rfl)
                clear hrow hxs hr hlx hcl hfr hxj hjd
                go_wp2
                go_roundw
                case rel =>
                  refine ⟨j + 1, _, by go_num, by omega, HRW.out.set (by rw [HLX.out]; exact hj), fun z hz => ?_, HRR.out.other (S := fun b => b = g3) ((show Chg (fun b => b = g3) wr wr from Chg.refl _ _).setCell (p := ⟨g3, o3 + j, none⟩) (fun _ => rfl) _) (fun b f e => HSJ.out.1 (e ▸ f)) (fun b f e => HSJ.out.2 (e ▸ f)) (fun b e => by have := HR2.out.bl.size; omega)⟩
                  rw [List.getElem?_set_ne (by omega)]
                  exact HXS.out z (by omega)
                case measure => simp [intOf]; omega
                --Q mark
              · --P next
                obtain rfl : j = nd := by omega
                have hj2 : ¬ (j : Int) < (j : Int) := by omega
                have HRR := Lib.hid hr
                clear hr hrow hxs
                go_wp2
                go_roundw
                case rel => exact ⟨i + 1, _, _, _, _, _, _, _, _, by go_num, by omega, HRR.out, by have := HWT.out; have := HN.out; have := HNM.out; omega⟩
                case measure => simp [intOf]; omega
                --Q next
            --Q piece
        --Q round
      · --P ended
        obtain ⟨we, rfl⟩ : ∃ we : World, we = wr := ⟨_, rfl⟩
        have HRE := Lib.hid hr
        have hN1 : N ≤ 1048576 := Nat.le_trans hN (Nat.le_trans (wtM_le ps i) HSZ.out)
        have hin2 : ¬ (i : Int) < (n : Int) := by omega
        clear hr hN hin hi HPJ HSZ HR0
        go_wp2
        go_loopw [17] (fun kk wx => ∃ (k q : Nat) (s : Strm.S) (V : SV) (All : Bs) (M : List ByteArray) (av mv : Value), kk = .int .i64 k ∧ k ≤ 2 ∧ Rds w wx rq w.heap.size s V q qb All M av mv N ∧ (1 ≤ k → s.dead ≠ 0)) (fun kk _ => 2 - (intOf kk).toNat)
        case atStart => exact ⟨0, _, _, _, _, _, _, _, rfl, Nat.zero_le _, HRE.out, fun h => absurd h (by decide)⟩
        case round =>
          obtain ⟨k, q, s, V, All, M, av, mv, rfl, hk2, hr, hdd⟩ := hrel
          have HR := Lib.hid hr
          have HDD := Lib.hid hdd
          by_cases hk : k < 2
          · --P end
            have HE := Lib.hid (sended_d hr.m hr.al)
            have HSZ := Lib.hid (ends_sz2 s)
            clear hr hdd
            go_upto_region 29 with (first
              | (go_at_call 16; go_must (refine HE.out.mono ?_; rintro _ w4 ⟨v4, L, rfl, hL4, ho4, hm4, hc4⟩))
              | fail)
            have hk4 := HR.out.k.chg hc4 (fun j x y => HR.out.ap j y x)
            have HK4 := Lib.hid hk4
            have HQE := Lib.hid (qsended_any hk4 (by have := HR.out.z1; omega) (by have := HR.out.z2; omega))
            have HL4 := Lib.hid hL4
            have HO4 := Lib.hid ho4
            have HM4 := Lib.hid hm4
            have HC4 := Lib.hid hc4
            obtain ⟨Av, cv, rfl, _, _, _, _⟩ := ho4.row.form
            clear hL4 ho4 hm4 hc4 hk4 HE
            obtain ⟨r, hr⟩ : ∃ r, r = (endsA s).2 := ⟨_, rfl⟩
            rw [← hr]
            have HRR := Lib.hid hr
            clear hr
            go_upto_region 30 with (first
              | (go_at_call 17; go_must (refine HQE.out.mono ?_; rintro e5 w5 hqe; obtain ⟨vq, EL, rfl, hx5, hr5, hq5, hk5, hc5⟩ := HR.out.ends HK4.out hqe))
              | fail)
            rw [← HRR.out]
            obtain ⟨Aq, cq, rfl, _, _, _, hrq⟩ := hr5.form
            have HR5 := Lib.hid (HR.out.died HM4.out HC4.out hk5 hc5)
            have hel : EL.length = L.length := by
              have := congrArg List.length (hx5.trans HL4.out.symm)
              rw [List.length_map, List.length_map] at this
              exact this
            have hll : L.length ≤ 1 := by
              have h3 := HSZ.out.2
              rw [← HL4.out, List.length_map] at h3
              exact h3
            rw [hel] at hrq ⊢
            have hO5 := HO4.out.chg hc5 (fun j hj f => by
              have h1 := (HO4.out.lt hj).1
              have h2 := (HR.out.k.lt j f).2
              omega)
            obtain ⟨Av', cv', ev, _, _, _, hrv⟩ := hO5.row.form
            injection ev with ev1 ev2 ev3
            subst ev1
            have HEV := Lib.hid (evs24_any Av Aq L.length cv cq L EL w5 (HL4.out.trans hx5.symm) hrv hrq (fun e he => (hO5.el e he).v) hq5 (by omega) (fun e he => HSZ.out.1 e.x (by rw [← HL4.out]; exact List.mem_map.2 ⟨e, he, rfl⟩)))
            have hne : ((r : Int) != (r : Int)) = false := by simp
            clear hel hll hO5 hrv hrq hx5 hr5 hq5 hk5 hc5 ev2 ev3 HQE
            go_wp2_with (first
              | (go_at_call 11; go_must (refine (snum_any r _).mono ?_; rintro _ _ ⟨rfl, rfl⟩))
              | (go_at_call 12; go_must (refine HEV.out.mono ?_; rintro _ w6 ⟨rfl, hb6⟩))
              | fail)
            go_roundw
            case rel => exact ⟨k + 1, _, _, _, _, _, _, _, by go_num, by omega, HR5.out.below hb6, fun _ => die_ne s⟩
            case measure => simp [intOf]; omega
            --Q end
          · --P get
            obtain rfl : k = 2 := by omega
            have hsd := HDD.out (by decide)
            obtain ⟨wg, rfl⟩ : ∃ wg : World, wg = wr := ⟨_, rfl⟩
            have kc := Lib.run_convert_bytes_const (P := Tryz.prog) wg 26 5 #[.int .u8 71, .int .u8 69, .int .u8 84] 3 3 Tryz.underlying26 Tryz.underlying5
            have hba : Below wg.heap.size wg (wg.alloc (.cells #[.int .u8 71, .int .u8 69, .int .u8 84] 5 (3, 4))) := (Below.refl _ _).alloc (Nat.le_refl _) _
            have HB1 := Lib.hid (HR.out.below hba)
            have HSD := Lib.hid (sfeed_dead HB1.out.m hsd (some ⟨wg.heap.size, 0, none⟩) 3 3)
            have HSDD := Lib.hid hsd
            obtain ⟨dd, hdde⟩ : ∃ dd, dd = s.dead := ⟨_, rfl⟩
            rw [← hdde] at HSD
            have HDE := Lib.hid hdde
            clear hr hdd hba hsd hdde
            go_upto_region 33 with (first
              | (go_at_call 9; go_must (refine HSD.out.mono ?_; rintro _ _ ⟨rfl, nq, rfl⟩))
              | fail)
            have HB2 := Lib.hid (HB1.out.below (below_drewN (Below.refl _ _) nq))
            clear kc HB1 HSD
            generalize (wg.alloc (.cells #[.int .u8 71, .int .u8 69, .int .u8 84] 5 (3, 4))).drewN nq = wh at *
            have kc := Lib.run_convert_bytes_const (P := Tryz.prog) wh 26 5 #[.int .u8 71, .int .u8 69, .int .u8 84] 3 3 Tryz.underlying26 Tryz.underlying5
            have hba : Below wh.heap.size wh (wh.alloc (.cells #[.int .u8 71, .int .u8 69, .int .u8 84] 5 (3, 4))) := (Below.refl _ _).alloc (Nat.le_refl _) _
            have HB3 := Lib.hid (HB2.out.below hba)
            have HSQ := Lib.hid (qsfeed_dead HB3.out.k HSDD.out (some ⟨wh.heap.size, 0, none⟩) 3 3)
            rw [← HDE.out] at HSQ
            have hne : ((dd : Int) == (dd : Int)) = true := by simp
            clear hba
            go_wp2_with (first
              | (go_at_call 10; go_must (refine HSQ.out.mono ?_; rintro _ _ ⟨rfl, nz, rfl⟩))
              | (go_at_call 11; go_must (refine (snum_any dd _).mono ?_; rintro _ _ ⟨rfl, rfl⟩))
              | fail)
            go_ret
            exact ⟨rfl, below_drewN HB3.out.bl nz⟩
            --Q get
        --Q ended
end Go.Proofs.YtklmpadcfioefaaGreatDoor
