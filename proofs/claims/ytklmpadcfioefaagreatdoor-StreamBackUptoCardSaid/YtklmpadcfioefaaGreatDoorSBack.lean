/- the law StreamBack (printed by gen_sback.py). Conditions: sizes, the library's variables, the world's shape. -/
import Derived.Test.YtklmpadcfioefaaGreatDoorSBackQ
import Derived.Test.YtklmpadcfioefaaGreatDoorSWhole
import Derived.Test.YtklmpadcfioefaaGreatDoorSAwake
namespace Go.Proofs.YtklmpadcfioefaaGreatDoor
open Go.RowKit
theorem map_at {M : List EvE} {Q R : List Strm.E1} {a : Strm.E1} (h : M.map EvE.x = Q ++ a :: R) : ∃ hp : Q.length < M.length, M[Q.length].x = a := by
  have hl := congrArg List.length h
  rw [List.length_map, List.length_append, List.length_cons] at hl
  have hp : Q.length < M.length := by omega
  refine ⟨hp, ?_⟩
  have e := congrArg (fun l => l[Q.length]?) h
  simp only [List.getElem?_map, List.getElem?_eq_getElem hp, Option.map_some, List.getElem?_append_right (Nat.le_refl _), Nat.sub_self, List.getElem?_cons_zero] at e
  exact Option.some.inj e
theorem up_parts {g : Hd} {e : MsgE} (h : g.up = e.hi) : g.rq = e.rq ∧ (⟨g.m.toArray⟩ : ByteArray) = e.m ∧ (⟨g.t.toArray⟩ : ByteArray) = e.t ∧ ((g.st : Nat) : Int) = e.st ∧ (⟨g.rs.toArray⟩ : ByteArray) = e.rs ∧ ((g.mn : Nat) : Int) = e.mn ∧ flB g.fs = e.fs := by
  have h1 : g.m = e.m.data.toList := congrArg HI.m h
  have h2 : g.t = e.t.data.toList := congrArg HI.t h
  have h3 : g.rs = e.rs.data.toList := congrArg HI.rs h
  have h4 : g.fs = e.fs.map fun f => (f.1.data.toList, f.2.data.toList) := congrArg HI.fs h
  exact ⟨congrArg HI.rq h, by rw [h1], by rw [h2], congrArg HI.st h, by rw [h3], congrArg HI.mn h, by rw [h4, flB_back]⟩
set_option maxHeartbeats 4000000 in
set_option maxRecDepth 100000 in
theorem sback_any (A : Option Addr) (n c : Nat) (L : List MsgE) (w : World) (hsh : w.ShapedOpen Tryz.prog) (htab : Tab w) (htz : Tz w) (hM : MsgsR w A n L) (hn : n ≤ 1048576) :
    Calls Tryz.prog 4 #[.slice A n c] w fun e w' => e = .returned (.bool true) ∧ Below w.heap.size w w' := by
  have HS := Lib.hid hsh
  have HTA := Lib.hid htab
  have HTZ := Lib.hid htz
  have HM := Lib.hid hM
  clear hsh htab htz hM
  go_enter Tryz.func4, Tryz.ntmps4
  go_upto_region 3 with (first
    | (go_at_call 18; go_must (refine (sawake_any _ HS.out).mono ?_; rintro _ w1 ⟨rfl, hb1⟩; have HB1 := Lib.hid hb1; clear hb1))
    | fail)
  have HS1 : Hid (w1.ShapedOpen Tryz.prog) := Lib.hid (shaped_below HS.out HB1.out)
  have HTA1 := Lib.hid (HTA.out.below HB1.out)
  have HTZ1 := Lib.hid (HTZ.out.below HB1.out HTZ.out.lt)
  have hz1 := HB1.out.size
  go_wp2
  go_loopw [3, 4] (fun va vi wr => ∃ (k : Nat) (X : Bs) (G : List (Hd × Nat × Nat)), vi = .int .i64 k ∧ k ≤ n ∧ RowB wr w1.heap.size va X ∧ BackSt L k X G ∧ Below w1.heap.size w1 wr) (fun _ vi _ => n - (intOf vi).toNat)
  case atStart => exact ⟨0, [], [], rfl, Nat.zero_le _, RowB.nil _ _, BackSt.init L, Below.refl _ _⟩
  case round =>
    obtain ⟨k, X, G, rfl, hk, hrow, hbs, hbw⟩ := hrel
    obtain ⟨wk, rfl⟩ : ∃ wk : World, wk = wr := ⟨_, rfl⟩
    have HROW := Lib.hid hrow
    have HBS := Lib.hid hbs
    have HBW := Lib.hid hbw
    have HB0 : Hid (Below w.heap.size w wk) := Lib.hid (HB1.out.trans (hbw.mono hz1))
    have hXz : X.length ≤ 28311552 := by
      have h1 := hbs.sz
      have h2 := z_takes L k
      have h3 := HM.out.sum
      omega
    have hzk := hbw.size
    clear hrow hbs hbw
    by_cases hlt : k < n
    · obtain ⟨g, o, eA, hg, hcell⟩ := HM.out.get (by omega)
      subst eA
      have hkL : k < L.length := by have := HM.out.len; omega
      have hmo := HM.out.ok L[k] (List.getElem_mem _)
      have hc := hcell k hkL
      have hzs := z_take L k hkL
      have hzt := z_takes L (k + 1)
      have hstep := fun (Y : Bs) h1 h2 h3 => HBS.out.step (Y := Y) hkL h1 h2 h3
      have hzle := z_le (List.getElem_mem hkL)
      have HSM := Lib.hid HM.out.sum
      generalize L[k] = e at *
      have HMO := Lib.hid hmo
      have hrg : World.rangeAt wk g (o + k * 10) [.bool e.rq, .string e.m, .string e.t, .int .i64 e.st, .string e.rs, .int .i64 e.mn, .slice e.Af e.nf e.cf, .slice e.Ab e.nb e.cb, .slice e.Ac e.nc e.cc, .bool e.cd] := fun j u hj => (HB0.out.cell (p := ⟨g, o + k * 10 + j, none⟩) hg).trans (hc j u hj)
      have hez : e.z ≤ 1048576 := by have := HSM.out; omega
      have hbz := HB0.out.size
      have hsl := slaid_any e.rq e.m e.t e.st e.rs e.mn e.Af e.nf e.cf e.fs e.Ab e.nb e.cb e.body e.Ac e.nc e.cc e.zs e.cd e.z wk (shaped_below HS.out HB0.out) (HTA.out.below HB0.out) (HTZ.out.below HB0.out HTZ.out.lt) ((hmo.rf.below HB0.out).more hbz) ((hmo.rb.below HB0.out).more hbz) hmo.bc hmo.ab ((hmo.rz.below HB0.out).more hbz) hmo.st hmo.mn hez hmo.sz hmo.fz hmo.fs hmo.nf hmo.nb hmo.nc
      have HSL : Hid (Calls Tryz.prog 19 #[.agg #[.bool e.rq, .string e.m, .string e.t, .int .i64 e.st, .string e.rs, .int .i64 e.mn, .slice e.Af e.nf e.cf, .slice e.Ab e.nb e.cb, .slice e.Ac e.nc e.cc, .bool e.cd]] wk fun r w' => ∃ (v : Value) (ok : Bool), r = .returned (.tuple #[v, .bool ok]) ∧ Below wk.heap.size wk w' ∧ (ok = true → ∃ Y, RowB w' wk.heap.size v Y ∧ Laid e.rq e.hi e.fs e.body Y ∧ Y.length ≤ 16 * e.z + 105)) := Lib.hid (hsl.mono fun r w' ⟨hb, hor⟩ => by
        rcases hor with h | ⟨v, Y, h, h1, h2, h3⟩
        · exact ⟨_, false, h, hb, (fun x => by cases x)⟩
        · exact ⟨v, true, h, hb, fun _ => ⟨Y, h1, h2, h3⟩⟩)
      have HSTP := Lib.hid hstep
      have HZT := Lib.hid (And.intro hzs hzt)
      clear hcell hmo hc hzs hzt hstep hzle hsl
      go_upto_region 8 with (first
        | (refine wpList_load_mid rfl 55 (.tmp 25) rfl g (o + k * 10) rfl [.bool e.rq, .string e.m, .string e.t, .int .i64 e.st, .string e.rs, .int .i64 e.mn, .slice e.Af e.nf e.cf, .slice e.Ab e.nb e.cb, .slice e.Ac e.nc e.cc, .bool e.cd] _ hrg Tryz.underlying55 rfl (by kernel_rfl) ?_)
        | (go_at_call 19; go_must (refine HSL.out.mono ?_; rintro _ w2 ⟨v2, ok, rfl, hb2, hok⟩; have HB2 := Lib.hid hb2; have HOK := Lib.hid hok; clear hb2 hok))
        | fail)
      cases ok with
      | false =>
        go_wp2
        go_ret
        exact ⟨rfl, HB0.out.trans (HB2.out.mono hbz)⟩
      | true =>
        obtain ⟨Y, hrY, hlY, hzY⟩ := HOK.out rfl
        obtain ⟨x, hx⟩ := HSTP.out Y hlY hzY HMO.out.z10
        obtain ⟨A2, c2, e2, _, _, hA2, hr2⟩ := RowB.form hrY
        subst e2
        have HR2 := Lib.hid hr2
        have HX := Lib.hid hx
        have HROW2 := Lib.hid (Row.below_all HROW.out HB2.out)
        have hz2 := HB2.out.size
        have h10 := HMO.out.z10
        have hY1 : Y.length ≤ 28311552 := by have := HSM.out; omega
        clear hrY hlY hr2 hx HSTP HSL hrg
        go_upto_region 6 with (first
          | (at_builtin; go_must (refine wpList_appB (L := X) (M := Y) rfl (.tmp 32) (.tmp 33) 26 rfl w1.heap.size rfl HROW2.out rfl (SrcB.slice HR2.out (fun e => (hA2 e).1)) (by omega) (by omega) ?_; intro v3 w3 hrow3 hb3 _ _))
          | fail)
        have HR3 := Lib.hid hrow3
        have HB3 : Hid (Below w1.heap.size w1 w3) := Lib.hid (HBW.out.trans ((HB2.out.mono hzk).trans hb3))
        clear hrow3 hb3
        go_wp2
        go_roundw
        case rel => exact ⟨k + 1, X ++ Y, G ++ [x], by go_num, by omega, HR3.out, HX.out, HB3.out⟩
        case measure => simp [intOf]; omega
    · obtain rfl : k = n := by omega
      have hbst := HBS.out
      obtain ⟨u0, es0, hfd0, hsim0, hrdy0⟩ := hbst.rd
      obtain ⟨Ax, cx, ex, hxc, _, hxA, hrx⟩ := RowB.form HROW.out
      subst ex
      have hlenL := HM.out.len
      have HFD0 := Lib.hid hfd0
      have HSIM0 := Lib.hid hsim0
      have HRDY := Lib.hid hrdy0
      have HSk : Hid (wk.ShapedOpen Tryz.prog) := Lib.hid (shaped_below HS.out HB0.out)
      have HRX := Lib.hid hrx
      have HLL := Lib.hid hlenL
      clear hfd0 hsim0 hrdy0 hbst hlenL hrx
      go_upto_region 12 with (first
        | (go_at_call 6; refine (snew_any _ true).mono ?_; rintro _ w3 ⟨rfl, hm3, hb3, hz3⟩; have HM3 := Lib.hid hm3; have HB3 := Lib.hid hb3; have HZ3 := Lib.hid hz3; clear hm3 hb3 hz3)
        | fail)
      have HF := sfeed_any (T := 0) (Shp.below (Shp.of HSk.out) HB3.out) HM3.out (Strm.Inv.init true) rfl rfl Ax X.length cx X (by omega) (by omega) hxc hxA ((HRX.out.below HB3.out).more HB3.out.size) (fun h0 g o e f => by
        subst e
        have h1 := (Row.lt HROW.out g rfl).2
        have := new_foot f
        omega)
      unfold FeedsPost at HF
      have HFD := Lib.hid HF
      clear HF
      go_upto_region 13 with (first
        | (go_at_call 9; go_must (refine HFD.out.mono ?_; rintro _ w4 ⟨v4, L4, u4, V4, r4, q4, rfl, hre⟩; have HRE := Lib.hid hre; clear hre))
        | fail)
      obtain ⟨hfd, ho, hm4, hq4, _, hc4, _, ha4⟩ := HRE.out
      obtain ⟨d1, d2, d3⟩ := hfd.det HFD0.out
      subst d3
      subst d1
      obtain ⟨hq41, hd4⟩ := hq4 rfl
      subst hq41
      have HB34 : Hid (Below wk.heap.size wk w4) := Lib.hid (Below.chg HB3.out hc4 HB3.out.size (fun k hk => by have := new_foot hk; omega))
      have hfew := Strm.feeds_few hfd (Strm.Inv.init true)
      rw [List.length_map] at hfew
      have hrk : Strm.rk ({ rq := true } : Strm.S) = 0 := rfl
      have hL4 : L4.length ≤ 84934657 := by omega
      have hsum := Strm.feeds_sum hfd (Strm.Inv.init true)
      obtain ⟨A4, c4, e4, _, _, _, hr4⟩ := ho.row.form
      subst e4
      have HWH := Lib.hid (swhole_any A4 L4.length c4 L4 w4 hr4 (fun e he => (ho.el e he).v) (by omega) 28311552 (by omega) (fun k _ y hy => Strm.body_few (es := L4.map EvE.x) (by omega) k y (by rw [← List.map_take]; exact hy)))
      have HWE : Hid (Strm.whole (L4.map EvE.x) = evL G L) := Lib.hid (by rw [d2, HSIM0.out.whole, whole_evL])
      have HM4 := Lib.hid hm4
      have HD4 := Lib.hid hd4
      have HSS : Hid (Strm.bodySum (L4.map EvE.x) ≤ 28311552) := Lib.hid (by omega)
      clear hfd ho hm4 hq4 hc4 ha4 d2 hfew hrk hsum hr4 hd4 HRE HFD HFD0 HSIM0
      simp only [Int.natCast_zero]
      go_upto_region 16 with (first
        | (go_at_call 20; go_must (refine HWH.out.mono ?_; rintro _ w5 ⟨v5, M, rfl, hw5, hM5⟩; have HW5 := Lib.hid hw5; have HM5 := Lib.hid hM5; clear hw5 hM5))
        | fail)
      have HME : Hid (M.map EvE.x = evL G L) := Lib.hid (HM5.out.trans HWE.out)
      have HB05 : Hid (Below w.heap.size w w5) := Lib.hid (HB0.out.trans ((HB34.out.trans (HW5.out.bl.mono HB34.out.size)).mono HB0.out.size))
      obtain ⟨Av, cv, ev5, _, _, hAv, _⟩ := HW5.out.row.form
      subst ev5
      obtain ⟨nM, hnM⟩ : ∃ nM, nM = M.length := ⟨_, rfl⟩
      have hnMz : nM ≤ 84934657 := by
        have h1 := congrArg List.length HM5.out
        have h2 := Strm.foldl_len (L4.map EvE.x) []
        rw [List.length_map] at h1 h2
        unfold Strm.whole at h1
        simp only [List.length_nil] at h2
        omega
      have HRW := Lib.hid HW5.out.row
      rw [← hnM] at HRW ⊢
      have HNM := Lib.hid hnM
      clear hnM HWH HWE HM5
      go_wp2
      go_loopw [10, 11] (fun va vi wr => ∃ (i : Nat), vi = .int .i64 i ∧ i ≤ k ∧ va = .int .i64 ((evL (G.take i) L).length : Nat) ∧ Below w5.heap.size w5 wr) (fun _ vi _ => k - (intOf vi).toNat)
      case atStart => exact ⟨0, rfl, Nat.zero_le _, rfl, Below.refl _ _⟩
      case round =>
        obtain ⟨i, rfl, hi, rfl, hbi⟩ := hrel
        obtain ⟨wi, rfl⟩ : ∃ wi : World, wi = wr := ⟨_, rfl⟩
        have HBI := Lib.hid hbi
        clear hbi
        by_cases hlti : i < k
        · have hiL : i < L.length := by have := HLL.out; omega
          have hiG : i < G.length := by have := HBS.out.len; omega
          have hGL : G.length ≤ L.length := by have := HBS.out.len; have := HLL.out; omega
          obtain ⟨post, hsp⟩ := evL_split G L i hiG hGL
          have hup := HBS.out.up i hiG hiL
          have hti : (G.take i).length = i := by rw [List.length_take]; omega
          have hnx := evL_snoc (G.take i) L G[i] (by rw [hti]; omega)
          simp only [hti] at hnx
          rw [← List.take_succ_eq_append_getElem hiG] at hnx
          have hnl := congrArg List.length hnx
          have hME := HME.out
          rw [hsp] at hME
          obtain ⟨g, o, eA, hg, hcell⟩ := HM.out.get (by omega)
          subst eA
          have hc := hcell i hiL
          have hmo := HM.out.ok L[i] (List.getElem_mem _)
          have hzle := z_le (List.getElem_mem hiL)
          have hez : L[i].z ≤ 1048576 := by have := HM.out.sum; omega
          generalize L[i] = e at *
          generalize G[i] = gx3 at *
          obtain ⟨gh, fr, ln⟩ := gx3
          dsimp only at hup hnx hnl hME hsp
          rw [List.length_append] at hnl
          generalize evL (G.take i) L = P at *
          obtain ⟨p, hp⟩ : ∃ p, p = P.length := ⟨_, rfl⟩
          rw [← hp] at hnl ⊢
          obtain ⟨u1, u2, u3, u4, u5, u6, u7⟩ := up_parts hup
          -- the head
          obtain ⟨hp0, hx0⟩ := map_at (Q := P) (a := .head gh fr ln) (R := Strm.data e.body ++ [.fin] ++ post) (by rw [hME]; unfold Strm.evs; simp)
          obtain ⟨gv, ov, eV, _, hgv, hcv, _⟩ := HRW.out.own (by have := HNM.out; omega)
          subst eV
          have HCV := Lib.hid hcv
          have K : ∀ (q j : Nat) (hq : q < M.length) (u : Value), j < 11 → (M[q].cells)[j]? = some u → ∀ W, Below w5.heap.size w5 W → W.cell? ⟨gv, ov + q * 11 + j, none⟩ = some u := fun q j hq u hj hu W hW => (hW.cell (p := ⟨gv, ov + q * 11 + j, none⟩) hgv).trans (by rw [Nat.add_assoc]; exact HCV.out _ _ ((evs_get M q j hq hj).trans hu))
          have hv0 := HW5.out.el _ (List.getElem_mem hp0)
          have K0 := K P.length
          simp only [← hp] at hp0 hx0 hv0 K0
          obtain ⟨Ae, ce, hfe, hfl1, hfl2, hfl3, hre0⟩ := hv0.f.form
          have K0' := fun j u hj hu W hW => K0 j hp0 u hj hu W hW
          have hfsl : gh.fs.length = e.nf := by
            have h1 := hmo.rf.1
            rw [fieldsV_len, ← u7] at h1
            unfold flB at h1
            rw [List.length_map] at h1
            omega
          rw [hx0] at hfe hre0
          rw [show (eHd (.head gh fr ln)) = gh from rfl, u7, hfsl] at hre0
          rw [show (eHd (.head gh fr ln)) = gh from rfl, hfsl] at hfe
          have hcE : M[p].cells = [.int .i64 1, .bool e.rq, .string e.m, .string e.t, .int .i64 e.st, .string e.rs, .int .i64 e.mn, .slice Ae e.nf ce, .int .i64 (fr : Int), .int .i64 (ln : Int), M[p].dv] := by
            unfold EvE.cells
            rw [hx0, hfe]
            show [Value.int .i64 1, .bool gh.rq, .string ⟨gh.m.toArray⟩, .string ⟨gh.t.toArray⟩, .int .i64 ((gh.st : Nat) : Int), .string ⟨gh.rs.toArray⟩, .int .i64 ((gh.mn : Nat) : Int), .slice Ae e.nf ce, .int .i64 (fr : Int), .int .i64 (ln : Int), M[p].dv] = _
            rw [u1, u2, u3, u4, u5, u6]
          rw [hcE] at K0'
          have HK0 := Lib.hid K0'
          have HCC := Lib.hid hc
          have HMO := Lib.hid hmo
          have HRE0 := Lib.hid hre0
          have HMEV := Lib.hid hME
          have HKK := Lib.hid K
          have HNL := Lib.hid hnl
          have HPP := Lib.hid hp
          have hpn : p < nM := by have := HNM.out; omega
          have HBwi : Hid (Below w.heap.size w wi) := Lib.hid (HB05.out.trans (HBI.out.mono HB05.out.size))
          clear hfl1 hfl2 hfl3
          clear K0 K0' K hcell hc hcv hmo hre0 hv0 hcE hfe hx0 hME hsp hnx hnl hup u1 u2 u3 u4 u5 u6 u7 hp
          have HS20 : Hid (∀ W, Below wi.heap.size wi W → (Below wi.heap.size wi W ∧ W.cell? ⟨gv, ov + p * 11, none⟩ = some (.int .i64 1) ∧ W.cell? ⟨gv, ov + p * 11 + 1, none⟩ = some (.bool e.rq) ∧ W.cell? ⟨gv, ov + p * 11 + 1 + 1, none⟩ = some (.string e.m) ∧ W.cell? ⟨gv, ov + p * 11 + 1 + 2, none⟩ = some (.string e.t) ∧ W.cell? ⟨gv, ov + p * 11 + 1 + 3, none⟩ = some (.int .i64 e.st) ∧ W.cell? ⟨gv, ov + p * 11 + 1 + 4, none⟩ = some (.string e.rs) ∧ W.cell? ⟨gv, ov + p * 11 + 1 + 5, none⟩ = some (.int .i64 e.mn) ∧ W.cell? ⟨gv, ov + p * 11 + 1 + 6, none⟩ = some (.slice Ae e.nf ce) ∧ W.cell? ⟨g, o + i * 10, none⟩ = some (.bool e.rq) ∧ W.cell? ⟨g, o + i * 10 + 1, none⟩ = some (.string e.m) ∧ W.cell? ⟨g, o + i * 10 + 2, none⟩ = some (.string e.t) ∧ W.cell? ⟨g, o + i * 10 + 3, none⟩ = some (.int .i64 e.st) ∧ W.cell? ⟨g, o + i * 10 + 4, none⟩ = some (.string e.rs) ∧ W.cell? ⟨g, o + i * 10 + 5, none⟩ = some (.int .i64 e.mn) ∧ W.cell? ⟨g, o + i * 10 + 6, none⟩ = some (.slice e.Af e.nf e.cf))) := Lib.hid (fun W hW => by
            have h1 : Below w5.heap.size w5 W := HBI.out.trans (hW.mono HBI.out.size)
            have h2 : Below w.heap.size w W := HBwi.out.trans (hW.mono HBwi.out.size)
            have d := fun j v (hj : e.cells[j]? = some v) => (h2.cell (p := ⟨g, o + i * 10 + j, none⟩) hg).trans (HCC.out j v hj)
            exact ⟨hW, HK0.out 0 _ (by decide) rfl W h1, HK0.out 1 _ (by decide) rfl W h1, HK0.out 2 _ (by decide) rfl W h1, HK0.out 3 _ (by decide) rfl W h1, HK0.out 4 _ (by decide) rfl W h1, HK0.out 5 _ (by decide) rfl W h1, HK0.out 6 _ (by decide) rfl W h1, HK0.out 7 _ (by decide) rfl W h1, d 0 _ rfl, d 1 _ rfl, d 2 _ rfl, d 3 _ rfl, d 4 _ rfl, d 5 _ rfl, d 6 _ rfl⟩)
          have HSA := Lib.hid (fun W (hW : Below wi.heap.size wi W) => rSame_any e.rq e.m e.t e.st e.rs e.mn Ae e.Af e.nf ce e.cf e.fs W (HRE0.out.keeps (HBI.out.trans (hW.mono HBI.out.size))) ((HMO.out.rf.below (HBwi.out.trans (hW.mono HBwi.out.size))).more (by have := HBwi.out.size; have := hW.size; omega)) (by have := HMO.out.nf; omega))
          unfold headV at HSA
          have j1 : ¬ ((nM : Nat) : Int) ≤ ((p : Nat) : Int) := by omega
          have j2 : (0 : Int) ≤ ((p : Nat) : Int) := by omega
          have j3 : ((p : Nat) : Int) < ((nM : Nat) : Int) := by omega
          go_upto_region 20 with (fail)
          go_cut [77] (fun v wx => v = .bool false ∧ Below wi.heap.size wi wx)
          case first =>
            refine wp_region_held_drew (S := (fun W => (Below wi.heap.size wi W ∧ W.cell? ⟨gv, ov + p * 11, none⟩ = some (.int .i64 1) ∧ W.cell? ⟨gv, ov + p * 11 + 1, none⟩ = some (.bool e.rq) ∧ W.cell? ⟨gv, ov + p * 11 + 1 + 1, none⟩ = some (.string e.m) ∧ W.cell? ⟨gv, ov + p * 11 + 1 + 2, none⟩ = some (.string e.t) ∧ W.cell? ⟨gv, ov + p * 11 + 1 + 3, none⟩ = some (.int .i64 e.st) ∧ W.cell? ⟨gv, ov + p * 11 + 1 + 4, none⟩ = some (.string e.rs) ∧ W.cell? ⟨gv, ov + p * 11 + 1 + 5, none⟩ = some (.int .i64 e.mn) ∧ W.cell? ⟨gv, ov + p * 11 + 1 + 6, none⟩ = some (.slice Ae e.nf ce) ∧ W.cell? ⟨g, o + i * 10, none⟩ = some (.bool e.rq) ∧ W.cell? ⟨g, o + i * 10 + 1, none⟩ = some (.string e.m) ∧ W.cell? ⟨g, o + i * 10 + 2, none⟩ = some (.string e.t) ∧ W.cell? ⟨g, o + i * 10 + 3, none⟩ = some (.int .i64 e.st) ∧ W.cell? ⟨g, o + i * 10 + 4, none⟩ = some (.string e.rs) ∧ W.cell? ⟨g, o + i * 10 + 5, none⟩ = some (.int .i64 e.mn) ∧ W.cell? ⟨g, o + i * 10 + 6, none⟩ = some (.slice e.Af e.nf e.cf)))) (by as_aux_lemma => kernel_rfl) ?_ (fun hHeld => ?_)
            · exact HS20.out _ ((Below.refl _ _).drew)
            refine wpAnyH_take (i := 0) (v := ?_) (by simp only [List.getElem?_toArray, List.getElem?_cons_zero]; exact rfl) (by as_aux_lemma => kernel_rfl) (by as_aux_lemma => kernel_rfl) (by as_aux_lemma => kernel_rfl) (by exact fun _ _ _ h => h) (Or.inl ⟨by rfl, ?_⟩) (by assumption) ?_
            rotate_left
            · intro w hSw
              (try dsimp only at hSw)
              go_simp
              try with_reducible rfl
            (try simp only [Act.put, List.setIfInBounds_toArray, List.set_cons_zero, List.set_cons_succ])
            refine wpAnyH_take (i := 1) (v := ?_) (by simp only [List.getElem?_toArray, List.getElem?_cons_succ, List.getElem?_cons_zero]; exact rfl) (by as_aux_lemma => kernel_rfl) (by as_aux_lemma => kernel_rfl) (by as_aux_lemma => kernel_rfl) (by exact fun _ _ _ h => h) (Or.inl ⟨by rfl, ?_⟩) (by assumption) ?_
            rotate_left
            · intro w hSw
              (try dsimp only at hSw)
              go_simp
              try with_reducible rfl
            (try simp only [Act.put, List.setIfInBounds_toArray, List.set_cons_zero, List.set_cons_succ])
            refine wpAnyH_take (i := 2) (v := ?_) (by simp only [List.getElem?_toArray, List.getElem?_cons_succ, List.getElem?_cons_zero]; exact rfl) (by as_aux_lemma => kernel_rfl) (by as_aux_lemma => kernel_rfl) (by as_aux_lemma => kernel_rfl) (by exact fun _ _ _ h => h) (Or.inl ⟨by rfl, ?_⟩) (by assumption) ?_
            rotate_left
            · intro w hSw
              (try dsimp only at hSw)
              go_simp
              try with_reducible rfl
            (try simp only [Act.put, List.setIfInBounds_toArray, List.set_cons_zero, List.set_cons_succ])
            refine wpAnyH_take (i := 3) (v := ?_) (by simp only [List.getElem?_toArray, List.getElem?_cons_succ, List.getElem?_cons_zero]; exact rfl) (by as_aux_lemma => kernel_rfl) (by as_aux_lemma => kernel_rfl) (by as_aux_lemma => kernel_rfl) (by exact fun _ _ _ h => h) (Or.inl ⟨by rfl, ?_⟩) (by assumption) ?_
            rotate_left
            · intro w hSw
              (try dsimp only at hSw)
              go_simp
              try with_reducible rfl
            (try simp only [Act.put, List.setIfInBounds_toArray, List.set_cons_zero, List.set_cons_succ])
            refine wpAnyH_take (i := 4) (v := ?_) (by simp only [List.getElem?_toArray, List.getElem?_cons_succ, List.getElem?_cons_zero]; exact rfl) (by as_aux_lemma => kernel_rfl) (by as_aux_lemma => kernel_rfl) (by as_aux_lemma => kernel_rfl) (by exact fun _ _ _ h => h) (Or.inl ⟨by rfl, ?_⟩) (by assumption) ?_
            rotate_left
            · intro w hSw
              (try dsimp only at hSw)
              go_simp
              try with_reducible rfl
            (try simp only [Act.put, List.setIfInBounds_toArray, List.set_cons_zero, List.set_cons_succ])
            refine wpAnyH_take (i := 5) (v := ?_) (by simp only [List.getElem?_toArray, List.getElem?_cons_succ, List.getElem?_cons_zero]; exact rfl) (by as_aux_lemma => kernel_rfl) (by as_aux_lemma => kernel_rfl) (by as_aux_lemma => kernel_rfl) (by exact fun _ _ _ h => h) (Or.inl ⟨by rfl, ?_⟩) (by assumption) ?_
            rotate_left
            · intro w hSw
              (try dsimp only at hSw)
              go_simp
              try with_reducible rfl
            (try simp only [Act.put, List.setIfInBounds_toArray, List.set_cons_zero, List.set_cons_succ])
            refine wpAnyH_take (i := 6) (v := ?_) (by simp only [List.getElem?_toArray, List.getElem?_cons_succ, List.getElem?_cons_zero]; exact rfl) (by as_aux_lemma => kernel_rfl) (by as_aux_lemma => kernel_rfl) (by as_aux_lemma => kernel_rfl) (by exact fun _ _ _ h => h) (Or.inl ⟨by rfl, ?_⟩) (by assumption) ?_
            rotate_left
            · intro w hSw
              (try dsimp only at hSw)
              go_simp
              try with_reducible rfl
            (try simp only [Act.put, List.setIfInBounds_toArray, List.set_cons_zero, List.set_cons_succ])
            refine wpAnyH_take (i := 7) (v := ?_) (by simp only [List.getElem?_toArray, List.getElem?_cons_succ, List.getElem?_cons_zero]; exact rfl) (by as_aux_lemma => kernel_rfl) (by as_aux_lemma => kernel_rfl) (by as_aux_lemma => kernel_rfl) (by exact fun _ _ _ h => h) (Or.inl ⟨by rfl, ?_⟩) (by assumption) ?_
            rotate_left
            · intro w hSw
              (try dsimp only at hSw)
              go_simp
              try with_reducible rfl
            (try simp only [Act.put, List.setIfInBounds_toArray, List.set_cons_zero, List.set_cons_succ])
            refine wpAnyH_take (i := 8) (v := ?_) (by simp only [List.getElem?_toArray, List.getElem?_cons_succ, List.getElem?_cons_zero]; exact rfl) (by as_aux_lemma => kernel_rfl) (by as_aux_lemma => kernel_rfl) (by as_aux_lemma => kernel_rfl) (by exact fun _ _ _ h => h) (Or.inl ⟨by rfl, ?_⟩) (by assumption) ?_
            rotate_left
            · intro w hSw
              (try dsimp only at hSw)
              go_simp
              try with_reducible rfl
            (try simp only [Act.put, List.setIfInBounds_toArray, List.set_cons_zero, List.set_cons_succ])
            refine wpAnyH_take (i := 9) (v := ?_) (by simp only [List.getElem?_toArray, List.getElem?_cons_succ, List.getElem?_cons_zero]; exact rfl) (by as_aux_lemma => kernel_rfl) (by as_aux_lemma => kernel_rfl) (by as_aux_lemma => kernel_rfl) (by exact fun _ _ _ h => h) (Or.inl ⟨by rfl, ?_⟩) (by assumption) ?_
            rotate_left
            · intro w hSw
              (try dsimp only at hSw)
              go_simp
              try with_reducible rfl
            (try simp only [Act.put, List.setIfInBounds_toArray, List.set_cons_zero, List.set_cons_succ])
            refine wpAnyH_take (i := 10) (v := ?_) (by simp only [List.getElem?_toArray, List.getElem?_cons_succ, List.getElem?_cons_zero]; exact rfl) (by as_aux_lemma => kernel_rfl) (by as_aux_lemma => kernel_rfl) (by as_aux_lemma => kernel_rfl) (by exact fun _ _ _ h => h) (Or.inl ⟨by rfl, ?_⟩) (by assumption) ?_
            rotate_left
            · intro w hSw
              (try dsimp only at hSw)
              go_simp
              try with_reducible rfl
            (try simp only [Act.put, List.setIfInBounds_toArray, List.set_cons_zero, List.set_cons_succ])
            refine wpAnyH_take (i := 11) (v := ?_) (by simp only [List.getElem?_toArray, List.getElem?_cons_succ, List.getElem?_cons_zero]; exact rfl) (by as_aux_lemma => kernel_rfl) (by as_aux_lemma => kernel_rfl) (by as_aux_lemma => kernel_rfl) (by exact fun _ _ _ h => h) (Or.inl ⟨by rfl, ?_⟩) (by assumption) ?_
            rotate_left
            · intro w hSw
              (try dsimp only at hSw)
              go_simp
              try with_reducible rfl
            (try simp only [Act.put, List.setIfInBounds_toArray, List.set_cons_zero, List.set_cons_succ])
            refine wpAnyH_take (i := 12) (v := ?_) (by simp only [List.getElem?_toArray, List.getElem?_cons_succ, List.getElem?_cons_zero]; exact rfl) (by as_aux_lemma => kernel_rfl) (by as_aux_lemma => kernel_rfl) (by as_aux_lemma => kernel_rfl) (by exact fun _ _ _ h => h) (Or.inl ⟨by rfl, ?_⟩) (by assumption) ?_
            rotate_left
            · intro w hSw
              (try dsimp only at hSw)
              go_simp
              try with_reducible rfl
            (try simp only [Act.put, List.setIfInBounds_toArray, List.set_cons_zero, List.set_cons_succ])
            refine wpAnyH_take (i := 13) (v := ?_) (by simp only [List.getElem?_toArray, List.getElem?_cons_succ, List.getElem?_cons_zero]; exact rfl) (by as_aux_lemma => kernel_rfl) (by as_aux_lemma => kernel_rfl) (by as_aux_lemma => kernel_rfl) (by exact fun _ _ _ h => h) (Or.inl ⟨by rfl, ?_⟩) (by assumption) ?_
            rotate_left
            · intro w hSw
              (try dsimp only at hSw)
              go_simp
              try with_reducible rfl
            (try simp only [Act.put, List.setIfInBounds_toArray, List.set_cons_zero, List.set_cons_succ])
            refine wpAnyH_take (i := 14) (v := ?_) (by simp only [List.getElem?_toArray, List.getElem?_cons_succ, List.getElem?_cons_zero]; exact rfl) (by as_aux_lemma => kernel_rfl) (by as_aux_lemma => kernel_rfl) (by as_aux_lemma => kernel_rfl) (by exact fun _ _ _ h => h) (Or.inl ⟨by rfl, ?_⟩) (by assumption) ?_
            rotate_left
            · intro w hSw
              (try dsimp only at hSw)
              go_simp
              try with_reducible rfl
            (try simp only [Act.put, List.setIfInBounds_toArray, List.set_cons_zero, List.set_cons_succ])
            refine wpAnyH_take (i := 15) (v := ?_) (by simp only [List.getElem?_toArray, List.getElem?_cons_succ, List.getElem?_cons_zero]; exact rfl) (by as_aux_lemma => kernel_rfl) (by as_aux_lemma => kernel_rfl) (by as_aux_lemma => kernel_rfl) (by exact fun _ _ _ h => h) (Or.inl ⟨by rfl, ?_⟩) (by assumption) ?_
            rotate_left
            · intro w hSw
              (try dsimp only at hSw)
              go_simp
              try with_reducible rfl
            (try simp only [Act.put, List.setIfInBounds_toArray, List.set_cons_zero, List.set_cons_succ])
            refine wpAnyH_take (i := 16) (v := ?_) (by simp only [List.getElem?_toArray, List.getElem?_cons_succ, List.getElem?_cons_zero]; exact rfl) (by as_aux_lemma => kernel_rfl) (by as_aux_lemma => kernel_rfl) (by as_aux_lemma => kernel_rfl) (by exact fun _ _ _ h => h) (Or.inl ⟨by rfl, ?_⟩) (by assumption) ?_
            rotate_left
            · intro w hSw
              (try dsimp only at hSw)
              go_simp
              try with_reducible rfl
            (try simp only [Act.put, List.setIfInBounds_toArray, List.set_cons_zero, List.set_cons_succ])
            refine wpAnyH_take (i := 17) (v := ?_) (by simp only [List.getElem?_toArray, List.getElem?_cons_succ, List.getElem?_cons_zero]; exact rfl) (by as_aux_lemma => kernel_rfl) (by as_aux_lemma => kernel_rfl) (by as_aux_lemma => kernel_rfl) (by exact fun _ _ _ h => h) (Or.inl ⟨by rfl, ?_⟩) (by assumption) ?_
            rotate_left
            · intro w hSw
              (try dsimp only at hSw)
              go_simp
              try with_reducible rfl
            (try simp only [Act.put, List.setIfInBounds_toArray, List.set_cons_zero, List.set_cons_succ])
            refine wpAnyH_take (i := 18) (v := ?_) (by simp only [List.getElem?_toArray, List.getElem?_cons_succ, List.getElem?_cons_zero]; exact rfl) (by as_aux_lemma => kernel_rfl) (by as_aux_lemma => kernel_rfl) (by as_aux_lemma => kernel_rfl) (by exact fun _ _ _ h => h) (Or.inl ⟨by rfl, ?_⟩) (by assumption) ?_
            rotate_left
            · intro w hSw
              (try dsimp only at hSw)
              go_simp
              try with_reducible rfl
            (try simp only [Act.put, List.setIfInBounds_toArray, List.set_cons_zero, List.set_cons_succ])
            refine wpAnyH_take (i := 19) (v := ?_) (by simp only [List.getElem?_toArray, List.getElem?_cons_succ, List.getElem?_cons_zero]; exact rfl) (by as_aux_lemma => kernel_rfl) (by as_aux_lemma => kernel_rfl) (by as_aux_lemma => kernel_rfl) (by exact fun _ _ _ h => h) (Or.inl ⟨by rfl, ?_⟩) (by assumption) ?_
            rotate_left
            · intro w hSw
              (try dsimp only at hSw)
              go_simp
              try with_reducible rfl
            (try simp only [Act.put, List.setIfInBounds_toArray, List.set_cons_zero, List.set_cons_succ])
            refine wpAnyH_take (i := 20) (v := ?_) (by simp only [List.getElem?_toArray, List.getElem?_cons_succ, List.getElem?_cons_zero]; exact rfl) (by as_aux_lemma => kernel_rfl) (by as_aux_lemma => kernel_rfl) (by as_aux_lemma => kernel_rfl) (by exact fun _ _ _ h => h) (Or.inl ⟨by rfl, ?_⟩) (by assumption) ?_
            rotate_left
            · intro w hSw
              (try dsimp only at hSw)
              go_simp
              try with_reducible rfl
            (try simp only [Act.put, List.setIfInBounds_toArray, List.set_cons_zero, List.set_cons_succ])
            refine wpAnyH_take (i := 21) (v := ?_) (by simp only [List.getElem?_toArray, List.getElem?_cons_succ, List.getElem?_cons_zero]; exact rfl) (by as_aux_lemma => kernel_rfl) (by as_aux_lemma => kernel_rfl) (by as_aux_lemma => kernel_rfl) (by exact fun _ _ _ h => h) (Or.inl ⟨by rfl, ?_⟩) (by assumption) ?_
            rotate_left
            · intro w hSw
              (try dsimp only at hSw)
              go_simp
              try with_reducible rfl
            (try simp only [Act.put, List.setIfInBounds_toArray, List.set_cons_zero, List.set_cons_succ])
            refine wpAnyH_take (i := 22) (v := ?_) (by simp only [List.getElem?_toArray, List.getElem?_cons_succ, List.getElem?_cons_zero]; exact rfl) (by as_aux_lemma => kernel_rfl) (by as_aux_lemma => kernel_rfl) (by as_aux_lemma => kernel_rfl) (by exact fun _ _ _ h => h) (Or.inl ⟨by rfl, ?_⟩) (by assumption) ?_
            rotate_left
            · intro w hSw
              (try dsimp only at hSw)
              go_simp
              try with_reducible rfl
            (try simp only [Act.put, List.setIfInBounds_toArray, List.set_cons_zero, List.set_cons_succ])
            refine wpAnyH_ready (rs := [23]) (by as_aux_lemma => kernel_rfl) (by simp) ?_
            refine AllReadyH.cons (by simp only [List.getElem?_toArray, List.getElem?_cons_succ, List.getElem?_cons_zero]; exact rfl) (fun K hK => ?_) AllReadyH.nil
            go_simp
            (go_at_call 21; go_must (refine (HSA.out _ ((Below.refl _ _).drew)).mono ?_; rintro _ w7 ⟨rfl, hb7⟩; have hq := (Below.refl _ _).drew.trans hb7; have HQ := Lib.hid hq))
            refine hK.out _ _ ?_ (fun hHeld => ?_)
            · (try dsimp only)
              exact HS20.out _ hq
            clear hK K
            (try simp only [Act.put, List.setIfInBounds_toArray, List.set_cons_zero, List.set_cons_succ])
            refine wpAnyH_take (i := 24) (v := ?_) (by simp only [List.getElem?_toArray, List.getElem?_cons_succ, List.getElem?_cons_zero]; exact rfl) (by as_aux_lemma => kernel_rfl) (by as_aux_lemma => kernel_rfl) (by as_aux_lemma => kernel_rfl) (by exact fun _ _ _ h => h) (Or.inl ⟨by rfl, ?_⟩) (by assumption) ?_
            rotate_left
            · intro w hSw
              (try dsimp only at hSw)
              go_simp
              try with_reducible rfl
            (try simp only [Act.put, List.setIfInBounds_toArray, List.set_cons_zero, List.set_cons_succ])
            refine wpAnyH_take (i := 25) (v := ?_) (by simp only [List.getElem?_toArray, List.getElem?_cons_succ, List.getElem?_cons_zero]; exact rfl) (by as_aux_lemma => kernel_rfl) (by as_aux_lemma => kernel_rfl) (by as_aux_lemma => kernel_rfl) (by exact fun _ _ _ h => h) (Or.inl ⟨by rfl, ?_⟩) (by assumption) ?_
            rotate_left
            · intro w hSw
              (try dsimp only at hSw)
              go_simp
              try with_reducible rfl
            (try simp only [Act.put, List.setIfInBounds_toArray, List.set_cons_zero, List.set_cons_succ])
            refine wpAnyH_done (by as_aux_lemma => kernel_rfl) ?_ _
            go_wp2
            go_meet
            exact ⟨rfl, HQ.out⟩
          case rest =>
          obtain ⟨rfl, hb7⟩ := hcut
          obtain ⟨w7, rfl⟩ : ∃ w7 : World, w7 = wc := ⟨_, rfl⟩
          have HB7 := Lib.hid hb7
          have HB57 : Hid (Below w5.heap.size w5 w7) := Lib.hid (HBI.out.trans (hb7.mono HBI.out.size))
          have HBw7 : Hid (Below w.heap.size w w7) := Lib.hid (HBwi.out.trans (hb7.mono HBwi.out.size))
          clear hb7 j1 j2 j3 HSA HS20
          obtain ⟨p1, hp1⟩ : ∃ p1, p1 = p + 1 := ⟨_, rfl⟩
          have HP1 := Lib.hid hp1
          go_upto_region 22 with (fail)
          go_cut [10] (fun v wx => wx = w7 ∧ v = .int .i64 (p1 : Nat))
          case first =>
            go_wp2
            go_meet
            exact ⟨rfl, by go_num⟩
          case rest =>
          obtain ⟨rfl, rfl⟩ := hcut
          obtain ⟨w7, rfl⟩ : ∃ w7 : World, w7 = wc := ⟨_, rfl⟩
          have dm7 : w7.cell? ⟨g, o + i * 10 + 7, none⟩ = some (.slice e.Ab e.nb e.cb) := (HBw7.out.cell (p := ⟨g, o + i * 10 + 7, none⟩) hg).trans (HCC.out 7 _ rfl)
          have hbl : e.body.length = e.nb := by have := HMO.out.rb.1; rw [bytesV_len] at this; omega
          have HBLN := Lib.hid hbl
          clear hp1 hbl
          by_cases hb0 : 0 < e.nb
          · have hbne : e.body ≠ [] := fun h => by have := HBLN.out; rw [h] at this; simp at this; omega
            obtain ⟨hq1, hx1⟩ := map_at (Q := P ++ [.head gh fr ln]) (a := .body e.body) (R := [.fin] ++ post) (by rw [HMEV.out]; unfold Strm.evs Strm.data; rw [if_neg hbne]; simp)
            obtain ⟨hq2, hx2⟩ := map_at (Q := P ++ [.head gh fr ln, .body e.body]) (a := .fin) (R := post) (by rw [HMEV.out]; unfold Strm.evs Strm.data; rw [if_neg hbne]; simp)
            have hl1 : (P ++ [Strm.E1.head gh fr ln]).length = p1 := by rw [List.length_append, HP1.out, HPP.out]; rfl
            obtain ⟨p2, hp2⟩ : ∃ p2, p2 = p1 + 1 := ⟨_, rfl⟩
            have hl2 : (P ++ [Strm.E1.head gh fr ln, .body e.body]).length = p2 := by rw [List.length_append, hp2, HP1.out, HPP.out]; rfl
            simp only [hl1] at hq1 hx1
            simp only [hl2] at hq2 hx2
            have hv1 := HW5.out.el _ (List.getElem_mem hq1)
            obtain ⟨Ad, cd2, hde, hdl1, hdl2, hdl3, hrd⟩ := Row.form hv1.d
            rw [hx1] at hde hrd
            rw [show eData (.body e.body) = e.body from rfl, HBLN.out] at hde hrd
            have c1 : ∀ W, Below w5.heap.size w5 W → W.cell? ⟨gv, ov + p1 * 11, none⟩ = some (.int .i64 2) := fun W hW => HKK.out p1 0 hq1 _ (by decide) (by rw [show (M[p1].cells)[0]? = some (.int .i64 (eKind M[p1].x)) from rfl, hx1]; rfl) W hW
            have c2 : ∀ W, Below w5.heap.size w5 W → W.cell? ⟨gv, ov + p1 * 11 + 10, none⟩ = some (.slice Ad e.nb cd2) := fun W hW => HKK.out p1 10 hq1 _ (by decide) (by rw [show (M[p1].cells)[10]? = some M[p1].dv from rfl, hde]) W hW
            have c3 : ∀ W, Below w5.heap.size w5 W → W.cell? ⟨gv, ov + p2 * 11, none⟩ = some (.int .i64 3) := fun W hW => HKK.out p2 0 hq2 _ (by decide) (by rw [show (M[p2].cells)[0]? = some (.int .i64 (eKind M[p2].x)) from rfl, hx2]; rfl) W hW
            have hn1 : p1 < nM := by have := HNM.out; omega
            have hn2 : p2 < nM := by have := HNM.out; omega
            have HC3 := Lib.hid c3
            have HRDD := Lib.hid hrd
            have HP2 := Lib.hid hp2
            have HS24 : Hid (∀ W, Below w7.heap.size w7 W → (Below w7.heap.size w7 W ∧ W.cell? ⟨gv, ov + p1 * 11, none⟩ = some (.int .i64 2) ∧ W.cell? ⟨gv, ov + p1 * 11 + 10, none⟩ = some (.slice Ad e.nb cd2) ∧ W.cell? ⟨g, o + i * 10 + 7, none⟩ = some (.slice e.Ab e.nb e.cb))) := Lib.hid (fun W hW => by
              have h1 : Below w5.heap.size w5 W := HB57.out.trans (hW.mono HB57.out.size)
              have h2 : Below w.heap.size w W := HBw7.out.trans (hW.mono HBw7.out.size)
              exact ⟨hW, c1 W h1, c2 W h1, (h2.cell (p := ⟨g, o + i * 10 + 7, none⟩) hg).trans (HCC.out 7 _ rfl)⟩)
            have HSM2 := Lib.hid (fun W (hW : Below w7.heap.size w7 W) => ssame_any Ad e.Ab e.nb cd2 e.cb e.body W (hrd.keeps (HB57.out.trans (hW.mono HB57.out.size))) ((HMO.out.rb.below (HBw7.out.trans (hW.mono HBw7.out.size))).more (by have := HBw7.out.size; have := hW.size; omega)) (by have := HMO.out.nb; omega))
            clear c1 c2 c3 hrd hde hdl1 hdl2 hdl3 hv1 hx1 hx2 hq1 hq2 hl1 hl2 hp2 hbne
            have j0 : (0 : Int) < (e.nb : Int) := by omega
            have j1 : ¬ ((nM : Nat) : Int) ≤ ((p1 : Nat) : Int) := by omega
            have j2 : (0 : Int) ≤ ((p1 : Nat) : Int) := by omega
            have j3 : ((p1 : Nat) : Int) < ((nM : Nat) : Int) := by omega
            go_upto_region 24 with (fail)
            go_cut [112] (fun v wx => v = .bool false ∧ Below w7.heap.size w7 wx)
            case first =>
              refine wp_region_held_drew (S := (fun W => (Below w7.heap.size w7 W ∧ W.cell? ⟨gv, ov + p1 * 11, none⟩ = some (.int .i64 2) ∧ W.cell? ⟨gv, ov + p1 * 11 + 10, none⟩ = some (.slice Ad e.nb cd2) ∧ W.cell? ⟨g, o + i * 10 + 7, none⟩ = some (.slice e.Ab e.nb e.cb)))) (by as_aux_lemma => kernel_rfl) ?_ (fun hHeld => ?_)
              · exact HS24.out _ ((Below.refl _ _).drew)
              refine wpAnyH_take (i := 0) (v := ?_) (by simp only [List.getElem?_toArray, List.getElem?_cons_zero]; exact rfl) (by as_aux_lemma => kernel_rfl) (by as_aux_lemma => kernel_rfl) (by as_aux_lemma => kernel_rfl) (by exact fun _ _ _ h => h) (Or.inl ⟨by rfl, ?_⟩) (by assumption) ?_
              rotate_left
              · intro w hSw
                (try dsimp only at hSw)
                go_simp
                try with_reducible rfl
              (try simp only [Act.put, List.setIfInBounds_toArray, List.set_cons_zero, List.set_cons_succ])
              refine wpAnyH_take (i := 1) (v := ?_) (by simp only [List.getElem?_toArray, List.getElem?_cons_succ, List.getElem?_cons_zero]; exact rfl) (by as_aux_lemma => kernel_rfl) (by as_aux_lemma => kernel_rfl) (by as_aux_lemma => kernel_rfl) (by exact fun _ _ _ h => h) (Or.inl ⟨by rfl, ?_⟩) (by assumption) ?_
              rotate_left
              · intro w hSw
                (try dsimp only at hSw)
                go_simp
                try with_reducible rfl
              (try simp only [Act.put, List.setIfInBounds_toArray, List.set_cons_zero, List.set_cons_succ])
              refine wpAnyH_take (i := 2) (v := ?_) (by simp only [List.getElem?_toArray, List.getElem?_cons_succ, List.getElem?_cons_zero]; exact rfl) (by as_aux_lemma => kernel_rfl) (by as_aux_lemma => kernel_rfl) (by as_aux_lemma => kernel_rfl) (by exact fun _ _ _ h => h) (Or.inl ⟨by rfl, ?_⟩) (by assumption) ?_
              rotate_left
              · intro w hSw
                (try dsimp only at hSw)
                go_simp
                try with_reducible rfl
              (try simp only [Act.put, List.setIfInBounds_toArray, List.set_cons_zero, List.set_cons_succ])
              refine wpAnyH_take (i := 3) (v := ?_) (by simp only [List.getElem?_toArray, List.getElem?_cons_succ, List.getElem?_cons_zero]; exact rfl) (by as_aux_lemma => kernel_rfl) (by as_aux_lemma => kernel_rfl) (by as_aux_lemma => kernel_rfl) (by exact fun _ _ _ h => h) (Or.inl ⟨by rfl, ?_⟩) (by assumption) ?_
              rotate_left
              · intro w hSw
                (try dsimp only at hSw)
                go_simp
                try with_reducible rfl
              (try simp only [Act.put, List.setIfInBounds_toArray, List.set_cons_zero, List.set_cons_succ])
              refine wpAnyH_take (i := 4) (v := ?_) (by simp only [List.getElem?_toArray, List.getElem?_cons_succ, List.getElem?_cons_zero]; exact rfl) (by as_aux_lemma => kernel_rfl) (by as_aux_lemma => kernel_rfl) (by as_aux_lemma => kernel_rfl) (by exact fun _ _ _ h => h) (Or.inl ⟨by rfl, ?_⟩) (by assumption) ?_
              rotate_left
              · intro w hSw
                (try dsimp only at hSw)
                go_simp
                try with_reducible rfl
              (try simp only [Act.put, List.setIfInBounds_toArray, List.set_cons_zero, List.set_cons_succ])
              refine wpAnyH_take (i := 5) (v := ?_) (by simp only [List.getElem?_toArray, List.getElem?_cons_succ, List.getElem?_cons_zero]; exact rfl) (by as_aux_lemma => kernel_rfl) (by as_aux_lemma => kernel_rfl) (by as_aux_lemma => kernel_rfl) (by exact fun _ _ _ h => h) (Or.inl ⟨by rfl, ?_⟩) (by assumption) ?_
              rotate_left
              · intro w hSw
                (try dsimp only at hSw)
                go_simp
                try with_reducible rfl
              (try simp only [Act.put, List.setIfInBounds_toArray, List.set_cons_zero, List.set_cons_succ])
              refine wpAnyH_take (i := 6) (v := ?_) (by simp only [List.getElem?_toArray, List.getElem?_cons_succ, List.getElem?_cons_zero]; exact rfl) (by as_aux_lemma => kernel_rfl) (by as_aux_lemma => kernel_rfl) (by as_aux_lemma => kernel_rfl) (by exact fun _ _ _ h => h) (Or.inl ⟨by rfl, ?_⟩) (by assumption) ?_
              rotate_left
              · intro w hSw
                (try dsimp only at hSw)
                go_simp
                try with_reducible rfl
              (try simp only [Act.put, List.setIfInBounds_toArray, List.set_cons_zero, List.set_cons_succ])
              refine wpAnyH_take (i := 7) (v := ?_) (by simp only [List.getElem?_toArray, List.getElem?_cons_succ, List.getElem?_cons_zero]; exact rfl) (by as_aux_lemma => kernel_rfl) (by as_aux_lemma => kernel_rfl) (by as_aux_lemma => kernel_rfl) (by exact fun _ _ _ h => h) (Or.inl ⟨by rfl, ?_⟩) (by assumption) ?_
              rotate_left
              · intro w hSw
                (try dsimp only at hSw)
                go_simp
                try with_reducible rfl
              (try simp only [Act.put, List.setIfInBounds_toArray, List.set_cons_zero, List.set_cons_succ])
              refine wpAnyH_take (i := 8) (v := ?_) (by simp only [List.getElem?_toArray, List.getElem?_cons_succ, List.getElem?_cons_zero]; exact rfl) (by as_aux_lemma => kernel_rfl) (by as_aux_lemma => kernel_rfl) (by as_aux_lemma => kernel_rfl) (by exact fun _ _ _ h => h) (Or.inl ⟨by rfl, ?_⟩) (by assumption) ?_
              rotate_left
              · intro w hSw
                (try dsimp only at hSw)
                go_simp
                try with_reducible rfl
              (try simp only [Act.put, List.setIfInBounds_toArray, List.set_cons_zero, List.set_cons_succ])
              refine wpAnyH_take (i := 9) (v := ?_) (by simp only [List.getElem?_toArray, List.getElem?_cons_succ, List.getElem?_cons_zero]; exact rfl) (by as_aux_lemma => kernel_rfl) (by as_aux_lemma => kernel_rfl) (by as_aux_lemma => kernel_rfl) (by exact fun _ _ _ h => h) (Or.inl ⟨by rfl, ?_⟩) (by assumption) ?_
              rotate_left
              · intro w hSw
                (try dsimp only at hSw)
                go_simp
                try with_reducible rfl
              (try simp only [Act.put, List.setIfInBounds_toArray, List.set_cons_zero, List.set_cons_succ])
              refine wpAnyH_take (i := 10) (v := ?_) (by simp only [List.getElem?_toArray, List.getElem?_cons_succ, List.getElem?_cons_zero]; exact rfl) (by as_aux_lemma => kernel_rfl) (by as_aux_lemma => kernel_rfl) (by as_aux_lemma => kernel_rfl) (by exact fun _ _ _ h => h) (Or.inl ⟨by rfl, ?_⟩) (by assumption) ?_
              rotate_left
              · intro w hSw
                (try dsimp only at hSw)
                go_simp
                try with_reducible rfl
              (try simp only [Act.put, List.setIfInBounds_toArray, List.set_cons_zero, List.set_cons_succ])
              refine wpAnyH_take (i := 11) (v := ?_) (by simp only [List.getElem?_toArray, List.getElem?_cons_succ, List.getElem?_cons_zero]; exact rfl) (by as_aux_lemma => kernel_rfl) (by as_aux_lemma => kernel_rfl) (by as_aux_lemma => kernel_rfl) (by exact fun _ _ _ h => h) (Or.inl ⟨by rfl, ?_⟩) (by assumption) ?_
              rotate_left
              · intro w hSw
                (try dsimp only at hSw)
                go_simp
                try with_reducible rfl
              (try simp only [Act.put, List.setIfInBounds_toArray, List.set_cons_zero, List.set_cons_succ])
              refine wpAnyH_take (i := 12) (v := ?_) (by simp only [List.getElem?_toArray, List.getElem?_cons_succ, List.getElem?_cons_zero]; exact rfl) (by as_aux_lemma => kernel_rfl) (by as_aux_lemma => kernel_rfl) (by as_aux_lemma => kernel_rfl) (by exact fun _ _ _ h => h) (Or.inl ⟨by rfl, ?_⟩) (by assumption) ?_
              rotate_left
              · intro w hSw
                (try dsimp only at hSw)
                go_simp
                try with_reducible rfl
              (try simp only [Act.put, List.setIfInBounds_toArray, List.set_cons_zero, List.set_cons_succ])
              refine wpAnyH_take (i := 13) (v := ?_) (by simp only [List.getElem?_toArray, List.getElem?_cons_succ, List.getElem?_cons_zero]; exact rfl) (by as_aux_lemma => kernel_rfl) (by as_aux_lemma => kernel_rfl) (by as_aux_lemma => kernel_rfl) (by exact fun _ _ _ h => h) (Or.inl ⟨by rfl, ?_⟩) (by assumption) ?_
              rotate_left
              · intro w hSw
                (try dsimp only at hSw)
                go_simp
                try with_reducible rfl
              (try simp only [Act.put, List.setIfInBounds_toArray, List.set_cons_zero, List.set_cons_succ])
              refine wpAnyH_take (i := 14) (v := ?_) (by simp only [List.getElem?_toArray, List.getElem?_cons_succ, List.getElem?_cons_zero]; exact rfl) (by as_aux_lemma => kernel_rfl) (by as_aux_lemma => kernel_rfl) (by as_aux_lemma => kernel_rfl) (by exact fun _ _ _ h => h) (Or.inl ⟨by rfl, ?_⟩) (by assumption) ?_
              rotate_left
              · intro w hSw
                (try dsimp only at hSw)
                go_simp
                try with_reducible rfl
              (try simp only [Act.put, List.setIfInBounds_toArray, List.set_cons_zero, List.set_cons_succ])
              refine wpAnyH_take (i := 15) (v := ?_) (by simp only [List.getElem?_toArray, List.getElem?_cons_succ, List.getElem?_cons_zero]; exact rfl) (by as_aux_lemma => kernel_rfl) (by as_aux_lemma => kernel_rfl) (by as_aux_lemma => kernel_rfl) (by exact fun _ _ _ h => h) (Or.inl ⟨by rfl, ?_⟩) (by assumption) ?_
              rotate_left
              · intro w hSw
                (try dsimp only at hSw)
                go_simp
                try with_reducible rfl
              (try simp only [Act.put, List.setIfInBounds_toArray, List.set_cons_zero, List.set_cons_succ])
              refine wpAnyH_take (i := 16) (v := ?_) (by simp only [List.getElem?_toArray, List.getElem?_cons_succ, List.getElem?_cons_zero]; exact rfl) (by as_aux_lemma => kernel_rfl) (by as_aux_lemma => kernel_rfl) (by as_aux_lemma => kernel_rfl) (by exact fun _ _ _ h => h) (Or.inl ⟨by rfl, ?_⟩) (by assumption) ?_
              rotate_left
              · intro w hSw
                (try dsimp only at hSw)
                go_simp
                try with_reducible rfl
              (try simp only [Act.put, List.setIfInBounds_toArray, List.set_cons_zero, List.set_cons_succ])
              refine wpAnyH_take (i := 17) (v := ?_) (by simp only [List.getElem?_toArray, List.getElem?_cons_succ, List.getElem?_cons_zero]; exact rfl) (by as_aux_lemma => kernel_rfl) (by as_aux_lemma => kernel_rfl) (by as_aux_lemma => kernel_rfl) (by exact fun _ _ _ h => h) (Or.inl ⟨by rfl, ?_⟩) (by assumption) ?_
              rotate_left
              · intro w hSw
                (try dsimp only at hSw)
                go_simp
                try with_reducible rfl
              (try simp only [Act.put, List.setIfInBounds_toArray, List.set_cons_zero, List.set_cons_succ])
              refine wpAnyH_take (i := 18) (v := ?_) (by simp only [List.getElem?_toArray, List.getElem?_cons_succ, List.getElem?_cons_zero]; exact rfl) (by as_aux_lemma => kernel_rfl) (by as_aux_lemma => kernel_rfl) (by as_aux_lemma => kernel_rfl) (by exact fun _ _ _ h => h) (Or.inl ⟨by rfl, ?_⟩) (by assumption) ?_
              rotate_left
              · intro w hSw
                (try dsimp only at hSw)
                go_simp
                try with_reducible rfl
              (try simp only [Act.put, List.setIfInBounds_toArray, List.set_cons_zero, List.set_cons_succ])
              refine wpAnyH_take (i := 19) (v := ?_) (by simp only [List.getElem?_toArray, List.getElem?_cons_succ, List.getElem?_cons_zero]; exact rfl) (by as_aux_lemma => kernel_rfl) (by as_aux_lemma => kernel_rfl) (by as_aux_lemma => kernel_rfl) (by exact fun _ _ _ h => h) (Or.inl ⟨by rfl, ?_⟩) (by assumption) ?_
              rotate_left
              · intro w hSw
                (try dsimp only at hSw)
                go_simp
                try with_reducible rfl
              (try simp only [Act.put, List.setIfInBounds_toArray, List.set_cons_zero, List.set_cons_succ])
              refine wpAnyH_take (i := 20) (v := ?_) (by simp only [List.getElem?_toArray, List.getElem?_cons_succ, List.getElem?_cons_zero]; exact rfl) (by as_aux_lemma => kernel_rfl) (by as_aux_lemma => kernel_rfl) (by as_aux_lemma => kernel_rfl) (by exact fun _ _ _ h => h) (Or.inl ⟨by rfl, ?_⟩) (by assumption) ?_
              rotate_left
              · intro w hSw
                (try dsimp only at hSw)
                go_simp
                try with_reducible rfl
              (try simp only [Act.put, List.setIfInBounds_toArray, List.set_cons_zero, List.set_cons_succ])
              refine wpAnyH_take (i := 21) (v := ?_) (by simp only [List.getElem?_toArray, List.getElem?_cons_succ, List.getElem?_cons_zero]; exact rfl) (by as_aux_lemma => kernel_rfl) (by as_aux_lemma => kernel_rfl) (by as_aux_lemma => kernel_rfl) (by exact fun _ _ _ h => h) (Or.inl ⟨by rfl, ?_⟩) (by assumption) ?_
              rotate_left
              · intro w hSw
                (try dsimp only at hSw)
                go_simp
                try with_reducible rfl
              (try simp only [Act.put, List.setIfInBounds_toArray, List.set_cons_zero, List.set_cons_succ])
              refine wpAnyH_take (i := 22) (v := ?_) (by simp only [List.getElem?_toArray, List.getElem?_cons_succ, List.getElem?_cons_zero]; exact rfl) (by as_aux_lemma => kernel_rfl) (by as_aux_lemma => kernel_rfl) (by as_aux_lemma => kernel_rfl) (by exact fun _ _ _ h => h) (Or.inl ⟨by rfl, ?_⟩) (by assumption) ?_
              rotate_left
              · intro w hSw
                (try dsimp only at hSw)
                go_simp
                try with_reducible rfl
              (try simp only [Act.put, List.setIfInBounds_toArray, List.set_cons_zero, List.set_cons_succ])
              refine wpAnyH_ready (rs := [23]) (by as_aux_lemma => kernel_rfl) (by simp) ?_
              refine AllReadyH.cons (by simp only [List.getElem?_toArray, List.getElem?_cons_succ, List.getElem?_cons_zero]; exact rfl) (fun K hK => ?_) AllReadyH.nil
              go_simp
              (go_at_call 13; go_must (refine (HSM2.out _ ((Below.refl _ _).drew)).mono ?_; rintro _ w8 ⟨rfl, hb8⟩; have hq := (Below.refl _ _).drew.trans hb8; have HQ := Lib.hid hq))
              refine hK.out _ _ ?_ (fun hHeld => ?_)
              · (try dsimp only)
                exact HS24.out _ hq
              clear hK K
              (try simp only [Act.put, List.setIfInBounds_toArray, List.set_cons_zero, List.set_cons_succ])
              refine wpAnyH_take (i := 24) (v := ?_) (by simp only [List.getElem?_toArray, List.getElem?_cons_succ, List.getElem?_cons_zero]; exact rfl) (by as_aux_lemma => kernel_rfl) (by as_aux_lemma => kernel_rfl) (by as_aux_lemma => kernel_rfl) (by exact fun _ _ _ h => h) (Or.inl ⟨by rfl, ?_⟩) (by assumption) ?_
              rotate_left
              · intro w hSw
                (try dsimp only at hSw)
                go_simp
                try with_reducible rfl
              (try simp only [Act.put, List.setIfInBounds_toArray, List.set_cons_zero, List.set_cons_succ])
              refine wpAnyH_take (i := 25) (v := ?_) (by simp only [List.getElem?_toArray, List.getElem?_cons_succ, List.getElem?_cons_zero]; exact rfl) (by as_aux_lemma => kernel_rfl) (by as_aux_lemma => kernel_rfl) (by as_aux_lemma => kernel_rfl) (by exact fun _ _ _ h => h) (Or.inl ⟨by rfl, ?_⟩) (by assumption) ?_
              rotate_left
              · intro w hSw
                (try dsimp only at hSw)
                go_simp
                try with_reducible rfl
              (try simp only [Act.put, List.setIfInBounds_toArray, List.set_cons_zero, List.set_cons_succ])
              refine wpAnyH_done (by as_aux_lemma => kernel_rfl) ?_ _
              go_wp2
              go_meet
              exact ⟨rfl, HQ.out⟩
            case rest =>
            obtain ⟨rfl, hb8⟩ := hcut
            obtain ⟨w8, rfl⟩ : ∃ w8 : World, w8 = wc := ⟨_, rfl⟩
            have HB58 : Hid (Below w5.heap.size w5 w8) := Lib.hid (HB57.out.trans (hb8.mono HB57.out.size))
            have c3 := HC3.out w8 HB58.out
            clear hb8 j0 j1 j2 j3 HSM2 HS24 dm7
            go_upto_region 26 with (fail)
            go_cut [10] (fun v wx => wx = w8 ∧ v = .int .i64 (p2 : Nat))
            case first =>
              have hp2 := HP2.out
              go_wp2
              go_meet
              exact ⟨rfl, by go_num⟩
            case rest =>
            obtain ⟨rfl, rfl⟩ := hcut
            obtain ⟨w8, rfl⟩ : ∃ w8 : World, w8 = wc := ⟨_, rfl⟩
            have j1 : ¬ ((nM : Nat) : Int) ≤ ((p2 : Nat) : Int) := by omega
            have j2 : (0 : Int) ≤ ((p2 : Nat) : Int) := by omega
            have j3 : ((p2 : Nat) : Int) < ((nM : Nat) : Int) := by omega
            go_wp2
            go_roundw
            case rel =>
              refine ⟨i + 1, by go_num, by omega, ?_, HB58.out⟩
              have h1 := HNL.out
              have h2 := HP1.out
              have h3 := HP2.out
              have h4 : (Strm.evs gh fr ln e.body).length = 3 := by
                unfold Strm.evs Strm.data
                rw [if_neg (fun h => by have := HBLN.out; rw [h] at this; simp at this; omega)]
                rfl
              rw [h1, h4]
              go_num
            case measure => simp [intOf]; omega
          · have hbe : e.body = [] := List.eq_nil_of_length_eq_zero (by have := HBLN.out; omega)
            obtain ⟨hq1, hx1⟩ := map_at (Q := P ++ [.head gh fr ln]) (a := .fin) (R := post) (by rw [HMEV.out]; unfold Strm.evs Strm.data; rw [if_pos hbe]; simp)
            have hl1 : (P ++ [Strm.E1.head gh fr ln]).length = p1 := by rw [List.length_append, HP1.out, HPP.out]; rfl
            simp only [hl1] at hq1 hx1
            have c1 : w7.cell? ⟨gv, ov + p1 * 11, none⟩ = some (.int .i64 3) := HKK.out p1 0 hq1 _ (by decide) (by rw [show (M[p1].cells)[0]? = some (.int .i64 (eKind M[p1].x)) from rfl, hx1]; rfl) w7 HB57.out
            have hn1 : p1 < nM := by have := HNM.out; omega
            have HBE := Lib.hid hbe
            clear hx1 hq1 hl1 hbe
            have j0 : ¬ (0 : Int) < (e.nb : Int) := by omega
            have j1 : ¬ ((nM : Nat) : Int) ≤ ((p1 : Nat) : Int) := by omega
            have j2 : (0 : Int) ≤ ((p1 : Nat) : Int) := by omega
            have j3 : ((p1 : Nat) : Int) < ((nM : Nat) : Int) := by omega
            go_wp2
            go_roundw
            case rel =>
              refine ⟨i + 1, by go_num, by omega, ?_, HB57.out⟩
              have h1 := HNL.out
              have h2 := HP1.out
              have h4 : (Strm.evs gh fr ln e.body).length = 2 := by
                unfold Strm.evs Strm.data
                rw [if_pos HBE.out]
                rfl
              rw [h1, h4]
              go_num
            case measure => simp [intOf]; omega
        · obtain rfl : i = k := by omega
          have hpM : (evL (G.take i) L).length = nM := by
            rw [List.take_of_length_le (by have := HBS.out.len; omega), HNM.out, ← HME.out, List.length_map]
          rw [hpM]
          have hE : endsP u4 = ([], 0) := by unfold endsP; rw [if_pos HRDY.out.win]
          have HE1 := sended_any ((HM4.out.below HW5.out.bl).below HBI.out) HRDY.out.inv HD4.out
          rw [hE] at HE1
          have HEN := Lib.hid HE1
          clear HE1 hE
          go_upto_region 31 with (first
            | (go_at_call 16; go_must (refine HEN.out.mono ?_; rintro _ w9 ⟨v9, L9, rfl, hL9, ho9, hm9, hc9⟩; have HC9 := Lib.hid hc9; clear hL9 ho9 hm9 hc9))
            | fail)
          have hj : (((nM : Nat) : Int) == ((nM : Nat) : Int)) = true := by simp
          go_wp2
          go_ret
          exact ⟨rfl, Below.chg (HB05.out.trans (HBI.out.mono HB05.out.size)) HC9.out (by have := HB05.out.size; have := HBI.out.size; omega) (fun q hq => by have := (HM4.out.lt q hq).1; have := HB0.out.size; omega)⟩
end Go.Proofs.YtklmpadcfioefaaGreatDoor
