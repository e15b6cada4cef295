/- the law StreamOwn (printed by gen_sown.py). Conditions: sizes, the world's shape. -/
import Derived.Test.YtklmpadcfioefaaDoorSOwnM
import Derived.Test.YtklmpadcfioefaaDoorSAwake
import Derived.Test.YtklmpadcfioefaaDoorPcJ
import Derived.BigRegion
namespace Go.Proofs.YtklmpadcfioefaaDoor
open Go.RowKit
/-- two readers that read the same -/
structure TwoR (w0 w : World) (rb1 rb2 : Nat) (s : Strm.S) (V1 : SV) (q1 : Nat) (V2 : SV) (q2 : Nat) : Prop where
  m1 : SMem w w0.heap.size rb1 s V1 q1
  m2 : SMem w w0.heap.size rb2 s V2 q2
  a12 : ∀ k, footS rb1 V1 k → ¬ footS rb2 V2 k
  bl : Below w0.heap.size w0 w
theorem TwoR.chg {w0 w w' : World} {rb1 rb2 q1 q2 : Nat} {s : Strm.S} {V1 V2 : SV} {S : Nat → Prop} (h : TwoR w0 w rb1 rb2 s V1 q1 V2 q2) (hc : Chg S w w') (h1 : ∀ k, footS rb1 V1 k → ¬ S k) (h2 : ∀ k, footS rb2 V2 k → ¬ S k) (hS : ∀ k, S k → w0.heap.size ≤ k) : TwoR w0 w' rb1 rb2 s V1 q1 V2 q2 :=
  ⟨h.m1.chg hc h1, h.m2.chg hc h2, h.a12, Below.chg h.bl hc h.bl.size hS⟩

set_option maxHeartbeats 4000000 in
set_option maxRecDepth 100000 in
theorem sown_any (rq : Bool) (A : Option Addr) (n c : Nat) (ps : List Bs) (w : World) (hsh : w.ShapedOpen Tryd.prog) (hnc : n ≤ c) (hp : PcJ w w.heap.size A n ps) (hn : n ≤ 1048576) (hsz : sizesJ ps ≤ 1048576) :
    Calls Tryd.prog 5 #[.bool rq, .slice A n c] w fun e w' => e = .returned (.bool true) ∧ Below w.heap.size w w' := by
  have HS := Lib.hid hsh
  have HPJ := Lib.hid hp
  have HSZ := Lib.hid hsz
  clear hsh hp hsz
  go_enter Tryd.func5, Tryd.ntmps5
  go_upto_region 3 with (first
    | (go_at_call 6; go_must (refine (sawake_any _ HS.out).mono ?_; rintro _ w1 ⟨rfl, hb1⟩; have HB1 := Lib.hid hb1; clear hb1))
    | fail)
  have HS1 : Hid (w1.ShapedOpen Tryd.prog) := Lib.hid (shaped_below HS.out HB1.out)
  go_upto_region 4 with (first
    | (go_at_call 7; have hz := HZ2.out; refine (snew_any _ rq).mono ?_; rintro _ w3 ⟨rfl, hm3, hb3, hz3⟩; have HM3 := Lib.hid hm3; have HB3 := Lib.hid hb3; have HZ3 := Lib.hid hz3; clear hm3 hb3 hz3 hz)
    | (go_at_call 7; refine (snew_any _ rq).mono ?_; rintro _ w2 ⟨rfl, hm2, hb2, hz2⟩; have HM2 := Lib.hid hm2; have HB2 := Lib.hid hb2; have HZ2 := Lib.hid hz2; clear hm2 hb2 hz2)
    | fail)
  have HT0 : Hid (TwoR w1 w3 w1.heap.size w2.heap.size { rq := rq } (newV w1.heap.size) 0 (newV w2.heap.size) 0) := Lib.hid ⟨HM2.out.below HB3.out, HM3.out.mono HB2.out.size, fun k h1 h2 => by
    have := new_foot h1
    have := new_foot h2
    have := HZ2.out
    omega, HB2.out.trans (HB3.out.mono HB2.out.size)⟩
  have HAL0 : Hid (Strm.Al { rq := rq } 0 0) := Lib.hid (fun _ => ⟨rfl, Strm.Inv.init rq, rfl⟩)
  clear HM2 HM3 HB2 HB3 HZ2 HZ3
  go_wp2
  go_loopw [7] (fun vi wr => ∃ (s : Strm.S) (V1 : SV) (q1 : Nat) (V2 : SV) (q2 i : Nat), vi = .int .i64 i ∧ i ≤ n ∧ Strm.Al s (sizesJ (ps.take i)) q1 ∧ Strm.Al s (sizesJ (ps.take i)) q2 ∧ TwoR w1 wr w1.heap.size w2.heap.size s V1 q1 V2 q2) (fun vi _ => n - (intOf vi).toNat)
  case atStart => exact ⟨_, _, 0, _, 0, 0, rfl, Nat.zero_le _, HAL0.out, HAL0.out, HT0.out⟩
  case round =>
    obtain ⟨s, V1, q1, V2, q2, i, rfl, hi, hal1, hal2, htw⟩ := hrel
    obtain ⟨wq, rfl⟩ : ∃ wq : World, wq = wr := ⟨_, rfl⟩
    have HL1 := Lib.hid hal1
    have HL2 := Lib.hid hal2
    have HTW := Lib.hid htw
    clear hal1 hal2 htw
    by_cases hlt : i < n
    · have hip : i < ps.length := by have := HPJ.out.len; omega
      obtain ⟨p, hpp⟩ : ∃ p, p = ps[i] := ⟨_, rfl⟩
      obtain ⟨g, o, a, cp, eA, hg, hcl, hlc, ha0, hrp⟩ := HPJ.out.get i hip
      subst eA
      rw [← hpp] at hcl hlc ha0 hrp
      have hT1 := sizesJ_take ps i hip
      have hT2 := sizesJ_le ps (i + 1)
      rw [← hpp] at hT1
      have hpl : p.length ≤ 1048576 := by have := HSZ.out; omega
      have hT : sizesJ (ps.take i) + p.length ≤ 1048576 := by have := HSZ.out; omega
      have HHT := Lib.hid hT1
      have HRP := Lib.hid hrp
      have HA0 := Lib.hid ha0
      have HBW : Hid (Below w.heap.size w wq) := Lib.hid (HB1.out.trans (HTW.out.bl.mono HB1.out.size))
      have hzw := HBW.out.size
      have cx : wq.cell? ⟨g, o + i, none⟩ = some (.slice a p.length cp) := (HBW.out.cell (p := ⟨g, o + i, none⟩) hg).trans hcl
      have cxa : (wq.alloc (.cells #[] 5)).cell? ⟨g, o + i, none⟩ = some (.slice a p.length cp) := ((HBW.out.alloc hzw (.cells #[] 5)).cell (p := ⟨g, o + i, none⟩) hg).trans hcl
      clear hcl hrp ha0 hT1 hT2 hpp
      go_upto_region 8 with (first
        | (at_builtin; go_must (refine wpList_appB (v := .slice (some ⟨wq.heap.size, 0, none⟩) 0 0) (L := []) (M := p) rfl (.tmp 33) (.tmp 37) 22 rfl wq.heap.size rfl (empty_row wq _ 1) rfl (SrcB.slice (HRP.out.below (HBW.out.alloc hzw _)) (fun e => (HA0.out e).1)) (by simp; omega) (by simp) ?_; intro vin wa hrowa hba _ _; rw [List.nil_append] at hrowa; have HRA := Lib.hid hrowa; have HBA := Lib.hid (((Below.refl wq.heap.size wq).alloc (Nat.le_refl _) _).trans hba); clear hba))
        | fail)
      obtain ⟨Ai, ci, ei, hci, _, hAi, hri⟩ := RowB.form hrowa
      subst ei
      have htwa := HTW.out.chg ((Chg.refl (fun _ => False) wq).then_below HBA.out) (fun _ _ h => h) (fun _ _ h => h) (fun _ h => h.elim)
      have HTA := Lib.hid htwa
      have HBWA : Hid (Below w.heap.size w wa) := Lib.hid (HBW.out.trans (HBA.out.mono hzw))
      have HIN : Hid (∀ k, (Value.slice Ai p.length ci).ownBlock = some k → k < wa.heap.size) := Lib.hid (fun k hk => (Row.lt hrowa k hk).2)
      have HF1 := sfeed_o (T := sizesJ (ps.take i)) (Shp.below (Shp.of HS1.out) htwa.bl) htwa.m1 HL1.out Ai p.length ci p (by omega) (by omega) hci hAi hri (fun h0 g o e f => by
        subst e
        have h1 := (Row.lt hrowa g rfl).1
        have h2 := (HTW.out.m1.lt g f).2
        omega)
      unfold FeedO at HF1
      have HFA := Lib.hid HF1
      clear HF1 htwa hrowa hri
      go_upto_region 9 with (first
        | (go_at_call 8; go_must (refine HFA.out.mono ?_; rintro _ wb ⟨va, La, ua, V1', ra, q1', rfl, hre⟩; have HRE1 := Lib.hid hre; clear hre))
        | fail)
      obtain ⟨hfd1, ho1, hm1, hq1, hd1, hc1, hf1, ha1⟩ := HRE1.out
      have hzab := hc1.size
      have hza := HBA.out.size
      have l1 : ∀ k, footS w1.heap.size V1 k → w1.heap.size ≤ k ∧ k < wq.heap.size := fun k hk => HTW.out.m1.lt k hk
      have l2 : ∀ k, footS w2.heap.size V2 k → w1.heap.size ≤ k ∧ k < wq.heap.size := fun k hk => HTW.out.m2.lt k hk
      have HBB : Hid (Below w1.heap.size w1 wb) := Lib.hid (Below.chg HTA.out.bl hc1 HTA.out.bl.size (fun k hk => (l1 k hk).1))
      have HBWB : Hid (Below w.heap.size w wb) := Lib.hid (HB1.out.trans (HBB.out.mono HB1.out.size))
      have HM2b := Lib.hid (HTA.out.m2.chg hc1 (fun k hk f => HTA.out.a12 k f hk))
      have cx2 : wb.cell? ⟨g, o + i, none⟩ = some (.slice a p.length cp) := (HBWB.out.cell (p := ⟨g, o + i, none⟩) hg).trans ((HBW.out.cell (p := ⟨g, o + i, none⟩) hg).symm.trans cx)
      have HF2 := sfeed_o (T := sizesJ (ps.take i)) (Shp.below (Shp.of HS1.out) HBB.out) HM2b.out HL2.out a p.length cp p (by omega) (by omega) hlc HA0.out ((HRP.out.below HBWB.out).more HBWB.out.size) (fun h0 g o e f => by
        obtain ⟨g', o', e', hg', _⟩ := HRP.out.2 h0
        rw [e] at e'
        injection e' with e'
        injection e' with e' _ _
        have h1 := (l2 g f).1
        have h2 := HB1.out.size
        omega)
      unfold FeedO at HF2
      have HFB := Lib.hid HF2
      have HO1 := Lib.hid ho1
      have HD1 := Lib.hid (And.intro hfd1 (And.intro hq1 hd1))
      have HM1 := Lib.hid hm1
      have HC1 := Lib.hid hc1
      have HFF1 := Lib.hid hf1
      have HAA1 := Lib.hid ha1
      have HRI := Lib.hid (RowB.chg HRA.out hc1 (fun k hk f => by have h1 := (Row.lt HRA.out k hk).1; have h2 := (l1 k f).2; omega))
      clear HF2 cx cxa hfd1 ho1 hm1 hq1 hd1 hc1 hf1 ha1 HRE1 HFA HRA
      go_upto_region 10 with (first
        | (go_at_call 8; go_must (refine HFB.out.mono ?_; rintro _ wc ⟨vb, Lb, ub, V2', rb, q2', rfl, hre⟩; have HRE2 := Lib.hid hre; clear hre))
        | fail)
      obtain ⟨hfd2, ho2, hm2, hq2, hd2, hc2, hf2, ha2⟩ := HRE2.out
      obtain ⟨d1, d2, d3⟩ := HD1.out.1.det hfd2
      subst d1
      subst d3
      have hzbc := hc2.size
      have hb1 : ∀ k, ofE va La k → wa.heap.size ≤ k ∧ k < wb.heap.size := fun k hk => HO1.out.lt hk
      have hb2 : ∀ k, ofE vb Lb k → wb.heap.size ≤ k ∧ k < wc.heap.size := fun k hk => ho2.lt hk
      have k1 : ∀ k, footS w1.heap.size V1' k → footS w1.heap.size V1 k ∨ wa.heap.size ≤ k := HFF1.out
      have k1' : ∀ k, footS w1.heap.size V1' k → k < wb.heap.size := fun k hk => (HM1.out.lt k hk).2
      have k2 : ∀ k, footS w2.heap.size V2' k → footS w2.heap.size V2 k ∨ wb.heap.size ≤ k := hf2
      have hin : ∀ k, (Value.slice Ai p.length ci).ownBlock = some k → wq.heap.size ≤ k ∧ k < wa.heap.size := fun k hk => by
        have h1 := (Row.lt HRI.out k hk).1
        exact ⟨h1, HIN.out k hk⟩
      have HTC : Hid (TwoR w1 wc w1.heap.size w2.heap.size ua V1' q1' V2' q2') := Lib.hid ⟨HM1.out.chg hc2 (fun k f1 f2 => by
        rcases k1 k f1 with x | x
        · exact HTW.out.a12 k x f2
        · have := (l2 k f2).2; omega), hm2, fun k f1 f2 => by
        rcases k2 k f2 with y | y
        · rcases k1 k f1 with x | x
          · exact HTW.out.a12 k x y
          · have := (l2 k y).2; omega
        · have := k1' k f1; omega, Below.chg HBB.out hc2 HBB.out.size (fun k hk => (l2 k hk).1)⟩
      have HOA := Lib.hid (HO1.out.chg hc2 (fun k hk f => by have h1 := (hb1 k hk).1; have h2 := (l2 k f).2; omega))
      have HOB := Lib.hid ho2
      have HRI2 := Lib.hid (RowB.chg HRI.out hc2 (fun k hk f => by have h1 := (hin k hk).1; have h2 := (l2 k f).2; omega))
      have NI1 : Hid (∀ k, footS w1.heap.size V1' k → ¬ (Value.slice Ai p.length ci).ownBlock = some k) := Lib.hid (fun k f e => by
        have h1 := hin k e
        rcases k1 k f with x | x
        · have := (l1 k x).2; omega
        · omega)
      have NI2 : Hid (∀ k, footS w2.heap.size V2' k → ¬ (Value.slice Ai p.length ci).ownBlock = some k) := Lib.hid (fun k f e => by
        have h1 := hin k e
        rcases k2 k f with x | x
        · have := (l2 k x).2; omega
        · omega)
      have NA1 : Hid (∀ k, footS w1.heap.size V1' k → ¬ ofE va La k) := Lib.hid (fun k f e => HAA1.out k e f)
      have NA2 : Hid (∀ k, footS w2.heap.size V2' k → ¬ ofE va La k) := Lib.hid (fun k f e => by
        have h1 := hb1 k e
        rcases k2 k f with x | x
        · have := (l2 k x).2; omega
        · omega)
      have NIA : Hid (∀ k, ofE va La k ∨ ofE vb Lb k → ¬ (Value.slice Ai p.length ci).ownBlock = some k) := Lib.hid (fun k f e => by
        have h1 := hin k e
        rcases f with x | x
        · have := hb1 k x; omega
        · have := hb2 k x; omega)
      have HGE : Hid ((∀ k, ofE va La k → w1.heap.size ≤ k) ∧ ∀ k, (Value.slice Ai p.length ci).ownBlock = some k → w1.heap.size ≤ k) := Lib.hid (by
        have h2 := HTW.out.bl.size
        exact ⟨fun k hk => by have := (hb1 k hk).1; omega, fun k hk => by have := (hin k hk).1; omega⟩)
      have HSN := Lib.hid (HD1.out.1.sz HL1.out)
      have HNX : Hid (Strm.Al ua (sizesJ (ps.take (i + 1))) q1' ∧ Strm.Al ua (sizesJ (ps.take (i + 1))) q2') := Lib.hid (by
        rw [HHT.out]
        exact ⟨HD1.out.1.al HL1.out HD1.out.2.1 HD1.out.2.2, hfd2.al HL2.out hq2 hd2⟩)
      have HDE := Lib.hid d2
      have HV0 : Hid (∀ u ∈ bytesV p, ∃ x : Int, 0 ≤ x ∧ x < 256 ∧ u = .int .u8 x) := Lib.hid (fun u hu => by
        obtain ⟨b, _, rfl⟩ := List.mem_map.1 hu
        exact ⟨_, by omega, by have := UInt8.toNat_lt b; omega, rfl⟩)
      obtain ⟨np, hnp⟩ : ∃ np, np = p.length := ⟨_, rfl⟩
      rw [← hnp] at HRI2 NI1 NI2 NIA HGE ⊢
      unfold RowB at HRI2
      rw [← hnp] at HRI2
      have hnp1 : np ≤ 1048576 := by omega
      have HNP := Lib.hid hnp
      clear cx2 hfd2 ho2 hm2 hq2 hd2 hc2 hf2 ha2 d2 hb1 hb2 k1 k1' k2 hin l1 l2 HRE2 HFB HO1 HD1 HM1 HC1 HFF1 HAA1 HRI HTA HM2b HBB HBWB HTW HL1 HL2 HHT HRP HA0 hnp hpl hT hlc hci hAi
      go_wp2
      go_loopw [13] (fun vk wr2 => ∃ (k : Nat) (xs : List Value), k ≤ np ∧ vk = .int .i64 k ∧ (∀ u ∈ xs, ∃ x : Int, 0 ≤ x ∧ x < 256 ∧ u = .int .u8 x) ∧ Row wr2 wq.heap.size 1 (.slice Ai np ci) np xs ∧ wc.grownBy wr2 (Value.slice Ai np ci).ownBlock) (fun vk _ => np - (intOf vk).toNat)
      case atStart => exact ⟨0, _, Nat.zero_le _, rfl, HV0.out, HRI2.out, World.grownBy.refl _ _⟩
      case round =>
        obtain ⟨k4, xs4, hk4, rfl, hvs4, hrow, hgr⟩ := hrel
        have HV := Lib.hid hvs4
        have HR := Lib.hid hrow
        have HG := Lib.hid hgr
        by_cases hlt4 : k4 < np
        · obtain ⟨g5, o5, rfl, hgb, hgl, hcell, hfro⟩ := hrow.own (by omega)
          have hxl : xs4.length = np * 1 := hrow.1
          obtain ⟨x0, hx0⟩ : ∃ u, xs4[k4]? = some u := ⟨_, List.getElem?_eq_getElem (show k4 < xs4.length by omega)⟩
          obtain ⟨y0, hy0, hy1, rfl⟩ := hvs4 x0 (List.mem_of_getElem? hx0)
          have g0 := hcell k4 _ hx0
          have q0 := hfro k4 (by omega)
          have HXL := Lib.hid hxl
          have HG2 : Hid (wc.grownBy wr (some g5)) := Lib.hid HG.out
          clear hcell hfro hrow hgr hxl hx0 hvs4
          go_wp2
          go_roundw
          case rel =>
            refine ⟨k4 + 1, _, by omega, by go_num, ?_, HR.out.set (j := k4) (by rw [HXL.out]; omega), World.grownBy.comp HG2.out (World.grownBy.set _ ⟨g5, o5 + k4, none⟩ _)⟩
            intro u hu
            rcases List.mem_or_eq_of_mem_set hu with hh | hh
            · exact HV.out u hh
            · exact ⟨_, by omega, by omega, hh⟩
          case measure => simp [intOf]; omega
        · obtain ⟨wd, rfl⟩ : ∃ wd : World, wd = wr := ⟨_, rfl⟩
          have HC2 : Hid (Chg (fun k => (Value.slice Ai np ci).ownBlock = some k) wc wd) := Lib.hid ((Chg.refl _ _).grown hgr (fun k _ hk => hk))
          have HTD := Lib.hid (HTC.out.chg HC2.out NI1.out NI2.out HGE.out.2)
          have HOAD := Lib.hid (HOA.out.chg HC2.out (fun k hk => NIA.out k (.inl hk)))
          have HOBD := Lib.hid (HOB.out.chg HC2.out (fun k hk => NIA.out k (.inr hk)))
          have hgea := HGE.out.1
          have HGA := Lib.hid hgea
          obtain ⟨Aa, ca, ea, _, _, _, hra⟩ := HOAD.out.row.form
          obtain ⟨Ab, cb, eb, _, _, _, hrb⟩ := HOBD.out.row.form
          have hlm : Lb.length = La.length := by
            have := congrArg List.length HDE.out
            rw [List.length_map, List.length_map] at this
            exact this.symm
          rw [hlm] at eb hrb
          subst ea
          subst eb
          have hpl2 : p.length ≤ 1048576 := by rw [← HNP.out]; exact hnp1
          have hll : La.length ≤ 3145729 := by have := HSN.out.2.2; rw [List.length_map] at this; omega
          have HEQ := Lib.hid (sboth_any Aa Ab La.length ca cb La Lb wd HDE.out hra hrb (fun e he => (HOAD.out.el e he).v) (fun e he => (HOBD.out.el e he).v) (by omega) (mem_x rfl _ (es_sz HSN.out.1 HSN.out.2.1 (by omega))))
          have HSE : Hid (∀ e ∈ La, (eHd e.x).fs.length ≤ 64 ∧ (eData e.x).length ≤ 1048576) := Lib.hid (fun e he => by
            have hm : e.x ∈ La.map EvE.x := List.mem_map_of_mem he
            have h1 := HSN.out.1 _ hm
            have h2 := Strm.bodySum_one hm
            have h3 := HSN.out.2.1
            exact ⟨h1, by omega⟩)
          have hne : ((ra : Int) != (ra : Int)) = false := by simp
          clear hvs4 hrow HV HR HG hgr hgea hra hrb hlm HTC HOA HOB NI1 NI2 NIA HGE HDE HNP HV0 HRI2 HOBD hpl2
          go_upto_region 16 with (first
            | (go_at_call 11; go_must (refine HEQ.out.mono ?_; rintro _ we ⟨rfl, hbe⟩; have HBE := Lib.hid hbe; clear hbe))
            | fail)
          have HTE := Lib.hid (HTD.out.chg ((Chg.refl (fun _ => False) wd).then_below HBE.out) (fun _ _ h => h) (fun _ _ h => h) (fun _ h => h.elim))
          have HOE := Lib.hid (HOAD.out.below HBE.out)
          have HZE : Hid (wa.heap.size ≤ we.heap.size) := Lib.hid (by have h1 := HC2.out.size; have h2 := HBE.out.size; omega)
          clear HTD HOAD HEQ HBE HC2 hne
          go_wp2
          go_loopw [14] (fun vk w3 => ∃ (k : Nat) (C : List Value), k ≤ La.length ∧ vk = .int .i64 k ∧ SpSt we w3 wa.heap.size (.slice Aa La.length ca) La k C) (fun vk _ => La.length - (intOf vk).toNat)
          case atStart => exact ⟨0, [], Nat.zero_le _, rfl, SpSt.init HOE.out⟩
          case round =>
            obtain ⟨k, C, hk, rfl, hsp⟩ := hrel
            obtain ⟨wk, rfl⟩ : ∃ wk : World, wk = wr := ⟨_, rfl⟩
            by_cases hlt3 : k < La.length
            · obtain ⟨hrow, hev⟩ := hsp.at hlt3
              have hwk : wa.heap.size ≤ wk.heap.size := by
                have h1 := hsp.chg.size
                have h2 := HZE.out
                omega
              have hst := fun (w' : World) (cc : List Value) (h1 : Chg (fun j => (Value.slice Aa La.length ca).ownBlock = some j ∨ La[k].own j) wk w') (h2 : cc.length = 11) (h3 : Row w' wa.heap.size 11 (.slice Aa La.length ca) La.length (C ++ cc ++ (La.drop (k + 1)).flatMap EvE.cells)) => hsp.step hlt3 HOE.out.apart HOE.out.x h1 h2 h3
              have hva : ∀ q, (Value.slice Aa La.length ca).ownBlock = some q → ¬ La[k].own q := fun q h1 h2 => HOE.out.x q h1 ⟨La[k], List.getElem_mem _, h2⟩
              have hsz := HSE.out La[k] (List.getElem_mem _)
              generalize La[k] = e at *
              generalize (La.drop (k + 1)).flatMap EvE.cells = R at *
              obtain ⟨ga, oa, eA, hga, hgl, _, _⟩ := hrow.own (by omega)
              subst eA
              obtain ⟨Ad, cd, ed, hcd1, hcd2, hAd, _⟩ := Row.form hev.d
              obtain ⟨Af, cf, ef, hcf1, hcf2, hAf, _⟩ := hev.f.form
              have hrd := hev.d
              have hrf := hev.f
              have hdf := hev.x
              have h10 : e.cells[10]? = some e.dv := rfl
              have h7 : e.cells[7]? = some e.fv := rfl
              have hel : e.cells.length = 11 := rfl
              have hvd : ∀ q, e.dv.ownBlock = some q → q ≠ ga := fun q h1 h2 => hva q (by rw [h2]; rfl) (.inr h1)
              have hvf : ∀ q, e.fv.ownBlock = some q → q ≠ ga := fun q h1 h2 => hva q (by rw [h2]; rfl) (.inl h1)
              have hown : ∀ q, e.own q ↔ e.fv.ownBlock = some q ∨ e.dv.ownBlock = some q := fun q => Iff.rfl
              have hbd : ∀ u ∈ bytesV (eData e.x), ∃ x : Int, 0 ≤ x ∧ x < 256 ∧ u = .int .u8 x := fun u hu => by
                obtain ⟨b, _, rfl⟩ := List.mem_map.1 hu
                exact ⟨_, by omega, by have := UInt8.toNat_lt b; omega, rfl⟩
              unfold RowB at hrd
              generalize e.cells = ev at *
              obtain ⟨nd, hnd⟩ : ∃ nd, nd = (eData e.x).length := ⟨_, rfl⟩
              obtain ⟨nf, hnf⟩ : ∃ nf, nf = (eHd e.x).fs.length := ⟨_, rfl⟩
              rw [← hnd] at ed hrd hsz hcd1
              rw [← hnf] at ef hrf hsz hcf1
              rw [ed] at hrd h10 hvd hown
              rw [ef] at hrf h7 hvf hown
              rw [ed, ef] at hdf
              generalize bytesV (eData e.x) = xs0 at *
              generalize fieldsV (flB (eHd e.x).fs) = fs0 at *
              generalize EvE.own e = ow at *
              have HCL := Lib.hid hsp.len
              have HROW := Lib.hid hrow
              have HSTEP := Lib.hid hst
              have HRF := Lib.hid hrf
              have HRDk := Lib.hid hrd
              have HBD := Lib.hid hbd
              have HDF := Lib.hid hdf
              have HVD := Lib.hid hvd
              have HVF := Lib.hid hvf
              have HOW := Lib.hid hown
              have HEL := Lib.hid hel
              have H10 := Lib.hid h10
              have H7 := Lib.hid h7
              obtain ⟨hsz1, hsz2⟩ := hsz
              clear hrow hev hst hva hdf hvd hvf hown hbd hrd hrf hnd hnf ed ef hel h10 h7 hsp hAd hAf
              obtain ⟨j0, hj0, jz0, jz1, jz2⟩ := info_parts infoByte
              obtain ⟨f0, hf0, fz0, fz1, fz2⟩ := info_parts infoField
              go_wp2
              go_loopw [15] (fun vm w4 => ∃ (m : Nat) (xs : List Value), m ≤ nd ∧ vm = .int .i64 m ∧ (∀ u ∈ xs, ∃ x : Int, 0 ≤ x ∧ x < 256 ∧ u = .int .u8 x) ∧ Row w4 wa.heap.size 1 (.slice Ad nd cd) nd xs ∧ Chg (fun q => (Value.slice Ad nd cd).ownBlock = some q) wk w4) (fun vm _ => nd - (intOf vm).toNat)
              case atStart => exact ⟨0, _, Nat.zero_le _, rfl, HBD.out, HRDk.out, Chg.refl _ _⟩
              case round =>
                obtain ⟨m, xs4, hm4, rfl, hvs4, hrow4, hgr4⟩ := hrel
                obtain ⟨w4, rfl⟩ : ∃ w4 : World, w4 = wr := ⟨_, rfl⟩
                have HV := Lib.hid hvs4
                have HR := Lib.hid hrow4
                have HCH4 := Lib.hid hgr4
                have HRA4 := Lib.hid (HROW.out.chg HCH4.out (fun q h1 h2 => by injection h1 with h1; exact HVD.out q h2 h1.symm))
                obtain ⟨c10, y10⟩ := ev_cell (j := 10) HRA4.out HCL.out HEL.out (by decide) hlt3 H10.out
                by_cases hlt4 : m < nd
                · obtain ⟨g5, o5, rfl, hgb, hgl5, hcell, hfro⟩ := hrow4.own (by omega)
                  have hxl : xs4.length = nd * 1 := hrow4.1
                  obtain ⟨x0, hx0⟩ : ∃ u, xs4[m]? = some u := ⟨_, List.getElem?_eq_getElem (show m < xs4.length by omega)⟩
                  obtain ⟨y0, hy0, hy1, rfl⟩ := hvs4 x0 (List.mem_of_getElem? hx0)
                  have g0 := hcell m _ hx0
                  have q0 := hfro m (by omega)
                  have HXL := Lib.hid hxl
                  clear hcell hfro hrow4 hgr4 hxl hx0 hvs4 y10
                  go_wp2
                  go_region
                  go_wp2
                  go_roundw
                  case rel =>
                    refine ⟨m + 1, _, by omega, by go_num, ?_, HR.out.set (j := m) (by rw [HXL.out]; omega), (HCH4.out.setCell (p := ⟨g5, o5 + m, none⟩) (fun _ => rfl) _).drew⟩
                    intro u hu
                    rcases List.mem_or_eq_of_mem_set hu with hh | hh
                    · exact HV.out u hh
                    · exact ⟨_, by omega, by omega, hh⟩
                  case measure => simp [intOf]; omega
                · clear hvs4 hrow4 hgr4 y10 HV
                  have hz4 : wa.heap.size ≤ w4.heap.size := by have := HCH4.out.size; omega
                  have HRF4 := Lib.hid (HRF.out.chg HCH4.out (fun q h1 h2 => HDF.out q h1 h2))
                  go_upto_region 24 with (first
                    | (at_builtin; go_must (refine wpList_app _ rfl (.tmp 115) (.tmp 116) 22 22 rfl wa.heap.size 5 j0 (.int .u8 0) 1 1 Tryd.underlying22 hj0 jz0 jz1 jz2 rfl (.slice Ad nd cd) nd xs4 rfl (HR.out.alloc _) _ 9 [.int .u8 1, .int .u8 2, .int .u8 3, .int .u8 4, .int .u8 5, .int .u8 6, .int .u8 7, .int .u8 8, .int .u8 9] rfl (Src.built [.int .u8 1, .int .u8 2, .int .u8 3, .int .u8 4, .int .u8 5, .int .u8 6, .int .u8 7, .int .u8 8, .int .u8 9] 5 Tryd.underlying22 rfl (by intro u hu; simp only [List.mem_cons, List.not_mem_nil, or_false] at hu; rcases hu with rfl | rfl | rfl | rfl | rfl | rfl | rfl | rfl | rfl <;> rfl)) (by omega) (by omega) (by omega) (by simp; omega) ?_; intro v5 w5 hrow5 hg5 ho5; obtain ⟨A5, c5, rfl, _, _, _, _⟩ := hrow5.form; have hch5 : Chg (fun q => (Value.slice Ad nd cd).ownBlock = some q) wk w5 := (HCH4.out.alloc _).grown hg5 (fun q _ h => h); have HCH5 := Lib.hid hch5; have hra5 := HROW.out.chg hch5 (fun q h1 h2 => by injection h1 with h1; exact HVD.out q h2 h1.symm); have HRA5 := Lib.hid hra5; obtain ⟨c10b, y10b⟩ := ev_cell (j := 10) hra5 HCL.out HEL.out (by decide) hlt3 H10.out; clear hch5 hra5))
                    | fail)
                  have hr6 := HRA5.out.set (j := k * 11 + 10) (u := .slice A5 (nd + 9) c5) (by have := HRA5.out.1; omega)
                  rw [ev_set HCL.out HEL.out (by decide), ← Nat.add_assoc] at hr6
                  have hch6 := (HCH5.out.more (S' := fun j => (Value.slice (some ⟨ga, oa, none⟩) La.length ca).ownBlock = some j ∨ ow j) (fun q _ h => .inr ((HOW.out q).2 (.inr h)))).setCell (p := ⟨ga, oa + k * 11 + 10, none⟩) (fun _ => .inl rfl) (.slice A5 (nd + 9) c5)
                  have hrf6 := (HRF.out.chg HCH5.out (fun q h1 h2 => HDF.out q h1 h2)).setCell (p := ⟨ga, oa + k * 11 + 10, none⟩) (fun e => HVF.out _ e rfl) (.slice A5 (nd + 9) c5)
                  have hel6 : (ev.set 10 (.slice A5 (nd + 9) c5)).length = 11 := by rw [List.length_set]; exact HEL.out
                  have h76 : (ev.set 10 (.slice A5 (nd + 9) c5))[7]? = some (.slice Af nf cf) := by rw [List.getElem?_set_ne (by decide)]; exact H7.out
                  clear c10b y10b c10 HRA5 HCH5 HRA4 HCH4 HR hrow5 hg5 ho5 HRF4
                  generalize w5.setCell ⟨ga, oa + k * 11 + 10, none⟩ (.slice A5 (nd + 9) c5) = w6 at *
                  generalize ev.set 10 (.slice A5 (nd + 9) c5) = ev6 at *
                  have HRA6 := Lib.hid hr6
                  have HCH6 := Lib.hid hch6
                  have HRF6 := Lib.hid hrf6
                  have HEL6 := Lib.hid hel6
                  have H76 := Lib.hid h76
                  have hz6 : wa.heap.size ≤ w6.heap.size := by have := HCH6.out.size; omega
                  clear hr6 hch6 hrf6 hel6 h76
                  go_wp2
                  go_loopw [16] (fun vm w7 => ∃ (m : Nat) (xs : List Value), m ≤ nf ∧ vm = .int .i64 m ∧ Row w7 wa.heap.size 2 (.slice Af nf cf) nf xs ∧ Chg (fun q => (Value.slice Af nf cf).ownBlock = some q) w6 w7) (fun vm _ => nf - (intOf vm).toNat)
                  case atStart => exact ⟨0, _, Nat.zero_le _, rfl, HRF6.out, Chg.refl _ _⟩
                  case round =>
                    obtain ⟨m7, xs7, hm7, rfl, hrow7, hch7⟩ := hrel
                    obtain ⟨w7, rfl⟩ : ∃ w7 : World, w7 = wr := ⟨_, rfl⟩
                    have HR7 := Lib.hid hrow7
                    have HCH7 := Lib.hid hch7
                    have HRA7 := Lib.hid (HRA6.out.chg hch7 (fun q h1 h2 => by injection h1 with h1; exact HVF.out q h2 h1.symm))
                    obtain ⟨c7, y7⟩ := ev_cell (j := 7) HRA7.out HCL.out HEL6.out (by decide) hlt3 H76.out
                    by_cases hlt7 : m7 < nf
                    · obtain ⟨g5, o5, rfl, hgb, hgl5, hcell, hfro⟩ := hrow7.own (by omega)
                      have hxl : xs7.length = nf * 2 := hrow7.1
                      obtain ⟨x0, hx0⟩ : ∃ u, xs7[m7 * 2]? = some u := ⟨_, List.getElem?_eq_getElem (show m7 * 2 < xs7.length by omega)⟩
                      obtain ⟨x1, hx1⟩ : ∃ u, xs7[m7 * 2 + 1]? = some u := ⟨_, List.getElem?_eq_getElem (show m7 * 2 + 1 < xs7.length by omega)⟩
                      have g0 := hcell (m7 * 2) _ hx0
                      have g1 := hcell (m7 * 2 + 1) _ hx1
                      have q0 := hfro (m7 * 2) (by omega)
                      have q1 := hfro (m7 * 2 + 1) (by omega)
                      have HXL := Lib.hid hxl
                      rw [← Nat.add_assoc] at g1 q1
                      clear hcell hfro hrow7 hch7 hxl hx0 hx1 y7
                      go_wp2
                      go_roundw
                      case rel =>
                        exact ⟨m7 + 1, _, by omega, by go_num, (HR7.out.set (j := m7 * 2) (by rw [HXL.out]; omega)).set (j := m7 * 2 + 1) (by rw [List.length_set, HXL.out]; omega), (HCH7.out.setCell (p := ⟨g5, o5 + m7 * 2, none⟩) (fun _ => rfl) _).setCell (p := ⟨g5, o5 + m7 * 2 + 1, none⟩) (fun _ => rfl) _⟩
                      case measure => simp [intOf]; omega
                    · clear hrow7 hch7 y7
                      have hz7 : wa.heap.size ≤ w7.heap.size := by have := HCH7.out.size; omega
                      go_upto_region 29 with (first
                        | (at_builtin; go_must (refine wpList_app _ rfl (.tmp 147) (.tmp 150) 30 30 rfl wa.heap.size 46 f0 (.agg #[.string ⟨#[]⟩, .string ⟨#[]⟩]) 2 32 Tryd.underlying30 hf0 fz0 fz1 fz2 rfl (.slice Af nf cf) nf xs7 rfl (HR7.out.alloc _) _ 2 [.string ⟨#[]⟩, .string ⟨#[]⟩, .string ⟨#[]⟩, .string ⟨#[]⟩] rfl (Src.built [.string ⟨#[]⟩, .string ⟨#[]⟩, .string ⟨#[]⟩, .string ⟨#[]⟩] 46 Tryd.underlying30 rfl (by intro u hu; simp at hu; subst hu; rfl)) (by omega) (by omega) (by omega) (by simp; omega) ?_; intro v8 w8 hrow8 hg8 ho8; obtain ⟨A8, c8, rfl, _, _, _, _⟩ := hrow8.form; have hch8 : Chg (fun q => (Value.slice Af nf cf).ownBlock = some q) w6 w8 := (HCH7.out.alloc _).grown hg8 (fun q _ h => h); have HCH8 := Lib.hid hch8; have hra8 := HRA6.out.chg hch8 (fun q h1 h2 => by injection h1 with h1; exact HVF.out q h2 h1.symm); have HRA8 := Lib.hid hra8; obtain ⟨c7b, y7b⟩ := ev_cell (j := 7) hra8 HCL.out HEL6.out (by decide) hlt3 H76.out; clear hch8 hra8))
                        | fail)
                      have hr9 := HRA8.out.set (j := k * 11 + 7) (u := .slice A8 (nf + 2) c8) (by have := HRA8.out.1; omega)
                      rw [ev_set HCL.out HEL6.out (by decide), ← Nat.add_assoc] at hr9
                      have hch9 := (HCH6.out.trans HCH8.out (fun q _ h => .inr ((HOW.out q).2 (.inl h)))).setCell (p := ⟨ga, oa + k * 11 + 7, none⟩) (fun _ => .inl rfl) (.slice A8 (nf + 2) c8)
                      have hel9 : (ev6.set 7 (.slice A8 (nf + 2) c8)).length = 11 := by rw [List.length_set]; exact HEL6.out
                      clear c7 c7b y7b HRA8 HCH8 HRA7 HCH7 HR7 hrow8 hg8 ho8
                      generalize w8.setCell ⟨ga, oa + k * 11 + 7, none⟩ (.slice A8 (nf + 2) c8) = w9 at *
                      generalize ev6.set 7 (.slice A8 (nf + 2) c8) = ev9 at *
                      have HRA9 := Lib.hid hr9
                      have HCH9 := Lib.hid hch9
                      have HEL9 := Lib.hid hel9
                      have hth : w9.there ga (oa + k * 11) (#[.int .i64 0, .bool false, .string ⟨#[]⟩, .string ⟨#[]⟩, .int .i64 0, .string ⟨#[]⟩, .int .i64 0, .slice none 0 0, .int .i64 0, .int .i64 0, .slice none 0 0] : Array Value).size := evr_there hr9 hlt3
                      clear hr9 hch9 hel9
                      go_upto_region 18 with (first
                        | (refine wpList_store_mid rfl 34 (.tmp 158) (.tmp 157) rfl ga (oa + k * 11) #[.int .i64 0, .bool false, .string ⟨#[]⟩, .string ⟨#[]⟩, .int .i64 0, .string ⟨#[]⟩, .int .i64 0, .slice none 0 0, .int .i64 0, .int .i64 0, .slice none 0 0] ?hx ?hy ?ht ?hi ?h1 ?_; (case hx => rfl); (case hy => rfl); (case ht => exact hth); (case hi => kernel_rfl); (case h1 => kernel_rfl))
                        | fail)
                      obtain ⟨rz, gz⟩ := evr_setCells [.int .i64 0, .bool false, .string ⟨#[]⟩, .string ⟨#[]⟩, .int .i64 0, .string ⟨#[]⟩, .int .i64 0, .slice none 0 0, .int .i64 0, .int .i64 0, .slice none 0 0] (k * 11) w9 _ HRA9.out (by have := HRA9.out.1; simp only [List.length_cons, List.length_nil]; omega)
                      have htk : (C ++ ev9 ++ R).take (k * 11) = C := by rw [List.append_assoc]; exact List.take_left' HCL.out
                      have hdr : (C ++ ev9 ++ R).drop (k * 11 + 11) = R := List.drop_left' (by rw [List.length_append, HCL.out, HEL9.out])
                      have e11 : ([.int .i64 0, .bool false, .string ⟨#[]⟩, .string ⟨#[]⟩, .int .i64 0, .string ⟨#[]⟩, .int .i64 0, .slice none 0 0, .int .i64 0, .int .i64 0, .slice none 0 0] : List Value).length = 11 := rfl
                      rw [htk, e11, hdr] at rz
                      have hfin := HSTEP.out _ [.int .i64 0, .bool false, .string ⟨#[]⟩, .string ⟨#[]⟩, .int .i64 0, .string ⟨#[]⟩, .int .i64 0, .slice none 0 0, .int .i64 0, .int .i64 0, .slice none 0 0] (HCH9.out.grown gz (fun q _ h => .inl h)) rfl rz
                      have HFIN := Lib.hid hfin
                      clear hfin rz gz htk hdr e11 hth
                      (try simp only [List.toList_toArray] at *)
                      generalize w9.setCells ga (oa + k * 11) [.int .i64 0, .bool false, .string ⟨#[]⟩, .string ⟨#[]⟩, .int .i64 0, .string ⟨#[]⟩, .int .i64 0, .slice none 0 0, .int .i64 0, .int .i64 0, .slice none 0 0] = w10 at *
                      go_wp2
                      go_roundw
                      case rel => exact ⟨k + 1, _, by omega, by go_num, HFIN.out⟩
                      case measure => simp [intOf]; omega
            · have HTF := Lib.hid (HTE.out.chg hsp.chg NA1.out NA2.out HGA.out)
              clear hsp
              go_wp2
              go_roundw
              case rel => exact ⟨ua, V1', q1', V2', q2', i + 1, by go_num, by omega, HNX.out.1, HNX.out.2, HTF.out⟩
              case measure => simp [intOf]; omega
    · have HE1 := Lib.hid (sended_o HTW.out.m1 HL1.out)
      have HE2 := Lib.hid (fun (W : World) (hm : SMem W w1.heap.size w2.heap.size s V2 q2) => sended_o hm HL2.out)
      have HES := Lib.hid (endsA_sz s)
      have hne : (((endsA s).2 : Int) == ((endsA s).2 : Int)) = true := by simp
      go_upto_region 31 with (first
        | (go_at_call 13; go_must (refine HE1.out.mono ?_; rintro _ w8 ⟨v8, L8, rfl, hL8, ho8, hc8⟩; have HL8 := Lib.hid hL8; have HO8 := Lib.hid ho8; have HC8 := Lib.hid hc8; clear hL8 ho8 hc8))
        | fail)
      obtain ⟨A8, c8, e8, _, _, _, _⟩ := HO8.out.row.form
      subst e8
      have HM28 := Lib.hid (HTW.out.m2.chg HC8.out (fun k hk f => HTW.out.a12 k f hk))
      go_upto_region 32 with (first
        | (go_at_call 13; go_must (refine (HE2.out _ HM28.out).mono ?_; rintro _ w9 ⟨v9, L9, rfl, hL9, ho9, hc9⟩; have HL9 := Lib.hid hL9; have HO9 := Lib.hid ho9; have HC9 := Lib.hid hc9; clear hL9 ho9 hc9))
        | fail)
      have hlm : L9.length = L8.length := by
        have := congrArg List.length (HL9.out.trans HL8.out.symm)
        rw [List.length_map, List.length_map] at this
        exact this
      obtain ⟨A9, c9, e9, _, _, _, hr9⟩ := HO9.out.row.form
      rw [hlm] at e9 hr9
      subst e9
      have ho89 := HO8.out.chg HC9.out (fun k hk f => by have := (HO8.out.lt hk).1; have := (HTW.out.m2.lt k f).2; omega)
      obtain ⟨A8', c8', e8, _, _, _, hr8⟩ := ho89.row.form
      injection e8 with e81 e82 e83
      subst e81
      have HEQ := Lib.hid (sboth_any A8 A9 L8.length c8 c9 L8 L9 w9 (HL8.out.trans HL9.out.symm) hr8 hr9 (fun e he => (ho89.el e he).v) (fun e he => (HO9.out.el e he).v) (by have := HES.out.2; rw [← HL8.out, List.length_map] at this; omega) (mem_x HL8.out _ HES.out.1))
      have HBF : Hid (Below w.heap.size w w9) := Lib.hid (HB1.out.trans ((Below.chg (Below.chg HTW.out.bl HC8.out HTW.out.bl.size (fun k hk => (HTW.out.m1.lt k hk).1)) HC9.out (by have := HTW.out.bl.size; have := HC8.out.size; omega) (fun k hk => (HTW.out.m2.lt k hk).1)).mono HB1.out.size))
      clear ho89 hr8 hr9 hlm e82 e83
      go_wp2_with (first
        | (go_at_call 11; go_must (refine HEQ.out.mono ?_; rintro _ w10 ⟨rfl, hb10⟩))
        | fail)
      go_ret
      exact ⟨rfl, HBF.out.trans (hb10.mono HBF.out.size)⟩
end Go.Proofs.YtklmpadcfioefaaDoor
