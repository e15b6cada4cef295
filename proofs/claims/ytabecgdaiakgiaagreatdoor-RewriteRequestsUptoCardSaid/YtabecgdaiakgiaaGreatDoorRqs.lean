/- law RewriteRequests (printed by gen_rqs1.py). Conditions: sizes, the library's variables. -/
import Derived.Test.YtabecgdaiakgiaaGreatDoorRqs2
import Derived.Test.YtabecgdaiakgiaaGreatDoorRsps
import Derived.Test.YtabecgdaiakgiaaGreatDoorPReq
namespace Go.Proofs.YtabecgdaiakgiaaGreatDoor
open Go.RowKit

theorem req_small {rq : Bool} {mt t : ByteArray} {st : Int} {rs : ByteArray} {mn : Int} {fs : List Fl} {fr ln : Int} {host : ByteArray} (h : fs.length ≤ 1048576) (hln : isInt ln) : (reqP ⟨rq, mt, t, st, rs, mn, fs⟩ fr ln host).1.fs.length ≤ 16777216 := by
  have a1 := (frameP_size (fr := fr) hln).2
  have a2 : (othersP rq fs).length ≤ fs.length := List.length_filter_le _ _
  unfold reqP
  split
  · simp
  · split
    · unfold okH
      split
      · simp only [reqH, List.length_append, List.length_cons]
        omega
      · simp
    · simp
set_option maxHeartbeats 8000000 in
set_option maxRecDepth 100000 in
theorem rqs_any (rq : Bool) (mt t : ByteArray) (st : Int) (rs : ByteArray) (mn : Int) (A : Option Addr) (n c : Nat) (fs : List Fl) (fr ln : Int) (host : ByteArray) (cl : Bool) (mi : Int) (w : World) (hsh : w.ShapedOpen Tryz.prog) (htab : Tab w) (hA : A = none → n = 0) (hrd : Rd w w.heap.size 2 A n (fieldsV fs))
    (hln : isInt ln) (hn : n ≤ 1048576) (hm : mt.size + t.size + rs.size ≤ 1048576) (hfz : flSize fs ≤ 2097152) (hhs : host.size ≤ 1048576) (hfs : ∀ f ∈ fs, f.1.size ≤ 16777216) (hvs : total (vals fs sConn) ≤ 8388608) :
    Calls Tryz.prog 4 #[.agg #[.bool rq, .string mt, .string t, .int .i64 st, .string rs, .int .i64 mn, .slice A n c, .int .i64 fr, .int .i64 ln, .string host, .bool cl, .int .i64 mi]] w fun e w' => e = .returned (.bool true) ∧ Below w.heap.size w w' := by
  have B1 : Below w.heap.size w (w.alloc (.cells #[.bool rq, .string mt, .string t, .int .i64 st, .string rs, .int .i64 mn, .slice A n c, .int .i64 fr, .int .i64 ln, .string host, .bool cl, .int .i64 mi] 26)) := (Below.refl _ _).alloc (Nat.le_refl _) _
  have HR1 := Lib.hid ((hrd.below B1).more B1.size)
  have HV1 := Lib.hid (Var.new w 26 [.bool rq, .string mt, .string t, .int .i64 st, .string rs, .int .i64 mn, .slice A n c, .int .i64 fr, .int .i64 ln, .string host, .bool cl, .int .i64 mi])
  have HS1 : Hid ((w.alloc (.cells #[.bool rq, .string mt, .string t, .int .i64 st, .string rs, .int .i64 mn, .slice A n c, .int .i64 fr, .int .i64 ln, .string host, .bool cl, .int .i64 mi] 26)).ShapedOpen Tryz.prog) := Lib.hid (shaped_below hsh B1)
  have HT1 := Lib.hid (htab.below B1)
  have HB1 := Lib.hid B1
  have HL := Lib.hid (fun W h => vlent_any rq mt t st rs mn A n c fs W hA h (by omega))
  have HRS := Lib.hid (fun A c W h1 h2 h3 h4 => wRequest_any rq mt t st rs mn A n c fs fr ln host W h1 h2 h3 h4 hln hn hm hfz hhs hfs hvs)
  have HPS := Lib.hid (fun W h4 => pRequest_any rq mt t st rs mn A n c fs fr ln host W h4 hln hn hm hfz hhs hfs hvs)
  have hsm : (reqP ⟨rq, mt, t, st, rs, mn, fs⟩ fr ln host).1.fs.length ≤ 16777216 := req_small (by have := hrd.1; rw [fieldsV_len] at this; omega) hln
  unfold headV at HL HRS HPS
  unfold HeadPost hbV headV at HRS HPS
  generalize reqP ⟨rq, mt, t, st, rs, mn, fs⟩ fr ln host = K at HRS HPS hsm
  obtain ⟨⟨p0, p1, p2, p3, p4, p5, Rl⟩, F⟩ := K
  have hsm : Rl.length ≤ 16777216 := hsm
  go_enter Tryz.func4, Tryz.ntmps4
  obtain ⟨w1, hw1⟩ : ∃ w1 : World, w1 = (w.alloc (.cells #[.bool rq, .string mt, .string t, .int .i64 st, .string rs, .int .i64 mn, .slice A n c, .int .i64 fr, .int .i64 ln, .string host, .bool cl, .int .i64 mi] 26)) := ⟨_, rfl⟩
  clear hsh htab hrd B1
  have hz1 : w1.heap.size = w.heap.size + 1 := by rw [hw1]; simp
  go_upto_region 1 with (fail)
  rw [← hw1] at HR1 HV1 HS1 HT1 HB1 ⊢
  clear hw1
  go_upto_region 2 with (first
    | (refine wpList_load_mid_g (by rfl) 24 (.tmp 9) rfl w.heap.size 0 rfl [.bool rq, .string mt, .string t, .int .i64 st, .string rs, .int .i64 mn, .slice A n c] _ (ask_head HV1.out) Tryz.underlying24 rfl (by kernel_rfl) ?_)
    | (go_at_call 6; refine (HL.out _ HR1.out).mono ?_; rintro _ wy ⟨g, o, ct, rfl, hct, hrow, hl⟩; have HLY := Lib.hid hl; have HRW := Lib.hid hrow; clear hl hrow)
    | (refine wpList_put rfl 24 (.tmp 3) (.tmp 11) rfl wy.heap.size rfl (Var.new wy 24 [.bool false, .string ⟨#[]⟩, .string ⟨#[]⟩, .int .i64 0, .string ⟨#[]⟩, .int .i64 0, .slice none 0 0]) [.bool rq, .string mt, .string t, .int .i64 st, .string rs, .int .i64 mn, .slice (some ⟨g, o, none⟩) n ct] rfl rfl (by kernel_rfl) (by simp [Value.oneCell']) ?_; intro w2 hv2 hg2 hs2)
    | fail)
  have hzy := HLY.out.size
  have hz2 := put_size hs2
  have hgl := HRW.out.lt g rfl
  have hgb : g ≠ wy.heap.size := by omega
  have b2 : Below w1.heap.size w1 w2 := Below.put HLY.out hzy hg2
  have HV2 := Lib.hid (HV1.out.below_all b2)
  have HR2 := Lib.hid (HR1.out.keeps b2)
  have HS2 : Hid (w2.ShapedOpen Tryz.prog) := Lib.hid (shaped_below HS1.out b2)
  have HT2 := Lib.hid (HT1.out.below b2)
  have HB2 := Lib.hid (HB1.out.trans (b2.mono HB1.out.size))
  have HVT := Lib.hid hv2
  have HRT := Lib.hid (HRW.out.put hg2)
  have HRL := Lib.hid (lent_rd HRT.out)
  obtain ⟨bt, hbt⟩ : ∃ bt, bt = wy.heap.size := ⟨_, rfl⟩
  have v7 := HV2.out.cell (j := 7) rfl
  have v8 := HV2.out.cell (j := 8) rfl
  have v9 := HV2.out.cell (j := 9) rfl
  clear b2 hv2 hg2 hs2 HLY HRW HV1 HR1 HS1 HT1 HB1 HL
  go_upto_region 3 with (first
    | (refine wpList_load_mid_g (by rfl) 24 (.tmp 3) rfl wy.heap.size 0 rfl [.bool rq, .string mt, .string t, .int .i64 st, .string rs, .int .i64 mn, .slice (some ⟨g, o, none⟩) n ct] _ HVT.out.range Tryz.underlying24 rfl (by kernel_rfl) ?_)
    | (go_at_call 11; refine (HRS.out (some ⟨g, o, none⟩) ct _ HS2.out HT2.out (fun e => by cases e) HRL.out).mono ?_; rintro _ wr ⟨v, rfl, hrow, hl⟩; obtain ⟨A4, c4, rfl, _, _, _, _⟩ := hrow.form; have HLR := Lib.hid hl; have HRR := Lib.hid hrow; clear hl hrow)
    | (refine wpList_put rfl 24 (.tmp 4) (.tmp 21) rfl wr.heap.size rfl (Var.new wr 24 [.bool false, .string ⟨#[]⟩, .string ⟨#[]⟩, .int .i64 0, .string ⟨#[]⟩, .int .i64 0, .slice none 0 0]) [.bool p0, .string p1, .string p2, .int .i64 p3, .string p4, .int .i64 p5, .slice A4 Rl.length c4] rfl rfl (by kernel_rfl) (by simp [Value.oneCell']) ?_; intro w3 hv3 hg3 hs3)
    | fail)
  have hzr := HLR.out.size
  have hz3 := put_size hs3
  have b3 : Below w2.heap.size w2 w3 := Below.put HLR.out hzr hg3
  have HV3 := Lib.hid (HV2.out.below_all b3)
  have HR3 := Lib.hid (HR2.out.keeps b3)
  have HVT3 := Lib.hid (HVT.out.below_all b3)
  have HRT3 := Lib.hid (HRT.out.below_all b3)
  have HB3 := Lib.hid (HB2.out.trans (b3.mono HB2.out.size))
  have HV4 := Lib.hid hv3
  have HR4 := Lib.hid (HRR.out.put hg3)
  have hg2l := HRT.out.lt g rfl
  have x7 := HV3.out.cell (j := 7) rfl
  have x8 := HV3.out.cell (j := 8) rfl
  have x9 := HV3.out.cell (j := 9) rfl
  clear v7 v8 v9 hv3 hg3 hs3 b3 HLR HRR HV2 HR2 HS2 HT2 HB2 HVT HRT HRL HRS
  go_upto_region 3 with (fail)
  go_cut [6, 7] (fun v6 v7 wx => v7 = .int .i64 (F : Int) ∧ ∃ (b7 : Nat) (A7 : Option Addr) (c7 : Nat), v6 = .pointer (some ⟨b7, 0, none⟩) ∧ w3.heap.size ≤ b7 ∧ Var wx b7 24 [.bool p0, .string p1, .string p2, .int .i64 p3, .string p4, .int .i64 p5, .slice A7 Rl.length c7] ∧ Row wx w3.heap.size 2 (.slice A7 Rl.length c7) Rl.length (fieldsV Rl) ∧ Below w3.heap.size w3 wx)
  case first =>
    go_wp2_with (first
      | (refine wpList_load_mid_g (by rfl) 24 (.tmp 24) rfl w.heap.size 0 rfl [.bool rq, .string mt, .string t, .int .i64 st, .string rs, .int .i64 mn, .slice A n c] _ (ask_head HV3.out) Tryz.underlying24 rfl (by kernel_rfl) ?_)
      | (go_at_call 12; refine (HPS.out _ HR3.out).mono ?_; rintro _ wp ⟨v, rfl, hrow, hl⟩; obtain ⟨A7, c7, rfl, _, _, _, _⟩ := hrow.form; have HLP := Lib.hid hl; have HRP := Lib.hid hrow; clear hl hrow)
      | (refine wpList_put rfl 24 (.tmp 6) (.tmp 33) rfl wp.heap.size rfl (Var.new wp 24 [.bool false, .string ⟨#[]⟩, .string ⟨#[]⟩, .int .i64 0, .string ⟨#[]⟩, .int .i64 0, .slice none 0 0]) [.bool p0, .string p1, .string p2, .int .i64 p3, .string p4, .int .i64 p5, .slice A7 Rl.length c7] rfl rfl (by kernel_rfl) (by simp [Value.oneCell']) ?_; intro w5 hv5 hg5 hs5)
      | fail)
    go_meet
    exact ⟨rfl, wp.heap.size, A7, c7, rfl, HLP.out.size, hv5, HRP.out.put hg5, Below.put HLP.out HLP.out.size hg5⟩
  case rest =>
  obtain ⟨rfl, b7, A7, c7, rfl, hb7, hv7, hr7, b5⟩ := hcut
  clear x7 x8 x9
  refine (show ∀ (a : Act) (w : World), Code.wp _ _ _ a w → _ from by assumption) _ _ ?_
  exact rqs_tail rq mt t st rs mn A n c fs fr ln host cl mi w wc p0 p1 p2 p3 p4 p5 Rl (F : Int) wy.heap.size g o ct wr.heap.size c4 b7 c7 w1.heap.size w2.heap.size A4 A7 (HB3.out.trans (b5.mono HB3.out.size)) (HV3.out.below_all b5) (HR3.out.keeps b5) (HVT3.out.below_all b5) (HRT3.out.below_all b5) hct hgb (by omega) (HV4.out.below_all b5) (HR4.out.below_all b5) hg2l.2 (by omega) hv7 (hr7.mono (by omega)) (by omega) hn hsm _ _ _ _ _ _ _ _ _ _ _ _ _ _ _ _ _ _ _ _ _ _ _ _ _ _ _ _ _ _ _ _ _ _ _ _ _ _ _ _ _ _ _ _ _ _ _ _ _ _ _ _ _ _ _ _ _ _ _ _
end Go.Proofs.YtabecgdaiakgiaaGreatDoor
