/- the law ChunkOwn (printed by gen_cown.py). Conditions: sizes, the world's shape, the library's table. -/
import Derived.Test.YtabecgdaiakgiaaDoorCOwnI
import Derived.Test.YtabecgdaiakgiaaDoorDecode
import Derived.Test.YtabecgdaiakgiaaDoorMAwake
import Derived.Test.YtabecgdaiakgiaaDoorFeedsLaw
import Derived.Test.YtabecgdaiakgiaaDoorHexF
import Derived.Test.YtabecgdaiakgiaaDoorTrio
import Derived.Test.YtabecgdaiakgiaaDoorQTot
import Derived.Test.YtabecgdaiakgiaaDoorFed
import Derived.Deep.CutBlock
namespace Go.Proofs.YtabecgdaiakgiaaDoor
open Go.RowKit

theorem built4 (w : World) (a b c d : Value) (ha : a.oneCell' = true) (hb : b.oneCell' = true) (hc : c.oneCell' = true) (hd : d.oneCell' = true) : Src Tryd.prog (w.alloc (.cells #[a, b, c, d] 32)) 34 1 (.slice (some ⟨w.heap.size, 0, none⟩) 4 4) 4 [a, b, c, d] :=
  Src.built [a, b, c, d] 32 Tryd.underlying34 rfl (by intro u hu; simp only [List.mem_cons, List.not_mem_nil, or_false] at hu; rcases hu with rfl | rfl | rfl | rfl <;> assumption)
theorem built3 (w : World) (a b c : Value) (ha : a.oneCell' = true) (hb : b.oneCell' = true) (hc : c.oneCell' = true) : Src Tryd.prog (w.alloc (.cells #[a, b, c] 22)) 35 1 (.slice (some ⟨w.heap.size, 0, none⟩) 3 3) 3 [a, b, c] :=
  Src.built [a, b, c] 22 Tryd.underlying35 rfl (by intro u hu; simp only [List.mem_cons, List.not_mem_nil, or_false] at hu; rcases hu with rfl | rfl | rfl <;> assumption)
theorem dec_small (l : Bs) : (decP l).1.length ≤ l.length ∧ (decP l).2.1.length ≤ 64 := by
  unfold decP
  split
  · simp
  · split
    · exact ⟨Chunk.feed_out_le l {}, (Chunk.feed_ok l {} 0 Chunk.Ok.init (by omega)).trailers⟩
    · simp
theorem own_wlen (p : Bs) (h : p.length ≤ Chunk.most) : (Chunk.writeC p).length ≤ p.length + 12 := by
  by_cases h0 : p = []
  · subst h0; simp [Chunk.writeC]
  · have := Chunk.hexD_len8 h
    rw [Chunk.writeC_cons h0]
    simp; omega
theorem tr_small (l : Bs) : (trOf (Chunk.feed {} l 0 []).1).length ≤ 64 := by
  have h := Chunk.Good.init.goes l
  rw [show Chunk.feedA {} l = Chunk.feed {} l 0 [] from rfl] at h
  unfold trOf
  split
  · rename_i h11; exact h.few h11
  · simp
set_option maxHeartbeats 8000000 in
set_option maxRecDepth 100000 in
theorem cown_any (A1 : Option Addr) (n1 c1 : Nat) (l1 : Bs) (A2 : Option Addr) (n2 c2 : Nat) (l2 : Bs) (w : World) (hsh : w.ShapedOpen Tryd.prog) (ht : Tz w) (hnc1 : n1 ≤ c1) (hA1 : A1 = none → n1 = 0) (hrd1 : Rd w w.heap.size 1 A1 n1 (bytesV l1)) (hn1 : n1 ≤ 1048576)
    (hnc2 : n2 ≤ c2) (hA2 : A2 = none → n2 = 0) (hrd2 : Rd w w.heap.size 1 A2 n2 (bytesV l2)) (hn2 : n2 ≤ 1048576) :
    Calls Tryd.prog 4 #[.slice A1 n1 c1, .slice A2 n2 c2] w fun e w' => e = .returned (.bool true) ∧ Below w.heap.size w w' := by
  obtain ⟨j0, hj0, jz0, jz1, jz2⟩ := info_parts infoSl
  obtain ⟨g0, hg0, gz0, gz1, gz2⟩ := info_parts infoFs
  obtain ⟨i0, hi0, iz0, iz1, iz2⟩ := info_parts infoByte
  obtain ⟨f0', hf0, fz0, fz1, fz2⟩ := info_parts infoField
  have HA1 := Lib.hid hA1
  have HA2 := Lib.hid hA2
  have HS := Lib.hid hsh
  have HT := Lib.hid ht
  have h5 := ht.lt
  have HR1 := Lib.hid hrd1
  have HR2 := Lib.hid hrd2
  have HAW := Lib.hid (mawake_any w hsh ht)
  have HL1 : Hid (l1.length = n1) := Lib.hid (by have := hrd1.1; rw [bytesV_len] at this; omega)
  have HL2 : Hid (l2.length = n2) := Lib.hid (by have := hrd2.1; rw [bytesV_len] at this; omega)
  clear hsh ht hrd1 hrd2 hA1 hA2
  go_enter Tryd.func4, Tryd.ntmps4
  go_upto_region 3 with (first
    | (go_at_call 21; go_must (refine HAW.out.mono ?_; rintro _ w1 ⟨rfl, hb1⟩))
    | fail)
  have HB1 := Lib.hid hb1
  clear hb1 HAW
  go_upto_block 0 with (fail)
  go_cut [5, 6] from 7 to 72 (fun va vl wx => ∃ la ll, OwnSt w wx 3 la ll va vl)
  case first => as_aux_lemma =>
    go_wp2
    go_loopw [5, 6, 7] (fun va vl i wr => ∃ (k : Nat) (la ll : List El), k ≤ 3 ∧ i = .int .i64 k ∧ OwnSt w wr k la ll va vl) (fun _ _ i _ => 3 - (intOf i).toNat)
    case atStart => exact ⟨0, [], [], by omega, rfl, ⟨Two.nil _ _, rfl, rfl, (by intro e he; cases he), (by intro e he; cases he), HB1.out⟩⟩
    case round =>
    obtain ⟨k, la, ll, hk, rfl, hst⟩ := hrel
    have HST := Lib.hid hst
    obtain ⟨Av, cv, rfl, _, _, _, _⟩ := hst.two.ca.form
    obtain ⟨Al, cl, rfl, _, _, _, _⟩ := hst.two.cl.form
    have hna := hst.na
    have hnl := hst.nl
    have hN12 : la.length ≤ 12 := by omega
    have hM9 : ll.length ≤ 9 := by omega
    have HNA := Lib.hid (And.intro hna hnl)
    clear hst hna hnl
    by_cases hlt : k < 3
    · have hk3 : (k : Int) < 3 := by omega
      go_upto_if 38 with (fail)
      go_cut [8] from 32 to 72 (fun v wx => ∃ (A : Option Addr) (n c : Nat) (l : Bs), (v = .slice A n c ∧ n ≤ c ∧ (A = none → n = 0) ∧ n ≤ 1048576 ∧ l.length = n) ∧ Rd wr wr.heap.size 1 A n (bytesV l) ∧ wr = wx)
      case first =>
        by_cases h1 : k = 1
        · have q1 : ((k : Int) == 1) = true := by rw [h1]; rfl
          clear h1
          go_wp2
          go_meet
          exact ⟨A2, n2, c2, l2, ⟨rfl, hnc2, HA2.out, hn2, HL2.out⟩, (HR2.out.below HST.out.bl).more HST.out.bl.size, rfl⟩
        · have q1 : ((k : Int) == 1) = false := by rw [beq_eq_false_iff_ne]; omega
          clear h1
          go_wp2
          go_meet
          exact ⟨A1, n1, c1, l1, ⟨rfl, hnc1, HA1.out, hn1, HL1.out⟩, (HR1.out.below HST.out.bl).more HST.out.bl.size, rfl⟩
      case rest =>
      obtain ⟨A, n, c, l, ⟨rfl, hnc, hA, hn, hl⟩, hrd, rfl⟩ := hcut
      have HA := Lib.hid hA
      have HRD := Lib.hid hrd
      have HL := Lib.hid hl
      have HSr : Hid (wr.ShapedOpen Tryd.prog) := Lib.hid (shaped_below HS.out HST.out.bl)
      have HTr := Lib.hid (HT.out.below HST.out.bl h5)
      have HD := Lib.hid (decode_any A n c l wr HSr.out (by omega) hnc HA.out HRD.out)
      have hds := dec_small l
      rw [hl] at hds
      obtain ⟨⟨d1, d2, d3, d4⟩, hde⟩ : ∃ r, r = decP l := ⟨_, rfl⟩
      rw [← hde] at HD hds
      unfold DecPost at HD
      dsimp only at HD hds
      have HDS := Lib.hid hds
      clear hA hrd hl hde hds
      go_upto_region 12 with (first
        | (go_at_call 22; go_must (refine HD.out.mono ?_; rintro _ w1 ⟨vo, vt, rfl, hro, hrt, hap, hbd⟩))
        | fail)
      obtain ⟨Ao, co, rfl, _, _, hAo, hrdo⟩ := hro.form
      obtain ⟨At, ct, rfl, _, _, _, _⟩ := hrt.form
      have HBD := Lib.hid hbd
      have HRO := Lib.hid hro
      have HRT := Lib.hid hrt
      have HAP := Lib.hid hap
      clear hbd hro hrt hap hrdo hAo
      have HZA : Hid ((w1.alloc (.cells #[.int .i64 0, .int .i64 0, .slice none 0 0, .int .i64 0, .int .i64 0, .int .i64 0, .int .i64 0, .slice none 0 0] 41)).heap.size = w1.heap.size + 1) := Lib.hid (by simp)
      have hba : Below w1.heap.size w1 (w1.alloc (.cells #[.int .i64 0, .int .i64 0, .slice none 0 0, .int .i64 0, .int .i64 0, .int .i64 0, .int .i64 0, .slice none 0 0] 41)) := (Below.refl _ _).alloc (Nat.le_refl _) _
      have HFD := Lib.hid (feedA_any (T := 0) A n c l (w := w1.alloc (.cells #[.int .i64 0, .int .i64 0, .slice none 0 0, .int .i64 0, .int .i64 0, .int .i64 0, .int .i64 0, .slice none 0 0] 41)) (base := w1.heap.size) (b := w1.heap.size) (s := {}) (vl := .slice none 0 0) (vt := .slice none 0 0)
        ⟨w1, shaped_below HSr.out HBD.out, Nat.le_refl _, hba⟩ (rdr_new w1) Chunk.Good.init (by omega) (by omega) hnc HA.out ((HRD.out.keeps HBD.out).keeps hba)
        (fun h0 g o e hf => by
          obtain ⟨g', o', e2, hg, _⟩ := HRD.out.2 h0
          rw [e] at e2
          injection e2 with e2
          injection e2 with e3 _ _
          have hb1 := HBD.out.size
          rcases hf with x | x | x
          · omega
          · simp [Value.ownBlock] at x
          · simp [Value.ownBlock] at x))
      rw [show Chunk.feedA {} l = Chunk.feed {} l 0 [] from rfl] at HFD
      have hgd := Chunk.Good.init.goes l
      rw [show Chunk.feedA {} l = Chunk.feed {} l 0 [] from rfl] at hgd
      have hts := tr_small l
      have hol := Chunk.feed_out_le l {}
      rw [HL.out] at hol
      obtain ⟨⟨s, o, m, q⟩, hR⟩ : ∃ R, R = Chunk.feed {} l 0 [] := ⟨_, rfl⟩
      rw [← hR] at HFD hgd hts hol
      unfold FeedPost at HFD
      dsimp only at HFD hgd hts hol
      have HGD := Lib.hid hgd
      have HTS := Lib.hid hts
      obtain ⟨D, hD⟩ : ∃ D, D = decide (q = 1) := ⟨_, rfl⟩
      obtain ⟨E, hE⟩ : ∃ E : Int, E = if q = 2 then 230 else 0 := ⟨_, rfl⟩
      rw [← hD, ← hE] at HFD
      clear hba hR hgd hts hD hE
      go_upto_region 14 with (first
        | (go_at_call 23; go_must (refine HFD.out.mono ?_; rintro _ w3 ⟨vp, rfl, hrp, vl3, vt3, hr3, hch3, _, _, kk3⟩))
        | fail)
      have hb3 : Below w1.heap.size w1 w3 := Below.chg ((Below.refl _ _).alloc (Nat.le_refl _) (.cells #[.int .i64 0, .int .i64 0, .slice none 0 0, .int .i64 0, .int .i64 0, .int .i64 0, .int .i64 0, .slice none 0 0] 41)) hch3 (by have := HZA.out; omega) (fun q hq => by
        rcases hq with x | x | x
        · omega
        · simp [Value.ownBlock] at x
        · simp [Value.ownBlock] at x)
      have hz3 := hch3.size
      obtain ⟨Ap, cp, rfl, _, _, _, _⟩ := hrp.form
      have HRP := Lib.hid hrp
      have HR3 := Lib.hid hr3
      have HB3 := Lib.hid hb3
      have HZ3 : Hid (w1.heap.size + 1 ≤ w3.heap.size) := Lib.hid (by have := HZA.out; omega)
      have hro3 := HRO.out.below_all hb3
      obtain ⟨_, _, e1, _, _, hAo, hrdo⟩ := hro3.form
      injection e1 with e1 _ e3
      subst e1 e3
      have HRO3 := Lib.hid hro3
      have HT3 := Lib.hid ((HTr.out.below HBD.out (HT.out.below HST.out.bl h5).lt).below hb3 ((HTr.out.below HBD.out (HT.out.below HST.out.bl h5).lt)).lt)
      have HCW := Lib.hid (cwrite_any Ao d1.length co d1 w3 HT3.out (fun e => (hAo e).1) hrdo (by have := HDS.out.1; omega))
      have hwl := own_wlen d1 (by unfold Chunk.most; have := HDS.out.1; omega)
      obtain ⟨wl, hwle⟩ : ∃ wl, wl = Chunk.writeC d1 := ⟨_, rfl⟩
      rw [← hwle] at HCW hwl
      clear hrp hr3 hch3 kk3 hb3 hz3 hro3 hAo hrdo hwle HFD
      have HCA := Lib.hid HST.out.two.ca
      have hzwr : w.heap.size ≤ wr.heap.size := HST.out.bl.size
      have hz1 := HBD.out.size
      have hz3 := HB3.out.size
      go_upto_region 15 with (first
        | (go_at_call 24; go_must (refine HCW.out.mono ?_; rintro _ w4 ⟨vw, rfl, hrw, hb4⟩; obtain ⟨Aw, cw, rfl, _, _, _, _⟩ := hrw.form; have hz4 := hb4.size))
        | (go_at_call 25; go_must (refine (cend_any _).mono ?_; rintro _ w5 ⟨ve, rfl, hre, hb5⟩; obtain ⟨Ae, ce, rfl, _, _, _, _⟩ := hre.form; have hz5 := hb5.size; have hb35 := hb4.trans (hb5.mono hb4.size); have hbr5 := (HBD.out.trans (HB3.out.mono hz1)).trans (hb35.mono (by omega))))
        | (at_builtin; go_must (refine wpList_app _ rfl (.tmp 57) (.tmp 63) 34 34 rfl w.heap.size 32 j0 (.slice none 0 0) 1 24 Tryd.underlying34 hj0 jz0 jz1 jz2 rfl (.slice Av la.length cv) la.length (la.map (·.v)) rfl ((HCA.out.below_all hbr5).alloc _) _ 4 [.slice Ao d1.length co, .slice Ap o.length cp, .slice Aw wl.length cw, .slice Ae 5 ce] rfl (built4 w5 _ _ _ _ rfl rfl rfl rfl) (by omega) (by omega) (by omega) (by simp; omega) ?_); intro v7 w7 hrow7 hg7 ho7)
        | fail)
      have hbW : Below wr.heap.size wr (w5.alloc (.cells #[.slice Ao d1.length co, .slice Ap o.length cp, .slice Aw wl.length cw, .slice Ae 5 ce] 32)) := hbr5.alloc (by omega) _
      have hb3W : Below w3.heap.size w3 (w5.alloc (.cells #[.slice Ao d1.length co, .slice Ap o.length cp, .slice Aw wl.length cw, .slice Ae 5 ce] 32)) := hb35.alloc (by omega) _
      have hb1W : Below w1.heap.size w1 (w5.alloc (.cells #[.slice Ao d1.length co, .slice Ap o.length cp, .slice Aw wl.length cw, .slice Ae 5 ce] 32)) := HB3.out.trans (hb3W.mono hz3)
      have hb4W : Below w4.heap.size w4 (w5.alloc (.cells #[.slice Ao d1.length co, .slice Ap o.length cp, .slice Aw wl.length cw, .slice Ae 5 ce] 32)) := hb5.alloc hb5.size _
      have hb5W : Below w5.heap.size w5 (w5.alloc (.cells #[.slice Ao d1.length co, .slice Ap o.length cp, .slice Aw wl.length cw, .slice Ae 5 ce] 32)) := (Below.refl _ _).alloc (Nat.le_refl _) _
      have hzW : (w5.alloc (.cells #[.slice Ao d1.length co, .slice Ap o.length cp, .slice Aw wl.length cw, .slice Ae 5 ce] 32)).heap.size = w5.heap.size + 1 := by simp
      obtain ⟨hes1, hes2, hbl7⟩ := HST.out.bytes hbW (a1 := w1.heap.size) (a2 := w3.heap.size) (a3 := w4.heap.size) (v1 := .slice Ao d1.length co) (v2 := .slice Ap o.length cp) (v3 := .slice Aw wl.length cw) (v4 := .slice Ae 5 ce) (n1 := d1.length) (n2 := o.length) (n3 := wl.length) (n4 := 5)
        (x1 := bytesV d1) (x2 := bytesV o) (x3 := bytesV wl) (x4 := bytesV [48, 13, 10, 13, 10]) (Row.below_all HRO.out hb1W) (Row.mono (Row.below_all HRP.out hb3W) (by have := HZA.out; omega)) (Row.below_all hrw hb4W) (Row.below_all hre hb5W)
        (Row.inB HRO.out) (Row.inB (Row.mono HRP.out (by have := HZA.out; omega))) (Row.inB hrw) (by omega) (by omega) (by omega) (by omega) hg7 hrow7 ho7
      have hc7 : Chg (fun q => (Value.slice Av la.length cv).ownBlock = some q) (w5.alloc (.cells #[.slice Ao d1.length co, .slice Ap o.length cp, .slice Aw wl.length cw, .slice Ae 5 ce] 32)) w7 := (Chg.refl _ _).grown hg7 (fun k _ hk => hk)
      have hlo : ∀ q, (Value.slice Av la.length cv).ownBlock = some q → q < wr.heap.size := fun q hq => (HCA.out.lt q hq).2
      have hr7 : Rdr w7 w1.heap.size w1.heap.size s vl3 vt3 := (HR3.out.below hb3W).chg hc7 (fun q hq e => by have := hlo q e; have := (HR3.out.foot_lt q hq).1; omega)
      have hvt7 : Row w7 wr.heap.size 2 (.slice At d2.length ct) d2.length (fieldsV (flB d2)) := (HRT.out.below_all hb1W).chg hc7 (fun q hq e => by have := hlo q e; have := (HRT.out.lt q hq).1; omega)
      have hz7 := hg7.size
      have hva7 : v7.ownBlock = (Value.slice Av la.length cv).ownBlock ∨ ∃ c0, v7.ownBlock = some c0 ∧ w1.heap.size ≤ c0 ∧ c0 < w7.heap.size := by
        rcases ho7 with e | e
        · exact .inl e
        · exact .inr ⟨_, e, by omega, (hrow7.lt _ e).2⟩
      have HES1 := Lib.hid hes1
      have HES2 := Lib.hid hes2
      have HBL7 := Lib.hid hbl7
      have HR7 := Lib.hid hr7
      have HVT7 := Lib.hid hvt7
      have HVA7 := Lib.hid hva7
      obtain ⟨A7, c7, e7, _, _, _, _⟩ := hrow7.form
      subst e7
      have HTRC := Lib.hid (fun W (h : Rdr W w1.heap.size w1.heap.size s vl3 vt3) => ctrail_any h HGD.out)
      obtain ⟨tn, htn⟩ : ∃ tn, tn = (trOf s).length := ⟨_, rfl⟩
      rw [← htn] at HTRC HTS
      have HZ57 : Hid (w1.heap.size ≤ w3.heap.size ∧ w3.heap.size ≤ w4.heap.size ∧ w4.heap.size ≤ w5.heap.size ∧ w5.heap.size + 1 ≤ w7.heap.size ∧ w.heap.size ≤ wr.heap.size ∧ wr.heap.size ≤ w1.heap.size) := Lib.hid ⟨hz3, hz4, hz5, by omega, hzwr, hz1⟩
      have HI1 := Lib.hid (Row.inB HRO.out)
      have HI2 := Lib.hid (Row.inB HRT.out)
      clear hes1 hes2 hbl7 hc7 hlo hr7 hvt7 hva7 hrow7 hg7 ho7 hbW hb3W hb1W hb4W hb5W hb35 hbr5 hb4 hb5 hrw hre htn HR3 HRP HRO3 HB3 HCW HD
      go_wp2_with fail
      go_at_call 26
      refine (HTRC.out _ HR7.out).mono ?_
      rintro _ w8 ⟨l2v, rfl, hrl2, hb8⟩
      obtain ⟨B2, e2c, rfl, _, _, _, _⟩ := hrl2.form
      have hz8 := hb8.size
      go_wp2_with fail
      go_at_call 26
      refine (HTRC.out _ (HR7.out.below hb8)).mono ?_
      rintro _ w9 ⟨l3v, rfl, hrl3, hb9⟩
      obtain ⟨B3, e3c, rfl, _, _, _, _⟩ := hrl3.form
      have hz9 := hb9.size
      have hb79 := hb8.trans (hb9.mono hb8.size)
      have HCL := Lib.hid (HES1.out.cl.below_all hb79)
      have hzb : w.heap.size ≤ w9.heap.size := by have := HZ57.out; omega
      go_wp2_with (first
        | (at_builtin; go_must (refine wpList_app _ rfl (.tmp 65) (.tmp 71) 35 35 rfl w.heap.size 22 g0 (.slice none 0 0) 1 24 Tryd.underlying35 hg0 gz0 gz1 gz2 rfl (.slice Al ll.length cl) ll.length (ll.map (·.v)) rfl (HCL.out.alloc _) _ 3 [.slice At d2.length ct, .slice B2 tn e2c, .slice B3 tn e3c] rfl (built3 w9 _ _ _ rfl rfl rfl) (by omega) (by omega) (by omega) (by simp; omega) ?_); intro v10 w10 hrow10 hg10 ho10)
        | fail)
      have hst2 := HST.out.fields (v1 := .slice Ao d1.length co) (vt := .slice At d2.length ct) (l2 := .slice B2 tn e2c) (l3 := .slice B3 tn e3c) (m1 := d2.length) (m2 := tn) (m3 := tn) (a1 := w1.heap.size) (b0 := w5.heap.size + 1) (a6 := w8.heap.size) (W2 := w9.alloc (.cells #[.slice At d2.length ct, .slice B2 tn e2c, .slice B3 tn e3c] 22))
        HES1.out (fun q hq => by
          rcases HES2.out q hq with x | x
          · exact .inl x
          · exact .inr ⟨x.1, by have := x.2; simp at this; omega⟩)
        HVA7.out (by have := HZ57.out; omega) (by have := HZ57.out; omega) HBL7.out (hb79.alloc hb79.size _) HI1.out HI2.out HAP.out (by have := HZ57.out; omega)
        ((HVT7.out.below_all hb79).alloc _) ((hrl2.below_all hb9).alloc _) (hrl3.alloc _) (Row.inB hrl2) hz8 hg10 hrow10 ho10 rfl
        (by
          intro e he
          simp only [List.mem_cons, List.not_mem_nil, or_false] at he
          have := HDS.out.1
          rcases he with rfl | rfl | rfl | rfl <;> (dsimp only; omega))
        HDS.out.2 HTS.out HTS.out
      have HST2 := Lib.hid hst2
      obtain ⟨A10, c10, e10, _, _, _, _⟩ := hrow10.form
      subst e10
      clear hst2 hrow10 hg10 ho10 hrl2 hrl3 hb8 hb9 hb79 hz8 hz9 HES1 HES2 HBL7 HVT7 HVA7
      go_roundw
      case rel => exact ⟨k + 1, _, _, by omega, by go_num, HST2.out⟩
      case measure => simp [intOf]; omega
    · have hk3 : k = 3 := by omega
      subst hk3
      go_wp2
      go_meet
      exact ⟨la, ll, HST.out⟩
  case rest =>
  obtain ⟨la, ll, hst⟩ := hcut
  obtain ⟨w2, rfl⟩ : ∃ w2 : World, w2 = wc := ⟨_, rfl⟩
  obtain ⟨Av, cv, rfl, _, _, _, _⟩ := hst.two.ca.form
  obtain ⟨Al, cl, rfl, _, _, _, _⟩ := hst.two.cl.form
  have e12 : la.length = 12 := hst.na
  have e9 : ll.length = 9 := hst.nl
  rw [e12, e9] at hst ⊢
  clear e12 e9
  obtain ⟨f0, hf0⟩ : ∃ f0, la[0]? = some f0 := ⟨_, List.getElem?_eq_getElem (by have := hst.na; omega)⟩
  obtain ⟨h0, hh0⟩ : ∃ h0, ll[0]? = some h0 := ⟨_, List.getElem?_eq_getElem (by have := hst.nl; omega)⟩
  obtain ⟨gc, oc, e1, _⟩ := hst.atA hf0
  subst e1
  obtain ⟨gl, ol, e2, _⟩ := hst.atL hh0
  subst e2
  have HST := Lib.hid hst
  clear hst HR1 HR2 HL1 HL2 HA1 HA2 HB1 hf0 hh0
  go_upto_block 2 with (fail)
  go_cut [] from 18 to 96 (fun wx => ∃ la, OwnSt w wx 3 la ll (.slice (some ⟨gc, oc, none⟩) 12 cv) (.slice (some ⟨gl, ol, none⟩) 9 cl) ∧ DoneA la 12)
  case first => as_aux_lemma =>
    go_wp2
    go_loopw [18] (fun i wr => ∃ (j : Nat) (la : List El), j ≤ 12 ∧ i = .int .i64 j ∧ OwnSt w wr 3 la ll (.slice (some ⟨gc, oc, none⟩) 12 cv) (.slice (some ⟨gl, ol, none⟩) 9 cl) ∧ DoneA la j) (fun i _ => 12 - (intOf i).toNat)
    case atStart => exact ⟨0, la, by omega, rfl, HST.out, fun i hi => by omega⟩
    case round =>
    obtain ⟨j, la, hj, rfl, hst, hdn⟩ := hrel
    have HQ := Lib.hid hst
    have HDN := Lib.hid hdn
    have hlen : la.length = 12 := hst.na
    clear hst hdn
    by_cases hlt : j < 12
    · obtain ⟨e, he⟩ : ∃ e, la[j]? = some e := ⟨la[j]'(by omega), List.getElem?_eq_getElem (by omega)⟩
      have HE := Lib.hid he
      clear he
      have HLEN := Lib.hid hlen
      obtain ⟨N, hN⟩ : ∃ N, N = e.n := ⟨_, rfl⟩
      have HN := Lib.hid hN
      have hNb : N ≤ 4194304 := by rw [hN]; exact HQ.out.za e (List.mem_of_getElem? HE.out)
      have hj3 : (j : Int) < 12 := by omega
      clear hlen hN
      go_wp2
      go_loopw [19] (fun q wr2 => ∃ (r : Nat) (la2 : List El) (e2 : El), q = .int .i64 r ∧ r ≤ N ∧ OwnSt w wr2 3 la2 ll (.slice (some ⟨gc, oc, none⟩) 12 cv) (.slice (some ⟨gl, ol, none⟩) 9 cl) ∧ DoneA la2 j ∧ la2[j]? = some e2 ∧ e2.n = N ∧ ∀ i, i < r → e2.xs[i]? = some (.int .u8 (3 * (j : Int)))) (fun q _ => N - (intOf q).toNat)
      case atStart => exact ⟨0, la, e, rfl, Nat.zero_le _, HQ.out, HDN.out, HE.out, HN.out.symm, fun i hi => by omega⟩
      case round =>
      obtain ⟨r, la2, e2, rfl, hr, hq, hd, he2, hn2, hx⟩ := hrel
      obtain ⟨gx, ox, e1, hcc, Ae, ce, e3, hown⟩ := hq.atA he2
      injection e1 with e1
      injection e1 with e1 e4 _
      subst e1 e4
      rw [e3, hn2] at hcc
      rw [hn2] at hown
      have HQ2 := Lib.hid hq
      have HD2 := Lib.hid hd
      have HE2 := Lib.hid he2
      have HN2 := Lib.hid hn2
      have HX := Lib.hid hx
      have HE3 := Lib.hid e3
      clear hq hd he2 hn2 hx e3
      by_cases hrt : r < N
      · obtain ⟨ge, oe, e5, hcl, hfr⟩ := hown (by omega)
        subst e5
        obtain ⟨u, hcu, hxu⟩ := hcl r hrt
        have hfz := hfr r hrt
        have HXU := Lib.hid hxu
        have HRT := Lib.hid hrt
        clear hcl hfr hown hxu
        go_wp2
        go_roundw
        case rel =>
          refine ⟨r + 1, _, { e2 with xs := e2.xs.set r (.int .u8 (3 * (j : Int))) }, by go_num, HRT.out, HQ2.out.putA HE2.out (c := ce) (by rw [HN2.out]; exact HE3.out.trans (by rw [HN2.out])) (by rw [HN2.out]; exact hrt) _, HD2.out.set _, ?_, HN2.out, ?_⟩
          · rw [List.getElem?_set_self (List.getElem?_eq_some_iff.1 HE2.out).1]
          · intro i hi
            dsimp only
            by_cases hir : i = r
            · subst hir
              rw [List.getElem?_set_self (List.getElem?_eq_some_iff.1 HXU.out).1]
            · rw [List.getElem?_set_ne (by omega)]
              exact HX.out i (by omega)
        case measure => have := HRT.out; simp [intOf]; omega
      · have hrN : r = N := by omega
        subst hrN
        clear hown
        go_wp2
        go_roundw
        case rel => exact ⟨j + 1, la2, by omega, by go_num, HQ2.out, HD2.out.more HE2.out (by rw [HN2.out]; exact HX.out)⟩
        case measure => simp [intOf]; omega
    · have hj12 : j = 12 := by omega
      subst hj12
      clear hlen
      go_wp2
      go_meet
      exact ⟨la, HQ.out, HDN.out⟩
  case rest =>
  obtain ⟨la, hst, hdn⟩ := hcut
  obtain ⟨w3, rfl⟩ : ∃ w3 : World, w3 = wc := ⟨_, rfl⟩
  have HST2 := Lib.hid hst
  have HDA := Lib.hid hdn
  clear hst hdn
  go_upto_block 6 with (fail)
  go_cut [] from 97 to 122 (fun wx => ∃ ll, OwnSt w wx 3 la ll (.slice (some ⟨gc, oc, none⟩) 12 cv) (.slice (some ⟨gl, ol, none⟩) 9 cl) ∧ DoneL ll 9)
  case first => as_aux_lemma =>
    go_wp2
    go_loopw [20] (fun i wr => ∃ (j : Nat) (ll : List El), j ≤ 9 ∧ i = .int .i64 j ∧ OwnSt w wr 3 la ll (.slice (some ⟨gc, oc, none⟩) 12 cv) (.slice (some ⟨gl, ol, none⟩) 9 cl) ∧ DoneL ll j) (fun i _ => 9 - (intOf i).toNat)
    case atStart => exact ⟨0, ll, by omega, rfl, HST2.out, fun i hi => by omega⟩
    case round =>
    obtain ⟨j, ll, hj, rfl, hst, hdn⟩ := hrel
    have HQ := Lib.hid hst
    have HDN := Lib.hid hdn
    have hlen : ll.length = 9 := hst.nl
    clear hst hdn
    by_cases hlt : j < 9
    · obtain ⟨e, he⟩ : ∃ e, ll[j]? = some e := ⟨ll[j]'(by omega), List.getElem?_eq_getElem (by omega)⟩
      have HE := Lib.hid he
      clear he
      have HLEN := Lib.hid hlen
      obtain ⟨N, hN⟩ : ∃ N, N = e.n := ⟨_, rfl⟩
      have HN := Lib.hid hN
      have hNb : N ≤ 64 := by rw [hN]; exact HQ.out.zl e (List.mem_of_getElem? HE.out)
      have hj3 : (j : Int) < 9 := by omega
      clear hlen hN
      go_wp2
      go_loopw [21] (fun q wr2 => ∃ (r : Nat) (ll2 : List El) (e2 : El), q = .int .i64 r ∧ r ≤ N ∧ OwnSt w wr2 3 la ll2 (.slice (some ⟨gc, oc, none⟩) 12 cv) (.slice (some ⟨gl, ol, none⟩) 9 cl) ∧ DoneL ll2 j ∧ ll2[j]? = some e2 ∧ e2.n = N ∧ ∀ i, i < r → e2.xs[i * 2]? = some (.string ⟨#[111, 119, 110]⟩) ∧ e2.xs[i * 2 + 1]? = some (.string ⟨#[UInt8.ofNat j]⟩)) (fun q _ => N - (intOf q).toNat)
      case atStart => exact ⟨0, ll, e, rfl, Nat.zero_le _, HQ.out, HDN.out, HE.out, HN.out.symm, fun i hi => by omega⟩
      case round =>
      obtain ⟨r, ll2, e2, rfl, hr, hq, hd, he2, hn2, hx⟩ := hrel
      obtain ⟨gx, ox, e1, hcc, Ae, ce, e3, hown⟩ := hq.atL he2
      injection e1 with e1
      injection e1 with e1 e4 _
      subst e1 e4
      rw [e3, hn2] at hcc
      rw [hn2] at hown
      have HQ2 := Lib.hid hq
      have HD2 := Lib.hid hd
      have HE2 := Lib.hid he2
      have HN2 := Lib.hid hn2
      have HX := Lib.hid hx
      have HE3 := Lib.hid e3
      clear hq hd he2 hn2 hx e3
      by_cases hrt : r < N
      · obtain ⟨ge, oe, e5, hcl, hfr⟩ := hown (by omega)
        subst e5
        obtain ⟨u0, hcu0, hxu0⟩ := hcl (r * 2) (by omega)
        obtain ⟨u1, hcu1, hxu1⟩ := hcl (r * 2 + 1) (by omega)
        have hf0 := hfr (r * 2) (by omega)
        have hf1 := hfr (r * 2 + 1) (by omega)
        rw [← Nat.add_assoc] at hcu1 hf1
        have HX0 := Lib.hid hxu0
        have HX1 := Lib.hid hxu1
        have HRT := Lib.hid hrt
        have hcv : ∀ (W : World) (b : Nat), W.cell? ⟨b, 0, none⟩ = some (.int .u8 (j : Int)) → (convert 32 9 (.slice (some ⟨b, 0, none⟩) 1 1)).run Tryd.prog W = .ok (.string ⟨#[UInt8.ofNat j]⟩) W := fun W b hc => conv_one W b (j : Int) (by omega) (by omega) hc
        have hltg := ((HQ2.out.two.fl.row e2 (List.mem_of_getElem? HE2.out)).lt ge (by rw [HE3.out]; rfl)).2
        have hwu : IntKind.u8.wrap (j : Int) = (j : Int) := IntWalk.u8_in _ (by omega)
        have HPL := Lib.hid ((OwnSt.putL HQ2.out HE2.out (c := ce) (by rw [HN2.out]; exact HE3.out.trans (by rw [HN2.out])) (by rw [HN2.out]; exact HRT.out) (.string ⟨#[111, 119, 110]⟩) (.string ⟨#[UInt8.ofNat j]⟩)).below (((Below.refl _ _).alloc (Nat.le_refl _) (.cells #[.int .u8 (j : Int)] 5)).drew))
        have HPA := Lib.hid (HQ2.out.below (((Below.refl _ _).alloc (Nat.le_refl _) (.cells #[.int .u8 (j : Int)] 5)).drew))
        clear hcl hfr hown hxu0 hxu1
        go_upto_region 29 with (fail)
        refine wp_region_held_drew (S := (fun w' => w'.cell? ⟨gl, ol + j, none⟩ = some (.slice (some ⟨ge, oe, none⟩) N ce))) (by as_aux_lemma => kernel_rfl) ?_ (fun hHeld => ?_)
        · exact hcc
        refine wpAnyH_take (i := 0) (v := ?_) (by simp only [List.getElem?_toArray, List.getElem?_cons_zero]; exact rfl) (by as_aux_lemma => kernel_rfl) (by as_aux_lemma => kernel_rfl) (by as_aux_lemma => kernel_rfl) (by exact fun _ _ _ h => h) (Or.inl ⟨by rfl, ?_⟩) (by assumption) ?_
        rotate_left
        · intro w hSw
          (try dsimp only at hSw)
          go_simp
          try with_reducible rfl
        (try simp only [Act.put, List.setIfInBounds_toArray, List.set_cons_zero, List.set_cons_succ])
        refine wpAnyH_take (i := 1) (v := ?_) (by simp only [List.getElem?_toArray, List.getElem?_cons_succ, List.getElem?_cons_zero]; exact rfl) (by as_aux_lemma => kernel_rfl) (by as_aux_lemma => kernel_rfl) (by as_aux_lemma => kernel_rfl) (by exact fun _ _ _ h => h) (Or.inl ⟨by rfl, ?_⟩) (by assumption) ?_
        rotate_left
        · intro w hSw
          (try dsimp only at hSw)
          go_simp
          try with_reducible rfl
        (try simp only [Act.put, List.setIfInBounds_toArray, List.set_cons_zero, List.set_cons_succ])
        refine wpAnyH_take (i := 2) (v := ?_) (by simp only [List.getElem?_toArray, List.getElem?_cons_succ, List.getElem?_cons_zero]; exact rfl) (by as_aux_lemma => kernel_rfl) (by as_aux_lemma => kernel_rfl) (by as_aux_lemma => kernel_rfl) (by exact fun _ _ _ h => h) (Or.inl ⟨by rfl, ?_⟩) (by assumption) ?_
        rotate_left
        · intro w hSw
          (try dsimp only at hSw)
          go_simp
          try with_reducible rfl
        (try simp only [Act.put, List.setIfInBounds_toArray, List.set_cons_zero, List.set_cons_succ])
        refine wpAnyH_take (i := 3) (v := ?_) (by simp only [List.getElem?_toArray, List.getElem?_cons_succ, List.getElem?_cons_zero]; exact rfl) (by as_aux_lemma => kernel_rfl) (by as_aux_lemma => kernel_rfl) (by as_aux_lemma => kernel_rfl) (by exact fun _ _ _ h => h) (Or.inl ⟨by rfl, ?_⟩) (by assumption) ?_
        rotate_left
        · intro w hSw
          (try dsimp only at hSw)
          go_simp
          try with_reducible rfl
        (try simp only [Act.put, List.setIfInBounds_toArray, List.set_cons_zero, List.set_cons_succ])
        refine wpAnyH_take (i := 4) (v := ?_) (by simp only [List.getElem?_toArray, List.getElem?_cons_succ, List.getElem?_cons_zero]; exact rfl) (by as_aux_lemma => kernel_rfl) (by as_aux_lemma => kernel_rfl) (by as_aux_lemma => kernel_rfl) (by exact fun _ _ _ h => h) (Or.inl ⟨by rfl, ?_⟩) (by assumption) ?_
        rotate_left
        · intro w hSw
          (try dsimp only at hSw)
          go_simp
          try with_reducible rfl
        (try simp only [Act.put, List.setIfInBounds_toArray, List.set_cons_zero, List.set_cons_succ])
        refine wpAnyH_take (i := 5) (v := ?_) (by simp only [List.getElem?_toArray, List.getElem?_cons_succ, List.getElem?_cons_zero]; exact rfl) (by as_aux_lemma => kernel_rfl) (by as_aux_lemma => kernel_rfl) (by as_aux_lemma => kernel_rfl) (by exact fun _ _ _ h => h) (Or.inl ⟨by rfl, ?_⟩) (by assumption) ?_
        rotate_left
        · intro w hSw
          (try dsimp only at hSw)
          go_simp
          try with_reducible rfl
        (try simp only [Act.put, List.setIfInBounds_toArray, List.set_cons_zero, List.set_cons_succ])
        refine wpAnyH_take (i := 6) (v := ?_) (by simp only [List.getElem?_toArray, List.getElem?_cons_succ, List.getElem?_cons_zero]; exact rfl) (by as_aux_lemma => kernel_rfl) (by as_aux_lemma => kernel_rfl) (by as_aux_lemma => kernel_rfl) (by exact fun _ _ _ h => h) (Or.inl ⟨by rfl, ?_⟩) (by assumption) ?_
        rotate_left
        · intro w hSw
          (try dsimp only at hSw)
          go_simp
          try with_reducible rfl
        (try simp only [Act.put, List.setIfInBounds_toArray, List.set_cons_zero, List.set_cons_succ])
        refine wpAnyH_ready (rs := [7]) (by as_aux_lemma => kernel_rfl) (by simp) ?_
        refine AllReadyH.cons (by simp only [List.getElem?_toArray, List.getElem?_cons_succ, List.getElem?_cons_zero]; exact rfl) (fun K hK => ?_) AllReadyH.nil
        go_simp
        refine hK.out _ _ ?_ (fun hHeld => ?_)
        · (try dsimp only)
          exact (OwnSt.cellL HPA.out HE2.out).trans (by rw [HE3.out, HN2.out])
        clear hK K
        (try simp only [Act.put, List.setIfInBounds_toArray, List.set_cons_zero, List.set_cons_succ])
        refine wpAnyH_ready (rs := [8]) (by as_aux_lemma => kernel_rfl) (by simp) ?_
        refine AllReadyH.cons (by simp only [List.getElem?_toArray, List.getElem?_cons_succ, List.getElem?_cons_zero]; exact rfl) (fun K hK => ?_) AllReadyH.nil
        go_simp
        refine hK.out _ _ ?_ (fun hHeld => ?_)
        · (try dsimp only)
          exact (OwnSt.cellL HPA.out HE2.out).trans (by rw [HE3.out, HN2.out])
        clear hK K
        (try simp only [Act.put, List.setIfInBounds_toArray, List.set_cons_zero, List.set_cons_succ])
        refine wpAnyH_take (i := 9) (v := ?_) (by simp only [List.getElem?_toArray, List.getElem?_cons_succ, List.getElem?_cons_zero]; exact rfl) (by as_aux_lemma => kernel_rfl) (by as_aux_lemma => kernel_rfl) (by as_aux_lemma => kernel_rfl) (by exact fun _ _ _ h => h) (Or.inl ⟨by rfl, ?_⟩) (by assumption) ?_
        rotate_left
        · intro w hSw
          (try dsimp only at hSw)
          go_simp
          try with_reducible rfl
        (try simp only [Act.put, List.setIfInBounds_toArray, List.set_cons_zero, List.set_cons_succ])
        refine wpAnyH_take (i := 10) (v := ?_) (by simp only [List.getElem?_toArray, List.getElem?_cons_succ, List.getElem?_cons_zero]; exact rfl) (by as_aux_lemma => kernel_rfl) (by as_aux_lemma => kernel_rfl) (by as_aux_lemma => kernel_rfl) (by exact fun _ _ _ h => h) (Or.inl ⟨by rfl, ?_⟩) (by assumption) ?_
        rotate_left
        · intro w hSw
          (try dsimp only at hSw)
          go_simp
          try with_reducible rfl
        (try simp only [Act.put, List.setIfInBounds_toArray, List.set_cons_zero, List.set_cons_succ])
        refine wpAnyH_ready (rs := [11]) (by as_aux_lemma => kernel_rfl) (by simp) ?_
        refine AllReadyH.cons (by simp only [List.getElem?_toArray, List.getElem?_cons_succ, List.getElem?_cons_zero]; exact rfl) (fun K hK => ?_) AllReadyH.nil
        go_simp
        refine hK.out _ _ ?_ (fun hHeld => ?_)
        · (try dsimp only)
          exact (OwnSt.cellL HPL.out (List.getElem?_set_self (List.getElem?_eq_some_iff.1 HE2.out).1)).trans (by rw [HE3.out, HN2.out])
        clear hK K
        refine wpAnyH_done (by as_aux_lemma => kernel_rfl) ?_ _
        go_wp2
        go_roundw
        case rel =>
          refine ⟨r + 1, _, { e2 with xs := (e2.xs.set (r * 2) (.string ⟨#[111, 119, 110]⟩)).set (r * 2 + 1) (.string ⟨#[UInt8.ofNat j]⟩) }, by go_num, HRT.out, HPL.out, HD2.out.set _, ?_, HN2.out, ?_⟩
          · rw [List.getElem?_set_self (List.getElem?_eq_some_iff.1 HE2.out).1]
          · intro i hi
            exact xs_put HX0.out HX1.out hi (fun h => HX.out i h)
        case measure => have := HRT.out; simp [intOf]; omega
      · have hrN : r = N := by omega
        subst hrN
        clear hown
        go_wp2
        go_roundw
        case rel => exact ⟨j + 1, ll2, by omega, by go_num, HQ2.out, HD2.out.more HE2.out (by rw [HN2.out]; exact HX.out)⟩
        case measure => simp [intOf]; omega
    · have hj9 : j = 9 := by omega
      subst hj9
      clear hlen
      go_wp2
      go_meet
      exact ⟨ll, HQ.out, HDN.out⟩
  case rest =>
  obtain ⟨ll, hst, hdn⟩ := hcut
  obtain ⟨w4, rfl⟩ : ∃ w4 : World, w4 = wc := ⟨_, rfl⟩
  have HST4 := Lib.hid hst
  have HDL := Lib.hid hdn
  clear hst hdn
  go_upto_block 10 with (fail)
  go_cut [22] from 24 to 141 (fun vo wx => ∃ lo, LongSt w wx la ll (.slice (some ⟨gc, oc, none⟩) 12 cv) (.slice (some ⟨gl, ol, none⟩) 9 cl) 12 lo vo)
  case first => as_aux_lemma =>
    go_wp2
    go_loopw [22, 24] (fun vo i wr => ∃ (j : Nat) (lo : List El), j ≤ 12 ∧ i = .int .i64 j ∧ LongSt w wr la ll (.slice (some ⟨gc, oc, none⟩) 12 cv) (.slice (some ⟨gl, ol, none⟩) 9 cl) j lo vo) (fun _ i _ => 12 - (intOf i).toNat)
    case atStart => exact ⟨0, [], by omega, rfl, LongSt.nil HST4.out⟩
    case round =>
    obtain ⟨j, lo, hj, rfl, hls⟩ := hrel
    have HQ := Lib.hid hls
    obtain ⟨Ao, co, rfl, _, _, _, _⟩ := hls.c.form
    clear hls
    by_cases hlt : j < 12
    · obtain ⟨e, he⟩ : ∃ e, la[j]? = some e := ⟨la[j]'(by have := HQ.out.st.na; omega), List.getElem?_eq_getElem _⟩
      have HE := Lib.hid he
      have hcc := HQ.out.st.cellA he
      have hrow := HQ.out.st.two.fa.row e (List.mem_of_getElem? he)
      have hNb := HQ.out.st.za e (List.mem_of_getElem? he)
      obtain ⟨Ae, ce, e3, _, _, _, _⟩ := hrow.form
      rw [e3] at hcc hrow
      obtain ⟨N, hN⟩ : ∃ N, N = e.n := ⟨_, rfl⟩
      rw [← hN] at hcc hrow hNb
      have HE3 : Hid (e.v = .slice Ae N ce) := Lib.hid (by rw [hN]; exact e3)
      have HN := Lib.hid hN
      have HROW := Lib.hid hrow
      have hj3 : (j : Int) < 12 := by omega
      have hwu : IntKind.u8.wrap (3 * (j : Int) + 1) = 3 * (j : Int) + 1 := IntWalk.u8_in _ (by omega)
      have hwz := HQ.out.st.bl.size
      have HLL : Hid ((lo.map (·.v)).length = j) := Lib.hid (by rw [List.length_map]; exact HQ.out.len)
      clear he hrow e3 hN
      go_wp2_with (first
        | (have hmid := HMID.out; at_builtin; go_must (refine wpList_app _ rfl (.tmp 129) (.tmp 140) 34 34 rfl w.heap.size 32 j0 (.slice none 0 0) 1 24 Tryd.underlying34 hj0 jz0 jz1 jz2 rfl (.slice Ao j co) j (lo.map (·.v)) rfl (HMID.out.alloc _) _ 1 [.slice A7 (N + 1) c7] rfl (Src.built [.slice A7 (N + 1) c7] 32 Tryd.underlying34 rfl (by intro u hu; simp at hu; subst hu; rfl)) (by omega) (by omega) (by omega) (by simp; simp at hz7; omega) ?_); intro v10 w10 hrow10 hg10 ho10; clear hmid)
        | (at_builtin; go_must (refine wpList_app2 _ rfl (.tmp 133) (.tmp 138) 32 32 rfl w.heap.size 5 i0 (.int .u8 0) 1 1 Tryd.underlying32 hi0 iz0 iz1 iz2 rfl (.slice Ae N ce) N e.xs rfl (HROW.out.alloc _) _ 1 [.int .u8 (3 * (j : Int) + 1)] rfl (Src.built [.int .u8 (3 * (j : Int) + 1)] 5 Tryd.underlying32 rfl (by intro u hu; simp at hu; subst hu; rfl)) (by omega) (by omega) (by omega) (by simp; omega) ?_); intro v7 w7 hrow7 hg7 ho7 hro7; obtain ⟨A7, c7, rfl, _, _, _, _⟩ := hrow7.form; have HMID := Lib.hid (HQ.out.mid HE.out ((Below.refl _ _).alloc (Nat.le_refl _) (.cells #[.int .u8 (3 * (j : Int) + 1)] 5)) (by rw [HE3.out]; exact hg7)); have hz7 := hg7.size)
        | fail)
      have hls := HQ.out.step HE.out ((Below.refl _ _).alloc (Nat.le_refl _) (.cells #[.int .u8 (3 * (j : Int) + 1)] 5)) (by rw [HE3.out]; exact hg7) (by rw [HE3.out, ← HN.out]; exact hro7) (by rw [← HN.out]; exact hrow7) (by rw [HE3.out]; exact ho7) ((Below.refl _ _).alloc (Nat.le_refl _) _) hg10 hrow10 ho10
      have HLS := Lib.hid hls
      obtain ⟨A10, c10, rfl, _, _, _, _⟩ := hrow10.form
      clear hls hrow7 hg7 ho7 hro7 hrow10 hg10 ho10
      go_roundw
      case rel => exact ⟨j + 1, _, by omega, by go_num, HLS.out⟩
      case measure => simp [intOf]; omega
    · have hj12 : j = 12 := by omega
      subst hj12
      go_wp2
      go_meet
      exact ⟨lo, HQ.out⟩
  case rest =>
  obtain ⟨lo, hlg⟩ := hcut
  obtain ⟨w5, rfl⟩ : ∃ w5 : World, w5 = wc := ⟨_, rfl⟩
  obtain ⟨Ao, co, rfl, _, _, _, _⟩ := hlg.c.form
  have HLG := Lib.hid hlg
  clear hlg
  go_upto_block 12 with (fail)
  go_cut [23] from 25 to 161 (fun vm wx => ∃ mo, MoreSt w wx la ll lo (.slice (some ⟨gc, oc, none⟩) 12 cv) (.slice (some ⟨gl, ol, none⟩) 9 cl) (.slice Ao 12 co) 9 mo vm)
  case first => as_aux_lemma =>
    go_wp2
    go_loopw [23, 25] (fun vm i wr => ∃ (j : Nat) (mo : List El), j ≤ 9 ∧ i = .int .i64 j ∧ MoreSt w wr la ll lo (.slice (some ⟨gc, oc, none⟩) 12 cv) (.slice (some ⟨gl, ol, none⟩) 9 cl) (.slice Ao 12 co) j mo vm) (fun _ i _ => 9 - (intOf i).toNat)
    case atStart => exact ⟨0, [], by omega, rfl, MoreSt.nil HLG.out⟩
    case round =>
    obtain ⟨j, mo, hj, rfl, hms⟩ := hrel
    have HQ0 := Lib.hid hms
    obtain ⟨Am, cm, rfl, _, _, _, _⟩ := hms.c.form
    clear hms
    by_cases hlt : j < 9
    · obtain ⟨e, he⟩ : ∃ e, ll[j]? = some e := ⟨ll[j]'(by have := HQ0.out.lg.st.nl; omega), List.getElem?_eq_getElem _⟩
      have HE := Lib.hid he
      have hNb := HQ0.out.lg.st.zl e (List.mem_of_getElem? he)
      obtain ⟨Ae, ce, e3, _, _, _, _⟩ := (HQ0.out.lg.st.two.fl.row e (List.mem_of_getElem? he)).form
      obtain ⟨N, hN⟩ : ∃ N, N = e.n := ⟨_, rfl⟩
      rw [← hN] at hNb e3
      have HE3 := Lib.hid e3
      have HN := Lib.hid hN
      have hj3 : (j : Int) < 9 := by omega
      have hwu : IntKind.u8.wrap (j : Int) = (j : Int) := IntWalk.u8_in _ (by omega)
      have hcv : ∀ (W : World) (b : Nat), W.cell? ⟨b, 0, none⟩ = some (.int .u8 (j : Int)) → (convert 32 9 (.slice (some ⟨b, 0, none⟩) 1 1)).run Tryd.prog W = .ok (.string ⟨#[UInt8.ofNat j]⟩) W := fun W b hc => conv_one W b (j : Int) (by omega) (by omega) hc
      have HLL : Hid ((mo.map (·.v)).length = j) := Lib.hid (by rw [List.length_map]; exact HQ0.out.len)
      clear he hN e3
      go_upto_region 39 with (fail)
      refine wp_region_held_drew (S := (fun w' => w'.cell? ⟨gl, ol + j, none⟩ = some (.slice Ae N ce))) (by as_aux_lemma => kernel_rfl) ?_ (fun hHeld => ?_)
      · exact (HQ0.out.lg.st.cellL HE.out).trans (by rw [HE3.out])
      have HQ := Lib.hid (HQ0.out.below (Below.refl _ _).drew)
      clear hHeld
      generalize hwd : World.drew _ = wd at HQ ⊢
      clear hwd
      have hHeld := (HQ.out.lg.st.cellL HE.out).trans (show some e.v = some (Value.slice Ae N ce) by rw [HE3.out])
      have hwz := HQ.out.lg.st.bl.size
      have hrow := HQ.out.lg.st.two.fl.row e (List.mem_of_getElem? HE.out)
      rw [HE3.out, ← HN.out] at hrow
      have HROW := Lib.hid hrow
      obtain ⟨M, hM⟩ : ∃ M : ByteArray, M = ⟨#[UInt8.ofNat j]⟩ := ⟨_, rfl⟩
      have HM : Hid (moreV j = [.string ⟨#[109, 111, 114, 101]⟩, .string M]) := Lib.hid (by rw [hM]; rfl)
      rw [← hM] at hcv
      have hba : Below wd.heap.size wd (wd.alloc (.cells #[.int .u8 (j : Int)] 5)) := (Below.refl _ _).alloc (Nat.le_refl _) _
      have hbb : Below wd.heap.size wd ((wd.alloc (.cells #[.int .u8 (j : Int)] 5)).alloc (.cells #[.string ⟨#[109, 111, 114, 101]⟩, .string M] 48)) := hba.alloc hba.size _
      have HBA := Lib.hid hba
      have HBB := Lib.hid hbb
      have hsrc : Src Tryd.prog ((wd.alloc (.cells #[.int .u8 (j : Int)] 5)).alloc (.cells #[.string ⟨#[109, 111, 114, 101]⟩, .string M] 48)) 22 2 (.slice (some ⟨(wd.alloc (.cells #[.int .u8 (j : Int)] 5)).heap.size, 0, none⟩) 1 1) 1 [.string ⟨#[109, 111, 114, 101]⟩, .string M] :=
        Src.built [.string ⟨#[109, 111, 114, 101]⟩, .string M] 48 Tryd.underlying22 rfl (by intro u hu; simp at hu; rcases hu with rfl | rfl <;> rfl)
      rw [show (wd.alloc (.cells #[.int .u8 (j : Int)] 5)).heap.size = wd.heap.size + 1 by simp] at hsrc
      have HSRC := Lib.hid hsrc
      clear hrow hM hba hbb hsrc
      refine wpAnyH_take (i := 0) (v := ?_) (by simp only [List.getElem?_toArray, List.getElem?_cons_zero]; exact rfl) (by as_aux_lemma => kernel_rfl) (by as_aux_lemma => kernel_rfl) (by as_aux_lemma => kernel_rfl) (by exact fun _ _ _ h => h) (Or.inl ⟨by rfl, ?_⟩) (by assumption) ?_
      rotate_left
      · intro w hSw
        (try dsimp only at hSw)
        go_simp
        try with_reducible rfl
      (try simp only [Act.put, List.setIfInBounds_toArray, List.set_cons_zero, List.set_cons_succ])
      refine wpAnyH_take (i := 1) (v := ?_) (by simp only [List.getElem?_toArray, List.getElem?_cons_succ, List.getElem?_cons_zero]; exact rfl) (by as_aux_lemma => kernel_rfl) (by as_aux_lemma => kernel_rfl) (by as_aux_lemma => kernel_rfl) (by exact fun _ _ _ h => h) (Or.inl ⟨by rfl, ?_⟩) (by assumption) ?_
      rotate_left
      · intro w hSw
        (try dsimp only at hSw)
        go_simp
        try with_reducible rfl
      (try simp only [Act.put, List.setIfInBounds_toArray, List.set_cons_zero, List.set_cons_succ])
      refine wpAnyH_take (i := 2) (v := ?_) (by simp only [List.getElem?_toArray, List.getElem?_cons_succ, List.getElem?_cons_zero]; exact rfl) (by as_aux_lemma => kernel_rfl) (by as_aux_lemma => kernel_rfl) (by as_aux_lemma => kernel_rfl) (by exact fun _ _ _ h => h) (Or.inl ⟨by rfl, ?_⟩) (by assumption) ?_
      rotate_left
      · intro w hSw
        (try dsimp only at hSw)
        go_simp
        try with_reducible rfl
      (try simp only [Act.put, List.setIfInBounds_toArray, List.set_cons_zero, List.set_cons_succ])
      refine wpAnyH_take (i := 3) (v := ?_) (by simp only [List.getElem?_toArray, List.getElem?_cons_succ, List.getElem?_cons_zero]; exact rfl) (by as_aux_lemma => kernel_rfl) (by as_aux_lemma => kernel_rfl) (by as_aux_lemma => kernel_rfl) (by exact fun _ _ _ h => h) (Or.inl ⟨by rfl, ?_⟩) (by assumption) ?_
      rotate_left
      · intro w hSw
        (try dsimp only at hSw)
        go_simp
        try with_reducible rfl
      (try simp only [Act.put, List.setIfInBounds_toArray, List.set_cons_zero, List.set_cons_succ])
      refine wpAnyH_take (i := 4) (v := ?_) (by simp only [List.getElem?_toArray, List.getElem?_cons_succ, List.getElem?_cons_zero]; exact rfl) (by as_aux_lemma => kernel_rfl) (by as_aux_lemma => kernel_rfl) (by as_aux_lemma => kernel_rfl) (by exact fun _ _ _ h => h) (Or.inl ⟨by rfl, ?_⟩) (by assumption) ?_
      rotate_left
      · intro w hSw
        (try dsimp only at hSw)
        go_simp
        try with_reducible rfl
      (try simp only [Act.put, List.setIfInBounds_toArray, List.set_cons_zero, List.set_cons_succ])
      refine wpAnyH_take (i := 5) (v := ?_) (by simp only [List.getElem?_toArray, List.getElem?_cons_succ, List.getElem?_cons_zero]; exact rfl) (by as_aux_lemma => kernel_rfl) (by as_aux_lemma => kernel_rfl) (by as_aux_lemma => kernel_rfl) (by exact fun _ _ _ h => h) (Or.inl ⟨by rfl, ?_⟩) (by assumption) ?_
      rotate_left
      · intro w hSw
        (try dsimp only at hSw)
        go_simp
        try with_reducible rfl
      (try simp only [Act.put, List.setIfInBounds_toArray, List.set_cons_zero, List.set_cons_succ])
      refine wpAnyH_take (i := 6) (v := ?_) (by simp only [List.getElem?_toArray, List.getElem?_cons_succ, List.getElem?_cons_zero]; exact rfl) (by as_aux_lemma => kernel_rfl) (by as_aux_lemma => kernel_rfl) (by as_aux_lemma => kernel_rfl) (by exact fun _ _ _ h => h) (Or.inl ⟨by rfl, ?_⟩) (by assumption) ?_
      rotate_left
      · intro w hSw
        (try dsimp only at hSw)
        go_simp
        try with_reducible rfl
      (try simp only [Act.put, List.setIfInBounds_toArray, List.set_cons_zero, List.set_cons_succ])
      refine wpAnyH_ready (rs := [7]) (by as_aux_lemma => kernel_rfl) (by simp) ?_
      refine AllReadyH.cons (by simp only [List.getElem?_toArray, List.getElem?_cons_succ, List.getElem?_cons_zero]; exact rfl) (fun K hK => ?_) AllReadyH.nil
      go_simp
      refine hK.out _ _ ?_ (fun hHeld => ?_)
      · (try dsimp only)
        exact ((HQ.out.lg.below HBA.out).st.cellL HE.out).trans (by rw [HE3.out])
      clear hK K
      (try simp only [Act.put, List.setIfInBounds_toArray, List.set_cons_zero, List.set_cons_succ])
      refine wpAnyH_ready (rs := [8]) (by as_aux_lemma => kernel_rfl) (by simp) ?_
      refine AllReadyH.cons (by simp only [List.getElem?_toArray, List.getElem?_cons_succ, List.getElem?_cons_zero]; exact rfl) (fun K hK => ?_) AllReadyH.nil
      go_simp
      refine hK.out _ _ ?_ (fun hHeld => ?_)
      · (try dsimp only)
        exact ((HQ.out.lg.below HBA.out).st.cellL HE.out).trans (by rw [HE3.out])
      clear hK K
      (try simp only [Act.put, List.setIfInBounds_toArray, List.set_cons_zero, List.set_cons_succ])
      refine wpAnyH_take (i := 9) (v := ?_) (by simp only [List.getElem?_toArray, List.getElem?_cons_succ, List.getElem?_cons_zero]; exact rfl) (by as_aux_lemma => kernel_rfl) (by as_aux_lemma => kernel_rfl) (by as_aux_lemma => kernel_rfl) (by exact fun _ _ _ h => h) (Or.inl ⟨by rfl, ?_⟩) (by assumption) ?_
      rotate_left
      · intro w hSw
        (try dsimp only at hSw)
        go_simp
        try with_reducible rfl
      (try simp only [Act.put, List.setIfInBounds_toArray, List.set_cons_zero, List.set_cons_succ])
      refine wpAnyH_ready (rs := [10]) (by as_aux_lemma => kernel_rfl) (by simp) ?_
      refine AllReadyH.cons (by simp only [List.getElem?_toArray, List.getElem?_cons_succ, List.getElem?_cons_zero]; exact rfl) (fun K hK => ?_) AllReadyH.nil
      go_simp
      refine hK.out _ _ ?_ (fun hHeld => ?_)
      · (try dsimp only)
        exact ((HQ.out.lg.below HBB.out).st.cellL HE.out).trans (by rw [HE3.out])
      clear hK K
      (try simp only [Act.put, List.setIfInBounds_toArray, List.set_cons_zero, List.set_cons_succ])
      refine wpAnyH_ready (rs := [11]) (by as_aux_lemma => kernel_rfl) (by simp) ?_
      refine AllReadyH.cons (by simp only [List.getElem?_toArray, List.getElem?_cons_succ, List.getElem?_cons_zero]; exact rfl) (fun K hK => ?_) AllReadyH.nil
      (refine step_app2 (by rfl) (.tmp 152) (.tmp 158) 22 22 (by rfl) w.heap.size 48 f0' (.agg #[.string ⟨#[]⟩, .string ⟨#[]⟩]) 2 32 Tryd.underlying22 hf0 fz0 fz1 fz2 rfl (.slice Ae N ce) N e.xs (by rfl) ((HROW.out.alloc _).alloc _) (.slice (some ⟨wd.heap.size + 1, 0, none⟩) 1 1) 1 [.string ⟨#[109, 111, 114, 101]⟩, .string M] (by rfl) HSRC.out (by omega) (by omega) (by omega) (by simp; omega) ?_; intro v7 w7 hrow7 hg7 ho7 hro7)
      have hl1 := HQ.out.one HE.out HBB.out (by rw [HE3.out]; exact hg7) (by rw [HE3.out, ← HN.out]; exact hro7)
      have HL1 := Lib.hid hl1
      have hmid := HQ.out.mid HE.out HBB.out (by rw [HE3.out]; exact hg7)
      have HMID := Lib.hid hmid
      obtain ⟨A7, c7, rfl, _, _, _, _⟩ := hrow7.form
      have hz7 := hg7.size
      clear hl1 hmid
      refine hK.out _ _ ?_ (fun hHeld => ?_)
      · (try dsimp only)
        exact (HL1.out.st.cellL HE.out).trans (by rw [HE3.out])
      clear hK K
      (try simp only [Act.put, List.setIfInBounds_toArray, List.set_cons_zero, List.set_cons_succ])
      refine wpAnyH_ready (rs := [12]) (by as_aux_lemma => kernel_rfl) (by simp) ?_
      refine AllReadyH.cons (by simp only [List.getElem?_toArray, List.getElem?_cons_succ, List.getElem?_cons_zero]; exact rfl) (fun K hK => ?_) AllReadyH.nil
      go_simp
      refine hK.out _ _ ?_ (fun hHeld => ?_)
      · (try dsimp only)
        exact ((HL1.out.below ((Below.refl _ _).alloc (Nat.le_refl _) _)).st.cellL HE.out).trans (by rw [HE3.out])
      clear hK K
      (try simp only [Act.put, List.setIfInBounds_toArray, List.set_cons_zero, List.set_cons_succ])
      refine wpAnyH_ready (rs := [13]) (by as_aux_lemma => kernel_rfl) (by simp) ?_
      refine AllReadyH.cons (by simp only [List.getElem?_toArray, List.getElem?_cons_succ, List.getElem?_cons_zero]; exact rfl) (fun K hK => ?_) AllReadyH.nil
      (refine step_app _ (by rfl) (.tmp 148) (.tmp 160) 35 35 (by rfl) w.heap.size 22 g0 (.slice none 0 0) 1 24 Tryd.underlying35 hg0 gz0 gz1 gz2 rfl (.slice Am j cm) j (mo.map (·.v)) (by rfl) (HMID.out.alloc _) _ 1 [.slice A7 (N + 1) c7] (by rfl) (Src.built [.slice A7 (N + 1) c7] 22 Tryd.underlying35 rfl (by intro u hu; simp at hu; subst hu; rfl)) (by omega) (by omega) (by omega) (by simp; simp at hz7; omega) ?_; intro v10 w10 hrow10 hg10 ho10)
      have hms := HQ.out.step HE.out HBB.out (by rw [HE3.out]; exact hg7) (by rw [HE3.out, ← HN.out]; exact hro7) (by rw [HM.out, ← HN.out]; exact hrow7) (by rw [HE3.out]; exact ho7) ((Below.refl _ _).alloc (Nat.le_refl _) _) hg10 hrow10 ho10
      have HMS := Lib.hid hms
      obtain ⟨A10, c10, rfl, _, _, _, _⟩ := hrow10.form
      clear hms hrow7 hg7 ho7 hro7 hrow10 hg10 ho10
      refine hK.out _ _ ?_ (fun hHeld => ?_)
      · (try dsimp only)
        exact (HMS.out.lg.st.cellL HE.out).trans (by rw [HE3.out])
      clear hK K
      refine wpAnyH_take (i := 14) (v := ?_) (by simp only [List.getElem?_toArray, List.getElem?_cons_succ, List.getElem?_cons_zero]; exact rfl) (by as_aux_lemma => kernel_rfl) (by as_aux_lemma => kernel_rfl) (by as_aux_lemma => kernel_rfl) (by exact fun _ _ _ h => h) (Or.inl ⟨by rfl, ?_⟩) (by assumption) ?_
      rotate_left
      · intro w hSw
        (try dsimp only at hSw)
        go_simp
        try with_reducible rfl
      (try simp only [Act.put, List.setIfInBounds_toArray, List.set_cons_zero, List.set_cons_succ])
      refine wpAnyH_done (by as_aux_lemma => kernel_rfl) ?_ _
      go_wp2
      go_roundw
      case rel => exact ⟨j + 1, _, by omega, by go_num, HMS.out⟩
      case measure => simp [intOf]; omega
    · have hj9 : j = 9 := by omega
      subst hj9
      go_wp2
      go_meet
      exact ⟨mo, HQ0.out⟩
  case rest =>
  obtain ⟨mo, hms⟩ := hcut
  obtain ⟨w6, rfl⟩ : ∃ w6 : World, w6 = wc := ⟨_, rfl⟩
  obtain ⟨Am, cm, rfl, _, _, _, _⟩ := hms.c.form
  obtain ⟨gk, ok, ek, _⟩ := hms.lg.c.at (by omega)
  obtain ⟨gm, om, em, _⟩ := hms.c.at (by omega)
  subst ek em
  have HMS := Lib.hid hms
  clear hms
  go_upto_block 14 with (fail)
  go_cut [] from 26 to 216 (fun wx => MoreSt w wx la ll lo (.slice (some ⟨gc, oc, none⟩) 12 cv) (.slice (some ⟨gl, ol, none⟩) 9 cl) (.slice (some ⟨gk, ok, none⟩) 12 co) 9 mo (.slice (some ⟨gm, om, none⟩) 9 cm))
  case first => as_aux_lemma =>
    go_wp2
    go_loopw [26] (fun i wr => ∃ (j : Nat), j ≤ 12 ∧ i = .int .i64 j ∧ MoreSt w wr la ll lo (.slice (some ⟨gc, oc, none⟩) 12 cv) (.slice (some ⟨gl, ol, none⟩) 9 cl) (.slice (some ⟨gk, ok, none⟩) 12 co) 9 mo (.slice (some ⟨gm, om, none⟩) 9 cm)) (fun i _ => 12 - (intOf i).toNat)
    case atStart => exact ⟨0, by omega, rfl, HMS.out⟩
    case round =>
    obtain ⟨j, hj, rfl, hms⟩ := hrel
    have HQ := Lib.hid hms
    clear hms
    by_cases hlt : j < 12
    · obtain ⟨e, he⟩ : ∃ e, la[j]? = some e := ⟨la[j]'(by have := HQ.out.lg.st.na; omega), List.getElem?_eq_getElem _⟩
      have HE := Lib.hid he
      have hNb := HQ.out.lg.st.za e (List.mem_of_getElem? he)
      obtain ⟨N, hN⟩ : ∃ N, N = e.n := ⟨_, rfl⟩
      rw [← hN] at hNb
      have HN := Lib.hid hN
      have hj3 : (j : Int) < 12 := by omega
      have hwu : IntKind.u8.wrap (3 * (j : Int)) = 3 * (j : Int) := IntWalk.u8_in _ (by omega)
      have hwv : IntKind.u8.wrap (3 * (j : Int) + 1) = 3 * (j : Int) + 1 := IntWalk.u8_in _ (by omega)
      have hb0 : (3 * (j : Int) != 3 * (j : Int)) = false := by simp
      have hb1 : (3 * (j : Int) + 1 != 3 * (j : Int) + 1) = false := by simp
      clear he hN
      go_wp2
      go_loopw [27] (fun q wr2 => ∃ (r : Nat), q = .int .i64 r ∧ r ≤ N ∧ MoreSt w wr2 la ll lo (.slice (some ⟨gc, oc, none⟩) 12 cv) (.slice (some ⟨gl, ol, none⟩) 9 cl) (.slice (some ⟨gk, ok, none⟩) 12 co) 9 mo (.slice (some ⟨gm, om, none⟩) 9 cm)) (fun q _ => N - (intOf q).toNat)
      case atStart => exact ⟨0, rfl, Nat.zero_le _, HQ.out⟩
      case round =>
      obtain ⟨r, rfl, hr, hms⟩ := hrel
      have HQ2 := Lib.hid hms
      clear hms
      obtain ⟨gf, of, cf, Ae, ce, k1, k2, k3, k4⟩ := HQ2.out.lg.check HDA.out HE.out
      rw [← HN.out] at k1 k2 k3 k4
      by_cases hrt : r < N
      · obtain ⟨ge, oe, e5, k5, k6⟩ := k3 r hrt
        subst e5
        have HRT := Lib.hid hrt
        clear k3 k4
        go_wp2
        go_roundw
        case rel => exact ⟨r + 1, by go_num, HRT.out, HQ2.out⟩
        case measure => have := HRT.out; simp [intOf]; omega
      · have hrN : r = N := by omega
        subst hrN
        have hlr : (r : Int) < (r : Int) + 1 := by omega
        have hi1 : IntKind.i64.wrap (3 * (j : Int)) = 3 * (j : Int) := IntWalk.i64_in _ (by omega)
        have hi2 : IntKind.i64.wrap (3 * (j : Int) + 1) = 3 * (j : Int) + 1 := IntWalk.i64_in _ (by omega)
        clear k3
        go_upto_region 48 with (fail)
        refine wp_region_held_drew (S := (fun w' => w'.cell? ⟨gc, oc + j, none⟩ = some (.slice Ae r ce) ∧ w'.cell? ⟨gk, ok + j, none⟩ = some (.slice (some ⟨gf, of, none⟩) (r + 1) cf) ∧ w'.cell? ⟨gf, of + r, none⟩ = some (.int .u8 (3 * (j : Int) + 1)))) (by as_aux_lemma => kernel_rfl) ?_ (fun hHeld => ?_)
        · exact ⟨k1, k2, k4⟩
        refine wpAnyH_take (i := 0) (v := ?_) (by simp only [List.getElem?_toArray, List.getElem?_cons_zero]; exact rfl) (by as_aux_lemma => kernel_rfl) (by as_aux_lemma => kernel_rfl) (by as_aux_lemma => kernel_rfl) (by exact fun _ _ _ h => h) (Or.inl ⟨by rfl, ?_⟩) (by assumption) ?_
        rotate_left
        · intro w hSw
          (try dsimp only at hSw)
          go_simp
          try with_reducible rfl
        (try simp only [Act.put, List.setIfInBounds_toArray, List.set_cons_zero, List.set_cons_succ])
        refine wpAnyH_take (i := 1) (v := ?_) (by simp only [List.getElem?_toArray, List.getElem?_cons_succ, List.getElem?_cons_zero]; exact rfl) (by as_aux_lemma => kernel_rfl) (by as_aux_lemma => kernel_rfl) (by as_aux_lemma => kernel_rfl) (by exact fun _ _ _ h => h) (Or.inl ⟨by rfl, ?_⟩) (by assumption) ?_
        rotate_left
        · intro w hSw
          (try dsimp only at hSw)
          go_simp
          try with_reducible rfl
        (try simp only [Act.put, List.setIfInBounds_toArray, List.set_cons_zero, List.set_cons_succ])
        refine wpAnyH_take (i := 2) (v := ?_) (by simp only [List.getElem?_toArray, List.getElem?_cons_succ, List.getElem?_cons_zero]; exact rfl) (by as_aux_lemma => kernel_rfl) (by as_aux_lemma => kernel_rfl) (by as_aux_lemma => kernel_rfl) (by exact fun _ _ _ h => h) (Or.inl ⟨by rfl, ?_⟩) (by assumption) ?_
        rotate_left
        · intro w hSw
          (try dsimp only at hSw)
          go_simp
          try with_reducible rfl
        (try simp only [Act.put, List.setIfInBounds_toArray, List.set_cons_zero, List.set_cons_succ])
        refine wpAnyH_take (i := 3) (v := ?_) (by simp only [List.getElem?_toArray, List.getElem?_cons_succ, List.getElem?_cons_zero]; exact rfl) (by as_aux_lemma => kernel_rfl) (by as_aux_lemma => kernel_rfl) (by as_aux_lemma => kernel_rfl) (by exact fun _ _ _ h => h) (Or.inl ⟨by rfl, ?_⟩) (by assumption) ?_
        rotate_left
        · intro w hSw
          (try dsimp only at hSw)
          go_simp
          try with_reducible rfl
        (try simp only [Act.put, List.setIfInBounds_toArray, List.set_cons_zero, List.set_cons_succ])
        refine wpAnyH_take (i := 4) (v := ?_) (by simp only [List.getElem?_toArray, List.getElem?_cons_succ, List.getElem?_cons_zero]; exact rfl) (by as_aux_lemma => kernel_rfl) (by as_aux_lemma => kernel_rfl) (by as_aux_lemma => kernel_rfl) (by exact fun _ _ _ h => h) (Or.inl ⟨by rfl, ?_⟩) (by assumption) ?_
        rotate_left
        · intro w hSw
          (try dsimp only at hSw)
          go_simp
          try with_reducible rfl
        (try simp only [Act.put, List.setIfInBounds_toArray, List.set_cons_zero, List.set_cons_succ])
        refine wpAnyH_take (i := 5) (v := ?_) (by simp only [List.getElem?_toArray, List.getElem?_cons_succ, List.getElem?_cons_zero]; exact rfl) (by as_aux_lemma => kernel_rfl) (by as_aux_lemma => kernel_rfl) (by as_aux_lemma => kernel_rfl) (by exact fun _ _ _ h => h) (Or.inl ⟨by rfl, ?_⟩) (by assumption) ?_
        rotate_left
        · intro w hSw
          (try dsimp only at hSw)
          go_simp
          try with_reducible rfl
        (try simp only [Act.put, List.setIfInBounds_toArray, List.set_cons_zero, List.set_cons_succ])
        refine wpAnyH_take (i := 6) (v := ?_) (by simp only [List.getElem?_toArray, List.getElem?_cons_succ, List.getElem?_cons_zero]; exact rfl) (by as_aux_lemma => kernel_rfl) (by as_aux_lemma => kernel_rfl) (by as_aux_lemma => kernel_rfl) (by exact fun _ _ _ h => h) (Or.inl ⟨by rfl, ?_⟩) (by assumption) ?_
        rotate_left
        · intro w hSw
          (try dsimp only at hSw)
          go_simp
          try with_reducible rfl
        (try simp only [Act.put, List.setIfInBounds_toArray, List.set_cons_zero, List.set_cons_succ])
        refine wpAnyH_take (i := 7) (v := ?_) (by simp only [List.getElem?_toArray, List.getElem?_cons_succ, List.getElem?_cons_zero]; exact rfl) (by as_aux_lemma => kernel_rfl) (by as_aux_lemma => kernel_rfl) (by as_aux_lemma => kernel_rfl) (by exact fun _ _ _ h => h) (Or.inl ⟨by rfl, ?_⟩) (by assumption) ?_
        rotate_left
        · intro w hSw
          (try dsimp only at hSw)
          go_simp
          try with_reducible rfl
        (try simp only [Act.put, List.setIfInBounds_toArray, List.set_cons_zero, List.set_cons_succ])
        refine wpAnyH_take (i := 11) (v := ?_) (by simp only [List.getElem?_toArray, List.getElem?_cons_succ, List.getElem?_cons_zero]; exact rfl) (by as_aux_lemma => kernel_rfl) (by as_aux_lemma => kernel_rfl) (by as_aux_lemma => kernel_rfl) (by exact fun _ _ _ h => h) (Or.inl ⟨by rfl, ?_⟩) (by assumption) ?_
        rotate_left
        · intro w hSw
          (try dsimp only at hSw)
          go_simp
          try with_reducible rfl
        (try simp only [Act.put, List.setIfInBounds_toArray, List.set_cons_zero, List.set_cons_succ])
        refine wpAnyH_take (i := 12) (v := ?_) (by simp only [List.getElem?_toArray, List.getElem?_cons_succ, List.getElem?_cons_zero]; exact rfl) (by as_aux_lemma => kernel_rfl) (by as_aux_lemma => kernel_rfl) (by as_aux_lemma => kernel_rfl) (by exact fun _ _ _ h => h) (Or.inl ⟨by rfl, ?_⟩) (by assumption) ?_
        rotate_left
        · intro w hSw
          (try dsimp only at hSw)
          go_simp
          try with_reducible rfl
        (try simp only [Act.put, List.setIfInBounds_toArray, List.set_cons_zero, List.set_cons_succ])
        refine wpAnyH_take (i := 13) (v := ?_) (by simp only [List.getElem?_toArray, List.getElem?_cons_succ, List.getElem?_cons_zero]; exact rfl) (by as_aux_lemma => kernel_rfl) (by as_aux_lemma => kernel_rfl) (by as_aux_lemma => kernel_rfl) (by exact fun _ _ _ h => h) (Or.inl ⟨by rfl, ?_⟩) (by assumption) ?_
        rotate_left
        · intro w hSw
          (try dsimp only at hSw)
          go_simp
          try with_reducible rfl
        (try simp only [Act.put, List.setIfInBounds_toArray, List.set_cons_zero, List.set_cons_succ])
        refine wpAnyH_take (i := 14) (v := ?_) (by simp only [List.getElem?_toArray, List.getElem?_cons_succ, List.getElem?_cons_zero]; exact rfl) (by as_aux_lemma => kernel_rfl) (by as_aux_lemma => kernel_rfl) (by as_aux_lemma => kernel_rfl) (by exact fun _ _ _ h => h) (Or.inl ⟨by rfl, ?_⟩) (by assumption) ?_
        rotate_left
        · intro w hSw
          (try dsimp only at hSw)
          go_simp
          try with_reducible rfl
        (try simp only [Act.put, List.setIfInBounds_toArray, List.set_cons_zero, List.set_cons_succ])
        refine wpAnyH_take (i := 8) (v := ?_) (by simp only [List.getElem?_toArray, List.getElem?_cons_succ, List.getElem?_cons_zero]; exact rfl) (by as_aux_lemma => kernel_rfl) (by as_aux_lemma => kernel_rfl) (by as_aux_lemma => kernel_rfl) (by exact fun _ _ _ h => h) (Or.inl ⟨by rfl, ?_⟩) (by assumption) ?_
        rotate_left
        · intro w hSw
          (try dsimp only at hSw)
          go_simp
          try with_reducible rfl
        (try simp only [Act.put, List.setIfInBounds_toArray, List.set_cons_zero, List.set_cons_succ])
        refine wpAnyH_take (i := 9) (v := ?_) (by simp only [List.getElem?_toArray, List.getElem?_cons_succ, List.getElem?_cons_zero]; exact rfl) (by as_aux_lemma => kernel_rfl) (by as_aux_lemma => kernel_rfl) (by as_aux_lemma => kernel_rfl) (by exact fun _ _ _ h => h) (Or.inl ⟨by rfl, ?_⟩) (by assumption) ?_
        rotate_left
        · intro w hSw
          (try dsimp only at hSw)
          go_simp
          try with_reducible rfl
        (try simp only [Act.put, List.setIfInBounds_toArray, List.set_cons_zero, List.set_cons_succ])
        refine wpAnyH_take (i := 10) (v := ?_) (by simp only [List.getElem?_toArray, List.getElem?_cons_succ, List.getElem?_cons_zero]; exact rfl) (by as_aux_lemma => kernel_rfl) (by as_aux_lemma => kernel_rfl) (by as_aux_lemma => kernel_rfl) (by exact fun _ _ _ h => h) (Or.inl ⟨by rfl, ?_⟩) (by assumption) ?_
        rotate_left
        · intro w hSw
          (try dsimp only at hSw)
          go_simp
          try with_reducible rfl
        (try simp only [Act.put, List.setIfInBounds_toArray, List.set_cons_zero, List.set_cons_succ])
        refine wpAnyH_take (i := 15) (v := ?_) (by simp only [List.getElem?_toArray, List.getElem?_cons_succ, List.getElem?_cons_zero]; exact rfl) (by as_aux_lemma => kernel_rfl) (by as_aux_lemma => kernel_rfl) (by as_aux_lemma => kernel_rfl) (by exact fun _ _ _ h => h) (Or.inl ⟨by rfl, ?_⟩) (by assumption) ?_
        rotate_left
        · intro w hSw
          (try dsimp only at hSw)
          go_simp
          try with_reducible rfl
        (try simp only [Act.put, List.setIfInBounds_toArray, List.set_cons_zero, List.set_cons_succ])
        refine wpAnyH_done (by as_aux_lemma => kernel_rfl) ?_ _
        go_wp2
        go_roundw
        case rel => exact ⟨j + 1, by omega, by go_num, HQ2.out.below (Below.refl _ _).drew⟩
        case measure => simp [intOf]; omega
    · have hj12 : j = 12 := by omega
      subst hj12
      go_wp2
      go_meet
      exact HQ.out
  case rest =>
  obtain ⟨w7, rfl⟩ : ∃ w7 : World, w7 = wc := ⟨_, rfl⟩
  have HM7 := Lib.hid hcut
  clear hcut
  go_upto_block 18 with (fail)
  go_cut [] from 28 to 272 (fun wx => MoreSt w wx la ll lo (.slice (some ⟨gc, oc, none⟩) 12 cv) (.slice (some ⟨gl, ol, none⟩) 9 cl) (.slice (some ⟨gk, ok, none⟩) 12 co) 9 mo (.slice (some ⟨gm, om, none⟩) 9 cm))
  case first => as_aux_lemma =>
    go_wp2
    go_loopw [28] (fun i wr => ∃ (j : Nat), j ≤ 9 ∧ i = .int .i64 j ∧ MoreSt w wr la ll lo (.slice (some ⟨gc, oc, none⟩) 12 cv) (.slice (some ⟨gl, ol, none⟩) 9 cl) (.slice (some ⟨gk, ok, none⟩) 12 co) 9 mo (.slice (some ⟨gm, om, none⟩) 9 cm)) (fun i _ => 9 - (intOf i).toNat)
    case atStart => exact ⟨0, by omega, rfl, HM7.out⟩
    case round =>
    obtain ⟨j, hj, rfl, hms⟩ := hrel
    have HQ := Lib.hid hms
    clear hms
    by_cases hlt : j < 9
    · obtain ⟨e, he⟩ : ∃ e, ll[j]? = some e := ⟨ll[j]'(by have := HQ.out.lg.st.nl; omega), List.getElem?_eq_getElem _⟩
      have HE := Lib.hid he
      have hNb := HQ.out.lg.st.zl e (List.mem_of_getElem? he)
      obtain ⟨N, hN⟩ : ∃ N, N = e.n := ⟨_, rfl⟩
      rw [← hN] at hNb
      have HN := Lib.hid hN
      have hj3 : (j : Int) < 9 := by omega
      have hwu : IntKind.u8.wrap (j : Int) = (j : Int) := IntWalk.u8_in _ (by omega)
      have hcv : ∀ (W : World) (b : Nat), W.cell? ⟨b, 0, none⟩ = some (.int .u8 (j : Int)) → (convert 32 9 (.slice (some ⟨b, 0, none⟩) 1 1)).run Tryd.prog W = .ok (.string ⟨#[UInt8.ofNat j]⟩) W := fun W b hc => conv_one W b (j : Int) (by omega) (by omega) hc
      obtain ⟨M, hM⟩ : ∃ M : ByteArray, M = ⟨#[UInt8.ofNat j]⟩ := ⟨_, rfl⟩
      rw [← hM] at hcv
      have HMM := Lib.hid hM
      clear he hN hM
      go_wp2
      go_loopw [29] (fun q wr2 => ∃ (r : Nat), q = .int .i64 r ∧ r ≤ N ∧ MoreSt w wr2 la ll lo (.slice (some ⟨gc, oc, none⟩) 12 cv) (.slice (some ⟨gl, ol, none⟩) 9 cl) (.slice (some ⟨gk, ok, none⟩) 12 co) 9 mo (.slice (some ⟨gm, om, none⟩) 9 cm)) (fun q _ => N - (intOf q).toNat)
      case atStart => exact ⟨0, rfl, Nat.zero_le _, HQ.out⟩
      case round =>
      obtain ⟨r, rfl, hr, hms⟩ := hrel
      have HQ2 := Lib.hid hms
      clear hms
      obtain ⟨gf, of, cf, Ae, ce, k1, k2, k3, k4, k5⟩ := HQ2.out.check HDL.out HE.out
      rw [← HN.out] at k1 k2 k3 k4 k5
      rw [← HMM.out] at k3 k5
      by_cases hrt : r < N
      · obtain ⟨ge, oe, e5, k6, k7⟩ := k3 r hrt
        subst e5
        have HRT := Lib.hid hrt
        have hrt2 : (r : Int) < (N : Int) := by omega
        have hrt3 : (r : Int) < (N : Int) + 1 := by omega
        clear k3 k4 k5
        go_upto_region 56 with (fail)
        refine wp_region_held_drew (S := (fun w' => w'.cell? ⟨gl, ol + j, none⟩ = some (.slice (some ⟨ge, oe, none⟩) N ce) ∧ w'.cell? ⟨gm, om + j, none⟩ = some (.slice (some ⟨gf, of, none⟩) (N + 1) cf) ∧ w'.cell? ⟨ge, oe + r * 2 + 1, none⟩ = some (.string M) ∧ w'.cell? ⟨gf, of + r * 2, none⟩ = some (.string ⟨#[111, 119, 110]⟩))) (by as_aux_lemma => kernel_rfl) ?_ (fun hHeld => ?_)
        · exact ⟨k1, k2, k6, k7⟩
        generalize hwd : World.drew _ = wd at hHeld ⊢
        have hqd := HQ2.out.below (Below.refl _ _).drew
        rw [hwd] at hqd
        have HQD := Lib.hid hqd
        have hHeld0 := hHeld
        have HHD := Lib.hid hHeld0
        have hba : Below wd.heap.size wd (wd.alloc (.cells #[.int .u8 (j : Int)] 5)) := (Below.refl _ _).alloc (Nat.le_refl _) _
        have HBA := Lib.hid hba
        clear hwd hqd hba hHeld0 k1 k2 k6 k7
        refine wpAnyH_take (i := 0) (v := ?_) (by simp only [List.getElem?_toArray, List.getElem?_cons_zero]; exact rfl) (by as_aux_lemma => kernel_rfl) (by as_aux_lemma => kernel_rfl) (by as_aux_lemma => kernel_rfl) (by exact fun _ _ _ h => h) (Or.inl ⟨by rfl, ?_⟩) (by assumption) ?_
        rotate_left
        · intro w hSw
          (try dsimp only at hSw)
          go_simp
          try with_reducible rfl
        (try simp only [Act.put, List.setIfInBounds_toArray, List.set_cons_zero, List.set_cons_succ])
        refine wpAnyH_take (i := 1) (v := ?_) (by simp only [List.getElem?_toArray, List.getElem?_cons_succ, List.getElem?_cons_zero]; exact rfl) (by as_aux_lemma => kernel_rfl) (by as_aux_lemma => kernel_rfl) (by as_aux_lemma => kernel_rfl) (by exact fun _ _ _ h => h) (Or.inl ⟨by rfl, ?_⟩) (by assumption) ?_
        rotate_left
        · intro w hSw
          (try dsimp only at hSw)
          go_simp
          try with_reducible rfl
        (try simp only [Act.put, List.setIfInBounds_toArray, List.set_cons_zero, List.set_cons_succ])
        refine wpAnyH_take (i := 2) (v := ?_) (by simp only [List.getElem?_toArray, List.getElem?_cons_succ, List.getElem?_cons_zero]; exact rfl) (by as_aux_lemma => kernel_rfl) (by as_aux_lemma => kernel_rfl) (by as_aux_lemma => kernel_rfl) (by exact fun _ _ _ h => h) (Or.inl ⟨by rfl, ?_⟩) (by assumption) ?_
        rotate_left
        · intro w hSw
          (try dsimp only at hSw)
          go_simp
          try with_reducible rfl
        (try simp only [Act.put, List.setIfInBounds_toArray, List.set_cons_zero, List.set_cons_succ])
        refine wpAnyH_take (i := 3) (v := ?_) (by simp only [List.getElem?_toArray, List.getElem?_cons_succ, List.getElem?_cons_zero]; exact rfl) (by as_aux_lemma => kernel_rfl) (by as_aux_lemma => kernel_rfl) (by as_aux_lemma => kernel_rfl) (by exact fun _ _ _ h => h) (Or.inl ⟨by rfl, ?_⟩) (by assumption) ?_
        rotate_left
        · intro w hSw
          (try dsimp only at hSw)
          go_simp
          try with_reducible rfl
        (try simp only [Act.put, List.setIfInBounds_toArray, List.set_cons_zero, List.set_cons_succ])
        refine wpAnyH_take (i := 4) (v := ?_) (by simp only [List.getElem?_toArray, List.getElem?_cons_succ, List.getElem?_cons_zero]; exact rfl) (by as_aux_lemma => kernel_rfl) (by as_aux_lemma => kernel_rfl) (by as_aux_lemma => kernel_rfl) (by exact fun _ _ _ h => h) (Or.inl ⟨by rfl, ?_⟩) (by assumption) ?_
        rotate_left
        · intro w hSw
          (try dsimp only at hSw)
          go_simp
          try with_reducible rfl
        (try simp only [Act.put, List.setIfInBounds_toArray, List.set_cons_zero, List.set_cons_succ])
        refine wpAnyH_take (i := 5) (v := ?_) (by simp only [List.getElem?_toArray, List.getElem?_cons_succ, List.getElem?_cons_zero]; exact rfl) (by as_aux_lemma => kernel_rfl) (by as_aux_lemma => kernel_rfl) (by as_aux_lemma => kernel_rfl) (by exact fun _ _ _ h => h) (Or.inl ⟨by rfl, ?_⟩) (by assumption) ?_
        rotate_left
        · intro w hSw
          (try dsimp only at hSw)
          go_simp
          try with_reducible rfl
        (try simp only [Act.put, List.setIfInBounds_toArray, List.set_cons_zero, List.set_cons_succ])
        refine wpAnyH_take (i := 6) (v := ?_) (by simp only [List.getElem?_toArray, List.getElem?_cons_succ, List.getElem?_cons_zero]; exact rfl) (by as_aux_lemma => kernel_rfl) (by as_aux_lemma => kernel_rfl) (by as_aux_lemma => kernel_rfl) (by exact fun _ _ _ h => h) (Or.inl ⟨by rfl, ?_⟩) (by assumption) ?_
        rotate_left
        · intro w hSw
          (try dsimp only at hSw)
          go_simp
          try with_reducible rfl
        (try simp only [Act.put, List.setIfInBounds_toArray, List.set_cons_zero, List.set_cons_succ])
        refine wpAnyH_take (i := 7) (v := ?_) (by simp only [List.getElem?_toArray, List.getElem?_cons_succ, List.getElem?_cons_zero]; exact rfl) (by as_aux_lemma => kernel_rfl) (by as_aux_lemma => kernel_rfl) (by as_aux_lemma => kernel_rfl) (by exact fun _ _ _ h => h) (Or.inl ⟨by rfl, ?_⟩) (by assumption) ?_
        rotate_left
        · intro w hSw
          (try dsimp only at hSw)
          go_simp
          try with_reducible rfl
        (try simp only [Act.put, List.setIfInBounds_toArray, List.set_cons_zero, List.set_cons_succ])
        refine wpAnyH_take (i := 8) (v := ?_) (by simp only [List.getElem?_toArray, List.getElem?_cons_succ, List.getElem?_cons_zero]; exact rfl) (by as_aux_lemma => kernel_rfl) (by as_aux_lemma => kernel_rfl) (by as_aux_lemma => kernel_rfl) (by exact fun _ _ _ h => h) (Or.inl ⟨by rfl, ?_⟩) (by assumption) ?_
        rotate_left
        · intro w hSw
          (try dsimp only at hSw)
          go_simp
          try with_reducible rfl
        (try simp only [Act.put, List.setIfInBounds_toArray, List.set_cons_zero, List.set_cons_succ])
        refine wpAnyH_take (i := 9) (v := ?_) (by simp only [List.getElem?_toArray, List.getElem?_cons_succ, List.getElem?_cons_zero]; exact rfl) (by as_aux_lemma => kernel_rfl) (by as_aux_lemma => kernel_rfl) (by as_aux_lemma => kernel_rfl) (by exact fun _ _ _ h => h) (Or.inl ⟨by rfl, ?_⟩) (by assumption) ?_
        rotate_left
        · intro w hSw
          (try dsimp only at hSw)
          go_simp
          try with_reducible rfl
        (try simp only [Act.put, List.setIfInBounds_toArray, List.set_cons_zero, List.set_cons_succ])
        refine wpAnyH_ready (rs := [10]) (by as_aux_lemma => kernel_rfl) (by simp) ?_
        refine AllReadyH.cons (by simp only [List.getElem?_toArray, List.getElem?_cons_succ, List.getElem?_cons_zero]; exact rfl) (fun K hK => ?_) AllReadyH.nil
        go_simp
        refine hK.out _ _ ?_ (fun hHeld => ?_)
        · (try dsimp only)
          exact ⟨cellOn HBA.out HHD.out.1, cellOn HBA.out HHD.out.2.1, cellOn HBA.out HHD.out.2.2.1, cellOn HBA.out HHD.out.2.2.2⟩
        clear hK K
        (try simp only [Act.put, List.setIfInBounds_toArray, List.set_cons_zero, List.set_cons_succ])
        refine wpAnyH_ready (rs := [11]) (by as_aux_lemma => kernel_rfl) (by simp) ?_
        refine AllReadyH.cons (by simp only [List.getElem?_toArray, List.getElem?_cons_succ, List.getElem?_cons_zero]; exact rfl) (fun K hK => ?_) AllReadyH.nil
        go_simp
        refine hK.out _ _ ?_ (fun hHeld => ?_)
        · (try dsimp only)
          exact ⟨cellOn HBA.out HHD.out.1, cellOn HBA.out HHD.out.2.1, cellOn HBA.out HHD.out.2.2.1, cellOn HBA.out HHD.out.2.2.2⟩
        clear hK K
        (try simp only [Act.put, List.setIfInBounds_toArray, List.set_cons_zero, List.set_cons_succ])
        refine wpAnyH_take (i := 12) (v := ?_) (by simp only [List.getElem?_toArray, List.getElem?_cons_succ, List.getElem?_cons_zero]; exact rfl) (by as_aux_lemma => kernel_rfl) (by as_aux_lemma => kernel_rfl) (by as_aux_lemma => kernel_rfl) (by exact fun _ _ _ h => h) (Or.inl ⟨by rfl, ?_⟩) (by assumption) ?_
        rotate_left
        · intro w hSw
          (try dsimp only at hSw)
          go_simp
          try with_reducible rfl
        (try simp only [Act.put, List.setIfInBounds_toArray, List.set_cons_zero, List.set_cons_succ])
        refine wpAnyH_take (i := 13) (v := ?_) (by simp only [List.getElem?_toArray, List.getElem?_cons_succ, List.getElem?_cons_zero]; exact rfl) (by as_aux_lemma => kernel_rfl) (by as_aux_lemma => kernel_rfl) (by as_aux_lemma => kernel_rfl) (by exact fun _ _ _ h => h) (Or.inl ⟨by rfl, ?_⟩) (by assumption) ?_
        rotate_left
        · intro w hSw
          (try dsimp only at hSw)
          go_simp
          try with_reducible rfl
        (try simp only [Act.put, List.setIfInBounds_toArray, List.set_cons_zero, List.set_cons_succ])
        refine wpAnyH_take (i := 14) (v := ?_) (by simp only [List.getElem?_toArray, List.getElem?_cons_succ, List.getElem?_cons_zero]; exact rfl) (by as_aux_lemma => kernel_rfl) (by as_aux_lemma => kernel_rfl) (by as_aux_lemma => kernel_rfl) (by exact fun _ _ _ h => h) (Or.inl ⟨by rfl, ?_⟩) (by assumption) ?_
        rotate_left
        · intro w hSw
          (try dsimp only at hSw)
          go_simp
          try with_reducible rfl
        (try simp only [Act.put, List.setIfInBounds_toArray, List.set_cons_zero, List.set_cons_succ])
        refine wpAnyH_take (i := 15) (v := ?_) (by simp only [List.getElem?_toArray, List.getElem?_cons_succ, List.getElem?_cons_zero]; exact rfl) (by as_aux_lemma => kernel_rfl) (by as_aux_lemma => kernel_rfl) (by as_aux_lemma => kernel_rfl) (by exact fun _ _ _ h => h) (Or.inl ⟨by rfl, ?_⟩) (by assumption) ?_
        rotate_left
        · intro w hSw
          (try dsimp only at hSw)
          go_simp
          try with_reducible rfl
        (try simp only [Act.put, List.setIfInBounds_toArray, List.set_cons_zero, List.set_cons_succ])
        refine wpAnyH_take (i := 16) (v := ?_) (by simp only [List.getElem?_toArray, List.getElem?_cons_succ, List.getElem?_cons_zero]; exact rfl) (by as_aux_lemma => kernel_rfl) (by as_aux_lemma => kernel_rfl) (by as_aux_lemma => kernel_rfl) (by exact fun _ _ _ h => h) (Or.inl ⟨by rfl, ?_⟩) (by assumption) ?_
        rotate_left
        · intro w hSw
          (try dsimp only at hSw)
          go_simp
          try with_reducible rfl
        (try simp only [Act.put, List.setIfInBounds_toArray, List.set_cons_zero, List.set_cons_succ])
        refine wpAnyH_take (i := 17) (v := ?_) (by simp only [List.getElem?_toArray, List.getElem?_cons_succ, List.getElem?_cons_zero]; exact rfl) (by as_aux_lemma => kernel_rfl) (by as_aux_lemma => kernel_rfl) (by as_aux_lemma => kernel_rfl) (by exact fun _ _ _ h => h) (Or.inl ⟨by rfl, ?_⟩) (by assumption) ?_
        rotate_left
        · intro w hSw
          (try dsimp only at hSw)
          go_simp
          try with_reducible rfl
        (try simp only [Act.put, List.setIfInBounds_toArray, List.set_cons_zero, List.set_cons_succ])
        refine wpAnyH_take (i := 18) (v := ?_) (by simp only [List.getElem?_toArray, List.getElem?_cons_succ, List.getElem?_cons_zero]; exact rfl) (by as_aux_lemma => kernel_rfl) (by as_aux_lemma => kernel_rfl) (by as_aux_lemma => kernel_rfl) (by exact fun _ _ _ h => h) (Or.inl ⟨by rfl, ?_⟩) (by assumption) ?_
        rotate_left
        · intro w hSw
          (try dsimp only at hSw)
          go_simp
          try with_reducible rfl
        (try simp only [Act.put, List.setIfInBounds_toArray, List.set_cons_zero, List.set_cons_succ])
        refine wpAnyH_take (i := 19) (v := ?_) (by simp only [List.getElem?_toArray, List.getElem?_cons_succ, List.getElem?_cons_zero]; exact rfl) (by as_aux_lemma => kernel_rfl) (by as_aux_lemma => kernel_rfl) (by as_aux_lemma => kernel_rfl) (by exact fun _ _ _ h => h) (Or.inl ⟨by rfl, ?_⟩) (by assumption) ?_
        rotate_left
        · intro w hSw
          (try dsimp only at hSw)
          go_simp
          try with_reducible rfl
        (try simp only [Act.put, List.setIfInBounds_toArray, List.set_cons_zero, List.set_cons_succ])
        refine wpAnyH_take (i := 20) (v := ?_) (by simp only [List.getElem?_toArray, List.getElem?_cons_succ, List.getElem?_cons_zero]; exact rfl) (by as_aux_lemma => kernel_rfl) (by as_aux_lemma => kernel_rfl) (by as_aux_lemma => kernel_rfl) (by exact fun _ _ _ h => h) (Or.inl ⟨by rfl, ?_⟩) (by assumption) ?_
        rotate_left
        · intro w hSw
          (try dsimp only at hSw)
          go_simp
          try with_reducible rfl
        (try simp only [Act.put, List.setIfInBounds_toArray, List.set_cons_zero, List.set_cons_succ])
        refine wpAnyH_take (i := 21) (v := ?_) (by simp only [List.getElem?_toArray, List.getElem?_cons_succ, List.getElem?_cons_zero]; exact rfl) (by as_aux_lemma => kernel_rfl) (by as_aux_lemma => kernel_rfl) (by as_aux_lemma => kernel_rfl) (by exact fun _ _ _ h => h) (Or.inl ⟨by rfl, ?_⟩) (by assumption) ?_
        rotate_left
        · intro w hSw
          (try dsimp only at hSw)
          go_simp
          try with_reducible rfl
        (try simp only [Act.put, List.setIfInBounds_toArray, List.set_cons_zero, List.set_cons_succ])
        refine wpAnyH_take (i := 22) (v := ?_) (by simp only [List.getElem?_toArray, List.getElem?_cons_succ, List.getElem?_cons_zero]; exact rfl) (by as_aux_lemma => kernel_rfl) (by as_aux_lemma => kernel_rfl) (by as_aux_lemma => kernel_rfl) (by exact fun _ _ _ h => h) (Or.inl ⟨by rfl, ?_⟩) (by assumption) ?_
        rotate_left
        · intro w hSw
          (try dsimp only at hSw)
          go_simp
          try with_reducible rfl
        (try simp only [Act.put, List.setIfInBounds_toArray, List.set_cons_zero, List.set_cons_succ])
        refine wpAnyH_take (i := 23) (v := ?_) (by simp only [List.getElem?_toArray, List.getElem?_cons_succ, List.getElem?_cons_zero]; exact rfl) (by as_aux_lemma => kernel_rfl) (by as_aux_lemma => kernel_rfl) (by as_aux_lemma => kernel_rfl) (by exact fun _ _ _ h => h) (Or.inl ⟨by rfl, ?_⟩) (by assumption) ?_
        rotate_left
        · intro w hSw
          (try dsimp only at hSw)
          go_simp
          try with_reducible rfl
        (try simp only [Act.put, List.setIfInBounds_toArray, List.set_cons_zero, List.set_cons_succ])
        refine wpAnyH_done (by as_aux_lemma => kernel_rfl) ?_ _
        go_wp2
        go_roundw
        case rel => exact ⟨r + 1, by go_num, HRT.out, HQD.out.below HBA.out⟩
        case measure => have := HRT.out; simp [intOf]; omega
      · have hrN : r = N := by omega
        subst hrN
        have hrt3 : (r : Int) < (r : Int) + 1 := by omega
        clear k3
        go_upto_region 58 with (fail)
        refine wp_region_held_drew (S := (fun w' => w'.cell? ⟨gl, ol + j, none⟩ = some (.slice Ae r ce) ∧ w'.cell? ⟨gm, om + j, none⟩ = some (.slice (some ⟨gf, of, none⟩) (r + 1) cf) ∧ w'.cell? ⟨gf, of + r * 2, none⟩ = some (.string ⟨#[109, 111, 114, 101]⟩) ∧ w'.cell? ⟨gf, of + r * 2 + 1, none⟩ = some (.string M))) (by as_aux_lemma => kernel_rfl) ?_ (fun hHeld => ?_)
        · exact ⟨k1, k2, k4, k5⟩
        generalize hwd : World.drew _ = wd at hHeld ⊢
        have hqd := HQ2.out.below (Below.refl _ _).drew
        rw [hwd] at hqd
        have HQD := Lib.hid hqd
        have hHeld0 := hHeld
        have HHD := Lib.hid hHeld0
        have hba : Below wd.heap.size wd (wd.alloc (.cells #[.int .u8 (j : Int)] 5)) := (Below.refl _ _).alloc (Nat.le_refl _) _
        have HBA := Lib.hid hba
        clear hwd hqd hba hHeld0 k1 k2 k4 k5
        refine wpAnyH_take (i := 0) (v := ?_) (by simp only [List.getElem?_toArray, List.getElem?_cons_zero]; exact rfl) (by as_aux_lemma => kernel_rfl) (by as_aux_lemma => kernel_rfl) (by as_aux_lemma => kernel_rfl) (by exact fun _ _ _ h => h) (Or.inl ⟨by rfl, ?_⟩) (by assumption) ?_
        rotate_left
        · intro w hSw
          (try dsimp only at hSw)
          go_simp
          try with_reducible rfl
        (try simp only [Act.put, List.setIfInBounds_toArray, List.set_cons_zero, List.set_cons_succ])
        refine wpAnyH_take (i := 1) (v := ?_) (by simp only [List.getElem?_toArray, List.getElem?_cons_succ, List.getElem?_cons_zero]; exact rfl) (by as_aux_lemma => kernel_rfl) (by as_aux_lemma => kernel_rfl) (by as_aux_lemma => kernel_rfl) (by exact fun _ _ _ h => h) (Or.inl ⟨by rfl, ?_⟩) (by assumption) ?_
        rotate_left
        · intro w hSw
          (try dsimp only at hSw)
          go_simp
          try with_reducible rfl
        (try simp only [Act.put, List.setIfInBounds_toArray, List.set_cons_zero, List.set_cons_succ])
        refine wpAnyH_take (i := 2) (v := ?_) (by simp only [List.getElem?_toArray, List.getElem?_cons_succ, List.getElem?_cons_zero]; exact rfl) (by as_aux_lemma => kernel_rfl) (by as_aux_lemma => kernel_rfl) (by as_aux_lemma => kernel_rfl) (by exact fun _ _ _ h => h) (Or.inl ⟨by rfl, ?_⟩) (by assumption) ?_
        rotate_left
        · intro w hSw
          (try dsimp only at hSw)
          go_simp
          try with_reducible rfl
        (try simp only [Act.put, List.setIfInBounds_toArray, List.set_cons_zero, List.set_cons_succ])
        refine wpAnyH_take (i := 3) (v := ?_) (by simp only [List.getElem?_toArray, List.getElem?_cons_succ, List.getElem?_cons_zero]; exact rfl) (by as_aux_lemma => kernel_rfl) (by as_aux_lemma => kernel_rfl) (by as_aux_lemma => kernel_rfl) (by exact fun _ _ _ h => h) (Or.inl ⟨by rfl, ?_⟩) (by assumption) ?_
        rotate_left
        · intro w hSw
          (try dsimp only at hSw)
          go_simp
          try with_reducible rfl
        (try simp only [Act.put, List.setIfInBounds_toArray, List.set_cons_zero, List.set_cons_succ])
        refine wpAnyH_take (i := 4) (v := ?_) (by simp only [List.getElem?_toArray, List.getElem?_cons_succ, List.getElem?_cons_zero]; exact rfl) (by as_aux_lemma => kernel_rfl) (by as_aux_lemma => kernel_rfl) (by as_aux_lemma => kernel_rfl) (by exact fun _ _ _ h => h) (Or.inl ⟨by rfl, ?_⟩) (by assumption) ?_
        rotate_left
        · intro w hSw
          (try dsimp only at hSw)
          go_simp
          try with_reducible rfl
        (try simp only [Act.put, List.setIfInBounds_toArray, List.set_cons_zero, List.set_cons_succ])
        refine wpAnyH_take (i := 5) (v := ?_) (by simp only [List.getElem?_toArray, List.getElem?_cons_succ, List.getElem?_cons_zero]; exact rfl) (by as_aux_lemma => kernel_rfl) (by as_aux_lemma => kernel_rfl) (by as_aux_lemma => kernel_rfl) (by exact fun _ _ _ h => h) (Or.inl ⟨by rfl, ?_⟩) (by assumption) ?_
        rotate_left
        · intro w hSw
          (try dsimp only at hSw)
          go_simp
          try with_reducible rfl
        (try simp only [Act.put, List.setIfInBounds_toArray, List.set_cons_zero, List.set_cons_succ])
        refine wpAnyH_take (i := 6) (v := ?_) (by simp only [List.getElem?_toArray, List.getElem?_cons_succ, List.getElem?_cons_zero]; exact rfl) (by as_aux_lemma => kernel_rfl) (by as_aux_lemma => kernel_rfl) (by as_aux_lemma => kernel_rfl) (by exact fun _ _ _ h => h) (Or.inl ⟨by rfl, ?_⟩) (by assumption) ?_
        rotate_left
        · intro w hSw
          (try dsimp only at hSw)
          go_simp
          try with_reducible rfl
        (try simp only [Act.put, List.setIfInBounds_toArray, List.set_cons_zero, List.set_cons_succ])
        refine wpAnyH_take (i := 7) (v := ?_) (by simp only [List.getElem?_toArray, List.getElem?_cons_succ, List.getElem?_cons_zero]; exact rfl) (by as_aux_lemma => kernel_rfl) (by as_aux_lemma => kernel_rfl) (by as_aux_lemma => kernel_rfl) (by exact fun _ _ _ h => h) (Or.inl ⟨by rfl, ?_⟩) (by assumption) ?_
        rotate_left
        · intro w hSw
          (try dsimp only at hSw)
          go_simp
          try with_reducible rfl
        (try simp only [Act.put, List.setIfInBounds_toArray, List.set_cons_zero, List.set_cons_succ])
        refine wpAnyH_take (i := 11) (v := ?_) (by simp only [List.getElem?_toArray, List.getElem?_cons_succ, List.getElem?_cons_zero]; exact rfl) (by as_aux_lemma => kernel_rfl) (by as_aux_lemma => kernel_rfl) (by as_aux_lemma => kernel_rfl) (by exact fun _ _ _ h => h) (Or.inl ⟨by rfl, ?_⟩) (by assumption) ?_
        rotate_left
        · intro w hSw
          (try dsimp only at hSw)
          go_simp
          try with_reducible rfl
        (try simp only [Act.put, List.setIfInBounds_toArray, List.set_cons_zero, List.set_cons_succ])
        refine wpAnyH_take (i := 8) (v := ?_) (by simp only [List.getElem?_toArray, List.getElem?_cons_succ, List.getElem?_cons_zero]; exact rfl) (by as_aux_lemma => kernel_rfl) (by as_aux_lemma => kernel_rfl) (by as_aux_lemma => kernel_rfl) (by exact fun _ _ _ h => h) (Or.inl ⟨by rfl, ?_⟩) (by assumption) ?_
        rotate_left
        · intro w hSw
          (try dsimp only at hSw)
          go_simp
          try with_reducible rfl
        (try simp only [Act.put, List.setIfInBounds_toArray, List.set_cons_zero, List.set_cons_succ])
        refine wpAnyH_take (i := 9) (v := ?_) (by simp only [List.getElem?_toArray, List.getElem?_cons_succ, List.getElem?_cons_zero]; exact rfl) (by as_aux_lemma => kernel_rfl) (by as_aux_lemma => kernel_rfl) (by as_aux_lemma => kernel_rfl) (by exact fun _ _ _ h => h) (Or.inl ⟨by rfl, ?_⟩) (by assumption) ?_
        rotate_left
        · intro w hSw
          (try dsimp only at hSw)
          go_simp
          try with_reducible rfl
        (try simp only [Act.put, List.setIfInBounds_toArray, List.set_cons_zero, List.set_cons_succ])
        refine wpAnyH_take (i := 10) (v := ?_) (by simp only [List.getElem?_toArray, List.getElem?_cons_succ, List.getElem?_cons_zero]; exact rfl) (by as_aux_lemma => kernel_rfl) (by as_aux_lemma => kernel_rfl) (by as_aux_lemma => kernel_rfl) (by exact fun _ _ _ h => h) (Or.inl ⟨by rfl, ?_⟩) (by assumption) ?_
        rotate_left
        · intro w hSw
          (try dsimp only at hSw)
          go_simp
          try with_reducible rfl
        (try simp only [Act.put, List.setIfInBounds_toArray, List.set_cons_zero, List.set_cons_succ])
        refine wpAnyH_take (i := 12) (v := ?_) (by simp only [List.getElem?_toArray, List.getElem?_cons_succ, List.getElem?_cons_zero]; exact rfl) (by as_aux_lemma => kernel_rfl) (by as_aux_lemma => kernel_rfl) (by as_aux_lemma => kernel_rfl) (by exact fun _ _ _ h => h) (Or.inl ⟨by rfl, ?_⟩) (by assumption) ?_
        rotate_left
        · intro w hSw
          (try dsimp only at hSw)
          go_simp
          try with_reducible rfl
        (try simp only [Act.put, List.setIfInBounds_toArray, List.set_cons_zero, List.set_cons_succ])
        refine wpAnyH_ready (rs := [13]) (by as_aux_lemma => kernel_rfl) (by simp) ?_
        refine AllReadyH.cons (by simp only [List.getElem?_toArray, List.getElem?_cons_succ, List.getElem?_cons_zero]; exact rfl) (fun K hK => ?_) AllReadyH.nil
        go_simp
        refine hK.out _ _ ?_ (fun hHeld => ?_)
        · (try dsimp only)
          exact ⟨cellOn HBA.out HHD.out.1, cellOn HBA.out HHD.out.2.1, cellOn HBA.out HHD.out.2.2.1, cellOn HBA.out HHD.out.2.2.2⟩
        clear hK K
        (try simp only [Act.put, List.setIfInBounds_toArray, List.set_cons_zero, List.set_cons_succ])
        refine wpAnyH_ready (rs := [14]) (by as_aux_lemma => kernel_rfl) (by simp) ?_
        refine AllReadyH.cons (by simp only [List.getElem?_toArray, List.getElem?_cons_succ, List.getElem?_cons_zero]; exact rfl) (fun K hK => ?_) AllReadyH.nil
        go_simp
        refine hK.out _ _ ?_ (fun hHeld => ?_)
        · (try dsimp only)
          exact ⟨cellOn HBA.out HHD.out.1, cellOn HBA.out HHD.out.2.1, cellOn HBA.out HHD.out.2.2.1, cellOn HBA.out HHD.out.2.2.2⟩
        clear hK K
        (try simp only [Act.put, List.setIfInBounds_toArray, List.set_cons_zero, List.set_cons_succ])
        refine wpAnyH_take (i := 15) (v := ?_) (by simp only [List.getElem?_toArray, List.getElem?_cons_succ, List.getElem?_cons_zero]; exact rfl) (by as_aux_lemma => kernel_rfl) (by as_aux_lemma => kernel_rfl) (by as_aux_lemma => kernel_rfl) (by exact fun _ _ _ h => h) (Or.inl ⟨by rfl, ?_⟩) (by assumption) ?_
        rotate_left
        · intro w hSw
          (try dsimp only at hSw)
          go_simp
          try with_reducible rfl
        (try simp only [Act.put, List.setIfInBounds_toArray, List.set_cons_zero, List.set_cons_succ])
        refine wpAnyH_take (i := 16) (v := ?_) (by simp only [List.getElem?_toArray, List.getElem?_cons_succ, List.getElem?_cons_zero]; exact rfl) (by as_aux_lemma => kernel_rfl) (by as_aux_lemma => kernel_rfl) (by as_aux_lemma => kernel_rfl) (by exact fun _ _ _ h => h) (Or.inl ⟨by rfl, ?_⟩) (by assumption) ?_
        rotate_left
        · intro w hSw
          (try dsimp only at hSw)
          go_simp
          try with_reducible rfl
        (try simp only [Act.put, List.setIfInBounds_toArray, List.set_cons_zero, List.set_cons_succ])
        refine wpAnyH_done (by as_aux_lemma => kernel_rfl) ?_ _
        go_wp2
        go_roundw
        case rel => exact ⟨j + 1, by omega, by go_num, HQD.out.below HBA.out⟩
        case measure => simp [intOf]; omega
    · have hj9 : j = 9 := by omega
      subst hj9
      go_wp2
      go_meet
      exact HQ.out
  case rest =>
  obtain ⟨w8, rfl⟩ : ∃ w8 : World, w8 = wc := ⟨_, rfl⟩
  go_wp2
  go_ret
  exact ⟨rfl, hcut.lg.st.bl⟩
end Go.Proofs.YtabecgdaiakgiaaDoor
