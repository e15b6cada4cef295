/- the law StreamPieces (printed by gen_spcs.py). Conditions: sizes, the world's shape. -/
import Derived.Test.YtklmpadcfioefaaDoorSPcsS
import Derived.Test.YtklmpadcfioefaaDoorSAwake
namespace Go.Proofs.YtklmpadcfioefaaDoor
open Go.RowKit

set_option maxHeartbeats 4000000 in
set_option maxRecDepth 100000 in
theorem spieces_any (rq : Bool) (A : Option Addr) (n c : Nat) (l : Bs) (A2 : Option Addr) (n2 c2 : Nat) (l2 : Bs) (A3 : Option Addr) (n3 c3 : Nat) (xs : List Int) (w : World) (hsh : w.ShapedOpen Tryd.prog) (hnc : n ≤ c) (hA : A = none → n = 0 ∧ c = 0) (hrd : Rd w w.heap.size 1 A n (bytesV l)) (hn : n ≤ 1048576)
    (hnc2 : n2 ≤ c2) (hA2 : A2 = none → n2 = 0 ∧ c2 = 0) (hrd2 : Rd w w.heap.size 1 A2 n2 (bytesV l2)) (hn2 : n2 ≤ 1048576) (hrd3 : Rd w w.heap.size 1 A3 n3 (xs.map fun x => .int .i64 x)) (hn3 : n3 ≤ 1048576) :
    Calls Tryd.prog 4 #[.bool rq, .slice A n c, .slice A2 n2 c2, .slice A3 n3 c3] w fun e w' => e = .returned (.bool true) ∧ Below w.heap.size w w' := by
  have HS := Lib.hid hsh
  have HRD := Lib.hid hrd
  have HRD2 := Lib.hid hrd2
  have HRD3 := Lib.hid hrd3
  clear hsh hrd hrd2 hrd3
  go_enter Tryd.func4, Tryd.ntmps4
  go_upto_region 3 with (first
    | (go_at_call 6; go_must (refine (sawake_any _ HS.out).mono ?_; rintro _ w1 ⟨rfl, hb1⟩; have HB1 := Lib.hid hb1; clear hb1))
    | fail)
  have HS1 : Hid (w1.ShapedOpen Tryd.prog) := Lib.hid (shaped_below HS.out HB1.out)
  go_upto_region 4 with (first
    | (go_at_call 7; have hz := HZ2.out; refine (snew_any _ rq).mono ?_; rintro _ w3 ⟨rfl, hm3, hb3, hz3⟩; have HM3 := Lib.hid hm3; have HB3 := Lib.hid hb3; have HZ3 := Lib.hid hz3; clear hm3 hb3 hz3 hz)
    | (go_at_call 7; refine (snew_any _ rq).mono ?_; rintro _ w2 ⟨rfl, hm2, hb2, hz2⟩; have HM2 := Lib.hid hm2; have HB2 := Lib.hid hb2; have HZ2 := Lib.hid hz2; clear hm2 hb2 hz2)
    | fail)
  have HB13 : Hid (Below w1.heap.size w1 w3) := Lib.hid (HB2.out.trans (HB3.out.mono HB2.out.size))
  have HB03 : Hid (Below w.heap.size w w3) := Lib.hid (HB1.out.trans (HB13.out.mono HB1.out.size))
  have HM2b := Lib.hid (HM2.out.below HB3.out)
  have HF := sfeed_any (T := 0) (Shp.below (Shp.of HS1.out) HB13.out) HM2b.out (Strm.Inv.init rq) rfl rfl A n c l (by omega) (by omega) hnc hA ((HRD.out.below HB03.out).more HB03.out.size) (fun h0 g o e f => by
    obtain ⟨g', o', e', hg, _⟩ := HRD.out.2 h0
    rw [e] at e'
    injection e' with e'
    injection e' with e' _ _
    have := new_foot f
    have := HB1.out.size
    omega)
  unfold FeedsPost at HF
  have HFD := Lib.hid HF
  clear HF
  go_upto_region 5 with (first
    | (go_at_call 8; go_must (refine HFD.out.mono ?_; rintro _ w4 ⟨va, La, ua, Va, ra, qa, rfl, hre⟩; have HRE := Lib.hid hre; clear hre))
    | fail)
  obtain ⟨hfd, ho, hm, hq1, hq2, hc4, hf4, ha4⟩ := HRE.out
  have HFA := Lib.hid hfd
  have HQA := Lib.hid (And.intro hq1 hq2)
  have hz13 : w1.heap.size + 2 = w3.heap.size := by have := HZ2.out; have := HZ3.out; omega
  have hz2 := HZ2.out
  have HP0 : Hid (PcSt w1 w4 w1.heap.size ua Va qa va La w2.heap.size { rq := rq } (newV w2.heap.size) 0 (.slice none 0 0) []) := Lib.hid (by
    have f1 : ∀ k, footS w1.heap.size Va k → k = w1.heap.size ∨ w3.heap.size ≤ k := fun k hk => by
      rcases hf4 k hk with x | x
      · exact .inl (new_foot x)
      · exact .inr x
    have n0 : ∀ k, ¬ ofE (.slice none 0 0) [] k := fun k hk => by
      rcases hk with x | ⟨_, x, _⟩
      · exact nil_own x
      · cases x
    refine ⟨hm, (HM3.out.chg hc4 (fun k hk f => by have := new_foot hk; have := new_foot f; omega)).mono (by omega), ho.mono (by omega), Outs.nil _ _, ?_, ?_, ?_, fun k _ => n0 k, Below.chg HB13.out hc4 HB13.out.size (fun k hk => by have := new_foot hk; omega)⟩
    · intro k hk f
      have := new_foot f
      rcases f1 k hk with x | x <;> omega
    · exact fun k hk => ⟨fun x => ha4 k x hk, n0 k⟩
    · intro k hk
      refine ⟨fun x => ?_, n0 k⟩
      have := new_foot hk
      have := (ho.lt x).1
      omega)
  clear hfd ho hm hq1 hq2 hc4 hf4 ha4 HRE HFD hz13 hz2
  have HL : Hid (Strm.PcP rq l 0 { rq := rq } 0 []) := Lib.hid (Strm.PcP.init rq l)
  go_wp2
  go_loopw [13, 14, 15, 16] (fun vb vf va_ vi wr => ∃ (vo : Value) (B : List EvE) (s2 : Strm.S) (V2 : SV) (q2 f at_ i : Nat), vo = vb ∧ vf = .int .i64 f ∧ va_ = .int .i64 at_ ∧ vi = .int .i64 i ∧ at_ ≤ n ∧ i ≤ n3 + 1 ∧ (n3 < i → f = 0 → at_ = n) ∧ B.length ≤ 3 * at_ + i ∧
      (f = 0 → q2 = s2.ph) ∧ (f ≠ 0 → s2.dead = f) ∧ Strm.PcP rq l at_ s2 f (B.map EvE.x) ∧ PcSt w1 wr w1.heap.size ua Va qa va La w2.heap.size s2 V2 q2 vo B) (fun _ _ _ vi _ => n3 + 1 - (intOf vi).toNat)
  case atStart => exact ⟨_, [], _, _, 0, 0, 0, 0, rfl, rfl, rfl, rfl, Nat.zero_le _, Nat.zero_le _, fun h => by omega, Nat.zero_le _, fun _ => rfl, fun h => absurd rfl h, HL.out, HP0.out⟩
  case round =>
    obtain ⟨vo, B, s2, V2, q2, f, at_, i, rfl, rfl, rfl, rfl, hat, hi, hlast, hBl, hq, hdead, hpc, hst⟩ := hrel
    have HPC := Lib.hid hpc
    have HST := Lib.hid hst
    have HLST := Lib.hid hlast
    have HQ := Lib.hid hq
    have HDD := Lib.hid hdead
    clear hpc hst hlast hq hdead
    by_cases hgo : at_ < n ∧ f = 0
    · obtain ⟨hlt, hf0⟩ := hgo
      subst hf0
      simp only [Int.natCast_zero]
      have hi3 : i ≤ n3 := by
        by_cases h : n3 < i
        · have := HLST.out h rfl; omega
        · omega
      have hsb : IntKind.i64.wrap ((n : Int) - (at_ : Int)) = ((n - at_ : Nat) : Int) := by rw [IntWalk.i64_in _ (by omega)]; omega
      obtain ⟨mm, hmm⟩ : ∃ mm, mm = n - at_ := ⟨_, rfl⟩
      have HMM := Lib.hid hmm
      rw [← hmm] at hsb
      have hmm1 : mm ≤ n := by omega
      clear hmm
      go_upto_region 12 with (fail)
      go_cut [73] (fun v wx => wx = wr ∧ ∃ b : Bool, v = .bool b ∧ (b = true → ∃ (h : i < xs.length) (m : Nat), xs[i] = (m : Int) ∧ m < mm))
      case first =>
        have HBW : Below w.heap.size w wr := HB1.out.trans (HST.out.bl.mono HB1.out.size)
        by_cases h3 : i < n3
        · obtain ⟨g3, o3, hA3, hg3, hc3⟩ := HRD3.out.2 (by omega)
          subst hA3
          have hx3 : i < xs.length := by have := HRD3.out.1; simp at this; omega
          obtain ⟨x, hx⟩ : ∃ x, x = xs[i] := ⟨_, rfl⟩
          have cx : wr.cell? ⟨g3, o3 + i, none⟩ = some (.int .i64 x) := (HBW.cell (p := ⟨g3, o3 + i, none⟩) hg3).trans (hc3 i _ (by simp [hx3, hx]))
          have HX := Lib.hid hx
          clear hx hc3 HBW
          by_cases x0 : 0 ≤ x
          · by_cases x1 : x < (mm : Int)
            · go_wp2
              go_meet
              exact ⟨rfl, true, rfl, fun _ => ⟨hx3, x.toNat, by rw [Int.toNat_of_nonneg x0, HX.out], by omega⟩⟩
            · go_wp2
              go_meet
              exact ⟨rfl, false, rfl, fun h => by cases h⟩
          · go_wp2
            go_meet
            exact ⟨rfl, false, rfl, fun h => by cases h⟩
        · go_wp2
          go_meet
          exact ⟨rfl, false, rfl, fun h => by cases h⟩
      case rest =>
      obtain ⟨rfl, b, rfl, hb⟩ := hcut
      obtain ⟨wk, rfl⟩ : ∃ wk : World, wk = wc := ⟨_, rfl⟩
      have HBW : Below w.heap.size w wk := HB1.out.trans (HST.out.bl.mono HB1.out.size)
      have hkey : ∃ m : Nat, m ≤ mm ∧ (n3 ≤ i → m = mm) ∧ (b = true → ∃ h : i < xs.length, xs[i] = (m : Int)) ∧ (b = false → m = mm) := by
        cases b with
        | false => exact ⟨mm, Nat.le_refl _, fun _ => rfl, (fun h => by cases h), fun _ => rfl⟩
        | true =>
          obtain ⟨h, m, h1, h2⟩ := hb rfl
          have hxl : xs.length = n3 := by have := HRD3.out.1; simp at this; omega
          exact ⟨m, by omega, fun h => by omega, fun _ => ⟨h, h1⟩, fun h => by cases h⟩
      obtain ⟨m, hm, hm3, hmt, hmf⟩ := hkey
      have HM3 := Lib.hid hm3
      clear hm3 hb
      cases b with
      | false =>
        obtain rfl := hmf rfl
        have HMX : Hid (n3 ≤ i → m = n - at_) := Lib.hid (fun _ => HMM.out)
        have hle : at_ + m ≤ n := by have := HMM.out; omega
        go_upto_region 14 with (fail)
        obtain ⟨es0, hfe0, hsim0, hinv0, hdue0, hdead0⟩ := HPC.out.ok rfl
        obtain rfl := HQ.out rfl
        obtain ⟨g, o, hA1, hgl, _⟩ := HRD.out.2 (by omega)
        subst hA1
        have hrs := Rd.sub HRD.out at_ m hle
        have hzw := HB1.out.size
        have HF2 := sfeed_any (T := at_) (Shp.below (Shp.of HS1.out) HST.out.bl) HST.out.m2 hinv0 hdue0 hdead0 (some ⟨g, o + at_, none⟩) m (c - at_) ((l.drop at_).take m) (by omega) (by omega) (by omega) (fun e => by cases e) ((hrs.below HBW).more HBW.size) (fun h0 g' o' e f => by
          injection e with e
          injection e with e' _ _
          have := (HST.out.m2.lt _ f).1
          omega)
        unfold FeedsPost at HF2
        have HFP := Lib.hid HF2
        have hadd : IntKind.i64.wrap ((at_ : Int) + (m : Int)) = ((at_ + m : Nat) : Int) := by rw [IntWalk.i64_in _ (by omega)]; omega
        have HFEW := Lib.hid (And.intro hfe0 (And.intro hinv0 (And.intro hdue0 hdead0)))
        have HGL := Lib.hid hgl
        have i1 : (0 : Int) ≤ (at_ : Int) := by omega
        have i2 : (at_ : Int) ≤ (at_ : Int) + (m : Int) := by omega
        have i3 : (at_ : Int) + (m : Int) ≤ (c : Int) := by omega
        have i4 : ¬ c = at_ := by omega
        clear hfe0 hsim0 hinv0 hdue0 hdead0 hrs HF2 hgl hmt hmf
        go_upto_region 15 with (first
          | (go_at_call 8; go_must (refine HFP.out.mono ?_; rintro _ w5 ⟨vl, Ll, u2, V2', r2, q3, rfl, hre⟩; have HRE := Lib.hid hre; clear hre))
          | fail)
        obtain ⟨hfd, ho, hm5, hq5, hd5, hc5, hf5, ha5⟩ := HRE.out
        obtain ⟨HP5, hx5⟩ := HST.out.feed2 ho hm5 hc5 hf5 ha5
        obtain ⟨Ae, ce, el, _, _, hAe, hre⟩ := ho.row.form
        subst el
        obtain ⟨i0, hi0, iz0, iz1, iz2⟩ := info_parts infoEv
        have hfw := Strm.feeds_few hfd HFEW.out.2.1
        rw [Strm.rk_no HFEW.out.2.2.1, List.length_map, List.length_take, List.length_drop] at hfw
        have HSR := Lib.hid (Src.slice (size := 11) (c := ce) Tryd.underlying26 hre (fun e => (hAe e).1) (cells_one ho.el))
        have HFD := Lib.hid hfd
        have HO5 := Lib.hid ho
        have HQ5 := Lib.hid hq5
        have HD5 := Lib.hid hd5
        have HP5 := Lib.hid HP5
        have HX5 := Lib.hid hx5
        have hlw : w1.heap.size ≤ wk.heap.size := HST.out.bl.size
        have hlw5 : w1.heap.size ≤ w5.heap.size := HP5.out.bl.size
        have hbn : Ll.length ≤ 3 * m + 1 := by omega
        clear hfd ho hm5 hq5 hd5 hc5 hf5 ha5 hx5 hAe hre HRE HFP hfw
        go_upto_region 16 with (first
          | (at_builtin; go_must (refine wpList_app _ rfl (.tmp 89) (.tmp 90) 26 26 rfl w1.heap.size 34 i0 (.agg #[.int .i64 0, .bool false, .string ⟨#[]⟩, .string ⟨#[]⟩, .int .i64 0, .string ⟨#[]⟩, .int .i64 0, .slice none 0 0, .int .i64 0, .int .i64 0, .slice none 0 0]) 11 144 Tryd.underlying26 hi0 iz0 iz1 iz2 rfl vo B.length (B.flatMap EvE.cells) rfl HP5.out.o2.row (.slice Ae Ll.length ce) Ll.length (Ll.flatMap EvE.cells) rfl HSR.out (by omega) (by omega) (by omega) hlw5 ?_); intro v6 w6 hrow6 hg6 ho6)
          | fail)
        have HP6 := Lib.hid (HP5.out.app2 HO5.out hlw HX5.out hg6 hrow6 ho6)
        have HPL := Lib.hid (HPC.out.step HFD.out (fun e => (HQ5.out e).2))
        clear hrow6 hg6 ho6 HP5 HSR HO5 HX5
        have hadi : IntKind.i64.wrap ((i : Int) + 1) = ((i + 1 : Nat) : Int) := by rw [IntWalk.i64_in _ (by omega)]; omega
        go_wp2
        go_roundw
        case rel =>
          refine ⟨v6, B ++ Ll, u2, V2', q3, r2, at_ + m, i + 1, rfl, rfl, by go_num, by go_num, hle, by omega, fun h1 _ => by have := HMX.out (by omega); omega, by rw [List.length_append]; omega, fun e => (HQ5.out e).1, HD5.out, ?_, HP6.out⟩
          rw [List.map_append]
          exact HPL.out
        case measure => simp [intOf]; omega
      | true =>
        obtain ⟨h3, hx⟩ := hmt rfl
        have HMX : Hid (n3 ≤ i → m = n - at_) := Lib.hid (fun h => (HM3.out h).trans HMM.out)
        have hle : at_ + m ≤ n := by have := HMM.out; omega
        have hxl : xs.length = n3 := by have := HRD3.out.1; simp at this; omega
        obtain ⟨g3, o3, hA3, hg3, hc3⟩ := HRD3.out.2 (by omega)
        subst hA3
        have cx : wk.cell? ⟨g3, o3 + i, none⟩ = some (.int .i64 (m : Int)) := (HBW.cell (p := ⟨g3, o3 + i, none⟩) hg3).trans (hc3 i _ (by simp [h3, hx]))
        have h3n : i < n3 := by omega
        clear hc3
        go_upto_region 14 with (fail)
        obtain ⟨es0, hfe0, hsim0, hinv0, hdue0, hdead0⟩ := HPC.out.ok rfl
        obtain rfl := HQ.out rfl
        obtain ⟨g, o, hA1, hgl, _⟩ := HRD.out.2 (by omega)
        subst hA1
        have hrs := Rd.sub HRD.out at_ m hle
        have hzw := HB1.out.size
        have HF2 := sfeed_any (T := at_) (Shp.below (Shp.of HS1.out) HST.out.bl) HST.out.m2 hinv0 hdue0 hdead0 (some ⟨g, o + at_, none⟩) m (c - at_) ((l.drop at_).take m) (by omega) (by omega) (by omega) (fun e => by cases e) ((hrs.below HBW).more HBW.size) (fun h0 g' o' e f => by
          injection e with e
          injection e with e' _ _
          have := (HST.out.m2.lt _ f).1
          omega)
        unfold FeedsPost at HF2
        have HFP := Lib.hid HF2
        have hadd : IntKind.i64.wrap ((at_ : Int) + (m : Int)) = ((at_ + m : Nat) : Int) := by rw [IntWalk.i64_in _ (by omega)]; omega
        have HFEW := Lib.hid (And.intro hfe0 (And.intro hinv0 (And.intro hdue0 hdead0)))
        have HGL := Lib.hid hgl
        have i1 : (0 : Int) ≤ (at_ : Int) := by omega
        have i2 : (at_ : Int) ≤ (at_ : Int) + (m : Int) := by omega
        have i3 : (at_ : Int) + (m : Int) ≤ (c : Int) := by omega
        have i4 : ¬ c = at_ := by omega
        clear hfe0 hsim0 hinv0 hdue0 hdead0 hrs HF2 hgl hmt hmf
        go_upto_region 15 with (first
          | (go_at_call 8; go_must (refine HFP.out.mono ?_; rintro _ w5 ⟨vl, Ll, u2, V2', r2, q3, rfl, hre⟩; have HRE := Lib.hid hre; clear hre))
          | fail)
        obtain ⟨hfd, ho, hm5, hq5, hd5, hc5, hf5, ha5⟩ := HRE.out
        obtain ⟨HP5, hx5⟩ := HST.out.feed2 ho hm5 hc5 hf5 ha5
        obtain ⟨Ae, ce, el, _, _, hAe, hre⟩ := ho.row.form
        subst el
        obtain ⟨i0, hi0, iz0, iz1, iz2⟩ := info_parts infoEv
        have hfw := Strm.feeds_few hfd HFEW.out.2.1
        rw [Strm.rk_no HFEW.out.2.2.1, List.length_map, List.length_take, List.length_drop] at hfw
        have HSR := Lib.hid (Src.slice (size := 11) (c := ce) Tryd.underlying26 hre (fun e => (hAe e).1) (cells_one ho.el))
        have HFD := Lib.hid hfd
        have HO5 := Lib.hid ho
        have HQ5 := Lib.hid hq5
        have HD5 := Lib.hid hd5
        have HP5 := Lib.hid HP5
        have HX5 := Lib.hid hx5
        have hlw : w1.heap.size ≤ wk.heap.size := HST.out.bl.size
        have hlw5 : w1.heap.size ≤ w5.heap.size := HP5.out.bl.size
        have hbn : Ll.length ≤ 3 * m + 1 := by omega
        clear hfd ho hm5 hq5 hd5 hc5 hf5 ha5 hx5 hAe hre HRE HFP hfw
        go_upto_region 16 with (first
          | (at_builtin; go_must (refine wpList_app _ rfl (.tmp 89) (.tmp 90) 26 26 rfl w1.heap.size 34 i0 (.agg #[.int .i64 0, .bool false, .string ⟨#[]⟩, .string ⟨#[]⟩, .int .i64 0, .string ⟨#[]⟩, .int .i64 0, .slice none 0 0, .int .i64 0, .int .i64 0, .slice none 0 0]) 11 144 Tryd.underlying26 hi0 iz0 iz1 iz2 rfl vo B.length (B.flatMap EvE.cells) rfl HP5.out.o2.row (.slice Ae Ll.length ce) Ll.length (Ll.flatMap EvE.cells) rfl HSR.out (by omega) (by omega) (by omega) hlw5 ?_); intro v6 w6 hrow6 hg6 ho6)
          | fail)
        have HP6 := Lib.hid (HP5.out.app2 HO5.out hlw HX5.out hg6 hrow6 ho6)
        have HPL := Lib.hid (HPC.out.step HFD.out (fun e => (HQ5.out e).2))
        clear hrow6 hg6 ho6 HP5 HSR HO5 HX5
        have hadi : IntKind.i64.wrap ((i : Int) + 1) = ((i + 1 : Nat) : Int) := by rw [IntWalk.i64_in _ (by omega)]; omega
        go_wp2
        go_roundw
        case rel =>
          refine ⟨v6, B ++ Ll, u2, V2', q3, r2, at_ + m, i + 1, rfl, rfl, by go_num, by go_num, hle, by omega, fun h1 _ => by have := HMX.out (by omega); omega, by rw [List.length_append]; omega, fun e => (HQ5.out e).1, HD5.out, ?_, HP6.out⟩
          rw [List.map_append]
          exact HPL.out
        case measure => simp [intOf]; omega
    · have hkey : ra = f ∧ Strm.Sim (La.map EvE.x) (B.map EvE.x) ∧ (ra = 0 → ua = s2) := by
        have hll : l.length = n := by have := HRD.out.1; rw [bytesV_len] at this; omega
        by_cases hf : f = 0
        · subst hf
          obtain rfl : at_ = n := by
            by_cases h : at_ < n
            · exact absurd ⟨h, rfl⟩ hgo
            · omega
          obtain ⟨es, h1, h2, _⟩ := HPC.out.ok rfl
          rw [List.take_of_length_le (by omega)] at h1
          obtain ⟨d1, d2, d3⟩ := HFA.out.det h1
          rw [d2]
          exact ⟨d3, h2, fun _ => d1⟩
        · obtain ⟨u, es, h1, h2⟩ := HPC.out.no hf
          obtain ⟨d1, d2, d3⟩ := HFA.out.det h1
          rw [d2]
          exact ⟨d3, h2, fun h => absurd (d3.symm.trans h) hf⟩
      by_cases h1 : at_ < n
      · have h2 : ((f : Int) == 0) = false := by
          have : f ≠ 0 := fun e => hgo ⟨h1, e⟩
          simpa using this
        go_upto_region 18 with (fail)
        clear h2 h1 hgo
        obtain ⟨wk, rfl⟩ : ∃ wk : World, wk = wr := ⟨_, rfl⟩
        obtain ⟨hrf, hsim, hus⟩ := hkey
        subst hrf
        have hll : l.length = n := by have := HRD.out.1; rw [bytesV_len] at this; omega
        have hsa : Strm.bodySum (La.map EvE.x) ≤ 1048576 := by have := Strm.feeds_sum HFA.out (Strm.Inv.init rq); omega
        have hsb2 : Strm.bodySum (B.map EvE.x) ≤ 1048576 := by
          have h1 := Strm.whole_sum (La.map EvE.x)
          have h2 := Strm.whole_sum (B.map EvE.x)
          rw [hsim.whole] at h1
          omega
        have hla : La.length ≤ 3145729 := by
          have h1 := Strm.feeds_few HFA.out (Strm.Inv.init rq)
          rw [List.length_map] at h1
          have h2 : Strm.rk ({ rq := rq } : Strm.S) = 0 := rfl
          omega
        obtain ⟨Aa, ca, ea, _, _, _, hra⟩ := HST.out.o1.row.form
        obtain ⟨Ab, cb, eb, _, _, _, hrb⟩ := HST.out.o2.row.form
        subst ea
        subst eb
        have HWA := Lib.hid (fun (W : World) (hb : Below wk.heap.size wk W) => swhole_any Aa La.length ca La W ((hra.below hb).more hb.size) (fun e he => (HST.out.o1.el e he).v.below hb) (by omega) 1048576 (by omega) (fun k _ y hy => Strm.body_few hsa k y (by rw [← List.map_take]; exact hy)))
        have HWB := Lib.hid (fun (W : World) (hb : Below wk.heap.size wk W) => swhole_any Ab B.length cb B W ((hrb.below hb).more hb.size) (fun e he => (HST.out.o2.el e he).v.below hb) (by omega) 1048576 (by omega) (fun k _ y hy => Strm.body_few hsb2 k y (by rw [← List.map_take]; exact hy)))
        have HSZ : Hid (∀ e ∈ Strm.whole (La.map EvE.x), evSz e) := Lib.hid (whole_sz (Strm.feeds_heads HFA.out) (by omega))
        have HLN : Hid ((Strm.whole (La.map EvE.x)).length ≤ 3145729) := Lib.hid (by have := Strm.foldl_len (La.map EvE.x) []; rw [List.length_map] at this; unfold Strm.whole; simp at this; omega)
        have HSA := Lib.hid hsa
        have HSIM := Lib.hid hsim.whole
        have HUS := Lib.hid hus
        clear hsim hus hsa hsb2 hra hrb
        have hne : ((ra : Int) != (ra : Int)) = false := by simp
        go_upto_region 20 with (first
          | (go_at_call 12; have h5 := HB5.out; go_must (refine (HWB.out _ h5).mono ?_; rintro _ w6 ⟨v6, M6, rfl, hw6, hM6⟩; have hlm := congrArg List.length (hM6.trans (HSIM.out.symm.trans HM5.out.symm)); rw [List.length_map, List.length_map] at hlm; obtain ⟨A6, c6, e6, _, _, _, hr6⟩ := hw6.row.form; rw [hlm] at e6 hr6; subst e6; have HR6 := Lib.hid hr6; have HW6 := Lib.hid hw6; have HM6 := Lib.hid hM6; clear hr6 hw6 hM6 hlm h5))
          | (go_at_call 12; go_must (refine (HWA.out _ (Below.refl _ _)).mono ?_; rintro _ w5 ⟨v5, M5, rfl, hw5, hM5⟩; obtain ⟨A5, c5, rfl, _, _, _, hr5⟩ := hw5.row.form; have HB5 := Lib.hid hw5.bl; have HW5 := Lib.hid hw5; have HR5 := Lib.hid hr5; have HM5 := Lib.hid hM5; clear hr5 hw5 hM5))
          | (go_at_call 11; go_must (refine (sboth_any A5 A6 M5.length c5 c6 M5 M6 _ (HM5.out.trans (HSIM.out.trans HM6.out.symm)) ((HR5.out.below HW6.out.bl).more HW6.out.bl.size) HR6.out (fun e he => (HW5.out.el e he).below HW6.out.bl) HW6.out.el (by have := HLN.out; rw [← HM5.out, List.length_map] at this; omega) (mem_x HM5.out _ HSZ.out)).mono ?_; rintro _ w7 ⟨rfl, hb7⟩; have HB7 := Lib.hid ((HB5.out.trans (HW6.out.bl.mono HB5.out.size)).trans (hb7.mono (by have := HB5.out.size; have := HW6.out.bl.size; omega))); clear hb7))
          | fail)
        have HB17 : Hid (Below w1.heap.size w1 w7) := Lib.hid (HST.out.bl.trans (HB7.out.mono HST.out.bl.size))
        have HB07 : Hid (Below w.heap.size w w7) := Lib.hid (HB1.out.trans (HB17.out.mono HB1.out.size))
        have HM1 := Lib.hid (HST.out.m1.below HB7.out)
        have HM2 := Lib.hid (HST.out.m2.below HB7.out)
        have HA12 := Lib.hid HST.out.a12
        clear hne
        by_cases h0 : ra = 0
        · obtain ⟨hqa, hda⟩ := HQA.out.1 h0
          obtain rfl := HUS.out h0
          have hq2 := HQ.out h0
          have hinv := Strm.feeds_inv HFA.out (Strm.Inv.init rq) h0
          subst hqa
          subst hq2
          subst h0
          simp only [Int.natCast_zero]
          have HE1 := Lib.hid (sended_any HM1.out hinv hda)
          have HE2 := Lib.hid (fun (W : World) (hm : SMem W w1.heap.size w2.heap.size ua V2 ua.ph) => sended_any hm hinv hda)
          have HES := Lib.hid (ends_sz ua)
          have hne : (((endsP ua).2 : Int) == ((endsP ua).2 : Int)) = true := by simp
          go_upto_region 22 with (first
            | (go_at_call 13; go_must (refine HE1.out.mono ?_; rintro _ w8 ⟨v8, L8, rfl, hL8, ho8, hm8, hc8⟩; have HL8 := Lib.hid hL8; have HO8 := Lib.hid ho8; have HC8 := Lib.hid hc8; clear hL8 ho8 hm8 hc8))
            | fail)
          obtain ⟨A8, c8, e8, _, _, _, _⟩ := HO8.out.row.form
          subst e8
          have HM28 := Lib.hid (HM2.out.chg HC8.out (fun k hk f => HA12.out k f hk))
          go_upto_region 23 with (first
            | (go_at_call 13; go_must (refine (HE2.out _ HM28.out).mono ?_; rintro _ w9 ⟨v9, L9, rfl, hL9, ho9, hm9, hc9⟩; have HL9 := Lib.hid hL9; have HO9 := Lib.hid ho9; have HC9 := Lib.hid hc9; clear hL9 ho9 hm9 hc9))
            | fail)
          have hlm : L9.length = L8.length := by
            have := congrArg List.length (HL9.out.trans HL8.out.symm)
            rw [List.length_map, List.length_map] at this
            exact this
          obtain ⟨A9, c9, e9, _, _, _, hr9⟩ := HO9.out.row.form
          rw [hlm] at e9 hr9
          subst e9
          have ho89 := HO8.out.chg HC9.out (fun k hk f => by have := (HO8.out.lt hk).1; have := (HM2.out.lt k f).2; omega)
          obtain ⟨A8', c8', e8, _, _, _, hr8⟩ := ho89.row.form
          injection e8 with e81 e82 e83
          subst e81
          have HEQ := Lib.hid (sboth_any A8 A9 L8.length c8 c9 L8 L9 w9 (HL8.out.trans HL9.out.symm) hr8 hr9 (fun e he => (ho89.el e he).v) (fun e he => (HO9.out.el e he).v) (by have := HES.out.2; rw [← HL8.out, List.length_map] at this; omega) (mem_x HL8.out _ HES.out.1))
          have HBF : Hid (Below w.heap.size w w9) := Lib.hid (HB1.out.trans ((Below.chg (Below.chg HB17.out HC8.out HB17.out.size (fun k hk => (HM1.out.lt k hk).1)) HC9.out (by have := HB17.out.size; have := HC8.out.size; omega) (fun k hk => (HM2.out.lt k hk).1)).mono HB1.out.size))
          clear ho89 hr8 hr9 hlm e82 e83
          go_wp2_with (first
            | (go_at_call 11; go_must (refine HEQ.out.mono ?_; rintro _ w10 ⟨rfl, hb10⟩))
            | fail)
          go_ret
          exact ⟨rfl, HBF.out.trans (hb10.mono HBF.out.size)⟩
        · have hdr := HQA.out.2 h0
          have e0 : ((ra : Int) == 0) = false := by simpa using h0
          obtain ⟨uw, hfw⟩ := HFA.out.wrong (b := l2) h0 (Strm.Inv.init rq)
          have HFW := Lib.hid hfw
          have HH0 := Lib.hid h0
          have HDR := Lib.hid hdr
          clear hfw h0 hdr
          go_upto_region 25 with (first
            | (go_at_call 7; refine (snew_any _ rq).mono ?_; rintro _ w8 ⟨rfl, hm8, hb8, hz8⟩; have HM8 := Lib.hid hm8; have HB8 := Lib.hid hb8; have HZ8 := Lib.hid hz8; clear hm8 hb8 hz8)
            | fail)
          have HB08 : Hid (Below w.heap.size w w8) := Lib.hid (HB07.out.trans (HB8.out.mono HB07.out.size))
          have hz08 := HB08.out.size
          have HFT : Hid (∀ g, footS w7.heap.size (newV w7.heap.size) g → g < w8.heap.size) := Lib.hid (fun g f => by have := new_foot f; have := HZ8.out; omega)
          have hl2 : l2.length = n2 := by have := HRD2.out.1; rw [bytesV_len] at this; omega
          obtain ⟨ll, hll2⟩ : ∃ ll, ll = l ++ l2 := ⟨_, rfl⟩
          have hlln : ll.length ≤ 2097152 := by rw [hll2, List.length_append]; omega
          have HLL := Lib.hid hll2
          clear hll2
          go_upto_region 26 with (first
            | (at_builtin; (refine wpList_appB (v := .slice (some ⟨w8.heap.size, 0, none⟩) 0 0) (L := []) (M := l) rfl (.tmp 131) (.tmp 132) 22 rfl w8.heap.size rfl (empty_row w8 _ 1) rfl (SrcB.slice (HRD.out.below (HB08.out.alloc hz08 _)) (fun e => (hA e).1)) (by simp; omega) (by simp) ?_); intro v9 w9 hrow9 hb9 hg9 ho9; rw [List.nil_append] at hrow9; have HR9 := Lib.hid hrow9; have HB89 := Lib.hid (((Below.refl w8.heap.size w8).alloc (Nat.le_refl _) _).trans hb9); clear hrow9 hb9 hg9 ho9)
            | (at_builtin; go_must (refine wpList_appB (L := l) (M := l2) rfl (.tmp 133) (.tmp 134) 22 rfl w8.heap.size rfl HR9.out rfl (SrcB.slice (HRD2.out.below (HB08.out.trans (HB89.out.mono hz08))) (fun e => (hA2 e).1)) (by omega) HB89.out.size ?_); go_must (intro v10 w10 hrow10 hb10 hg10 ho10; rw [← HLL.out] at hrow10; have HB810 := Lib.hid (HB89.out.trans hb10); obtain ⟨A10, c10, rfl, hc10, _, hA10, hr10⟩ := RowB.form hrow10; have HR10 := Lib.hid hrow10; have HF3 := Lib.hid (sfeed_any (T := 0) (Shp.below (Shp.of HS1.out) (HB17.out.trans ((HB8.out.trans (HB810.out.mono HB8.out.size)).mono HB17.out.size))) ((HM8.out.below HB810.out).mono HB17.out.size) (Strm.Inv.init rq) rfl rfl A10 ll.length c10 ll (by omega) (by omega) hc10 hA10 hr10 (fun h0 g o e f => by subst e; have h1 := (Row.lt HR10.out g rfl).1; have h2 := HFT.out g f; omega)); unfold FeedsPost at HF3; clear hrow10 hb10 hg10 ho10 hc10 hA10 hr10))
            | (go_at_call 8; go_must (refine HF3.out.mono ?_; rintro _ w11 ⟨vc, Lc, u3, V3, r3, q3, rfl, hre⟩; have HRE := Lib.hid hre; clear hre))
            | fail)
          obtain ⟨hfd3, ho3, _, _, _, hc3, _, _⟩ := HRE.out
          obtain ⟨_, de, dr⟩ := hfd3.det (by rw [HLL.out]; exact HFW.out)
          have HB810w := HB8.out.trans (HB810.out.mono HB8.out.size)
          have hz811 : w7.heap.size ≤ w10.heap.size := HB810w.size
          have HB711 : Hid (Below w7.heap.size w7 w11) := Lib.hid (Below.chg HB810w hc3 hz811 (fun k hk => by have := new_foot hk; omega))
          have HM111 := Lib.hid (HM1.out.below HB711.out)
          have HO3 := Lib.hid ho3
          have HDE := Lib.hid de
          have dr2 := dr.symm
          clear dr
          subst dr2
          clear hfd3 ho3 hc3 de HRE HF3 HFW
          have HD := Lib.hid (sfeed_dead HM111.out (by rw [HDR.out]; exact HH0.out) A2 n2 c2)
          rw [HDR.out] at HD
          go_upto_region 27 with (first
            | (go_at_call 8; go_must (refine HD.out.mono ?_; rintro _ _ ⟨rfl, nq, rfl⟩))
            | fail)
          have HB712 : Hid (Below w7.heap.size w7 (w11.drewN nq)) := Lib.hid (below_drewN HB711.out nq)
          have HO312 : Hid (Outs (w11.drewN nq) w10.heap.size vc Lc) := Lib.hid (HO3.out.below (below_drewN (Below.refl _ _) nq))
          clear HB711 HM111 HO3 HD
          generalize w11.drewN nq = w12 at *
          have HBK := Lib.hid (HB7.out.trans (HB712.out.mono HB7.out.size))
          have HBF : Hid (Below w.heap.size w w12) := Lib.hid (HB07.out.trans (HB712.out.mono HB07.out.size))
          obtain ⟨Ac, cc, ec, _, _, _, hrc⟩ := HO312.out.row.form
          subst ec
          have hlc : Lc.length = La.length := by
            have := congrArg List.length HDE.out
            rw [List.length_map, List.length_map] at this
            exact this
          have HWC := Lib.hid (fun (W : World) (hb : Below w12.heap.size w12 W) => swhole_any Ac Lc.length cc Lc W ((hrc.below hb).more hb.size) (fun e he => (HO312.out.el e he).v.below hb) (by omega) 1048576 (by omega) (fun k _ y hy => Strm.body_few (es := Lc.map EvE.x) (by rw [HDE.out]; exact HSA.out) k y (by rw [← List.map_take]; exact hy)))
          clear hrc hlc
          have hne : ((ra : Int) == (ra : Int)) = true := by simp
          go_wp2_with (first
            | (go_at_call 12; have h5 := HB13w.out; go_must (refine (HWC.out _ h5).mono ?_; rintro _ w14 ⟨v14, M14, rfl, hw14, hM14⟩; have hlm := congrArg List.length (hM14.trans ((congrArg Strm.whole HDE.out).trans HM13.out.symm)); rw [List.length_map, List.length_map] at hlm; obtain ⟨A14, c14, e14, _, _, _, hr14⟩ := hw14.row.form; rw [hlm] at e14 hr14; subst e14; have HR14 := Lib.hid hr14; have HW14 := Lib.hid hw14; have HM14 := Lib.hid hM14; clear hr14 hw14 hM14 hlm h5))
            | (go_at_call 12; go_must (refine (HWA.out _ HBK.out).mono ?_; rintro _ w13 ⟨v13, M13, rfl, hw13, hM13⟩; obtain ⟨A13, c13, rfl, _, _, _, hr13⟩ := hw13.row.form; have HB13w := Lib.hid hw13.bl; have HW13 := Lib.hid hw13; have HR13 := Lib.hid hr13; have HM13 := Lib.hid hM13; clear hr13 hw13 hM13))
            | (go_at_call 11; go_must (refine (sboth_any A13 A14 M13.length c13 c14 M13 M14 _ (HM13.out.trans ((congrArg Strm.whole HDE.out).symm.trans HM14.out.symm)) ((HR13.out.below HW14.out.bl).more HW14.out.bl.size) HR14.out (fun e he => (HW13.out.el e he).below HW14.out.bl) HW14.out.el (by have := HLN.out; rw [← HM13.out, List.length_map] at this; omega) (mem_x HM13.out _ HSZ.out)).mono ?_; rintro _ w15 ⟨rfl, hb15⟩; have HB15 := Lib.hid ((HB13w.out.trans (HW14.out.bl.mono HB13w.out.size)).trans (hb15.mono (by have := HB13w.out.size; have := HW14.out.bl.size; omega))); clear hb15))
            | fail)
          go_ret
          exact ⟨rfl, HBF.out.trans (HB15.out.mono HBF.out.size)⟩
      · go_upto_region 18 with (fail)
        clear h1 hgo
        obtain ⟨wk, rfl⟩ : ∃ wk : World, wk = wr := ⟨_, rfl⟩
        obtain ⟨hrf, hsim, hus⟩ := hkey
        subst hrf
        have hll : l.length = n := by have := HRD.out.1; rw [bytesV_len] at this; omega
        have hsa : Strm.bodySum (La.map EvE.x) ≤ 1048576 := by have := Strm.feeds_sum HFA.out (Strm.Inv.init rq); omega
        have hsb2 : Strm.bodySum (B.map EvE.x) ≤ 1048576 := by
          have h1 := Strm.whole_sum (La.map EvE.x)
          have h2 := Strm.whole_sum (B.map EvE.x)
          rw [hsim.whole] at h1
          omega
        have hla : La.length ≤ 3145729 := by
          have h1 := Strm.feeds_few HFA.out (Strm.Inv.init rq)
          rw [List.length_map] at h1
          have h2 : Strm.rk ({ rq := rq } : Strm.S) = 0 := rfl
          omega
        obtain ⟨Aa, ca, ea, _, _, _, hra⟩ := HST.out.o1.row.form
        obtain ⟨Ab, cb, eb, _, _, _, hrb⟩ := HST.out.o2.row.form
        subst ea
        subst eb
        have HWA := Lib.hid (fun (W : World) (hb : Below wk.heap.size wk W) => swhole_any Aa La.length ca La W ((hra.below hb).more hb.size) (fun e he => (HST.out.o1.el e he).v.below hb) (by omega) 1048576 (by omega) (fun k _ y hy => Strm.body_few hsa k y (by rw [← List.map_take]; exact hy)))
        have HWB := Lib.hid (fun (W : World) (hb : Below wk.heap.size wk W) => swhole_any Ab B.length cb B W ((hrb.below hb).more hb.size) (fun e he => (HST.out.o2.el e he).v.below hb) (by omega) 1048576 (by omega) (fun k _ y hy => Strm.body_few hsb2 k y (by rw [← List.map_take]; exact hy)))
        have HSZ : Hid (∀ e ∈ Strm.whole (La.map EvE.x), evSz e) := Lib.hid (whole_sz (Strm.feeds_heads HFA.out) (by omega))
        have HLN : Hid ((Strm.whole (La.map EvE.x)).length ≤ 3145729) := Lib.hid (by have := Strm.foldl_len (La.map EvE.x) []; rw [List.length_map] at this; unfold Strm.whole; simp at this; omega)
        have HSA := Lib.hid hsa
        have HSIM := Lib.hid hsim.whole
        have HUS := Lib.hid hus
        clear hsim hus hsa hsb2 hra hrb
        have hne : ((ra : Int) != (ra : Int)) = false := by simp
        go_upto_region 20 with (first
          | (go_at_call 12; have h5 := HB5.out; go_must (refine (HWB.out _ h5).mono ?_; rintro _ w6 ⟨v6, M6, rfl, hw6, hM6⟩; have hlm := congrArg List.length (hM6.trans (HSIM.out.symm.trans HM5.out.symm)); rw [List.length_map, List.length_map] at hlm; obtain ⟨A6, c6, e6, _, _, _, hr6⟩ := hw6.row.form; rw [hlm] at e6 hr6; subst e6; have HR6 := Lib.hid hr6; have HW6 := Lib.hid hw6; have HM6 := Lib.hid hM6; clear hr6 hw6 hM6 hlm h5))
          | (go_at_call 12; go_must (refine (HWA.out _ (Below.refl _ _)).mono ?_; rintro _ w5 ⟨v5, M5, rfl, hw5, hM5⟩; obtain ⟨A5, c5, rfl, _, _, _, hr5⟩ := hw5.row.form; have HB5 := Lib.hid hw5.bl; have HW5 := Lib.hid hw5; have HR5 := Lib.hid hr5; have HM5 := Lib.hid hM5; clear hr5 hw5 hM5))
          | (go_at_call 11; go_must (refine (sboth_any A5 A6 M5.length c5 c6 M5 M6 _ (HM5.out.trans (HSIM.out.trans HM6.out.symm)) ((HR5.out.below HW6.out.bl).more HW6.out.bl.size) HR6.out (fun e he => (HW5.out.el e he).below HW6.out.bl) HW6.out.el (by have := HLN.out; rw [← HM5.out, List.length_map] at this; omega) (mem_x HM5.out _ HSZ.out)).mono ?_; rintro _ w7 ⟨rfl, hb7⟩; have HB7 := Lib.hid ((HB5.out.trans (HW6.out.bl.mono HB5.out.size)).trans (hb7.mono (by have := HB5.out.size; have := HW6.out.bl.size; omega))); clear hb7))
          | fail)
        have HB17 : Hid (Below w1.heap.size w1 w7) := Lib.hid (HST.out.bl.trans (HB7.out.mono HST.out.bl.size))
        have HB07 : Hid (Below w.heap.size w w7) := Lib.hid (HB1.out.trans (HB17.out.mono HB1.out.size))
        have HM1 := Lib.hid (HST.out.m1.below HB7.out)
        have HM2 := Lib.hid (HST.out.m2.below HB7.out)
        have HA12 := Lib.hid HST.out.a12
        clear hne
        by_cases h0 : ra = 0
        · obtain ⟨hqa, hda⟩ := HQA.out.1 h0
          obtain rfl := HUS.out h0
          have hq2 := HQ.out h0
          have hinv := Strm.feeds_inv HFA.out (Strm.Inv.init rq) h0
          subst hqa
          subst hq2
          subst h0
          simp only [Int.natCast_zero]
          have HE1 := Lib.hid (sended_any HM1.out hinv hda)
          have HE2 := Lib.hid (fun (W : World) (hm : SMem W w1.heap.size w2.heap.size ua V2 ua.ph) => sended_any hm hinv hda)
          have HES := Lib.hid (ends_sz ua)
          have hne : (((endsP ua).2 : Int) == ((endsP ua).2 : Int)) = true := by simp
          go_upto_region 22 with (first
            | (go_at_call 13; go_must (refine HE1.out.mono ?_; rintro _ w8 ⟨v8, L8, rfl, hL8, ho8, hm8, hc8⟩; have HL8 := Lib.hid hL8; have HO8 := Lib.hid ho8; have HC8 := Lib.hid hc8; clear hL8 ho8 hm8 hc8))
            | fail)
          obtain ⟨A8, c8, e8, _, _, _, _⟩ := HO8.out.row.form
          subst e8
          have HM28 := Lib.hid (HM2.out.chg HC8.out (fun k hk f => HA12.out k f hk))
          go_upto_region 23 with (first
            | (go_at_call 13; go_must (refine (HE2.out _ HM28.out).mono ?_; rintro _ w9 ⟨v9, L9, rfl, hL9, ho9, hm9, hc9⟩; have HL9 := Lib.hid hL9; have HO9 := Lib.hid ho9; have HC9 := Lib.hid hc9; clear hL9 ho9 hm9 hc9))
            | fail)
          have hlm : L9.length = L8.length := by
            have := congrArg List.length (HL9.out.trans HL8.out.symm)
            rw [List.length_map, List.length_map] at this
            exact this
          obtain ⟨A9, c9, e9, _, _, _, hr9⟩ := HO9.out.row.form
          rw [hlm] at e9 hr9
          subst e9
          have ho89 := HO8.out.chg HC9.out (fun k hk f => by have := (HO8.out.lt hk).1; have := (HM2.out.lt k f).2; omega)
          obtain ⟨A8', c8', e8, _, _, _, hr8⟩ := ho89.row.form
          injection e8 with e81 e82 e83
          subst e81
          have HEQ := Lib.hid (sboth_any A8 A9 L8.length c8 c9 L8 L9 w9 (HL8.out.trans HL9.out.symm) hr8 hr9 (fun e he => (ho89.el e he).v) (fun e he => (HO9.out.el e he).v) (by have := HES.out.2; rw [← HL8.out, List.length_map] at this; omega) (mem_x HL8.out _ HES.out.1))
          have HBF : Hid (Below w.heap.size w w9) := Lib.hid (HB1.out.trans ((Below.chg (Below.chg HB17.out HC8.out HB17.out.size (fun k hk => (HM1.out.lt k hk).1)) HC9.out (by have := HB17.out.size; have := HC8.out.size; omega) (fun k hk => (HM2.out.lt k hk).1)).mono HB1.out.size))
          clear ho89 hr8 hr9 hlm e82 e83
          go_wp2_with (first
            | (go_at_call 11; go_must (refine HEQ.out.mono ?_; rintro _ w10 ⟨rfl, hb10⟩))
            | fail)
          go_ret
          exact ⟨rfl, HBF.out.trans (hb10.mono HBF.out.size)⟩
        · have hdr := HQA.out.2 h0
          have e0 : ((ra : Int) == 0) = false := by simpa using h0
          obtain ⟨uw, hfw⟩ := HFA.out.wrong (b := l2) h0 (Strm.Inv.init rq)
          have HFW := Lib.hid hfw
          have HH0 := Lib.hid h0
          have HDR := Lib.hid hdr
          clear hfw h0 hdr
          go_upto_region 25 with (first
            | (go_at_call 7; refine (snew_any _ rq).mono ?_; rintro _ w8 ⟨rfl, hm8, hb8, hz8⟩; have HM8 := Lib.hid hm8; have HB8 := Lib.hid hb8; have HZ8 := Lib.hid hz8; clear hm8 hb8 hz8)
            | fail)
          have HB08 : Hid (Below w.heap.size w w8) := Lib.hid (HB07.out.trans (HB8.out.mono HB07.out.size))
          have hz08 := HB08.out.size
          have HFT : Hid (∀ g, footS w7.heap.size (newV w7.heap.size) g → g < w8.heap.size) := Lib.hid (fun g f => by have := new_foot f; have := HZ8.out; omega)
          have hl2 : l2.length = n2 := by have := HRD2.out.1; rw [bytesV_len] at this; omega
          obtain ⟨ll, hll2⟩ : ∃ ll, ll = l ++ l2 := ⟨_, rfl⟩
          have hlln : ll.length ≤ 2097152 := by rw [hll2, List.length_append]; omega
          have HLL := Lib.hid hll2
          clear hll2
          go_upto_region 26 with (first
            | (at_builtin; (refine wpList_appB (v := .slice (some ⟨w8.heap.size, 0, none⟩) 0 0) (L := []) (M := l) rfl (.tmp 131) (.tmp 132) 22 rfl w8.heap.size rfl (empty_row w8 _ 1) rfl (SrcB.slice (HRD.out.below (HB08.out.alloc hz08 _)) (fun e => (hA e).1)) (by simp; omega) (by simp) ?_); intro v9 w9 hrow9 hb9 hg9 ho9; rw [List.nil_append] at hrow9; have HR9 := Lib.hid hrow9; have HB89 := Lib.hid (((Below.refl w8.heap.size w8).alloc (Nat.le_refl _) _).trans hb9); clear hrow9 hb9 hg9 ho9)
            | (at_builtin; go_must (refine wpList_appB (L := l) (M := l2) rfl (.tmp 133) (.tmp 134) 22 rfl w8.heap.size rfl HR9.out rfl (SrcB.slice (HRD2.out.below (HB08.out.trans (HB89.out.mono hz08))) (fun e => (hA2 e).1)) (by omega) HB89.out.size ?_); go_must (intro v10 w10 hrow10 hb10 hg10 ho10; rw [← HLL.out] at hrow10; have HB810 := Lib.hid (HB89.out.trans hb10); obtain ⟨A10, c10, rfl, hc10, _, hA10, hr10⟩ := RowB.form hrow10; have HR10 := Lib.hid hrow10; have HF3 := Lib.hid (sfeed_any (T := 0) (Shp.below (Shp.of HS1.out) (HB17.out.trans ((HB8.out.trans (HB810.out.mono HB8.out.size)).mono HB17.out.size))) ((HM8.out.below HB810.out).mono HB17.out.size) (Strm.Inv.init rq) rfl rfl A10 ll.length c10 ll (by omega) (by omega) hc10 hA10 hr10 (fun h0 g o e f => by subst e; have h1 := (Row.lt HR10.out g rfl).1; have h2 := HFT.out g f; omega)); unfold FeedsPost at HF3; clear hrow10 hb10 hg10 ho10 hc10 hA10 hr10))
            | (go_at_call 8; go_must (refine HF3.out.mono ?_; rintro _ w11 ⟨vc, Lc, u3, V3, r3, q3, rfl, hre⟩; have HRE := Lib.hid hre; clear hre))
            | fail)
          obtain ⟨hfd3, ho3, _, _, _, hc3, _, _⟩ := HRE.out
          obtain ⟨_, de, dr⟩ := hfd3.det (by rw [HLL.out]; exact HFW.out)
          have HB810w := HB8.out.trans (HB810.out.mono HB8.out.size)
          have hz811 : w7.heap.size ≤ w10.heap.size := HB810w.size
          have HB711 : Hid (Below w7.heap.size w7 w11) := Lib.hid (Below.chg HB810w hc3 hz811 (fun k hk => by have := new_foot hk; omega))
          have HM111 := Lib.hid (HM1.out.below HB711.out)
          have HO3 := Lib.hid ho3
          have HDE := Lib.hid de
          have dr2 := dr.symm
          clear dr
          subst dr2
          clear hfd3 ho3 hc3 de HRE HF3 HFW
          have HD := Lib.hid (sfeed_dead HM111.out (by rw [HDR.out]; exact HH0.out) A2 n2 c2)
          rw [HDR.out] at HD
          go_upto_region 27 with (first
            | (go_at_call 8; go_must (refine HD.out.mono ?_; rintro _ _ ⟨rfl, nq, rfl⟩))
            | fail)
          have HB712 : Hid (Below w7.heap.size w7 (w11.drewN nq)) := Lib.hid (below_drewN HB711.out nq)
          have HO312 : Hid (Outs (w11.drewN nq) w10.heap.size vc Lc) := Lib.hid (HO3.out.below (below_drewN (Below.refl _ _) nq))
          clear HB711 HM111 HO3 HD
          generalize w11.drewN nq = w12 at *
          have HBK := Lib.hid (HB7.out.trans (HB712.out.mono HB7.out.size))
          have HBF : Hid (Below w.heap.size w w12) := Lib.hid (HB07.out.trans (HB712.out.mono HB07.out.size))
          obtain ⟨Ac, cc, ec, _, _, _, hrc⟩ := HO312.out.row.form
          subst ec
          have hlc : Lc.length = La.length := by
            have := congrArg List.length HDE.out
            rw [List.length_map, List.length_map] at this
            exact this
          have HWC := Lib.hid (fun (W : World) (hb : Below w12.heap.size w12 W) => swhole_any Ac Lc.length cc Lc W ((hrc.below hb).more hb.size) (fun e he => (HO312.out.el e he).v.below hb) (by omega) 1048576 (by omega) (fun k _ y hy => Strm.body_few (es := Lc.map EvE.x) (by rw [HDE.out]; exact HSA.out) k y (by rw [← List.map_take]; exact hy)))
          clear hrc hlc
          have hne : ((ra : Int) == (ra : Int)) = true := by simp
          go_wp2_with (first
            | (go_at_call 12; have h5 := HB13w.out; go_must (refine (HWC.out _ h5).mono ?_; rintro _ w14 ⟨v14, M14, rfl, hw14, hM14⟩; have hlm := congrArg List.length (hM14.trans ((congrArg Strm.whole HDE.out).trans HM13.out.symm)); rw [List.length_map, List.length_map] at hlm; obtain ⟨A14, c14, e14, _, _, _, hr14⟩ := hw14.row.form; rw [hlm] at e14 hr14; subst e14; have HR14 := Lib.hid hr14; have HW14 := Lib.hid hw14; have HM14 := Lib.hid hM14; clear hr14 hw14 hM14 hlm h5))
            | (go_at_call 12; go_must (refine (HWA.out _ HBK.out).mono ?_; rintro _ w13 ⟨v13, M13, rfl, hw13, hM13⟩; obtain ⟨A13, c13, rfl, _, _, _, hr13⟩ := hw13.row.form; have HB13w := Lib.hid hw13.bl; have HW13 := Lib.hid hw13; have HR13 := Lib.hid hr13; have HM13 := Lib.hid hM13; clear hr13 hw13 hM13))
            | (go_at_call 11; go_must (refine (sboth_any A13 A14 M13.length c13 c14 M13 M14 _ (HM13.out.trans ((congrArg Strm.whole HDE.out).symm.trans HM14.out.symm)) ((HR13.out.below HW14.out.bl).more HW14.out.bl.size) HR14.out (fun e he => (HW13.out.el e he).below HW14.out.bl) HW14.out.el (by have := HLN.out; rw [← HM13.out, List.length_map] at this; omega) (mem_x HM13.out _ HSZ.out)).mono ?_; rintro _ w15 ⟨rfl, hb15⟩; have HB15 := Lib.hid ((HB13w.out.trans (HW14.out.bl.mono HB13w.out.size)).trans (hb15.mono (by have := HB13w.out.size; have := HW14.out.bl.size; omega))); clear hb15))
            | fail)
          go_ret
          exact ⟨rfl, HBF.out.trans (HB15.out.mono HBF.out.size)⟩
end Go.Proofs.YtklmpadcfioefaaDoor
