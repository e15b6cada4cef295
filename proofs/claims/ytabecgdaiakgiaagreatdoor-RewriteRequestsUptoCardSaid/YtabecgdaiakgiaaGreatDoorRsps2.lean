/- law RewriteResponses from its comparison on (printed by gen_rsps.py). Conditions: sizes. -/
import Derived.Test.YtabecgdaiakgiaaGreatDoorPRsp3
import Derived.Test.YtabecgdaiakgiaaGreatDoorVLent
namespace Go.Proofs.YtabecgdaiakgiaaGreatDoor
open Go.RowKit

/-- what stands behind the first n statements -/
def dropS : Nat → Code → Code
  | 0, c => c
  | n + 1, .seq _ b => dropS n b
  | _ + 1, c => c
noncomputable def rsp4 : Code := dropS 4 (Tryz.f3.body.getD .skip)
theorem ask_head {w : World} {b : Nat} {a0 a1 a2 a3 a4 a5 a6 a7 a8 a9 a10 a11 : Value} (h : Var w b 26 [a0, a1, a2, a3, a4, a5, a6, a7, a8, a9, a10, a11]) : World.rangeAt w b 0 [a0, a1, a2, a3, a4, a5, a6] := by
  intro j v hj
  match j, hj with
  | 0, hj => exact h.range 0 v hj
  | 1, hj => exact h.range 1 v hj
  | 2, hj => exact h.range 2 v hj
  | 3, hj => exact h.range 3 v hj
  | 4, hj => exact h.range 4 v hj
  | 5, hj => exact h.range 5 v hj
  | 6, hj => exact h.range 6 v hj
  | _ + 7, hj => cases hj
theorem Row.rd {w : World} {B n c : Nat} {A : Option Addr} {xs : List Value} {sz : Nat} (h : Row w B sz (.slice A n c) n xs) : Rd w w.heap.size sz A n xs := by
  obtain ⟨A', c', e, _, _, _, rd⟩ := h.form
  injection e with e1 e2 e3
  subst e1
  exact rd
theorem Row.there {w : World} {B n c g o k : Nat} {xs : List Value} (h : Row w B 2 (.slice (some ⟨g, o, none⟩) n c) n xs) (hk : k < n) : w.there g (o + k * 2) 2 := by
  obtain ⟨g', o', e, _, _, hc, hf⟩ := h.own (by omega)
  injection e with e
  injection e with e1 e2 _
  subst e1 e2
  have hl := h.1
  intro x hx
  rw [show o + k * 2 + x = o + (k * 2 + x) by omega]
  constructor
  · rw [hc (k * 2 + x) _ (List.getElem?_eq_getElem (by omega))]; rfl
  · exact hf _ (by omega)
set_option maxHeartbeats 4000000 in
set_option maxRecDepth 100000 in
theorem rsps_tail (rq : Bool) (mt t : ByteArray) (st : Int) (rs : ByteArray) (mn : Int) (A : Option Addr) (n c : Nat) (fs : List Fl) (fr ln : Int) (host : ByteArray) (cl : Bool) (mi : Int) (w wk : World) (p0 : Bool) (p1 p2 : ByteArray) (p3 : Int) (p4 : ByteArray) (p5 : Int) (Rl : List Fl) (G : Bool) (F : Int) (bt g o ct b4 c4 b7 c7 BT B4 : Nat) (A4 A7 : Option Addr)
    (hB : Below w.heap.size w wk) (hV : Var wk w.heap.size 26 [.bool rq, .string mt, .string t, .int .i64 st, .string rs, .int .i64 mn, .slice A n c, .int .i64 fr, .int .i64 ln, .string host, .bool cl, .int .i64 mi]) (hR : Rd wk wk.heap.size 2 A n (fieldsV fs))
    (hvt : Var wk bt 24 [.bool rq, .string mt, .string t, .int .i64 st, .string rs, .int .i64 mn, .slice (some ⟨g, o, none⟩) n ct]) (hrt : Row wk BT 2 (.slice (some ⟨g, o, none⟩) (n + 1) ct) (n + 1) (fieldsV (fs ++ [(sMark, ⟨#[]⟩)]))) (hct : n + 1 ≤ ct) (htg : g ≠ bt) (hBT : w.heap.size ≤ BT)
    (hv4 : Var wk b4 24 [.bool p0, .string p1, .string p2, .int .i64 p3, .string p4, .int .i64 p5, .slice A4 Rl.length c4]) (hr4 : Row wk B4 2 (.slice A4 Rl.length c4) Rl.length (fieldsV Rl)) (hg4 : g < B4) (hb4 : g ≠ b4)
    (hv7 : Var wk b7 24 [.bool p0, .string p1, .string p2, .int .i64 p3, .string p4, .int .i64 p5, .slice A7 Rl.length c7]) (hr7 : Row wk B4 2 (.slice A7 Rl.length c7) Rl.length (fieldsV Rl)) (hb7 : g ≠ b7)
    (hn : n ≤ 1048576) (hnp : Rl.length ≤ 16777216)
    (z0 z2 z10 z11 z12 z13 z14 z15 z16 z17 z18 z19 z20 z21 z22 z23 z24 z25 z26 z27 z28 z29 z30 z31 z32 z33 z34 z35 z36 z37 z38 z39 z40 z41 z42 z43 z44 z45 z46 z47 z48 z49 z50 z51 z52 z53 z54 z55 z56 z57 z58 z59 z60 z61 z62 z63 z64 z65 z66 z67 z68 z69 z70 z71 z72 z73 z74 z75 z76 z77 z78 : Value) :
    Code.wp Tryz.prog rsp4 (bodyPost Tryz.prog Tryz.f3 fun e w' => e = .returned (.bool true) ∧ Below w.heap.size w w') ⟨#[z0, .pointer (some ⟨w.heap.size, 0, none⟩), z2, .pointer (some ⟨bt, 0, none⟩), .pointer (some ⟨b4, 0, none⟩), .bool G, .int .i64 F, .pointer (some ⟨b7, 0, none⟩), .bool G, .int .i64 F, z10, z11, z12, z13, z14, z15, z16, z17, z18, z19, z20, z21, z22, z23, z24, z25, z26, z27, z28, z29, z30, z31, z32, z33, z34, z35, z36, z37, z38, z39, z40, z41, z42, z43, z44, z45, z46, z47, z48, z49, z50, z51, z52, z53, z54, z55, z56, z57, z58, z59, z60, z61, z62, z63, z64, z65, z66, z67, z68, z69, z70, z71, z72, z73, z74, z75, z76, z77, z78], []⟩ wk := by
  have HB := Lib.hid hB
  have HV := Lib.hid hV
  have HR := Lib.hid hR
  have HVT := Lib.hid hvt
  have HRT := Lib.hid hrt
  have HV4 := Lib.hid hv4
  have HR4 := Lib.hid hr4
  have HV7 := Lib.hid hv7
  have HR7 := Lib.hid hr7
  have HS := Lib.hid (fun W h1 h2 => vsame_any p0 p1 p2 p3 p4 p5 A4 A7 Rl.length c4 c7 Rl W h1 h2 hnp)
  have HK := Lib.hid (fun W h1 h2 => vkept_any rq mt t st rs mn g o A n ct c fs W hct h1 h2 (by omega))
  unfold headV at HS HK
  clear hB hV hR hvt hrt hv4 hr4 hv7 hr7
  conv => arg 2; whnf
  go_upto_region 6 with (first
    | (refine wpList_load_mid_g (by rfl) 24 (.tmp 4) rfl b4 0 rfl [.bool p0, .string p1, .string p2, .int .i64 p3, .string p4, .int .i64 p5, .slice A4 Rl.length c4] _ HV4.out.range Tryz.underlying24 rfl (by kernel_rfl) ?_)
    | (refine wpList_load_mid_g (by rfl) 24 (.tmp 7) rfl b7 0 rfl [.bool p0, .string p1, .string p2, .int .i64 p3, .string p4, .int .i64 p5, .slice A7 Rl.length c7] _ HV7.out.range Tryz.underlying24 rfl (by kernel_rfl) ?_)
    | (go_at_call 9; refine (HS.out _ HR4.out.rd HR7.out.rd).mono ?_; rintro _ wa ⟨rfl, hba⟩; have HBA := Lib.hid hba; have HVTa := Lib.hid (HVT.out.below_all hba); have HVa := Lib.hid (HV.out.below_all hba); clear hba)
    | (refine wpList_load_mid_g (by rfl) 24 (.tmp 3) rfl bt 0 rfl [.bool rq, .string mt, .string t, .int .i64 st, .string rs, .int .i64 mn, .slice (some ⟨g, o, none⟩) n ct] _ HVTa.out.range Tryz.underlying24 rfl (by kernel_rfl) ?_)
    | (refine wpList_load_mid_g (by rfl) 24 (.tmp 59) rfl w.heap.size 0 rfl [.bool rq, .string mt, .string t, .int .i64 st, .string rs, .int .i64 mn, .slice A n c] _ (ask_head HVa.out) Tryz.underlying24 rfl (by kernel_rfl) ?_)
    | (go_at_call 10; refine (HK.out _ (HRT.out.below_all HBA.out).rd (HR.out.keeps HBA.out)).mono ?_; rintro _ wb ⟨rfl, hbb⟩)
    | fail)
  have zk := HB.out.size
  have HBB := HBA.out.trans (hbb.mono HBA.out.size)
  have hgl := (HRT.out.lt g rfl).1
  have HZB := Lib.hid (HB.out.trans (HBB.mono zk))
  have HVTb := Lib.hid (HVT.out.below_all HBB)
  have HRTb := Lib.hid (HRT.out.below_all HBB)
  have HV4b := Lib.hid (HV4.out.below_all HBB)
  have HR4b := Lib.hid (HR4.out.below_all HBB)
  have HV7b := Lib.hid (HV7.out.below_all HBB)
  have HR7b := Lib.hid (HR7.out.below_all HBB)
  clear HBB hbb HBA HB HV HR HVT HRT HV4 HR4 HV7 HR7 HVTa HVa HK
  go_wp2
  go_loopw [10] (fun i wr => ∃ k : Nat, k ≤ n ∧ i = .int .i64 k ∧ (∃ xs, Row wr BT 2 (.slice (some ⟨g, o, none⟩) (n + 1) ct) (n + 1) xs) ∧ wb.grownBy wr (some g)) (fun i _ => n - (intOf i).toNat)
  case atStart => exact ⟨0, Nat.zero_le _, rfl, ⟨_, HRTb.out⟩, World.grownBy.refl _ _⟩
  case round =>
    obtain ⟨k, hk, rfl, ⟨xs, hrow⟩, hgr⟩ := hrel
    have HG := Lib.hid hgr
    have HRW := Lib.hid hrow
    have VT := HVTb.out.grown hgr (fun e => htg (Option.some.inj e))
    have c6 := VT.cell (j := 6) rfl
    clear hgr hrow
    by_cases hlt : k < n
    · have HTH := Lib.hid (HRW.out.there (k := k) (by omega))
      go_wp2_with (first
        | (refine wpList_store_mid rfl 35 (.tmp 75) (.tmp 74) rfl g (o + k * 2) #[.string ⟨#[103, 111, 110, 101]⟩, .string ⟨#[]⟩] rfl rfl HTH.out (by kernel_rfl) (by simp [Value.oneCell']) ?_)
        | fail)
      obtain ⟨r3, g3⟩ := Row.setCells [.string ⟨#[103, 111, 110, 101]⟩, .string ⟨#[]⟩] (k * 2) wr xs HRW.out (by have := HRW.out.1; simp; omega)
      have HR3 := Lib.hid r3
      have HG3 := Lib.hid (World.grownBy.comp HG.out g3)
      clear r3 g3
      go_roundw
      case rel => exact ⟨k + 1, by omega, by go_num, ⟨_, HR3.out⟩, HG3.out⟩
      case measure => simp [intOf]; omega
    · have HV4r := Lib.hid (HV4b.out.grown HG.out (fun e => hb4 (Option.some.inj e)))
      have HV7r := Lib.hid (HV7b.out.grown HG.out (fun e => hb7 (Option.some.inj e)))
      have HR4r := Lib.hid (HR4b.out.kept HG.out (Or.inr (fun e => by have := (HR4b.out.lt _ e).1; omega)))
      have HR7r := Lib.hid (HR7b.out.kept HG.out (Or.inr (fun e => by have := (HR7b.out.lt _ e).1; omega)))
      have HZR := Lib.hid (Below.grown HZB.out HG.out HZB.out.size (fun q hq => by injection hq with hq; omega))
      clear HV4b HV7b HR4b HR7b
      go_wp2_with (first
        | (refine wpList_load_mid_g (by rfl) 24 (.tmp 4) rfl b4 0 rfl [.bool p0, .string p1, .string p2, .int .i64 p3, .string p4, .int .i64 p5, .slice A4 Rl.length c4] _ HV4r.out.range Tryz.underlying24 rfl (by kernel_rfl) ?_)
        | (refine wpList_load_mid_g (by rfl) 24 (.tmp 7) rfl b7 0 rfl [.bool p0, .string p1, .string p2, .int .i64 p3, .string p4, .int .i64 p5, .slice A7 Rl.length c7] _ HV7r.out.range Tryz.underlying24 rfl (by kernel_rfl) ?_)
        | (go_at_call 9; refine (HS.out _ HR4r.out.rd HR7r.out.rd).mono ?_; rintro _ wz ⟨rfl, hbz⟩)
        | fail)
      go_ret
      exact ⟨rfl, HZR.out.trans (hbz.mono HZR.out.size)⟩
end Go.Proofs.YtabecgdaiakgiaaGreatDoor
