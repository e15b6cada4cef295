/- the law HeadOwn, its last return (printed by gen_own.py). Conditions: sizes. -/
import Derived.Test.YtabecgdaiakgiaaDoorOne
namespace Go.Proofs.YtabecgdaiakgiaaDoor
open Go.RowKit

theorem row_rdE {w : World} {base sz n m c : Nat} {A : Option Addr} {xs : List Value} (h : Row w base sz (.slice A n c) m xs) (e : n = m := by rfl) : Rd w w.heap.size sz A n xs := by
  subst e
  obtain ⟨_, _, e1, _, _, _, r⟩ := h.form
  injection e1 with e1 _ _
  subst e1
  exact r
/-- what stands behind the first n statements -/
def dropSeq : Nat → Code → Code
  | 0, c => c
  | n + 1, .seq _ b => dropSeq n b
  | _ + 1, c => c
noncomputable def own32 : Code := dropSeq 16 (Tryd.f6.body.getD .skip)
set_option maxHeartbeats 8000000 in
set_option maxRecDepth 100000 in
theorem own_end (h : Hd) (AL : Option Addr) (nl cl : Nat) (vs L : List ByteArray) (AY : Option Addr) (cy : Nat) (V : List ByteArray) (AW : Option Addr) (cw : Nat) (X : Bs) (AD : Option Addr) (cd en : Nat) (A6 A24 A9 A14 : Option Addr) (c6 c24 c9 c14 b5 b6 b24 : Nat) (w W : World)
    (hB : Below w.heap.size w W) (hvp : Var W b24 24 [.bool h.rq, .string ⟨h.m.toArray⟩, .string ⟨h.t.toArray⟩, .int .i64 (h.st : Int), .string ⟨h.rs.toArray⟩, .int .i64 (h.mn : Int), .slice A24 h.fs.length c24]) (hrp : Rd W W.heap.size 2 A24 h.fs.length (fieldsV (flB h.fs))) (hvb : Var W b6 24 [.bool h.rq, .string ⟨h.m.toArray⟩, .string ⟨h.t.toArray⟩, .int .i64 (h.st : Int), .string ⟨h.rs.toArray⟩, .int .i64 (h.mn : Int), .slice A6 h.fs.length c6]) (hrb : Rd W W.heap.size 2 A6 h.fs.length (fieldsV (flB h.fs)))
    (hry : Rd W W.heap.size 1 AY L.length (strsV L)) (hrw : Rd W W.heap.size 1 AW V.length (strsV V)) (hrd : Rd W W.heap.size 1 AD X.length (bytesV X)) (hrl : Rd W W.heap.size 1 AL nl (strsV vs)) (hb5 : b5 < W.heap.size) (hva : W.cell? ⟨b5, 6, none⟩ = some (.slice A9 (h.fs.length + 2) c9))
    (hL : L = listed vs) (hV : V = vals (flB h.fs) ⟨#[104, 111, 115, 116]⟩) (hX : en = 0 → X = textP h.up) (hll : L.length ≤ 16777216) (hvl : V.length ≤ 64) (hxl : X.length ≤ 16777216) (hnl : nl ≤ 16777216) (hvs : ∀ s ∈ vs, s.size ≤ 16777216) (htot : total vs ≤ 16777216)
    (hfew : h.fs.length ≤ 64) (hst : h.st ≤ 599) (hmn : h.mn ≤ 1) (hsz : h.m.length + h.t.length + h.rs.length ≤ 49152) (hfz : flSize (flB h.fs) ≤ 2097408)
    (z0 z2 z3 z4 z6 z8 z9 z12 z13 z15 z16 z19 z20 z22 z23 z24 z25 z26 z27 z28 z29 z30 z31 z32 z33 z34 z35 z36 z37 z38 z39 z40 z41 z42 z43 z44 z45 z46 z47 z48 z49 z50 z51 z52 z53 z54 z55 z56 z57 z58 z59 z60 z61 z62 z63 z64 z65 z66 z67 z68 z69 z70 z71 z72 z73 z74 z75 z76 z77 z78 z79 z80 z81 z82 z83 z84 z85 z86 z87 z88 z89 z90 z91 z92 z93 z94 z95 z96 z97 z98 z99 z100 z101 z102 z103 z104 z105 z106 z107 z108 z109 z110 z111 z112 z113 z114 z115 z116 z117 z118 z119 z120 z121 z122 z123 z124 z125 z126 z127 z128 z129 z130 z131 z132 z133 z134 z135 z136 z137 z138 z139 z140 z141 z142 z143 z144 z145 z146 z147 z148 z149 z150 z151 z152 z153 z154 z155 z156 z157 z158 z159 z160 z161 z162 z163 z164 z165 z166 z167 z168 z169 z170 z171 : Value) :
    Code.wp Tryd.prog own32 (bodyPost Tryd.prog Tryd.f6 fun e w' => e = .returned (.bool true) ∧ Below w.heap.size w w') ⟨#[z0, .slice AL nl cl, z2, z3, z4, .pointer (some ⟨b5, 0, none⟩), z6, .pointer (some ⟨b6, 0, none⟩), z8, z9, .slice A14 (L.length + 2) c14, .slice AY L.length cy, z12, z13, .slice AW V.length cw, z15, z16, .int .i64 (en : Int), .slice AD X.length cd, z19, z20, .pointer (some ⟨b24, 0, none⟩), z22, z23, z24, z25, z26, z27, z28, z29, z30, z31, z32, z33, z34, z35, z36, z37, z38, z39, z40, z41, z42, z43, z44, z45, z46, z47, z48, z49, z50, z51, z52, z53, z54, z55, z56, z57, z58, z59, z60, z61, z62, z63, z64, z65, z66, z67, z68, z69, z70, z71, z72, z73, z74, z75, z76, z77, z78, z79, z80, z81, z82, z83, z84, z85, z86, z87, z88, z89, z90, z91, z92, z93, z94, z95, z96, z97, z98, z99, z100, z101, z102, z103, z104, z105, z106, z107, z108, z109, z110, z111, z112, z113, z114, z115, z116, z117, z118, z119, z120, z121, z122, z123, z124, z125, z126, z127, z128, z129, z130, z131, z132, z133, z134, z135, z136, z137, z138, z139, z140, z141, z142, z143, z144, z145, z146, z147, z148, z149, z150, z151, z152, z153, z154, z155, z156, z157, z158, z159, z160, z161, z162, z163, z164, z165, z166, z167, z168, z169, z170, z171], []⟩ W := by
  have HB := Lib.hid hB
  have VP := Lib.hid hvp
  have RP := Lib.hid hrp
  have VB := Lib.hid hvb
  have RB := Lib.hid hrb
  have RY := Lib.hid hry
  have RW := Lib.hid hrw
  have RD := Lib.hid hrd
  have RL := Lib.hid hrl
  have VA := Lib.hid hva
  have HX := Lib.hid hX
  have HVR := Lib.hid (fun W hr => rValues_any h.rq ⟨h.m.toArray⟩ ⟨h.t.toArray⟩ (h.st : Int) ⟨h.rs.toArray⟩ (h.mn : Int) A6 h.fs.length c6 (flB h.fs) ⟨#[104, 111, 115, 116]⟩ W hr (by omega) (by decide) (fun f hf => by
    obtain ⟨k, hk, rfl⟩ := List.getElem_of_mem hf
    have := flSize_get (flB h.fs) k hk
    omega))
  rw [← hV] at HVR
  have HCR := Lib.hid (fun W h2 => rList_any AL nl cl vs W h2 hnl hvs htot)
  rw [← hL] at HCR
  have HTXT := Lib.hid (fun W hr => by
    have := rText_any h.rq ⟨h.m.toArray⟩ ⟨h.t.toArray⟩ (h.st : Int) ⟨h.rs.toArray⟩ (h.mn : Int) A6 h.fs.length c6 (flB h.fs) W hr (by omega) (isInt_small _ (by omega)) (isInt_small _ (by omega)) (by show h.m.length + h.t.length + h.rs.length ≤ _; omega) (by omega)
    rw [hiOf_up] at this
    exact this)
  unfold headV at HVR HTXT
  clear hB hvp hrp hvb hrb hry hrw hrd hrl hva hX hV hL hvs htot
  conv => arg 2; whnf
  dsimp only
  by_cases hen : en = 0
  · have hX := HX.out hen
    rw [← hX] at HTXT
    subst hen
    clear hX HX
    go_wp2_with (first
      | (refine wpList_load_mid rfl 24 (.tmp 21) rfl b24 0 rfl [.bool h.rq, .string ⟨h.m.toArray⟩, .string ⟨h.t.toArray⟩, .int .i64 (h.st : Int), .string ⟨h.rs.toArray⟩, .int .i64 (h.mn : Int), .slice A24 h.fs.length c24] _ VP.out.range Tryd.underlying24 rfl (by kernel_rfl) ?_)
      | (refine wpList_load_mid rfl 24 (.tmp 7) rfl b6 0 rfl [.bool h.rq, .string ⟨h.m.toArray⟩, .string ⟨h.t.toArray⟩, .int .i64 (h.st : Int), .string ⟨h.rs.toArray⟩, .int .i64 (h.mn : Int), .slice A6 h.fs.length c6] _ VB.out.range Tryd.underlying24 rfl (by kernel_rfl) ?_)
      | (go_at_call 33; (refine (rSame_any h.rq ⟨h.m.toArray⟩ ⟨h.t.toArray⟩ h.st ⟨h.rs.toArray⟩ h.mn A24 A6 h.fs.length c24 c6 (flB h.fs) _ RP.out RB.out (by omega)).mono ?_; rintro _ w25 ⟨rfl, hb25⟩; have H25 := Lib.hid hb25; clear hb25))
      | (go_at_call 38; (refine (HCR.out _ (RL.out.keeps H25.out)).mono ?_; rintro _ w26 ⟨v26, rfl, hrow26, hb26⟩; have H26 := Lib.hid (H25.out.trans (hb26.mono H25.out.size)); obtain ⟨A26, c26, rfl, _, _, _, rz26⟩ := hrow26.form; have RZ26 := Lib.hid rz26; clear hrow26 hb26 rz26))
      | (go_at_call_of 37 (Value.slice AY L.length cy); (refine (texts_any L AY A26 L.length cy c26 _ (RY.out.keeps H26.out) RZ26.out hll).mono ?_; rintro _ w27 ⟨rfl, hb27⟩; have H27 := Lib.hid (H26.out.trans (hb27.mono H26.out.size)); have VB27 := Lib.hid (VB.out.below_all H27.out); clear hb27))
      | (refine wpList_load_mid_g (by rfl) 24 (.tmp 7) rfl b6 0 rfl [.bool h.rq, .string ⟨h.m.toArray⟩, .string ⟨h.t.toArray⟩, .int .i64 (h.st : Int), .string ⟨h.rs.toArray⟩, .int .i64 (h.mn : Int), .slice A6 h.fs.length c6] _ VB27.out.range Tryd.underlying24 rfl (by kernel_rfl) ?_)
      | (go_at_call 39; (refine (HVR.out _ (RB.out.keeps H27.out)).mono ?_; rintro _ w28 ⟨v28, rfl, hrow28, hb28⟩; have H28 := Lib.hid (H27.out.trans (hb28.mono H27.out.size)); obtain ⟨A28, c28, rfl, _, _, _, rz28⟩ := hrow28.form; have RZ28 := Lib.hid rz28; clear hrow28 hb28 rz28))
      | (go_at_call_of 37 (Value.slice AW V.length cw); (refine (texts_any V AW A28 V.length cw c28 _ (RW.out.keeps H28.out) RZ28.out (by omega)).mono ?_; rintro _ w30 ⟨rfl, hb30⟩; have H30 := Lib.hid (H28.out.trans (hb30.mono H28.out.size)); have VB30 := Lib.hid (VB.out.below_all H30.out); have a36 : w30.cell? ⟨b5, 6, none⟩ = some (.slice A9 (h.fs.length + 2) c9) := (H30.out.cell (p := ⟨b5, 6, none⟩) hb5).trans VA.out; clear hb30))
      | (refine wpList_load_mid_g (by rfl) 24 (.tmp 7) rfl b6 0 rfl [.bool h.rq, .string ⟨h.m.toArray⟩, .string ⟨h.t.toArray⟩, .int .i64 (h.st : Int), .string ⟨h.rs.toArray⟩, .int .i64 (h.mn : Int), .slice A6 h.fs.length c6] _ VB30.out.range Tryd.underlying24 rfl (by kernel_rfl) ?_)
      | (go_at_call 41; (refine (HTXT.out _ (RB.out.keeps H30.out)).mono ?_; rintro _ w31 ⟨v31, rfl, hrow31, hb31⟩; have H31 := Lib.hid (H30.out.trans (hb31.mono H30.out.size)); obtain ⟨A31, c31, rfl, _, _, _, rt31⟩ := hrow31.form; have RT31 := Lib.hid rt31; clear hrow31 hb31 rt31))
      | (go_at_call 40; (refine (same_any AD A31 X.length cd c31 X _ (RD.out.keeps H31.out) RT31.out hxl).mono ?_; rintro _ w32 ⟨rfl, hb32⟩; have H32 := Lib.hid (H31.out.trans (hb32.mono H31.out.size)); clear hb32))
      | fail)
    go_ret
    exact ⟨rfl, HB.out.trans (H32.out.mono HB.out.size)⟩
  · have hen' : ((en : Int) != 0) = true := by simpa using hen
    clear hen HX HTXT
    go_wp2_with (first
      | (refine wpList_load_mid rfl 24 (.tmp 21) rfl b24 0 rfl [.bool h.rq, .string ⟨h.m.toArray⟩, .string ⟨h.t.toArray⟩, .int .i64 (h.st : Int), .string ⟨h.rs.toArray⟩, .int .i64 (h.mn : Int), .slice A24 h.fs.length c24] _ VP.out.range Tryd.underlying24 rfl (by kernel_rfl) ?_)
      | (refine wpList_load_mid rfl 24 (.tmp 7) rfl b6 0 rfl [.bool h.rq, .string ⟨h.m.toArray⟩, .string ⟨h.t.toArray⟩, .int .i64 (h.st : Int), .string ⟨h.rs.toArray⟩, .int .i64 (h.mn : Int), .slice A6 h.fs.length c6] _ VB.out.range Tryd.underlying24 rfl (by kernel_rfl) ?_)
      | (go_at_call 33; (refine (rSame_any h.rq ⟨h.m.toArray⟩ ⟨h.t.toArray⟩ h.st ⟨h.rs.toArray⟩ h.mn A24 A6 h.fs.length c24 c6 (flB h.fs) _ RP.out RB.out (by omega)).mono ?_; rintro _ w25 ⟨rfl, hb25⟩; have H25 := Lib.hid hb25; clear hb25))
      | (go_at_call 38; (refine (HCR.out _ (RL.out.keeps H25.out)).mono ?_; rintro _ w26 ⟨v26, rfl, hrow26, hb26⟩; have H26 := Lib.hid (H25.out.trans (hb26.mono H25.out.size)); obtain ⟨A26, c26, rfl, _, _, _, rz26⟩ := hrow26.form; have RZ26 := Lib.hid rz26; clear hrow26 hb26 rz26))
      | (go_at_call_of 37 (Value.slice AY L.length cy); (refine (texts_any L AY A26 L.length cy c26 _ (RY.out.keeps H26.out) RZ26.out hll).mono ?_; rintro _ w27 ⟨rfl, hb27⟩; have H27 := Lib.hid (H26.out.trans (hb27.mono H26.out.size)); have VB27 := Lib.hid (VB.out.below_all H27.out); clear hb27))
      | (refine wpList_load_mid_g (by rfl) 24 (.tmp 7) rfl b6 0 rfl [.bool h.rq, .string ⟨h.m.toArray⟩, .string ⟨h.t.toArray⟩, .int .i64 (h.st : Int), .string ⟨h.rs.toArray⟩, .int .i64 (h.mn : Int), .slice A6 h.fs.length c6] _ VB27.out.range Tryd.underlying24 rfl (by kernel_rfl) ?_)
      | (go_at_call 39; (refine (HVR.out _ (RB.out.keeps H27.out)).mono ?_; rintro _ w28 ⟨v28, rfl, hrow28, hb28⟩; have H28 := Lib.hid (H27.out.trans (hb28.mono H27.out.size)); obtain ⟨A28, c28, rfl, _, _, _, rz28⟩ := hrow28.form; have RZ28 := Lib.hid rz28; clear hrow28 hb28 rz28))
      | (go_at_call_of 37 (Value.slice AW V.length cw); (refine (texts_any V AW A28 V.length cw c28 _ (RW.out.keeps H28.out) RZ28.out (by omega)).mono ?_; rintro _ w30 ⟨rfl, hb30⟩; have H30 := Lib.hid (H28.out.trans (hb30.mono H28.out.size)); have VB30 := Lib.hid (VB.out.below_all H30.out); have a36 : w30.cell? ⟨b5, 6, none⟩ = some (.slice A9 (h.fs.length + 2) c9) := (H30.out.cell (p := ⟨b5, 6, none⟩) hb5).trans VA.out; clear hb30))
      | (refine wpList_load_mid_g (by rfl) 24 (.tmp 7) rfl b6 0 rfl [.bool h.rq, .string ⟨h.m.toArray⟩, .string ⟨h.t.toArray⟩, .int .i64 (h.st : Int), .string ⟨h.rs.toArray⟩, .int .i64 (h.mn : Int), .slice A6 h.fs.length c6] _ VB30.out.range Tryd.underlying24 rfl (by kernel_rfl) ?_)
      | (go_at_call 41; (refine (HTXT.out _ (RB.out.keeps H30.out)).mono ?_; rintro _ w31 ⟨v31, rfl, hrow31, hb31⟩; have H31 := Lib.hid (H30.out.trans (hb31.mono H30.out.size)); obtain ⟨A31, c31, rfl, _, _, _, rt31⟩ := hrow31.form; have RT31 := Lib.hid rt31; clear hrow31 hb31 rt31))
      | (go_at_call 40; (refine (same_any AD A31 X.length cd c31 X _ (RD.out.keeps H31.out) RT31.out hxl).mono ?_; rintro _ w32 ⟨rfl, hb32⟩; have H32 := Lib.hid (H31.out.trans (hb32.mono H31.out.size)); clear hb32))
      | fail)
    go_ret
    exact ⟨rfl, HB.out.trans (H30.out.mono HB.out.size)⟩
end Go.Proofs.YtabecgdaiakgiaaDoor
