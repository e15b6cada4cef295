/- the law HeadOwn. Conditions: sizes, the library's variables. -/
import Derived.Test.YtabecgdaiakgiaaDoorOwnE
import Derived.Deep.RegionHeld3
namespace Go.Proofs.YtabecgdaiakgiaaDoor
open Go.RowKit

/-- a row stays where only another row's block has turned -/
theorem Row.aside {w w' : World} {base sz n : Nat} {v u : Value} {xs : List Value} (h : Row w base sz v n xs) (hg : w.grownBy w' u.ownBlock) (hne : ∀ k, v.ownBlock = some k → u.ownBlock ≠ some k) : Row w' base sz v n xs :=
  h.kept hg (by
    cases hv : v.ownBlock with
    | none => exact Or.inl rfl
    | some k => exact Or.inr (fun e => hne k hv e.symm))
theorem grow_drewN (w : World) (q : Nat) (row : Option Nat) : w.grownBy (w.drewN q) row := ⟨rfl, rfl, rfl, Nat.le_refl _, fun _ _ _ => rfl⟩
theorem flSize_mem {fs : List Fl} {f : Fl} (h : f ∈ fs) : f.1.size ≤ flSize fs := by
  obtain ⟨k, hk, rfl⟩ := List.getElem_of_mem h
  have := flSize_get fs k hk
  omega
theorem infoStr : (Tryd.prog.info? 9).map (fun i => (i.zero, i.size, i.bytes)) = some (some (.string ⟨#[]⟩), 1, 16) := info9
def spoilt : ByteArray := ⟨#[115, 112, 111, 105, 108, 116]⟩
theorem strs_mix (L : List ByteArray) (k : Nat) (h : k < L.length) : (strsV (List.replicate k spoilt ++ L.drop k))[k]? = some (.string L[k]) := by
  unfold strsV
  rw [List.getElem?_map, List.getElem?_append_right (by simp)]
  simp [h]
theorem strs_mix_len (L : List ByteArray) (k : Nat) (h : k ≤ L.length) : (strsV (List.replicate k spoilt ++ L.drop k)).length = L.length := by
  unfold strsV; simp; omega
theorem strs_mix_set (L : List ByteArray) (k : Nat) (h : k < L.length) : (strsV (List.replicate k spoilt ++ L.drop k)).set k (.string spoilt) = strsV (List.replicate (k + 1) spoilt ++ L.drop (k + 1)) := by
  unfold strsV
  have e : L.drop k = L[k] :: L.drop (k + 1) := List.drop_eq_getElem_cons h
  have z : k - (List.map Value.string (List.replicate k spoilt)).length = 0 := by simp
  rw [List.map_append, List.set_append_right _ _ (by simp), z, e, List.map_cons, List.set_cons_zero, List.replicate_succ', List.map_append, List.map_append, List.append_assoc]
  rfl

set_option maxHeartbeats 8000000 in
set_option maxRecDepth 100000 in
theorem own_any (A : Option Addr) (n c : Nat) (l : Bs) (AL : Option Addr) (nl cl : Nat) (vs : List ByteArray) (w : World) (hsh : w.ShapedOpen Tryd.prog) (htab : Tab w) (hA : A = none → n = 0) (hrd : Rd w w.heap.size 1 A n (bytesV l)) (hn : n ≤ 16777216)
    (hrl : Rd w w.heap.size 1 AL nl (strsV vs)) (hnl : nl ≤ 16777216) (hvs : ∀ s ∈ vs, s.size ≤ 16777216) (htot : total vs ≤ 16777216) :
    Calls Tryd.prog 6 #[.slice A n c, .slice AL nl cl] w fun e w' => e = .returned (.bool true) ∧ Below w.heap.size w w' := by
  have hlen : l.length = n := by have := hrd.1; rw [bytesV_len] at this; omega
  obtain ⟨j0, hj0, jz0, jz1, jz2⟩ := info_parts infoU8
  obtain ⟨f0, hf0, fz0, fz1, fz2⟩ := info_parts infoField
  obtain ⟨s0, hs0, sz0, sz1, sz2⟩ := info_parts infoStr
  obtain ⟨h, e0, hp⟩ : ∃ h e0, parseP l true = (h, e0) := ⟨_, _, rfl⟩
  have hfew := parse_few hp
  have hsizes := parse_sizes hp
  have HP := Lib.hid hp
  have HS := Lib.hid hsh
  have HT := Lib.hid htab
  have HH := Lib.hid (fun A c W h1 h2 h3 => hWrite_hd hp A c W h1 h2 h3)
  clear hp hsh htab
  go_enter Tryd.func6, Tryd.ntmps6
  go_upto_region 3 with (go_at_call 31; go_must (refine (awake_any _ HS.out).mono ?_; rintro _ w1 ⟨rfl, hb1⟩))
  have hz1 := hb1.size
  have hrdw1 := (hrd.below hb1).more hz1
  have HSw1 : Hid (w1.ShapedOpen Tryd.prog) := Lib.hid (shaped_below HS.out hb1)
  have HT1 := Lib.hid (HT.out.below hb1)
  have HRL := Lib.hid hrl
  have HRD := Lib.hid hrd
  clear hrl hrd
  go_upto_region 4 with (first
    | (at_builtin; go_must (refine wpList_app _ rfl (.tmp 26) (.tmp 27) 32 32 rfl w1.heap.size 5 j0 (.int .u8 0) 1 1 Tryd.underlying32 hj0 jz0 jz1 jz2 rfl (.slice (some ⟨w1.heap.size, 0, none⟩) 0 0) 0 [] rfl (empty_row w1 _ 1) _ n (bytesV l) rfl (Src.slice Tryd.underlying32 (hrdw1.alloc (Nat.le_refl _) _) hA (bytesV_one l)) (by omega) (by omega) (by omega) (by simp <;> omega) ?_); go_must (intro v2 w2 hrow2 hg2 _; rw [List.nil_append, Nat.zero_add] at hrow2; obtain ⟨A2, c2, rfl, _, _, hA2, hrd2⟩ := hrow2.form; have hb2 : Below w1.heap.size w1 w2 := Below.app ((Below.refl _ _).alloc (Nat.le_refl _) _) (empty_row w1 5 1) hg2 (by omega) (by simp <;> omega); have HS2 : Hid (w2.ShapedOpen Tryd.prog) := Lib.hid (shaped_below HSw1.out hb2)))
    | (go_at_call 32; go_must (refine (hParse_lit A2 n c2 l true _ HS2.out (fun e => (hA2 e).1) hrd2 hn HP.out).mono ?_; rintro _ w3 ⟨A3, c3, rfl, hrow3, hb3⟩))
    | (refine wpList_put rfl 24 (.tmp 5) (.tmp 30) rfl w3.heap.size rfl (Var.new w3 24 [.bool false, .string ⟨#[]⟩, .string ⟨#[]⟩, .int .i64 0, .string ⟨#[]⟩, .int .i64 0, .slice none 0 0]) [.bool h.rq, .string ⟨h.m.toArray⟩, .string ⟨h.t.toArray⟩, .int .i64 (h.st : Int), .string ⟨h.rs.toArray⟩, .int .i64 (h.mn : Int), .slice A3 h.fs.length c3] rfl rfl (by kernel_rfl) (by simp [Value.oneCell']) ?_; intro w4 hvw4 hgw4 hsw4)
    | fail)
  have hz2 := hb2.size
  have hz3 := hb3.size
  have hz4 : w3.heap.size < w4.heap.size := by have := put_size hsw4; omega
  have bx4 : Below w2.heap.size w2 w4 := Below.put hb3 hz3 hgw4
  have by4 : Below w1.heap.size w1 w4 := hb2.trans (bx4.mono hz2)
  have R4 := hrow3.put hgw4
  have V4 := hvw4
  have K4 : ∀ k, (Value.slice A3 h.fs.length c3).ownBlock = some k → w1.heap.size ≤ k ∧ k < w3.heap.size := fun k hk => ⟨by have := (hrow3.lt k hk).1; omega, (hrow3.lt k hk).2⟩
  clear hrow2 hg2 hrd2 hb2 hA2 hrow3 hb3 hvw4 hgw4 hsw4 bx4
  have hrdw4 := hrdw1.keeps by4
  have HSw4 : Hid (w4.ShapedOpen Tryd.prog) := Lib.hid (shaped_below HSw1.out by4)
  go_upto_region 5 with (first
    | (at_builtin; go_must (refine wpList_app _ rfl (.tmp 33) (.tmp 34) 32 32 rfl w4.heap.size 5 j0 (.int .u8 0) 1 1 Tryd.underlying32 hj0 jz0 jz1 jz2 rfl (.slice (some ⟨w4.heap.size, 0, none⟩) 0 0) 0 [] rfl (empty_row w4 _ 1) _ n (bytesV l) rfl (Src.slice Tryd.underlying32 (hrdw4.alloc (Nat.le_refl _) _) hA (bytesV_one l)) (by omega) (by omega) (by omega) (by simp <;> omega) ?_); go_must (intro v5 w5 hrow5 hg5 _; rw [List.nil_append, Nat.zero_add] at hrow5; obtain ⟨A5, c5, rfl, _, _, hA5, hrd5⟩ := hrow5.form; have hb5 : Below w4.heap.size w4 w5 := Below.app ((Below.refl _ _).alloc (Nat.le_refl _) _) (empty_row w4 5 1) hg5 (by omega) (by simp <;> omega); have HS5 : Hid (w5.ShapedOpen Tryd.prog) := Lib.hid (shaped_below HSw4.out hb5)))
    | (go_at_call 32; go_must (refine (hParse_lit A5 n c5 l true _ HS5.out (fun e => (hA5 e).1) hrd5 hn HP.out).mono ?_; rintro _ w6 ⟨A6, c6, rfl, hrow6, hb6⟩))
    | (refine wpList_put rfl 24 (.tmp 7) (.tmp 37) rfl w6.heap.size rfl (Var.new w6 24 [.bool false, .string ⟨#[]⟩, .string ⟨#[]⟩, .int .i64 0, .string ⟨#[]⟩, .int .i64 0, .slice none 0 0]) [.bool h.rq, .string ⟨h.m.toArray⟩, .string ⟨h.t.toArray⟩, .int .i64 (h.st : Int), .string ⟨h.rs.toArray⟩, .int .i64 (h.mn : Int), .slice A6 h.fs.length c6] rfl rfl (by kernel_rfl) (by simp [Value.oneCell']) ?_; intro w7 hvw7 hgw7 hsw7)
    | fail)
  have hz5 := hb5.size
  have hz6 := hb6.size
  have hz7 : w6.heap.size < w7.heap.size := by have := put_size hsw7; omega
  have bx7 : Below w5.heap.size w5 w7 := Below.put hb6 hz6 hgw7
  have by7 : Below w4.heap.size w4 w7 := hb5.trans (bx7.mono hz5)
  have R7 := hrow6.put hgw7
  have V7 := hvw7
  have K7 : ∀ k, (Value.slice A6 h.fs.length c6).ownBlock = some k → w4.heap.size ≤ k ∧ k < w6.heap.size := fun k hk => ⟨by have := (hrow6.lt k hk).1; omega, (hrow6.lt k hk).2⟩
  clear hrow5 hg5 hrd5 hb5 hA5 hrow6 hb6 hvw7 hgw7 hsw7 bx7
  have hrd7 := hrdw4.keeps by7
  have V7a := V4.below_all by7
  have R7a := R4.below_all by7
  have b17 := by4.trans (by7.mono by4.size)
  have B7 := Lib.hid (hb1.trans (b17.mono hz1))
  have HS7 : Hid (w7.ShapedOpen Tryd.prog) := Lib.hid (shaped_below HSw1.out b17)
  have HT7 := Lib.hid (HT1.out.below b17)
  have hz7' := B7.out.size
  clear hrdw1 hrdw4 hrd7 V4 R4 by4 by7 b17 hb1
  obtain ⟨_, _, e1, _, _, _, ra⟩ := R7a.form
  injection e1 with e1 _ q1
  subst e1 q1
  obtain ⟨_, _, e1, _, _, _, rb⟩ := R7.form
  injection e1 with e1 _ q1
  subst e1 q1
  go_upto_region 7 with (first
    | (refine wpList_load_mid_g (by rfl) 24 (.tmp 5) rfl w3.heap.size 0 rfl [.bool h.rq, .string ⟨h.m.toArray⟩, .string ⟨h.t.toArray⟩, .int .i64 (h.st : Int), .string ⟨h.rs.toArray⟩, .int .i64 (h.mn : Int), .slice A3 h.fs.length c3] _ (V7a).range Tryd.underlying24 rfl (by kernel_rfl) ?_)
    | (refine wpList_load_mid_g (by rfl) 24 (.tmp 7) rfl w6.heap.size 0 rfl [.bool h.rq, .string ⟨h.m.toArray⟩, .string ⟨h.t.toArray⟩, .int .i64 (h.st : Int), .string ⟨h.rs.toArray⟩, .int .i64 (h.mn : Int), .slice A6 h.fs.length c6] _ (V7).range Tryd.underlying24 rfl (by kernel_rfl) ?_)
    | (go_at_call 33; go_must (refine (rSame_any h.rq ⟨h.m.toArray⟩ ⟨h.t.toArray⟩ h.st ⟨h.rs.toArray⟩ h.mn A3 A6 h.fs.length c3 c6 (flB h.fs) _ ra rb (by omega)).mono ?_; rintro _ w8 ⟨rfl, hb8⟩))
    | fail)
  have V8a := V7a.below_all hb8
  have R8a := R7a.below_all hb8
  have V8 := Lib.hid (V7.below_all hb8)
  have R8 := Lib.hid (R7.below_all hb8)
  have B8 := Lib.hid (B7.out.trans (hb8.mono hz7'))
  have hz8 := hb8.size
  clear V7a R7a V7 R7 B7 hb8 ra rb HS7 HT7
  go_wp2
  go_loopw [9] (fun i wr => ∃ (k : Nat) (xs : List Value), k ≤ h.fs.length ∧ i = .int .i64 k ∧ Row wr w2.heap.size 2 (.slice A3 h.fs.length c3) h.fs.length xs ∧ w8.grownBy wr (Value.slice A3 h.fs.length c3).ownBlock) (fun i _ => h.fs.length - (intOf i).toNat)
  case atStart => exact ⟨0, _, Nat.zero_le _, rfl, R8a, World.grownBy.refl _ _⟩
  case round =>
    obtain ⟨k, xs, hk, rfl, hrow, hgr⟩ := hrel
    have VA := V8a.grown hgr (fun e => by have := K4 _ e; omega)
    have a6 := VA.cell (j := 6) rfl
    have hzr := hgr.size
    have HR := Lib.hid hrow
    have HG := Lib.hid hgr
    by_cases hlt : k < h.fs.length
    · obtain ⟨g, o, rfl, hgb, hgl, hcell, hfro⟩ := hrow.own (by omega)
      have hxl : xs.length = h.fs.length * 2 := hrow.1
      obtain ⟨x0, hx0⟩ : ∃ u, xs[k * 2]? = some u := ⟨_, List.getElem?_eq_getElem (show k * 2 < xs.length by omega)⟩
      obtain ⟨x1, hx1⟩ : ∃ u, xs[k * 2 + 1]? = some u := ⟨_, List.getElem?_eq_getElem (show k * 2 + 1 < xs.length by omega)⟩
      have g0 := hcell (k * 2) _ hx0
      have g1 := hcell (k * 2 + 1) _ hx1
      have q0 := hfro (k * 2) (by omega)
      have q1 := hfro (k * 2 + 1) (by omega)
      have HXL := Lib.hid hxl
      rw [← Nat.add_assoc] at g1 q1
      clear hcell hfro hrow hgr hxl hx0 hx1
      go_wp2
      go_roundw
      case rel =>
        refine ⟨k + 1, _, by omega, by go_num, (HR.out.set (j := k * 2) (by rw [HXL.out]; omega)).set (j := k * 2 + 1) (by rw [List.length_set, HXL.out]; omega), World.grownBy.comp (World.grownBy.comp HG.out (World.grownBy.set _ ⟨g, o + k * 2, none⟩ _)) (World.grownBy.set _ ⟨g, o + k * 2 + 1, none⟩ _)⟩
      case measure => simp [intOf]; omega
    · clear hrow hgr
      go_upto_region 12 with (first
        | (at_builtin; go_must (refine wpList_app _ rfl (.tmp 61) (.tmp 64) 22 22 rfl w2.heap.size 48 f0 (.agg #[.string ⟨#[]⟩, .string ⟨#[]⟩]) 2 32 Tryd.underlying22 hf0 fz0 fz1 fz2 rfl (.slice A3 h.fs.length c3) h.fs.length xs rfl (HR.out.alloc _) _ 2 [.string ⟨#[]⟩, .string ⟨#[]⟩, .string ⟨#[]⟩, .string ⟨#[]⟩] rfl (Src.built [.string ⟨#[]⟩, .string ⟨#[]⟩, .string ⟨#[]⟩, .string ⟨#[]⟩] 48 Tryd.underlying22 rfl (by intro u hu; simp at hu; subst hu; rfl)) (by omega) (by omega) (by omega) (by simp; omega) ?_; intro v9 w9 hrow9 hg9 _; obtain ⟨A9, c9, rfl, _, _, _, _⟩ := hrow9.form; have VA9 := (VA.alloc (.cells #[.string ⟨#[]⟩, .string ⟨#[]⟩, .string ⟨#[]⟩, .string ⟨#[]⟩] 48)).grown hg9 (fun e => by have := K4 _ e; omega); have y6 := VA9.cell (j := 6) rfl; have yf := VA9.frozen 6))
        | fail)
      have hkk : ∀ q, (Value.slice A3 h.fs.length c3).ownBlock = some q → w.heap.size ≤ q := fun q hq => by have := (K4 q hq).1; omega
      have hzs : wr.heap.size + 1 ≤ w9.heap.size := by have h9 := hg9.size; simp at h9; exact h9
      have hzs2 : w8.heap.size + 1 ≤ w9.heap.size := by omega
      have B9 := (((Below.grown B8.out HG.out (by omega) hkk).alloc (by omega) (.cells #[.string ⟨#[]⟩, .string ⟨#[]⟩, .string ⟨#[]⟩, .string ⟨#[]⟩] 48)).grown hg9 (by simp; omega) hkk).setCell (p := ⟨w3.heap.size, 6, none⟩) (show w.heap.size ≤ w3.heap.size by omega) (.slice A9 (h.fs.length + 2) c9)
      have V9 := (((V8.out.grown HG.out (fun e => by have := K4 _ e; omega)).alloc (.cells #[.string ⟨#[]⟩, .string ⟨#[]⟩, .string ⟨#[]⟩, .string ⟨#[]⟩] 48)).grown hg9 (fun e => by have := K4 _ e; omega)).set_other (p := ⟨w3.heap.size, 6, none⟩) (show w3.heap.size ≠ w6.heap.size by omega) (.slice A9 (h.fs.length + 2) c9)
      have R9 := (((R8.out.aside HG.out (fun q hq e => by have h1 := K7 q hq; have h2 := K4 q e; omega)).alloc (.cells #[.string ⟨#[]⟩, .string ⟨#[]⟩, .string ⟨#[]⟩, .string ⟨#[]⟩] 48)).aside hg9 (fun q hq e => by have h1 := K7 q hq; have h2 := K4 q e; omega)).setCell (p := ⟨w3.heap.size, 6, none⟩) (fun e => by have h1 := K7 _ e; simp at h1; omega) (.slice A9 (h.fs.length + 2) c9)
      have VA10 := VA9.set 6 (.slice A9 (h.fs.length + 2) c9)
      have z10 : w9.heap.size = (w9.setCell ⟨w3.heap.size, 6, none⟩ (.slice A9 (h.fs.length + 2) c9)).heap.size := by simp
      have Z10 := Lib.hid z10
      clear VA a6 VA9 y6 yf hrow9 hg9 V8 R8 B8 HR HG V8a R8a K4 hzr z10
      generalize w9.setCell ⟨w3.heap.size, 6, none⟩ (.slice A9 (h.fs.length + 2) c9) = w10 at B9 V9 R9 VA10 Z10
      have z10 : w.heap.size ≤ w10.heap.size := B9.size
      have HSz : Hid (w10.ShapedOpen Tryd.prog) := Lib.hid (shaped_below HS.out B9)
      have rl10 := (HRL.out.below B9).more z10
      have HLL : Hid ((listed vs).length ≤ 16777216) := Lib.hid (Nat.le_trans (listed_len vs) htot)
      have HCL := Lib.hid (fun W h1 h2 => hList_any AL nl cl vs W h1 h2 hnl hvs htot)
      have HCR := Lib.hid (fun W h2 => rList_any AL nl cl vs W h2 hnl hvs htot)
      obtain ⟨L, hLv⟩ : ∃ L, L = listed vs := ⟨_, rfl⟩
      rw [← hLv] at HLL HCL HCR
      have HLV := Lib.hid hLv
      clear hLv
      go_upto_region 13 with (first
        | (go_at_call 34; refine (HCL.out _ (shaped_below HSz.out hb11) (rl10.keeps hb11)).mono ?_; rintro _ w12 ⟨vy, rfl, hrow12, hb12⟩)
        | (go_at_call 34; refine (HCL.out _ HSz.out rl10).mono ?_; rintro _ w11 ⟨vx, rfl, hrow11, hb11⟩)
        | fail)
      have z11 := hb11.size
      have z12 := hb12.size
      have B12 := Lib.hid ((B9.trans (hb11.mono z10)).trans (hb12.mono (by omega)))
      have VB12 := Lib.hid ((V9.below_all hb11).below_all hb12)
      have RB12 := Lib.hid ((R9.below_all hb11).below_all hb12)
      have VA12 := Lib.hid ((VA10.below_all hb11).below_all hb12)
      have RX12 := hrow11.below_all hb12
      have KX : ∀ q, vx.ownBlock = some q → w10.heap.size ≤ q ∧ q < w11.heap.size := fun q hq => hrow11.lt q hq
      have KY : ∀ q, vy.ownBlock = some q → w11.heap.size ≤ q ∧ q < w12.heap.size := fun q hq => hrow12.lt q hq
      have RY12 := Lib.hid hrow12
      obtain ⟨AX, cx, rfl, _, _, _, _⟩ := hrow11.form
      obtain ⟨AY, cy, rfl, _, _, _, _⟩ := hrow12.form
      have hz610 : w6.heap.size < w10.heap.size := by have := Z10.out; omega
      clear hrow11 hrow12 hb11 hb12 B9 V9 R9 VA10 rl10
      go_wp2
      go_loopw [12] (fun i wr => ∃ k : Nat, k ≤ L.length ∧ i = .int .i64 k ∧ Row wr w10.heap.size 1 (.slice AX L.length cx) L.length (strsV (List.replicate k spoilt ++ L.drop k)) ∧ w12.grownBy wr (Value.slice AX L.length cx).ownBlock) (fun i _ => L.length - (intOf i).toNat)
      case atStart => exact ⟨0, Nat.zero_le _, rfl, by simpa using RX12, World.grownBy.refl _ _⟩
      case round =>
        obtain ⟨k2, hk2, rfl, hrow, hgr⟩ := hrel
        have HR := Lib.hid hrow
        have HG := Lib.hid hgr
        have hzr2 := hgr.size
        have RYr := RY12.out.aside hgr (fun q hq e => by have h1 := KX q e; have h2 := KY q hq; omega)
        clear RX12
        by_cases hlt2 : k2 < L.length
        · obtain ⟨g, o, rfl, hgb, hgl, hcell, hfro⟩ := hrow.own (by omega)
          obtain ⟨_, _, e1, _, _, _, ry⟩ := RYr.form
          injection e1 with e1 _ q1
          subst e1 q1
          obtain ⟨g2, o2, rfl, hg2, hcell2⟩ := ry.2 (by omega)
          have c1 : ∀ q, (wr.drewN q).cell? ⟨g, o + k2, none⟩ = some (.string L[k2]) := fun q => hcell k2 _ (strs_mix L k2 hlt2)
          have c2 : ∀ q, (wr.drewN q).cell? ⟨g2, o2 + k2, none⟩ = some (.string L[k2]) := fun q => hcell2 k2 _ (strs_get (l := L) (j := k2) hlt2)
          have fk : ∀ q, (wr.drewN q).frozen? ⟨g, o + k2, none⟩ = false := fun q => hfro k2 (by rw [strs_mix_len L k2 hk2]; exact hlt2)
          have hLL := HLL.out
          have HG2 : Hid (w12.grownBy wr (some g)) := Lib.hid HG.out
          have d1 := c1 0
          have d2 := c2 0
          have HMX := Lib.hid (strs_mix_set L k2 hlt2)
          have HML := Lib.hid (strs_mix_len L k2 hk2)
          generalize L[k2] = s at c1 c2 d1 d2
          clear hcell hcell2 hfro hrow hgr ry RYr
          go_wp2
          go_quiet (fail)
          go_wp2
          go_roundw
          case rel =>
            refine ⟨k2 + 1, by omega, by go_num, ?_, World.grownBy.comp (World.grownBy.comp HG2.out (grow_drewN _ _ _)) (World.grownBy.set _ ⟨g, o + k2, none⟩ _)⟩
            rw [← HMX.out]
            exact Row.set (Row.drewN HR.out _) (by rw [HML.out]; exact hlt2)
          case measure => simp [intOf]; omega
        · obtain rfl : k2 = L.length := by omega
          clear hrow hgr RYr
          go_upto_region 20 with (first
            | (at_builtin; go_must (refine wpList_app _ rfl (.tmp 89) (.tmp 90) 58 58 rfl w10.heap.size 9 s0 (.string ⟨#[]⟩) 1 16 Tryd.underlying58 hs0 sz0 sz1 sz2 rfl (.slice AX L.length cx) L.length (strsV (List.replicate L.length spoilt ++ L.drop L.length)) rfl (HR.out.alloc _) _ 2 [.string ⟨#[109, 111, 114, 101]⟩, .string ⟨#[109, 111, 114, 101]⟩] rfl (Src.built [.string ⟨#[109, 111, 114, 101]⟩, .string ⟨#[109, 111, 114, 101]⟩] 9 Tryd.underlying58 rfl (by intro u hu; simp at hu; subst hu; rfl)) (by have := HLL.out; omega) (by have := HLL.out; omega) (by omega) (by simp; omega) ?_; intro v14 w14 hrow14 hg14 _; obtain ⟨A14, c14, rfl, _, _, _, _⟩ := hrow14.form))
            | fail)
          have hz14 : wr.heap.size + 1 ≤ w14.heap.size := by have h9 := hg14.size; simp at h9; exact h9
          have VB14 := ((VB12.out.grown HG.out (fun e => by have := KX _ e; omega)).alloc (.cells #[.string ⟨#[109, 111, 114, 101]⟩, .string ⟨#[109, 111, 114, 101]⟩] 9)).grown hg14 (fun e => by have := KX _ e; omega)
          have VA14 := Lib.hid (((VA12.out.grown HG.out (fun e => by have := KX _ e; omega)).alloc (.cells #[.string ⟨#[109, 111, 114, 101]⟩, .string ⟨#[109, 111, 114, 101]⟩] 9)).grown hg14 (fun e => by have := KX _ e; omega))
          have RB14 := Lib.hid (((RB12.out.aside HG.out (fun q hq e => by have h1 := K7 q hq; have h2 := KX q e; omega)).alloc (.cells #[.string ⟨#[109, 111, 114, 101]⟩, .string ⟨#[109, 111, 114, 101]⟩] 9)).aside hg14 (fun q hq e => by have h1 := K7 q hq; have h2 := KX q e; omega))
          have RY14 := Lib.hid (((RY12.out.aside HG.out (fun q hq e => by have h1 := KY q hq; have h2 := KX q e; omega)).alloc (.cells #[.string ⟨#[109, 111, 114, 101]⟩, .string ⟨#[109, 111, 114, 101]⟩] 9)).aside hg14 (fun q hq e => by have h1 := KY q hq; have h2 := KX q e; omega))
          have hkx : ∀ q, (Value.slice AX L.length cx).ownBlock = some q → w.heap.size ≤ q := fun q hq => by have := (KX q hq).1; omega
          have B14 := Lib.hid (((Below.grown B12.out HG.out (by omega) hkx).alloc (by omega) (.cells #[.string ⟨#[109, 111, 114, 101]⟩, .string ⟨#[109, 111, 114, 101]⟩] 9)).grown hg14 (by simp; omega) hkx)
          have hz14b : w12.heap.size < w14.heap.size := by omega
          have rb14 : Rd w14 w14.heap.size 2 A6 h.fs.length (fieldsV (flB h.fs)) := by
            obtain ⟨_, _, e1, _, _, _, rr⟩ := RB14.out.form
            injection e1 with e1 _ _
            subst e1
            exact rr
          have HVC := Lib.hid (fun W hr => hValues_any h.rq ⟨h.m.toArray⟩ ⟨h.t.toArray⟩ (h.st : Int) ⟨h.rs.toArray⟩ (h.mn : Int) A6 h.fs.length c6 (flB h.fs) ⟨#[104, 111, 115, 116]⟩ W hr (by omega) (by decide) (fun f hf => by have := flSize_mem hf; omega))
          have HVR := Lib.hid (fun W hr => rValues_any h.rq ⟨h.m.toArray⟩ ⟨h.t.toArray⟩ (h.st : Int) ⟨h.rs.toArray⟩ (h.mn : Int) A6 h.fs.length c6 (flB h.fs) ⟨#[104, 111, 115, 116]⟩ W hr (by omega) (by decide) (fun f hf => by have := flSize_mem hf; omega))
          have HVL : Hid ((vals (flB h.fs) ⟨#[104, 111, 115, 116]⟩).length ≤ 64) := Lib.hid (Nat.le_trans (vals_le _ _) (by rw [flB_len]; exact hfew))
          unfold headV at HVC HVR
          obtain ⟨V, hVv⟩ : ∃ V, V = vals (flB h.fs) ⟨#[104, 111, 115, 116]⟩ := ⟨_, rfl⟩
          rw [← hVv] at HVC HVR HVL
          have HVV := Lib.hid hVv
          clear hVv
          have d0 := VB14.cell (j := 0) rfl
          have d1 := VB14.cell (j := 1) rfl
          have d2 := VB14.cell (j := 2) rfl
          have d3 := VB14.cell (j := 3) rfl
          have d4 := VB14.cell (j := 4) rfl
          have d5 := VB14.cell (j := 5) rfl
          have d6 := VB14.cell (j := 6) rfl
          have HVB14 := Lib.hid VB14
          have hl6 : w6.heap.size < w14.heap.size := by omega
          clear HR HG hg14 hrow14 VB12 VA12 RB12 RY12 B12 VB14
          go_cut [13, 14] (fun v13 v14 wx => (∃ AV cv AW cw, v13 = .slice AV V.length cv ∧ v14 = .slice AW V.length cw ∧ Row wx w14.heap.size 1 (.slice AV V.length cv) V.length (strsV V) ∧ Row wx w14.heap.size 1 (.slice AW V.length cw) V.length (strsV V) ∧ (∀ q, (Value.slice AW V.length cw).ownBlock = some q → (Value.slice AV V.length cv).ownBlock ≠ some q)) ∧ Below w14.heap.size w14 wx)
          case first =>
            go_region_held3 (fun w' => w'.cell? ⟨w6.heap.size, 0, none⟩ = some (.bool h.rq) ∧ w'.cell? ⟨w6.heap.size, 1, none⟩ = some (.string ⟨h.m.toArray⟩) ∧ w'.cell? ⟨w6.heap.size, 2, none⟩ = some (.string ⟨h.t.toArray⟩) ∧ w'.cell? ⟨w6.heap.size, 3, none⟩ = some (.int .i64 (h.st : Int)) ∧ w'.cell? ⟨w6.heap.size, 4, none⟩ = some (.string ⟨h.rs.toArray⟩) ∧ w'.cell? ⟨w6.heap.size, 5, none⟩ = some (.int .i64 (h.mn : Int)) ∧ w'.cell? ⟨w6.heap.size, 6, none⟩ = some (.slice A6 h.fs.length c6))
              (first
                | exact ⟨VB16.cell (j := 0) rfl, VB16.cell (j := 1) rfl, VB16.cell (j := 2) rfl, VB16.cell (j := 3) rfl, VB16.cell (j := 4) rfl, VB16.cell (j := 5) rfl, VB16.cell (j := 6) rfl⟩
                | exact ⟨VB15.cell (j := 0) rfl, VB15.cell (j := 1) rfl, VB15.cell (j := 2) rfl, VB15.cell (j := 3) rfl, VB15.cell (j := 4) rfl, VB15.cell (j := 5) rfl, VB15.cell (j := 6) rfl⟩
                | go_keep)
              (first
                | (go_at_call 35; refine (HVC.out _ (by exact rb15)).mono ?_; rintro _ w16 ⟨v16, rfl, hrow16, hb16⟩; have VB16 := VB15.below_all hb16)
                | (go_at_call 35; refine (HVC.out _ (by exact rb14)).mono ?_; rintro _ w15 ⟨v15, rfl, hrow15, hb15⟩; have rb15 := rb14.keeps (Below.of_drew hb15); have VB15 := HVB14.out.below_all (Below.of_drew hb15)))
            have z15 : w14.heap.size ≤ w15.heap.size := hb15.size
            have kv := fun q hq => (hrow15.lt q hq).2
            have kw := fun q hq => (hrow16.lt q hq).1
            have bf : Below w14.heap.size w14 w16 := (Below.of_drew hb15).trans (hb16.mono z15)
            have rv := hrow15.below_all hb16
            have rw_ := hrow16.mono z15
            obtain ⟨AV, cv, rfl, _, _, _, _⟩ := hrow15.form
            obtain ⟨AW, cw, rfl, _, _, _, _⟩ := hrow16.form
            clear hrow15 hrow16 hb15 hb16 VB15 VB16 rb15 d0 d1 d2 d3 d4 d5 d6
            go_wp2
            go_meet
            exact ⟨⟨AV, cv, AW, cw, rfl, rfl, rv, rw_, fun q hq e => by have h1 := kw q hq; have h2 := kv q e; omega⟩, bf⟩
          case rest =>
            obtain ⟨⟨AV, cv, AW, cw, rfl, rfl, hrv, hrw, hvw⟩, hbc⟩ := hcut
            have zc := hbc.size
            have VBc := Lib.hid (HVB14.out.below_all hbc)
            have RBc := Lib.hid (RB14.out.below_all hbc)
            have VAc := Lib.hid (VA14.out.below_all hbc)
            have RYc := Lib.hid (RY14.out.below_all hbc)
            have Bc := Lib.hid (B14.out.trans (hbc.mono (by omega)))
            have KV : ∀ q, (Value.slice AV V.length cv).ownBlock = some q → w14.heap.size ≤ q := fun q hq => (hrv.lt q hq).1
            have HRW := Lib.hid hrw
            have KB : ∀ q, (Value.slice A6 h.fs.length c6).ownBlock = some q → q < w14.heap.size := fun q hq => by have := (K7 q hq).2; omega
            have KYs : ∀ q, (Value.slice AY L.length cy).ownBlock = some q → q < w14.heap.size := fun q hq => by have := (KY q hq).2; omega
            have hw14 : w.heap.size ≤ w14.heap.size := by omega
            have hl3 : w3.heap.size < w14.heap.size := by omega
            clear hrw hbc HVB14 RB14 VA14 RY14 B14 rb14 d0 d1 d2 d3 d4 d5 d6
            go_wp2
            go_loopw [15] (fun i wr => ∃ (k : Nat) (xs : List Value), k ≤ V.length ∧ i = .int .i64 k ∧ Row wr w14.heap.size 1 (.slice AV V.length cv) V.length xs ∧ wc.grownBy wr (Value.slice AV V.length cv).ownBlock) (fun i _ => V.length - (intOf i).toNat)
            case atStart => exact ⟨0, _, Nat.zero_le _, rfl, hrv, World.grownBy.refl _ _⟩
            case round =>
              obtain ⟨k3, xs3, hk3, rfl, hrow, hgr⟩ := hrel
              have HR := Lib.hid hrow
              have HG := Lib.hid hgr
              have hzr3 := hgr.size
              have hVL := HVL.out
              clear hrv
              by_cases hlt3 : k3 < V.length
              · obtain ⟨g, o, rfl, hgb, hgl, hcell, hfro⟩ := hrow.own (by omega)
                have hxl : xs3.length = V.length * 1 := hrow.1
                obtain ⟨x0, hx0⟩ : ∃ u, xs3[k3]? = some u := ⟨_, List.getElem?_eq_getElem (show k3 < xs3.length by omega)⟩
                have g0 := hcell k3 _ hx0
                have q0 := hfro k3 (by omega)
                have HXL := Lib.hid hxl
                have HG2 : Hid (wc.grownBy wr (some g)) := Lib.hid HG.out
                clear hcell hfro hrow hgr hxl hx0
                go_wp2
                go_roundw
                case rel =>
                  refine ⟨k3 + 1, _, by omega, by go_num, HR.out.set (j := k3) (by rw [HXL.out]; omega), World.grownBy.comp HG2.out (World.grownBy.set _ ⟨g, o + k3, none⟩ _)⟩
                case measure => simp [intOf]; omega
              · clear hrow hgr
                have hkv : ∀ q, (Value.slice AV V.length cv).ownBlock = some q → w.heap.size ≤ q := fun q hq => by have := KV q hq; omega
                have VBr := VBc.out.grown HG.out (fun e => by have := KV _ e; omega)
                have VAr := Lib.hid (VAc.out.grown HG.out (fun e => by have := KV _ e; omega))
                have RBr := RBc.out.aside HG.out (fun q hq e => by have h1 := KB q hq; have h2 := KV q e; omega)
                have RYr := Lib.hid (RYc.out.aside HG.out (fun q hq e => by have h1 := KYs q hq; have h2 := KV q e; omega))
                have RWr := Lib.hid (HRW.out.aside HG.out (fun q hq e => hvw q hq e))
                have Br := Lib.hid (Below.grown Bc.out HG.out (by omega) hkv)
                have KW : ∀ q, (Value.slice AW V.length cw).ownBlock = some q → q < wr.heap.size := fun q hq => (RWr.out.lt q hq).2
                have hzw : w14.heap.size ≤ wr.heap.size := by omega
                have rbr : Rd wr wr.heap.size 2 A6 h.fs.length (fieldsV (flB h.fs)) := by
                  obtain ⟨_, _, e1, _, _, _, rr⟩ := RBr.form
                  injection e1 with e1 _ _
                  subst e1
                  exact rr
                have HSr : Hid (wr.ShapedOpen Tryd.prog) := Lib.hid (shaped_below HS.out Br.out)
                have HTr := Lib.hid (HT.out.below Br.out)
                have RBk := Lib.hid RBr
                clear HR HG VBc VAc RBc RYc HRW Bc RBr hvw
                have HXT : Hid ((writeP h.up).2 = 0 → (writeP h.up).1.getD [] = textP h.up) := Lib.hid (fun e => by rw [write_ok e]; rfl)
                have HXN : Hid (((writeP h.up).1.getD []).length ≤ 16777216) := Lib.hid (by
                  by_cases e : (writeP h.up).2 = 0
                  · rw [write_ok e]
                    have := (write_back (write_ok e)).2.2.2
                    show (textP h.up).length ≤ _
                    omega
                  · rw [write_err e]; exact Nat.zero_le _)
                unfold WritePost at HH
                generalize (writeP h.up).2 = en at HH HXT
                generalize (writeP h.up).1.getD [] = X at HH HXT HXN
                go_upto_region 27 with (first
                  | (refine wpList_load_mid rfl 24 (.tmp 7) rfl w6.heap.size 0 rfl [.bool h.rq, .string ⟨h.m.toArray⟩, .string ⟨h.t.toArray⟩, .int .i64 (h.st : Int), .string ⟨h.rs.toArray⟩, .int .i64 (h.mn : Int), .slice A6 h.fs.length c6] _ (VBr).range Tryd.underlying24 rfl (by kernel_rfl) ?_)
                  | (refine wpList_load_mid rfl 24 (.tmp 7) rfl w6.heap.size 0 rfl [.bool h.rq, .string ⟨h.m.toArray⟩, .string ⟨h.t.toArray⟩, .int .i64 (h.st : Int), .string ⟨h.rs.toArray⟩, .int .i64 (h.mn : Int), .slice A6 h.fs.length c6] _ (VB18).range Tryd.underlying24 rfl (by kernel_rfl) ?_)
                  | (go_at_call 36; (refine (HH.out A6 c6 _ HS18.out HT18.out rb18).mono ?_; rintro _ w20 ⟨v20, rfl, hrow20, hb20⟩))
                  | (go_at_call 36; (refine (HH.out A6 c6 _ HSr.out HTr.out rbr).mono ?_; rintro _ w18 ⟨v18, rfl, hrow18, hb18⟩; have VB18 := VBr.below_all hb18; have rb18 := rbr.keeps hb18; have HS18 : Hid (w18.ShapedOpen Tryd.prog) := Lib.hid (shaped_below HSr.out hb18); have HT18 := Lib.hid (HTr.out.below hb18)))
                  | fail)
                have z18 := hb18.size
                have z20 := hb20.size
                have VB20 := Lib.hid (VB18.below_all hb20)
                have VA20 := Lib.hid ((VAr.out.below_all hb18).below_all hb20)
                have RY20 := Lib.hid ((RYr.out.below_all hb18).below_all hb20)
                have RW20 := Lib.hid ((RWr.out.below_all hb18).below_all hb20)
                have RB20 := Lib.hid ((RBk.out.below_all hb18).below_all hb20)
                have B20 := Lib.hid ((Br.out.trans (hb18.mono (by omega))).trans (hb20.mono (by omega)))
                have RC20 := hrow18.below_all hb20
                have RD20 := Lib.hid hrow20
                have KC : ∀ q, v18.ownBlock = some q → wr.heap.size ≤ q ∧ q < w18.heap.size := fun q hq => hrow18.lt q hq
                have KD : ∀ q, v20.ownBlock = some q → w18.heap.size ≤ q := fun q hq => (hrow20.lt q hq).1
                obtain ⟨AC, cc, rfl, _, _, _, _⟩ := hrow18.form
                obtain ⟨AD, cd, rfl, _, _, _, _⟩ := hrow20.form
                clear hrow18 hrow20 hb18 hb20 VB18 rb18 HS18 HT18 VBr rbr HSr HTr VAr RYr RWr Br RBk
                obtain ⟨wo, rfl⟩ : ∃ wo : World, wo = wr := ⟨_, rfl⟩
                have HV0 : Hid (∀ u ∈ bytesV X, ∃ x : Int, 0 ≤ x ∧ x < 256 ∧ u = .int .u8 x) := Lib.hid (fun u hu => by
                  obtain ⟨b, _, rfl⟩ := List.mem_map.1 hu
                  exact ⟨_, by omega, by have := UInt8.toNat_lt b; omega, rfl⟩)
                go_wp2
                go_loopw [20] (fun i wr => ∃ (k : Nat) (xs : List Value), k ≤ X.length ∧ i = .int .i64 k ∧ (∀ u ∈ xs, ∃ x : Int, 0 ≤ x ∧ x < 256 ∧ u = .int .u8 x) ∧ Row wr wo.heap.size 1 (.slice AC X.length cc) X.length xs ∧ w20.grownBy wr (Value.slice AC X.length cc).ownBlock) (fun i _ => X.length - (intOf i).toNat)
                case atStart => exact ⟨0, _, Nat.zero_le _, rfl, HV0.out, RC20, World.grownBy.refl _ _⟩
                case round =>
                  obtain ⟨k4, xs4, hk4, rfl, hvs4, hrow, hgr⟩ := hrel
                  have HV := Lib.hid hvs4
                  have HR := Lib.hid hrow
                  have HG := Lib.hid hgr
                  have hzr4 := hgr.size
                  have hXL := HXN.out
                  clear RC20
                  by_cases hlt4 : k4 < X.length
                  · obtain ⟨g, o, rfl, hgb, hgl, hcell, hfro⟩ := hrow.own (by omega)
                    have hxl : xs4.length = X.length * 1 := hrow.1
                    obtain ⟨x0, hx0⟩ : ∃ u, xs4[k4]? = some u := ⟨_, List.getElem?_eq_getElem (show k4 < xs4.length by omega)⟩
                    obtain ⟨y0, hy0, hy1, rfl⟩ := hvs4 x0 (List.mem_of_getElem? hx0)
                    have g0 := hcell k4 _ hx0
                    have q0 := hfro k4 (by omega)
                    have HXL := Lib.hid hxl
                    have HG2 : Hid (w20.grownBy wr (some g)) := Lib.hid HG.out
                    clear hcell hfro hrow hgr hxl hx0 hvs4
                    go_wp2
                    go_roundw
                    case rel =>
                      refine ⟨k4 + 1, _, by omega, by go_num, ?_, HR.out.set (j := k4) (by rw [HXL.out]; omega), World.grownBy.comp HG2.out (World.grownBy.set _ ⟨g, o + k4, none⟩ _)⟩
                      intro u hu
                      rcases List.mem_or_eq_of_mem_set hu with hh | hh
                      · exact HV.out u hh
                      · exact ⟨_, by omega, by omega, hh⟩
                    case measure => simp [intOf]; omega
                  · clear hvs4 hrow hgr HV HR
                    have hkc : ∀ q, (Value.slice AC X.length cc).ownBlock = some q → w.heap.size ≤ q := fun q hq => by have := (KC q hq).1; omega
                    have VBr := VB20.out.grown HG.out (fun e => by have := (KC _ e).1; omega)
                    have VAr := Lib.hid (VA20.out.grown HG.out (fun e => by have := (KC _ e).1; omega))
                    have RYr := Lib.hid (RY20.out.aside HG.out (fun q hq e => by have h1 := KYs q hq; have h2 := (KC q e).1; omega))
                    have RWr := Lib.hid (RW20.out.aside HG.out (fun q hq e => by have h1 := KW q hq; have h2 := (KC q e).1; omega))
                    have RDr := Lib.hid (Row.aside RD20.out HG.out (fun q hq e => by have h1 := KD q hq; have h2 := (KC q e).2; omega))
                    have Br := Lib.hid (Below.grown B20.out HG.out (by omega) hkc)
                    have HSwr : Hid (wr.ShapedOpen Tryd.prog) := Lib.hid (shaped_below HS.out Br.out)
                    have zwr := Br.out.size
                    have hrdwr := (HRD.out.below Br.out).more zwr
                    have RBr := Lib.hid (RB20.out.aside HG.out (fun q hq e => by have h1 := KB q hq; have h2 := (KC q e).1; omega))
                    clear HG VB20 VA20 RY20 RW20 RD20 B20 RB20 KC KD KB KYs KV KW KX KY K7 hkc
                    clear hkk hzs hzs2 Z10 z10 HSz z11 z12 hz610 hzr2 hk2 hlt2 hz14 hkx hz14b hl6 zc hw14 hl3 hk3 hVL hlt3 hkv z20 hzr3 hzw z18 HV0 hzr4 hk hlt hz1 HSw1 HT1 HS2 hz2 hz3 hz4 HSw4 HS5 hz5 hz6 hz7 hz8 hf0 fz0 fz1 fz2 hs0 sz0 sz1 sz2
                    go_upto_region 31 with (fail)
                    go_cut [21, 22] (fun v21 _v22 wx => (∃ b24 A24 c24, v21 = .pointer (some ⟨b24, 0, none⟩) ∧ Var wx b24 24 [.bool h.rq, .string ⟨h.m.toArray⟩, .string ⟨h.t.toArray⟩, .int .i64 (h.st : Int), .string ⟨h.rs.toArray⟩, .int .i64 (h.mn : Int), .slice A24 h.fs.length c24] ∧ Rd wx wx.heap.size 2 A24 h.fs.length (fieldsV (flB h.fs))) ∧ Below wr.heap.size wr wx)
                    case first =>
                      go_wp2_with (first
                        | (at_builtin; go_must (refine wpList_app _ rfl (.tmp 130) (.tmp 131) 32 32 rfl wr.heap.size 5 j0 (.int .u8 0) 1 1 Tryd.underlying32 hj0 jz0 jz1 jz2 rfl (.slice (some ⟨wr.heap.size, 0, none⟩) 0 0) 0 [] rfl (empty_row wr _ 1) _ n (bytesV l) rfl (Src.slice Tryd.underlying32 (hrdwr.alloc (Nat.le_refl _) _) hA (bytesV_one l)) (by omega) (by omega) (by omega) (by simp <;> omega) ?_); go_must (intro v22 w22 hrow22 hg22 _; rw [List.nil_append, Nat.zero_add] at hrow22; obtain ⟨A22, c22, rfl, _, _, hA22, hrd22⟩ := hrow22.form; have hb22 : Below wr.heap.size wr w22 := Below.app ((Below.refl _ _).alloc (Nat.le_refl _) _) (empty_row wr 5 1) hg22 (by omega) (by simp <;> omega); have HS22 : Hid (w22.ShapedOpen Tryd.prog) := Lib.hid (shaped_below HSwr.out hb22)))
                        | (go_at_call 32; go_must (refine (hParse_lit A22 n c22 l true _ HS22.out (fun e => (hA22 e).1) hrd22 hn HP.out).mono ?_; rintro _ w23 ⟨A23, c23, rfl, hrow23, hb23⟩))
                        | (refine wpList_put rfl 24 (.tmp 21) (.tmp 134) rfl w23.heap.size rfl (Var.new w23 24 [.bool false, .string ⟨#[]⟩, .string ⟨#[]⟩, .int .i64 0, .string ⟨#[]⟩, .int .i64 0, .slice none 0 0]) [.bool h.rq, .string ⟨h.m.toArray⟩, .string ⟨h.t.toArray⟩, .int .i64 (h.st : Int), .string ⟨h.rs.toArray⟩, .int .i64 (h.mn : Int), .slice A23 h.fs.length c23] rfl rfl (by kernel_rfl) (by simp [Value.oneCell']) ?_; intro w24 hvw24 hgw24 hsw24)
                        | fail)
                      have hz22 := hb22.size
                      have hz23 := hb23.size
                      have hz24 : w23.heap.size < w24.heap.size := by have := put_size hsw24; omega
                      have bx24 : Below w22.heap.size w22 w24 := Below.put hb23 hz23 hgw24
                      have by24 : Below wr.heap.size wr w24 := hb22.trans (bx24.mono hz22)
                      have R24 := hrow23.put hgw24
                      have V24 := hvw24
                      have K24 : ∀ k, (Value.slice A23 h.fs.length c23).ownBlock = some k → wr.heap.size ≤ k ∧ k < w23.heap.size := fun k hk => ⟨by have := (hrow23.lt k hk).1; omega, (hrow23.lt k hk).2⟩
                      clear hrow22 hg22 hrd22 hb22 hA22 hrow23 hb23 hvw24 hgw24 hsw24 bx24
                      go_meet
                      exact ⟨⟨_, _, _, rfl, V24, row_rdE R24⟩, by24⟩
                    case rest =>
                      obtain ⟨⟨b24, A24, c24, rfl, hvp, hrp⟩, hb24⟩ := hcut
                      have VB := VBr.below_all hb24
                      have VA := VAr.out.below_all hb24
                      refine (show ∀ (a : Act) (w : World), Code.wp _ _ _ a w → _ from by assumption) _ _ ?_
                      exact own_end h AL nl cl vs L AY cy V AW cw X AD cd en A6 A24 A9 A14 c6 c24 c9 c14 w3.heap.size w6.heap.size b24 w wc (Br.out.trans (hb24.mono zwr)) hvp hrp VB (row_rdE (RBr.out.below_all hb24)) (row_rdE (RYr.out.below_all hb24)) (row_rdE (RWr.out.below_all hb24)) (row_rdE (Row.below_all RDr.out hb24)) (((HRL.out.below Br.out).more zwr).keeps hb24) VA.lt (VA.cell (j := 6) rfl) HLV.out HVV.out HXT.out HLL.out HVL.out HXN.out hnl hvs htot hfew (parse_nums HP.out).1 (parse_nums HP.out).2 hsizes.1 hsizes.2.1 _ _ _ _ _ _ _ _ _ _ _ _ _ _ _ _ _ _ _ _ _ _ _ _ _ _ _ _ _ _ _ _ _ _ _ _ _ _ _ _ _ _ _ _ _ _ _ _ _ _ _ _ _ _ _ _ _ _ _ _ _ _ _ _ _ _ _ _ _ _ _ _ _ _ _ _ _ _ _ _ _ _ _ _ _ _ _ _ _ _ _ _ _ _ _ _ _ _ _ _ _ _ _ _ _ _ _ _ _ _ _ _ _ _ _ _ _ _ _ _ _ _ _ _ _ _ _ _ _ _ _ _ _ _ _ _ _ _ _ _ _ _ _ _ _ _ _ _ _ _ _ _ _ _ _ _ _ _ _ _ _ _ _
end Go.Proofs.YtabecgdaiakgiaaDoor
