/- law RewriteKeeps, its end: what a reply is compared with (printed by gen_keeps.py). Conditions: sizes. -/
import Derived.Test.YtabecgdaiakgiaaDoorRHeads
import Derived.Test.YtabecgdaiakgiaaDoorRKeepI
import Derived.Test.YtabecgdaiakgiaaDoorRKeepW
import Derived.Test.YtabecgdaiakgiaaDoorRKeeps
namespace Go.Proofs.YtabecgdaiakgiaaDoor
open Go.RowKit

/-- what stands behind the first n statements -/
def dropSeq : Nat → Code → Code
  | 0, c => c
  | n + 1, .seq _ b => dropSeq n b
  | _ + 1, c => c
noncomputable def keep13 : Code := dropSeq 8 (Tryd.f10.body.getD .skip)
set_option maxHeartbeats 8000000 in
set_option maxRecDepth 100000 in
theorem keep_end (mt t : ByteArray) (st : Int) (rs : ByteArray) (mn : Int) (A : Option Addr) (n c : Nat) (fs : List Fl) (fr ln : Int) (host : ByteArray) (cl : Bool) (mi : Int) (w wk : World) (p1 p2 : ByteArray) (A3 : Option Addr) (c3 b3 : Nat) (Rp : List Fl) (ef : Int) (G : Bool)
    (hB : Below w.heap.size w wk) (hS : wk.ShapedOpen Tryd.prog) (hV : Var wk w.heap.size 74 [.bool false, .string mt, .string t, .int .i64 st, .string rs, .int .i64 mn, .slice A n c, .int .i64 fr, .int .i64 ln, .string host, .bool cl, .int .i64 mi]) (hR : Rd wk wk.heap.size 2 A n (fieldsV fs)) (hv3 : Var wk b3 24 [.bool false, .string p1, .string p2, .int .i64 st, .string rs, .int .i64 1, .slice A3 Rp.length c3]) (hr3 : Rd wk wk.heap.size 2 A3 Rp.length (fieldsV Rp))
    (hn : n ≤ 1048576) (hfs : ∀ f ∈ fs, f.1.size ≤ 16777216) (hvs : total (vals fs sConn) ≤ 8388608) (s1 : Rp.length ≤ 64) (s2 : ∀ f ∈ Rp, f.1.size ≤ 16777216) (s3 : total (vals Rp sConn) ≤ 16384)
    (hG : G = (cl || decide (ef = 3))) (hLN : (vals Rp sConnC).length = if G = true then 1 else if mi = 0 then 1 else 0) (cb : (vals Rp sLen).length = if ef = 1 then 1 else 0) (cc : (vals Rp sCod).length = if ef = 2 then 1 else 0) (ce : keepsP 1 Rp = !G) (cf : restP false fs Rp = othersP false fs) (hmi : mi = 0 ∨ mi = 1)
    (z0 z2 z3 z4 z7 z9 z10 z11 z12 z13 z14 z15 z16 z17 z18 z19 z20 z21 z22 z23 z24 z25 z26 z27 z28 z29 z30 z31 z32 z33 z34 z35 z36 z37 z38 z39 z40 z41 z42 z43 z44 z45 z46 z47 z48 z49 z50 z51 z52 z53 z54 z55 z56 z57 z58 z59 z60 z61 z62 z63 z64 z65 z66 z67 z68 z69 z70 z71 z72 z73 z74 z75 z76 z77 z78 z79 z80 z81 z82 z83 z84 z85 z86 z87 z88 z89 z90 z91 z92 z93 z94 z95 z96 z97 z98 z99 z100 z101 z102 z103 z104 z105 z106 z107 z108 z109 z110 z111 z112 z113 z114 z115 z116 z117 z118 z119 z120 z121 z122 z123 z124 z125 z126 z127 z128 z129 z130 z131 z132 z133 z134 z135 z136 z137 z138 z139 z140 z141 z142 z143 z144 z145 z146 z147 z148 z149 z150 z151 z152 z153 z154 z155 z156 z157 z158 z159 z160 z161 z162 z163 z164 z165 z166 z167 z168 z169 z170 z171 z172 z173 z174 z175 z176 z177 z178 z179 z180 z181 : Value) :
    Code.wp Tryd.prog keep13 (bodyPost Tryd.prog Tryd.f10 fun e w' => e = .returned (.bool true) ∧ Below w.heap.size w w') ⟨#[z0, .pointer (some ⟨w.heap.size, 0, none⟩), z2, z3, z4, .pointer (some ⟨b3, 0, none⟩), .bool G, z7, .int .i64 ef, z9, z10, z11, z12, z13, z14, z15, z16, z17, z18, z19, z20, z21, z22, z23, z24, z25, z26, z27, z28, z29, z30, z31, z32, z33, z34, z35, z36, z37, z38, z39, z40, z41, z42, z43, z44, z45, z46, z47, z48, z49, z50, z51, z52, z53, z54, z55, z56, z57, z58, z59, z60, z61, z62, z63, z64, z65, z66, z67, z68, z69, z70, z71, z72, z73, z74, z75, z76, z77, z78, z79, z80, z81, z82, z83, z84, z85, z86, z87, z88, z89, z90, z91, z92, z93, z94, z95, z96, z97, z98, z99, z100, z101, z102, z103, z104, z105, z106, z107, z108, z109, z110, z111, z112, z113, z114, z115, z116, z117, z118, z119, z120, z121, z122, z123, z124, z125, z126, z127, z128, z129, z130, z131, z132, z133, z134, z135, z136, z137, z138, z139, z140, z141, z142, z143, z144, z145, z146, z147, z148, z149, z150, z151, z152, z153, z154, z155, z156, z157, z158, z159, z160, z161, z162, z163, z164, z165, z166, z167, z168, z169, z170, z171, z172, z173, z174, z175, z176, z177, z178, z179, z180, z181], []⟩ wk := by
  have HB := Lib.hid hB
  have HS := Lib.hid hS
  have HV := Lib.hid hV
  have HR := Lib.hid hR
  have HV3 := Lib.hid hv3
  have HR3 := Lib.hid hr3
  have HG := Lib.hid hG
  have HLN := Lib.hid hLN
  have HCB := Lib.hid cb
  have HCC := Lib.hid cc
  have HCE := Lib.hid ce
  have HCF := Lib.hid cf
  have HMI := Lib.hid hmi
  have hlen : fs.length = n := by have := hR.1; rw [fieldsV_len] at this; omega
  have HOL : Hid ((othersP false fs).length ≤ 16777216) := Lib.hid (Nat.le_trans (List.length_filter_le _ _) (by omega))
  clear hB hS hV hR hv3 hr3 hG hLN cb cc ce cf hmi
  conv => arg 2; whnf
  obtain ⟨LI, hLI⟩ : ∃ LI : Int, LI = ((vals Rp sConnC).length : Int) := ⟨_, rfl⟩
  have HLI : Hid (LI = if G = true then 1 else if mi = 0 then 1 else 0) := Lib.hid (by rw [hLI, HLN.out]; split; rfl; split <;> rfl)
  have HCN := Lib.hid (fun W h => vcount_any false p1 p2 st rs 1 A3 Rp.length c3 Rp sConnC W h (by omega) (by decide) s2)
  rw [← hLI] at HCN
  unfold headV at HCN
  clear hLI HLN
  go_upto_region 14 with (first
    | (refine wpList_load_mid rfl 24 (.tmp 5) rfl b3 0 rfl [.bool false, .string p1, .string p2, .int .i64 st, .string rs, .int .i64 1, .slice A3 Rp.length c3] _ HV3.out.range Tryd.underlying24 rfl (by kernel_rfl) ?_)
    | (go_at_call 51; go_must (refine (HCN.out _ HR3.out).mono ?_; rintro _ wm ⟨rfl, hbm⟩))
    | fail)
  have HVm := Lib.hid (HV.out.below_all hbm)
  have HRm := Lib.hid (HR.out.keeps hbm)
  have HV3m := Lib.hid (HV3.out.below_all hbm)
  have HR3m := Lib.hid (HR3.out.keeps hbm)
  have HSm : Hid (wm.ShapedOpen Tryd.prog) := Lib.hid (shaped_below HS.out hbm)
  have HBm := Lib.hid (HB.out.trans (hbm.mono HB.out.size))
  have HKP := Lib.hid (fun W h1 h2 => wKeeps_any false p1 p2 st rs 1 A3 Rp.length c3 Rp W h1 h2 (by omega) s2 (by omega))
  unfold headV at HKP
  rw [HCE.out] at HKP
  clear hbm HB HS HV HR HV3 HR3 HCN HCE
  go_cut [143] (fun v wx => v = .bool false ∧ Below wm.heap.size wm wx)
  case first =>
    have v10 := HVm.out.cell (j := 10) rfl
    have v11 := HVm.out.cell (j := 11) rfl
    cases cl
    · by_cases e3 : ef = 3
      · have hG : G = true := by rw [HG.out, e3]; rfl
        have hL : LI = 1 := by rw [HLI.out, hG]; rfl
        subst e3 hG hL
        (go_wp2_with (first
           | (refine wpList_load_mid_g (by rfl) 24 (.tmp 5) rfl b3 0 rfl [.bool false, .string p1, .string p2, .int .i64 st, .string rs, .int .i64 1, .slice A3 Rp.length c3] _ HV3m.out.range Tryd.underlying24 rfl (by kernel_rfl) ?_)
           | (go_at_call 18; go_must (refine (HKP.out _ HSm.out HR3m.out).mono ?_; rintro _ wn ⟨rfl, hbn⟩))
           | fail)
         go_meet
         exact ⟨rfl, hbn⟩)
      · have hG : G = false := by rw [HG.out]; simp [e3]
        have b3' : (ef == 3) = false := by simpa using e3
        rcases HMI.out with h | h
        · have hL : LI = 1 := by rw [HLI.out, hG, h]; rfl
          subst h hG hL
          clear e3
          (go_wp2_with (first
             | (refine wpList_load_mid_g (by rfl) 24 (.tmp 5) rfl b3 0 rfl [.bool false, .string p1, .string p2, .int .i64 st, .string rs, .int .i64 1, .slice A3 Rp.length c3] _ HV3m.out.range Tryd.underlying24 rfl (by kernel_rfl) ?_)
             | (go_at_call 18; go_must (refine (HKP.out _ HSm.out HR3m.out).mono ?_; rintro _ wn ⟨rfl, hbn⟩))
             | fail)
           go_meet
           exact ⟨rfl, hbn⟩)
        · have hL : LI = 0 := by rw [HLI.out, hG, h]; rfl
          subst h hG hL
          clear e3
          (go_wp2_with (first
             | (refine wpList_load_mid_g (by rfl) 24 (.tmp 5) rfl b3 0 rfl [.bool false, .string p1, .string p2, .int .i64 st, .string rs, .int .i64 1, .slice A3 Rp.length c3] _ HV3m.out.range Tryd.underlying24 rfl (by kernel_rfl) ?_)
             | (go_at_call 18; go_must (refine (HKP.out _ HSm.out HR3m.out).mono ?_; rintro _ wn ⟨rfl, hbn⟩))
             | fail)
           go_meet
           exact ⟨rfl, hbn⟩)
    · have hG : G = true := by rw [HG.out]; rfl
      have hL : LI = 1 := by rw [HLI.out, hG]; rfl
      subst hG hL
      (go_wp2_with (first
         | (refine wpList_load_mid_g (by rfl) 24 (.tmp 5) rfl b3 0 rfl [.bool false, .string p1, .string p2, .int .i64 st, .string rs, .int .i64 1, .slice A3 Rp.length c3] _ HV3m.out.range Tryd.underlying24 rfl (by kernel_rfl) ?_)
         | (go_at_call 18; go_must (refine (HKP.out _ HSm.out HR3m.out).mono ?_; rintro _ wn ⟨rfl, hbn⟩))
         | fail)
       go_meet
       exact ⟨rfl, hbn⟩)
  case rest =>
    obtain ⟨rfl, hbn⟩ := hcut
    have HBn := Lib.hid hbn
    have HVn := Lib.hid (HVm.out.below_all hbn)
    have HRn := Lib.hid (HRm.out.keeps hbn)
    have HV3n := Lib.hid (HV3m.out.below_all hbn)
    have HR3n := Lib.hid (HR3m.out.keeps hbn)
    have HSn : Hid (wc.ShapedOpen Tryd.prog) := Lib.hid (shaped_below HSm.out hbn)
    have HBZ := Lib.hid (HBm.out.trans (hbn.mono HBm.out.size))
    clear hbn HVm HRm HV3m HR3m HSm HBm HKP HG HLI
    have HK : Hid (∀ w' : World, Below wc.heap.size wc w' → (Below wc.heap.size wc w' ∧ w'.cell? ⟨w.heap.size, 0, none⟩ = some (.bool false) ∧ w'.cell? ⟨w.heap.size, 1, none⟩ = some (.string mt) ∧ w'.cell? ⟨w.heap.size, 2, none⟩ = some (.string t) ∧ w'.cell? ⟨w.heap.size, 3, none⟩ = some (.int .i64 st) ∧ w'.cell? ⟨w.heap.size, 4, none⟩ = some (.string rs) ∧ w'.cell? ⟨w.heap.size, 5, none⟩ = some (.int .i64 mn) ∧ w'.cell? ⟨w.heap.size, 6, none⟩ = some (.slice A n c) ∧ w'.cell? ⟨w.heap.size, 7, none⟩ = some (.int .i64 fr) ∧ w'.cell? ⟨w.heap.size, 8, none⟩ = some (.int .i64 ln) ∧ w'.cell? ⟨w.heap.size, 9, none⟩ = some (.string host) ∧ w'.cell? ⟨w.heap.size, 10, none⟩ = some (.bool cl) ∧ w'.cell? ⟨w.heap.size, 11, none⟩ = some (.int .i64 mi) ∧ w'.cell? ⟨b3, 0, none⟩ = some (.bool false) ∧ w'.cell? ⟨b3, 1, none⟩ = some (.string p1) ∧ w'.cell? ⟨b3, 2, none⟩ = some (.string p2) ∧ w'.cell? ⟨b3, 3, none⟩ = some (.int .i64 st) ∧ w'.cell? ⟨b3, 4, none⟩ = some (.string rs) ∧ w'.cell? ⟨b3, 5, none⟩ = some (.int .i64 1) ∧ w'.cell? ⟨b3, 6, none⟩ = some (.slice A3 Rp.length c3))) := Lib.hid (fun w' hB => by
      have a0 := HVn.out.below_all hB
      have a1 := HV3n.out.below_all hB
      exact ⟨hB, a0.cell (j := 0) rfl, a0.cell (j := 1) rfl, a0.cell (j := 2) rfl, a0.cell (j := 3) rfl, a0.cell (j := 4) rfl, a0.cell (j := 5) rfl, a0.cell (j := 6) rfl, a0.cell (j := 7) rfl, a0.cell (j := 8) rfl, a0.cell (j := 9) rfl, a0.cell (j := 10) rfl, a0.cell (j := 11) rfl, a1.cell (j := 0) rfl, a1.cell (j := 1) rfl, a1.cell (j := 2) rfl, a1.cell (j := 3) rfl, a1.cell (j := 4) rfl, a1.cell (j := 5) rfl, a1.cell (j := 6) rfl⟩)
    go_upto_region 16 with (fail)
    refine wp_region_held_drew (S := (fun w' => Below wc.heap.size wc w' ∧ w'.cell? ⟨w.heap.size, 0, none⟩ = some (.bool false) ∧ w'.cell? ⟨w.heap.size, 1, none⟩ = some (.string mt) ∧ w'.cell? ⟨w.heap.size, 2, none⟩ = some (.string t) ∧ w'.cell? ⟨w.heap.size, 3, none⟩ = some (.int .i64 st) ∧ w'.cell? ⟨w.heap.size, 4, none⟩ = some (.string rs) ∧ w'.cell? ⟨w.heap.size, 5, none⟩ = some (.int .i64 mn) ∧ w'.cell? ⟨w.heap.size, 6, none⟩ = some (.slice A n c) ∧ w'.cell? ⟨w.heap.size, 7, none⟩ = some (.int .i64 fr) ∧ w'.cell? ⟨w.heap.size, 8, none⟩ = some (.int .i64 ln) ∧ w'.cell? ⟨w.heap.size, 9, none⟩ = some (.string host) ∧ w'.cell? ⟨w.heap.size, 10, none⟩ = some (.bool cl) ∧ w'.cell? ⟨w.heap.size, 11, none⟩ = some (.int .i64 mi) ∧ w'.cell? ⟨b3, 0, none⟩ = some (.bool false) ∧ w'.cell? ⟨b3, 1, none⟩ = some (.string p1) ∧ w'.cell? ⟨b3, 2, none⟩ = some (.string p2) ∧ w'.cell? ⟨b3, 3, none⟩ = some (.int .i64 st) ∧ w'.cell? ⟨b3, 4, none⟩ = some (.string rs) ∧ w'.cell? ⟨b3, 5, none⟩ = some (.int .i64 1) ∧ w'.cell? ⟨b3, 6, none⟩ = some (.slice A3 Rp.length c3))) (by as_aux_lemma => kernel_rfl) ?_ (fun hHeld => ?_)
    · exact HK.out _ ((Below.refl _ _).drew)
    refine wpAnyH_take (i := 0) (v := ?_) (by simp only [List.getElem?_toArray, List.getElem?_cons_zero]; exact rfl) (by as_aux_lemma => kernel_rfl) (by as_aux_lemma => kernel_rfl) (by as_aux_lemma => kernel_rfl) (by exact fun _ _ _ h => h) (Or.inl ⟨by rfl, ?_⟩) (by assumption) ?_
    rotate_left
    · intro w hSw
      (try dsimp only at hSw)
      go_simp
      try with_reducible rfl
    (try simp only [Act.put, List.setIfInBounds_toArray, List.set_cons_zero, List.set_cons_succ])
    refine wpAnyH_take (i := 1) (v := ?_) (by simp only [List.getElem?_toArray, List.getElem?_cons_succ, List.getElem?_cons_zero]; exact rfl) (by as_aux_lemma => kernel_rfl) (by as_aux_lemma => kernel_rfl) (by as_aux_lemma => kernel_rfl) (by exact fun _ _ _ h => h) (Or.inl ⟨by rfl, ?_⟩) (by assumption) ?_
    rotate_left
    · intro w hSw
      (try dsimp only at hSw)
      go_simp
      try with_reducible rfl
    (try simp only [Act.put, List.setIfInBounds_toArray, List.set_cons_zero, List.set_cons_succ])
    refine wpAnyH_take (i := 2) (v := ?_) (by simp only [List.getElem?_toArray, List.getElem?_cons_succ, List.getElem?_cons_zero]; exact rfl) (by as_aux_lemma => kernel_rfl) (by as_aux_lemma => kernel_rfl) (by as_aux_lemma => kernel_rfl) (by exact fun _ _ _ h => h) (Or.inl ⟨by rfl, ?_⟩) (by assumption) ?_
    rotate_left
    · intro w hSw
      (try dsimp only at hSw)
      go_simp
      try with_reducible rfl
    (try simp only [Act.put, List.setIfInBounds_toArray, List.set_cons_zero, List.set_cons_succ])
    refine wpAnyH_take (i := 3) (v := ?_) (by simp only [List.getElem?_toArray, List.getElem?_cons_succ, List.getElem?_cons_zero]; exact rfl) (by as_aux_lemma => kernel_rfl) (by as_aux_lemma => kernel_rfl) (by as_aux_lemma => kernel_rfl) (by exact fun _ _ _ h => h) (Or.inl ⟨by rfl, ?_⟩) (by assumption) ?_
    rotate_left
    · intro w hSw
      (try dsimp only at hSw)
      go_simp
      try with_reducible rfl
    (try simp only [Act.put, List.setIfInBounds_toArray, List.set_cons_zero, List.set_cons_succ])
    refine wpAnyH_take (i := 5) (v := ?_) (by simp only [List.getElem?_toArray, List.getElem?_cons_succ, List.getElem?_cons_zero]; exact rfl) (by as_aux_lemma => kernel_rfl) (by as_aux_lemma => kernel_rfl) (by as_aux_lemma => kernel_rfl) (by exact fun _ _ _ h => h) (Or.inl ⟨by rfl, ?_⟩) (by assumption) ?_
    rotate_left
    · intro w hSw
      (try dsimp only at hSw)
      go_simp
      try with_reducible rfl
    (try simp only [Act.put, List.setIfInBounds_toArray, List.set_cons_zero, List.set_cons_succ])
    refine wpAnyH_take (i := 6) (v := ?_) (by simp only [List.getElem?_toArray, List.getElem?_cons_succ, List.getElem?_cons_zero]; exact rfl) (by as_aux_lemma => kernel_rfl) (by as_aux_lemma => kernel_rfl) (by as_aux_lemma => kernel_rfl) (by exact fun _ _ _ h => h) (Or.inl ⟨by rfl, ?_⟩) (by assumption) ?_
    rotate_left
    · intro w hSw
      (try dsimp only at hSw)
      go_simp
      try with_reducible rfl
    (try simp only [Act.put, List.setIfInBounds_toArray, List.set_cons_zero, List.set_cons_succ])
    refine wpAnyH_take (i := 7) (v := ?_) (by simp only [List.getElem?_toArray, List.getElem?_cons_succ, List.getElem?_cons_zero]; exact rfl) (by as_aux_lemma => kernel_rfl) (by as_aux_lemma => kernel_rfl) (by as_aux_lemma => kernel_rfl) (by exact fun _ _ _ h => h) (Or.inl ⟨by rfl, ?_⟩) (by assumption) ?_
    rotate_left
    · intro w hSw
      (try dsimp only at hSw)
      go_simp
      try with_reducible rfl
    (try simp only [Act.put, List.setIfInBounds_toArray, List.set_cons_zero, List.set_cons_succ])
    refine wpAnyH_take (i := 8) (v := ?_) (by simp only [List.getElem?_toArray, List.getElem?_cons_succ, List.getElem?_cons_zero]; exact rfl) (by as_aux_lemma => kernel_rfl) (by as_aux_lemma => kernel_rfl) (by as_aux_lemma => kernel_rfl) (by exact fun _ _ _ h => h) (Or.inl ⟨by rfl, ?_⟩) (by assumption) ?_
    rotate_left
    · intro w hSw
      (try dsimp only at hSw)
      go_simp
      try with_reducible rfl
    (try simp only [Act.put, List.setIfInBounds_toArray, List.set_cons_zero, List.set_cons_succ])
    refine wpAnyH_take (i := 9) (v := ?_) (by simp only [List.getElem?_toArray, List.getElem?_cons_succ, List.getElem?_cons_zero]; exact rfl) (by as_aux_lemma => kernel_rfl) (by as_aux_lemma => kernel_rfl) (by as_aux_lemma => kernel_rfl) (by exact fun _ _ _ h => h) (Or.inl ⟨by rfl, ?_⟩) (by assumption) ?_
    rotate_left
    · intro w hSw
      (try dsimp only at hSw)
      go_simp
      try with_reducible rfl
    (try simp only [Act.put, List.setIfInBounds_toArray, List.set_cons_zero, List.set_cons_succ])
    refine wpAnyH_ready (rs := [4]) (by as_aux_lemma => kernel_rfl) (by simp) ?_
    refine AllReadyH.cons (by simp only [List.getElem?_toArray, List.getElem?_cons_succ, List.getElem?_cons_zero]; exact rfl) (fun K hK => ?_) AllReadyH.nil
    go_simp
    (go_at_call 50; refine (vrest_any A3 Rp.length c3 Rp false mt t st rs mn A n c fs _ (Held.sh (by assumption) HSn.out) (Held.rd (by assumption) HR3n.out) (by omega) s2 (Held.rd (by assumption) HRn.out) hn hfs hvs).mono ?_; rintro _ wx ⟨v, rfl, hrow, hl⟩; rw [HCF.out] at hrow; have hq := Held.trans (W0 := wc) (by assumption) hl; obtain ⟨A6, c6, rfl, _, _, _, rd⟩ := hrow.form; have RD6 := Lib.hid rd; clear hrow rd)
    refine hK.out _ _ ?_ (fun hHeld => ?_)
    · (try dsimp only)
      exact HK.out _ hq
    clear hK K
    (try simp only [Act.put, List.setIfInBounds_toArray, List.set_cons_zero, List.set_cons_succ])
    refine wpAnyH_ready (rs := [10]) (by as_aux_lemma => kernel_rfl) (by simp) ?_
    refine AllReadyH.cons (by simp only [List.getElem?_toArray, List.getElem?_cons_succ, List.getElem?_cons_zero]; exact rfl) (fun K hK => ?_) AllReadyH.nil
    go_simp
    (go_at_call 50; refine (vrest_any A n c fs false mt t st rs mn A n c fs _ (Held.sh (by assumption) HSn.out) (Held.rd (by assumption) HRn.out) (by omega) hfs (Held.rd (by assumption) HRn.out) hn hfs hvs).mono ?_; rintro _ wy ⟨v, rfl, hrow, hl⟩; rw [rest_self] at hrow; have RD6' := Lib.hid (RD6.out.keeps hl); have hq := Held.trans (W0 := wc) (by assumption) hl; obtain ⟨A7, c7, rfl, _, _, _, rd⟩ := hrow.form; have RD7 := Lib.hid rd; clear hrow rd)
    refine hK.out _ _ ?_ (fun hHeld => ?_)
    · (try dsimp only)
      exact HK.out _ hq
    clear hK K
    (try simp only [Act.put, List.setIfInBounds_toArray, List.set_cons_zero, List.set_cons_succ])
    refine wpAnyH_ready (rs := [11]) (by as_aux_lemma => kernel_rfl) (by simp) ?_
    refine AllReadyH.cons (by simp only [List.getElem?_toArray, List.getElem?_cons_succ, List.getElem?_cons_zero]; exact rfl) (fun K hK => ?_) AllReadyH.nil
    go_simp
    (go_at_call 49; refine (vfields_any A6 A7 (othersP false fs).length c6 c7 (othersP false fs) _ RD6'.out RD7.out HOL.out).mono ?_; rintro _ wz ⟨rfl, hl⟩; have hq := Held.trans (W0 := wc) (by assumption) hl; clear RD6 RD6' RD7)
    refine hK.out _ _ ?_ (fun hHeld => ?_)
    · (try dsimp only)
      exact HK.out _ hq
    clear hK K
    (try simp only [Act.put, List.setIfInBounds_toArray, List.set_cons_zero, List.set_cons_succ])
    refine wpAnyH_take (i := 12) (v := ?_) (by simp only [List.getElem?_toArray, List.getElem?_cons_succ, List.getElem?_cons_zero]; exact rfl) (by as_aux_lemma => kernel_rfl) (by as_aux_lemma => kernel_rfl) (by as_aux_lemma => kernel_rfl) (by exact fun _ _ _ h => h) (Or.inl ⟨by rfl, ?_⟩) (by assumption) ?_
    rotate_left
    · intro w hSw
      (try dsimp only at hSw)
      go_simp
      try with_reducible rfl
    (try simp only [Act.put, List.setIfInBounds_toArray, List.set_cons_zero, List.set_cons_succ])
    refine wpAnyH_take (i := 13) (v := ?_) (by simp only [List.getElem?_toArray, List.getElem?_cons_succ, List.getElem?_cons_zero]; exact rfl) (by as_aux_lemma => kernel_rfl) (by as_aux_lemma => kernel_rfl) (by as_aux_lemma => kernel_rfl) (by exact fun _ _ _ h => h) (Or.inl ⟨by rfl, ?_⟩) (by assumption) ?_
    rotate_left
    · intro w hSw
      (try dsimp only at hSw)
      go_simp
      try with_reducible rfl
    (try simp only [Act.put, List.setIfInBounds_toArray, List.set_cons_zero, List.set_cons_succ])
    refine wpAnyH_take (i := 14) (v := ?_) (by simp only [List.getElem?_toArray, List.getElem?_cons_succ, List.getElem?_cons_zero]; exact rfl) (by as_aux_lemma => kernel_rfl) (by as_aux_lemma => kernel_rfl) (by as_aux_lemma => kernel_rfl) (by exact fun _ _ _ h => h) (Or.inl ⟨by rfl, ?_⟩) (by assumption) ?_
    rotate_left
    · intro w hSw
      (try dsimp only at hSw)
      go_simp
      try with_reducible rfl
    (try simp only [Act.put, List.setIfInBounds_toArray, List.set_cons_zero, List.set_cons_succ])
    refine wpAnyH_ready (rs := [15]) (by as_aux_lemma => kernel_rfl) (by simp) ?_
    refine AllReadyH.cons (by simp only [List.getElem?_toArray, List.getElem?_cons_succ, List.getElem?_cons_zero]; exact rfl) (fun K hK => ?_) AllReadyH.nil
    go_simp
    (go_at_call 52; refine (vframed_any false p1 p2 st rs 1 A3 Rp.length c3 Rp ef _ (Held.rd (by assumption) HR3n.out) (by omega) s2 HCB.out HCC.out).mono ?_; rintro _ wz ⟨rfl, hl⟩; have hq := Held.trans (W0 := wc) (by assumption) hl)
    refine hK.out _ _ ?_ (fun hHeld => ?_)
    · (try dsimp only)
      exact HK.out _ hq
    clear hK K
    (try simp only [Act.put, List.setIfInBounds_toArray, List.set_cons_zero, List.set_cons_succ])
    refine wpAnyH_take (i := 16) (v := ?_) (by simp only [List.getElem?_toArray, List.getElem?_cons_succ, List.getElem?_cons_zero]; exact rfl) (by as_aux_lemma => kernel_rfl) (by as_aux_lemma => kernel_rfl) (by as_aux_lemma => kernel_rfl) (by exact fun _ _ _ h => h) (Or.inl ⟨by rfl, ?_⟩) (by assumption) ?_
    rotate_left
    · intro w hSw
      (try dsimp only at hSw)
      go_simp
      try with_reducible rfl
    (try simp only [Act.put, List.setIfInBounds_toArray, List.set_cons_zero, List.set_cons_succ])
    refine wpAnyH_take (i := 17) (v := ?_) (by simp only [List.getElem?_toArray, List.getElem?_cons_succ, List.getElem?_cons_zero]; exact rfl) (by as_aux_lemma => kernel_rfl) (by as_aux_lemma => kernel_rfl) (by as_aux_lemma => kernel_rfl) (by exact fun _ _ _ h => h) (Or.inl ⟨by rfl, ?_⟩) (by assumption) ?_
    rotate_left
    · intro w hSw
      (try dsimp only at hSw)
      go_simp
      try with_reducible rfl
    (try simp only [Act.put, List.setIfInBounds_toArray, List.set_cons_zero, List.set_cons_succ])
    refine wpAnyH_take (i := 18) (v := ?_) (by simp only [List.getElem?_toArray, List.getElem?_cons_succ, List.getElem?_cons_zero]; exact rfl) (by as_aux_lemma => kernel_rfl) (by as_aux_lemma => kernel_rfl) (by as_aux_lemma => kernel_rfl) (by exact fun _ _ _ h => h) (Or.inl ⟨by rfl, ?_⟩) (by assumption) ?_
    rotate_left
    · intro w hSw
      (try dsimp only at hSw)
      go_simp
      try with_reducible rfl
    (try simp only [Act.put, List.setIfInBounds_toArray, List.set_cons_zero, List.set_cons_succ])
    refine wpAnyH_take (i := 19) (v := ?_) (by simp only [List.getElem?_toArray, List.getElem?_cons_succ, List.getElem?_cons_zero]; exact rfl) (by as_aux_lemma => kernel_rfl) (by as_aux_lemma => kernel_rfl) (by as_aux_lemma => kernel_rfl) (by exact fun _ _ _ h => h) (Or.inl ⟨by rfl, ?_⟩) (by assumption) ?_
    rotate_left
    · intro w hSw
      (try dsimp only at hSw)
      go_simp
      try with_reducible rfl
    (try simp only [Act.put, List.setIfInBounds_toArray, List.set_cons_zero, List.set_cons_succ])
    refine wpAnyH_take (i := 20) (v := ?_) (by simp only [List.getElem?_toArray, List.getElem?_cons_succ, List.getElem?_cons_zero]; exact rfl) (by as_aux_lemma => kernel_rfl) (by as_aux_lemma => kernel_rfl) (by as_aux_lemma => kernel_rfl) (by exact fun _ _ _ h => h) (Or.inl ⟨by rfl, ?_⟩) (by assumption) ?_
    rotate_left
    · intro w hSw
      (try dsimp only at hSw)
      go_simp
      try with_reducible rfl
    (try simp only [Act.put, List.setIfInBounds_toArray, List.set_cons_zero, List.set_cons_succ])
    refine wpAnyH_take (i := 21) (v := ?_) (by simp only [List.getElem?_toArray, List.getElem?_cons_succ, List.getElem?_cons_zero]; exact rfl) (by as_aux_lemma => kernel_rfl) (by as_aux_lemma => kernel_rfl) (by as_aux_lemma => kernel_rfl) (by exact fun _ _ _ h => h) (Or.inl ⟨by rfl, ?_⟩) (by assumption) ?_
    rotate_left
    · intro w hSw
      (try dsimp only at hSw)
      go_simp
      try with_reducible rfl
    (try simp only [Act.put, List.setIfInBounds_toArray, List.set_cons_zero, List.set_cons_succ])
    refine wpAnyH_take (i := 22) (v := ?_) (by simp only [List.getElem?_toArray, List.getElem?_cons_succ, List.getElem?_cons_zero]; exact rfl) (by as_aux_lemma => kernel_rfl) (by as_aux_lemma => kernel_rfl) (by as_aux_lemma => kernel_rfl) (by exact fun _ _ _ h => h) (Or.inl ⟨by rfl, ?_⟩) (by assumption) ?_
    rotate_left
    · intro w hSw
      (try dsimp only at hSw)
      go_simp
      try with_reducible rfl
    (try simp only [Act.put, List.setIfInBounds_toArray, List.set_cons_zero, List.set_cons_succ])
    refine wpAnyH_take (i := 23) (v := ?_) (by simp only [List.getElem?_toArray, List.getElem?_cons_succ, List.getElem?_cons_zero]; exact rfl) (by as_aux_lemma => kernel_rfl) (by as_aux_lemma => kernel_rfl) (by as_aux_lemma => kernel_rfl) (by exact fun _ _ _ h => h) (Or.inl ⟨by rfl, ?_⟩) (by assumption) ?_
    rotate_left
    · intro w hSw
      (try dsimp only at hSw)
      go_simp
      try with_reducible rfl
    (try simp only [Act.put, List.setIfInBounds_toArray, List.set_cons_zero, List.set_cons_succ])
    refine wpAnyH_take (i := 24) (v := ?_) (by simp only [List.getElem?_toArray, List.getElem?_cons_succ, List.getElem?_cons_zero]; exact rfl) (by as_aux_lemma => kernel_rfl) (by as_aux_lemma => kernel_rfl) (by as_aux_lemma => kernel_rfl) (by exact fun _ _ _ h => h) (Or.inl ⟨by rfl, ?_⟩) (by assumption) ?_
    rotate_left
    · intro w hSw
      (try dsimp only at hSw)
      go_simp
      try with_reducible rfl
    (try simp only [Act.put, List.setIfInBounds_toArray, List.set_cons_zero, List.set_cons_succ])
    refine wpAnyH_take (i := 25) (v := ?_) (by simp only [List.getElem?_toArray, List.getElem?_cons_succ, List.getElem?_cons_zero]; exact rfl) (by as_aux_lemma => kernel_rfl) (by as_aux_lemma => kernel_rfl) (by as_aux_lemma => kernel_rfl) (by exact fun _ _ _ h => h) (Or.inl ⟨by rfl, ?_⟩) (by assumption) ?_
    rotate_left
    · intro w hSw
      (try dsimp only at hSw)
      go_simp
      try with_reducible rfl
    (try simp only [Act.put, List.setIfInBounds_toArray, List.set_cons_zero, List.set_cons_succ])
    refine wpAnyH_take (i := 26) (v := ?_) (by simp only [List.getElem?_toArray, List.getElem?_cons_succ, List.getElem?_cons_zero]; exact rfl) (by as_aux_lemma => kernel_rfl) (by as_aux_lemma => kernel_rfl) (by as_aux_lemma => kernel_rfl) (by exact fun _ _ _ h => h) (Or.inl ⟨by rfl, ?_⟩) (by assumption) ?_
    rotate_left
    · intro w hSw
      (try dsimp only at hSw)
      go_simp
      try with_reducible rfl
    (try simp only [Act.put, List.setIfInBounds_toArray, List.set_cons_zero, List.set_cons_succ])
    refine wpAnyH_take (i := 27) (v := ?_) (by simp only [List.getElem?_toArray, List.getElem?_cons_succ, List.getElem?_cons_zero]; exact rfl) (by as_aux_lemma => kernel_rfl) (by as_aux_lemma => kernel_rfl) (by as_aux_lemma => kernel_rfl) (by exact fun _ _ _ h => h) (Or.inl ⟨by rfl, ?_⟩) (by assumption) ?_
    rotate_left
    · intro w hSw
      (try dsimp only at hSw)
      go_simp
      try with_reducible rfl
    (try simp only [Act.put, List.setIfInBounds_toArray, List.set_cons_zero, List.set_cons_succ])
    refine wpAnyH_take (i := 28) (v := ?_) (by simp only [List.getElem?_toArray, List.getElem?_cons_succ, List.getElem?_cons_zero]; exact rfl) (by as_aux_lemma => kernel_rfl) (by as_aux_lemma => kernel_rfl) (by as_aux_lemma => kernel_rfl) (by exact fun _ _ _ h => h) (Or.inl ⟨by rfl, ?_⟩) (by assumption) ?_
    rotate_left
    · intro w hSw
      (try dsimp only at hSw)
      go_simp
      try with_reducible rfl
    (try simp only [Act.put, List.setIfInBounds_toArray, List.set_cons_zero, List.set_cons_succ])
    refine wpAnyH_take (i := 29) (v := ?_) (by simp only [List.getElem?_toArray, List.getElem?_cons_succ, List.getElem?_cons_zero]; exact rfl) (by as_aux_lemma => kernel_rfl) (by as_aux_lemma => kernel_rfl) (by as_aux_lemma => kernel_rfl) (by exact fun _ _ _ h => h) (Or.inl ⟨by rfl, ?_⟩) (by assumption) ?_
    rotate_left
    · intro w hSw
      (try dsimp only at hSw)
      go_simp
      try with_reducible rfl
    (try simp only [Act.put, List.setIfInBounds_toArray, List.set_cons_zero, List.set_cons_succ])
    refine wpAnyH_take (i := 30) (v := ?_) (by simp only [List.getElem?_toArray, List.getElem?_cons_succ, List.getElem?_cons_zero]; exact rfl) (by as_aux_lemma => kernel_rfl) (by as_aux_lemma => kernel_rfl) (by as_aux_lemma => kernel_rfl) (by exact fun _ _ _ h => h) (Or.inl ⟨by rfl, ?_⟩) (by assumption) ?_
    rotate_left
    · intro w hSw
      (try dsimp only at hSw)
      go_simp
      try with_reducible rfl
    (try simp only [Act.put, List.setIfInBounds_toArray, List.set_cons_zero, List.set_cons_succ])
    refine wpAnyH_take (i := 31) (v := ?_) (by simp only [List.getElem?_toArray, List.getElem?_cons_succ, List.getElem?_cons_zero]; exact rfl) (by as_aux_lemma => kernel_rfl) (by as_aux_lemma => kernel_rfl) (by as_aux_lemma => kernel_rfl) (by exact fun _ _ _ h => h) (Or.inl ⟨by rfl, ?_⟩) (by assumption) ?_
    rotate_left
    · intro w hSw
      (try dsimp only at hSw)
      go_simp
      try with_reducible rfl
    (try simp only [Act.put, List.setIfInBounds_toArray, List.set_cons_zero, List.set_cons_succ])
    refine wpAnyH_take (i := 32) (v := ?_) (by simp only [List.getElem?_toArray, List.getElem?_cons_succ, List.getElem?_cons_zero]; exact rfl) (by as_aux_lemma => kernel_rfl) (by as_aux_lemma => kernel_rfl) (by as_aux_lemma => kernel_rfl) (by exact fun _ _ _ h => h) (Or.inl ⟨by rfl, ?_⟩) (by assumption) ?_
    rotate_left
    · intro w hSw
      (try dsimp only at hSw)
      go_simp
      try with_reducible rfl
    (try simp only [Act.put, List.setIfInBounds_toArray, List.set_cons_zero, List.set_cons_succ])
    refine wpAnyH_take (i := 33) (v := ?_) (by simp only [List.getElem?_toArray, List.getElem?_cons_succ, List.getElem?_cons_zero]; exact rfl) (by as_aux_lemma => kernel_rfl) (by as_aux_lemma => kernel_rfl) (by as_aux_lemma => kernel_rfl) (by exact fun _ _ _ h => h) (Or.inl ⟨by rfl, ?_⟩) (by assumption) ?_
    rotate_left
    · intro w hSw
      (try dsimp only at hSw)
      go_simp
      try with_reducible rfl
    (try simp only [Act.put, List.setIfInBounds_toArray, List.set_cons_zero, List.set_cons_succ])
    refine wpAnyH_take (i := 34) (v := ?_) (by simp only [List.getElem?_toArray, List.getElem?_cons_succ, List.getElem?_cons_zero]; exact rfl) (by as_aux_lemma => kernel_rfl) (by as_aux_lemma => kernel_rfl) (by as_aux_lemma => kernel_rfl) (by exact fun _ _ _ h => h) (Or.inl ⟨by rfl, ?_⟩) (by assumption) ?_
    rotate_left
    · intro w hSw
      (try dsimp only at hSw)
      go_simp
      try with_reducible rfl
    (try simp only [Act.put, List.setIfInBounds_toArray, List.set_cons_zero, List.set_cons_succ])
    refine wpAnyH_take (i := 35) (v := ?_) (by simp only [List.getElem?_toArray, List.getElem?_cons_succ, List.getElem?_cons_zero]; exact rfl) (by as_aux_lemma => kernel_rfl) (by as_aux_lemma => kernel_rfl) (by as_aux_lemma => kernel_rfl) (by exact fun _ _ _ h => h) (Or.inl ⟨by rfl, ?_⟩) (by assumption) ?_
    rotate_left
    · intro w hSw
      (try dsimp only at hSw)
      go_simp
      try with_reducible rfl
    (try simp only [Act.put, List.setIfInBounds_toArray, List.set_cons_zero, List.set_cons_succ])
    refine wpAnyH_take (i := 36) (v := ?_) (by simp only [List.getElem?_toArray, List.getElem?_cons_succ, List.getElem?_cons_zero]; exact rfl) (by as_aux_lemma => kernel_rfl) (by as_aux_lemma => kernel_rfl) (by as_aux_lemma => kernel_rfl) (by exact fun _ _ _ h => h) (Or.inl ⟨by rfl, ?_⟩) (by assumption) ?_
    rotate_left
    · intro w hSw
      (try dsimp only at hSw)
      go_simp
      try with_reducible rfl
    (try simp only [Act.put, List.setIfInBounds_toArray, List.set_cons_zero, List.set_cons_succ])
    refine wpAnyH_take (i := 37) (v := ?_) (by simp only [List.getElem?_toArray, List.getElem?_cons_succ, List.getElem?_cons_zero]; exact rfl) (by as_aux_lemma => kernel_rfl) (by as_aux_lemma => kernel_rfl) (by as_aux_lemma => kernel_rfl) (by exact fun _ _ _ h => h) (Or.inl ⟨by rfl, ?_⟩) (by assumption) ?_
    rotate_left
    · intro w hSw
      (try dsimp only at hSw)
      go_simp
      try with_reducible rfl
    (try simp only [Act.put, List.setIfInBounds_toArray, List.set_cons_zero, List.set_cons_succ])
    refine wpAnyH_take (i := 38) (v := ?_) (by simp only [List.getElem?_toArray, List.getElem?_cons_succ, List.getElem?_cons_zero]; exact rfl) (by as_aux_lemma => kernel_rfl) (by as_aux_lemma => kernel_rfl) (by as_aux_lemma => kernel_rfl) (by exact fun _ _ _ h => h) (Or.inl ⟨by rfl, ?_⟩) (by assumption) ?_
    rotate_left
    · intro w hSw
      (try dsimp only at hSw)
      go_simp
      try with_reducible rfl
    (try simp only [Act.put, List.setIfInBounds_toArray, List.set_cons_zero, List.set_cons_succ])
    refine wpAnyH_done (by as_aux_lemma => kernel_rfl) ?_ _
    go_wp2
    go_ret
    exact ⟨rfl, HBZ.out.trans (hq.mono HBZ.out.size)⟩
end Go.Proofs.YtabecgdaiakgiaaDoor
