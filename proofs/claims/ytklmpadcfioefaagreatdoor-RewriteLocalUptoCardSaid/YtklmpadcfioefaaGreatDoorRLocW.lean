/- the law RewriteLocal (printed by gen_rlocw.py). Conditions: sizes, the library's variables, the world's shape. -/
import Derived.Test.YtklmpadcfioefaaGreatDoorRLoc3
import Derived.Test.YtklmpadcfioefaaGreatDoorRLocS
import Derived.Test.YtklmpadcfioefaaGreatDoorVDig
import Derived.Test.YtklmpadcfioefaaGreatDoorRAwake
import Derived.Test.YtklmpadcfioefaaGreatDoorRKeeps
import Derived.Test.YtklmpadcfioefaaGreatDoorSExp
import Derived.Test.YtklmpadcfioefaaGreatDoorSAwake
import Derived.Deep.QuietTactic
import Derived.BigQuiet
import Derived.Deep.RegionWith
namespace Go.Proofs.YtklmpadcfioefaaGreatDoor
open Go.RowKit
theorem flsz {fs : List Fl} {f : Fl} (h : f ∈ fs) : f.1.size ≤ flSize fs := by
  unfold flSize
  induction fs with
  | nil => cases h
  | cons a r ih =>
    rw [List.map_cons, List.sum_cons]
    rcases List.mem_cons.1 h with h | h
    · rw [h]; omega
    · have := ih h; omega
set_option maxRecDepth 100000 in
theorem loc_conv {w : World} {base n c : Nat} {A : Option Addr} {L : Bs} (h : RowB w base (.slice A n c) L) (hn : n = L.length) : (convert 26 9 (.slice A n c)).run Tryz.prog w = .ok (.string ⟨L.toArray⟩) w := by
  subst hn
  have h1 := h.form
  obtain ⟨A', c', e, _, _, hA, hr⟩ := h1
  injection e with e1 _ e3
  subst e1 e3
  exact conv_str (P := Tryz.prog) 26 9 5 Tryz.underlying26 Tryz.underlying5 Tryz.underlying9 hr (fun e => (hA e).1)
set_option maxRecDepth 100000 in
theorem loc_convR {w : World} {n c : Nat} {A : Option Addr} {L : Bs} (h : Rd w w.heap.size 1 A n (bytesV L)) (h0 : A = none → n = 0) : (convert 26 9 (.slice A n c)).run Tryz.prog w = .ok (.string ⟨L.toArray⟩) w :=
  conv_str (P := Tryz.prog) 26 9 5 Tryz.underlying26 Tryz.underlying5 Tryz.underlying9 h h0

set_option maxHeartbeats 4000000 in
set_option maxRecDepth 100000 in
theorem rlocal_any (st : Int) (cl : Bool) (w : World) (hsh : w.ShapedOpen Tryz.prog) (htab : Tab w) (hst : isInt st) :
    Calls Tryz.prog 5 #[.int .i64 st, .bool cl] w fun e w' => e = .returned (.bool true) ∧ Below w.heap.size w w' := by
  have HS := Lib.hid hsh
  have HT := Lib.hid htab
  have HST := Lib.hid hst
  have hsm := reply_small st cl
  clear hsh htab hst
  obtain ⟨T, B, hTB⟩ : ∃ T B, replyP st cl = (T, B) := ⟨_, _, rfl⟩
  have HTB := Lib.hid hTB
  rw [hTB] at hsm
  obtain ⟨hT, hB⟩ := hsm
  dsimp only at hT hB
  have HL := Lib.hid (fun (W : World) h1 h2 => wLocal_any st cl W h1 h2 HST.out)
  have HBR := Lib.hid (fun (W : World) h1 h2 => wBare_any st cl W h1 h2 HST.out)
  rw [hTB] at HL HBR
  dsimp only at HL HBR
  clear hTB
  go_enter Tryz.func5, Tryz.ntmps5
  go_upto_region 3 with (first
    | (go_at_call 22; go_must (refine (vawake_any _ HS.out HT.out).mono ?_; rintro _ w1 ⟨rfl, hb1⟩; have HB1 := Lib.hid hb1; clear hb1))
    | fail)
  have HS1 : Hid (w1.ShapedOpen Tryz.prog) := Lib.hid (shaped_below HS.out HB1.out)
  have HT1 := Lib.hid (HT.out.below HB1.out)
  obtain ⟨TB, hTB2⟩ : ∃ TB, TB = T ++ B := ⟨_, rfl⟩
  have hTBl : TB.length = T.length + B.length := by rw [hTB2, List.length_append]
  have HTL := Lib.hid hTBl
  have hTBz : TB.length ≤ 16448 := by omega
  rw [← hTB2] at HL
  have HTBe := Lib.hid hTB2
  clear hTB2 hTBl
  go_upto_region 5 with (first
    | (go_at_call 23; go_must (refine (HL.out _ HS1.out HT1.out).mono ?_; rintro _ w2 ⟨v2, rfl, hrow2, hb2⟩; obtain ⟨A2, c2, rfl, hc2, _, hA2, hr2⟩ := RowB.form hrow2; have HR2 := Lib.hid hrow2; have HB2 := Lib.hid hb2; have HS2 : Hid (w2.ShapedOpen Tryz.prog) := Lib.hid (shaped_below HS1.out hb2); have HT2 := Lib.hid (HT1.out.below hb2); clear hrow2 hb2 hr2))
    | (go_at_call 24; go_must (refine (HBR.out _ HS2.out HT2.out).mono ?_; rintro _ w3 ⟨v3, rfl, hrow3, hb3⟩; obtain ⟨A3, c3, rfl, hc3, _, hA3, hr3⟩ := RowB.form hrow3; have HR3 := Lib.hid hrow3; have HRD3 := Lib.hid hr3; have HB3 := Lib.hid hb3; have HS3 : Hid (w3.ShapedOpen Tryz.prog) := Lib.hid (shaped_below HS2.out hb3); have HT3 := Lib.hid (HT2.out.below hb3); clear hrow3 hb3 hr3))
    | fail)
  have HB13 : Hid (Below w1.heap.size w1 w3) := Lib.hid (HB2.out.trans (HB3.out.mono HB2.out.size))
  have HB03 : Hid (Below w.heap.size w w3) := Lib.hid (HB1.out.trans (HB13.out.mono HB1.out.size))
  have HR23 := Lib.hid (Row.below_all HR2.out HB3.out)
  have hz03 := HB03.out.size
  clear HS1 HT1 HS2 HT2 HL HBR
  by_cases hin : 100 ≤ st ∧ st ≤ 599
  · obtain ⟨hin1, hin2⟩ := hin
    have hrp : T = textP (localH st cl).hi ∧ B = localBody st := by
      have h := HTB.out
      unfold replyP at h
      rw [if_pos ⟨hin1, hin2⟩] at h
      injection h with h1 h2
      exact ⟨h1.symm, h2.symm⟩
    obtain ⟨hTe, hBe⟩ := hrp
    obtain ⟨g, hp, hrq, hgst, hgmn, hgfs, hhe, _⟩ := local_head st cl hin1 hin2
    obtain ⟨f1, f2, f3, f4⟩ := local_fields st cl hin1 hin2
    obtain ⟨_, _, hB1, hB2⟩ := local_len st hin1 hin2
    rw [← hTe] at hp hhe
    rw [← hBe] at hgfs f1 f2 f3 f4 hB1 hB2
    rw [← hgfs] at f1 f2 f3 f4
    obtain ⟨k1, k2, k3⟩ := parse_sizes hp
    have hflz : ∀ f ∈ flB g.fs, f.1.size ≤ 16777216 := fun f hf => by
      have := flsz hf
      omega
    have HP := Lib.hid hp
    have HHE := Lib.hid hhe
    have HF1 := Lib.hid f1
    obtain ⟨sv, hsv⟩ : ∃ sv : ByteArray, sv = ⟨(Lib.decDigits B.length).toArray⟩ := ⟨_, rfl⟩
    rw [itoa_nat, ← hsv] at f2
    have HVD := Lib.hid (fun (W : World) => vdigits_any B.length W (by unfold le63; omega))
    rw [← hsv] at HVD
    have HF2 := Lib.hid f2
    have HF3 := Lib.hid f3
    have HF4 := Lib.hid f4
    have HFZ := Lib.hid hflz
    have HRQ := Lib.hid hrq
    have HMN := Lib.hid hgmn
    have HBL := Lib.hid hBe
    have HSTN : Hid (((g.st : Nat) : Int) = st) := Lib.hid hgst
    clear hgst hp hhe f1 f2 f3 f4 hflz hrq hgmn hTe hBe hgfs
    have i1 : ¬ st < 100 := by omega
    have i2 : ¬ 599 < st := by omega
    have hvt : total (vals (flB g.fs) sConn) ≤ 8388608 := by have := vals_total (flB g.fs) sConn; omega
    have HVT := Lib.hid hvt
    have hnf : g.fs.length ≤ 64 := k3
    clear hvt k1 k2 k3
    go_upto_region 8 with (first
      | (go_at_call 25; go_must (refine (hParse_lit A3 T.length c3 T false _ HS3.out (fun e => (hA3 e).1) HRD3.out (by omega) HP.out).mono ?_; rintro _ w4 ⟨A4, c4, rfl, hrow4, hb4⟩))
      | (refine wpList_put rfl 52 (.tmp 7) (.tmp 38) rfl w4.heap.size rfl (Var.new w4 52 [.bool false, .string ⟨#[]⟩, .string ⟨#[]⟩, .int .i64 0, .string ⟨#[]⟩, .int .i64 0, .slice none 0 0]) [.bool g.rq, .string ⟨g.m.toArray⟩, .string ⟨g.t.toArray⟩, .int .i64 (g.st : Int), .string ⟨g.rs.toArray⟩, .int .i64 (g.mn : Int), .slice A4 g.fs.length c4] rfl rfl (by kernel_rfl) (by simp [Value.oneCell']) ?_; intro w5 hvw5 hgw5 hsw5)
      | fail)
    have hz4 := hb4.size
    have b35 : Below w3.heap.size w3 w5 := Below.put hb4 hz4 hgw5
    have B5 := Lib.hid (HB03.out.trans (b35.mono hz03))
    have V5 := hvw5
    have HRB5 := Lib.hid (Row.below_all HR23.out b35)
    have HRT5 := Lib.hid (Row.below_all HR3.out b35)
    obtain ⟨_, _, e1, _, _, _, r5⟩ := (hrow4.put hgw5).form
    injection e1 with e1 _ q1
    subst e1 q1
    have HS5 : Hid (w5.ShapedOpen Tryz.prog) := Lib.hid (shaped_below HS3.out b35)
    have HR5 := Lib.hid r5
    have HV5 := Lib.hid V5
    clear hrow4 hb4 hvw5 hgw5 hsw5 b35 HR23 HR3
    obtain ⟨A2', c2', e2, _, _, _, hrb⟩ := Row.form HRB5.out
    injection e2 with e21 _ e23
    subst e21 e23
    have htk : TB.take T.length = T := by rw [HTBe.out]; exact List.take_left
    have hrb1 := hrb.pre (k := T.length) (by have := HTL.out; omega)
    rw [Nat.mul_one, bytesV_take, htk] at hrb1
    have cv1 : (convert 26 9 (.slice A2 T.length c2)).run Tryz.prog w5.drew = .ok (.string ⟨T.toArray⟩) w5.drew := loc_convR (w := w5.drew) hrb1 (fun e => by have := (hA2 e).1; have := HTL.out; omega)
    have cv2 : (convert 26 9 (.slice A3 T.length c3)).run Tryz.prog w5.drew = .ok (.string ⟨T.toArray⟩) w5.drew := loc_conv (w := w5.drew) HRT5.out rfl
    have HRB1 := Lib.hid hrb1
    have HRBw := Lib.hid hrb
    have d3 : w5.cell? ⟨w4.heap.size, 3, none⟩ = some (.int .i64 st) := (V5.cell (j := 3) rfl).trans (by rw [HSTN.out])
    have j1 : ¬ ((TB.length : Nat) : Int) ≤ ((T.length : Nat) : Int) := by have := HTL.out; omega
    have j2 : ((T.length : Nat) : Int) ≤ (c2 : Int) := by have := HTL.out; omega
    have j3 : (0 : Int) ≤ ((T.length : Nat) : Int) := by omega
    have HKP := Lib.hid (fun (W : World) (hb : Below w5.heap.size w5 W) => wKeeps_any g.rq ⟨g.m.toArray⟩ ⟨g.t.toArray⟩ st ⟨g.rs.toArray⟩ (g.mn : Int) A4 g.fs.length c4 (flB g.fs) W (shaped_below HS5.out hb) ((HR5.out.below hb).more hb.size) (by omega) HFZ.out HVT.out)
    have hkp : keepsP (g.mn : Int) (flB g.fs) = !cl := by rw [HMN.out]; exact HF4.out
    rw [hkp] at HKP
    clear hrb hrb1 htk hkp
    have HSW : Hid (∀ W, Below w5.heap.size w5 W → (Below w5.heap.size w5 W ∧ W.cell? ⟨w4.heap.size, 0, none⟩ = some (.bool g.rq) ∧ W.cell? ⟨w4.heap.size, 1, none⟩ = some (.string ⟨g.m.toArray⟩) ∧ W.cell? ⟨w4.heap.size, 2, none⟩ = some (.string ⟨g.t.toArray⟩) ∧ W.cell? ⟨w4.heap.size, 3, none⟩ = some (.int .i64 st) ∧ W.cell? ⟨w4.heap.size, 4, none⟩ = some (.string ⟨g.rs.toArray⟩) ∧ W.cell? ⟨w4.heap.size, 5, none⟩ = some (.int .i64 (g.mn : Int)) ∧ W.cell? ⟨w4.heap.size, 6, none⟩ = some (.slice A4 g.fs.length c4) ∧ (convert 26 9 (.slice A2 T.length c2)).run Tryz.prog W = .ok (.string ⟨T.toArray⟩) W ∧ (convert 26 9 (.slice A3 T.length c3)).run Tryz.prog W = .ok (.string ⟨T.toArray⟩) W)) := Lib.hid (fun W hW => by
      have hv := HV5.out.below_all hW
      exact ⟨hW, hv.cell (j := 0) rfl, hv.cell (j := 1) rfl, hv.cell (j := 2) rfl, (hv.cell (j := 3) rfl).trans (by rw [HSTN.out]), hv.cell (j := 4) rfl, hv.cell (j := 5) rfl, hv.cell (j := 6) rfl, loc_convR (HRB1.out.keeps hW) (fun e => by have := (hA2 e).1; have := HTL.out; omega), loc_conv (Row.below_all HRT5.out hW) rfl⟩)
    clear cv1 cv2 d3 V5
    go_cut [70] (fun v wx => v = .bool false ∧ Below w5.heap.size w5 wx)
    case first =>
      refine wp_region_held_drew (S := (fun W => (Below w5.heap.size w5 W ∧ W.cell? ⟨w4.heap.size, 0, none⟩ = some (.bool g.rq) ∧ W.cell? ⟨w4.heap.size, 1, none⟩ = some (.string ⟨g.m.toArray⟩) ∧ W.cell? ⟨w4.heap.size, 2, none⟩ = some (.string ⟨g.t.toArray⟩) ∧ W.cell? ⟨w4.heap.size, 3, none⟩ = some (.int .i64 st) ∧ W.cell? ⟨w4.heap.size, 4, none⟩ = some (.string ⟨g.rs.toArray⟩) ∧ W.cell? ⟨w4.heap.size, 5, none⟩ = some (.int .i64 (g.mn : Int)) ∧ W.cell? ⟨w4.heap.size, 6, none⟩ = some (.slice A4 g.fs.length c4) ∧ (convert 26 9 (.slice A2 T.length c2)).run Tryz.prog W = .ok (.string ⟨T.toArray⟩) W ∧ (convert 26 9 (.slice A3 T.length c3)).run Tryz.prog W = .ok (.string ⟨T.toArray⟩) W))) (by as_aux_lemma => kernel_rfl) ?_ (fun hHeld => ?_)
      · exact HSW.out _ ((Below.refl _ _).drew)
      refine wpAnyH_take (i := 0) (v := ?_) (by simp only [List.getElem?_toArray, List.getElem?_cons_zero]; exact rfl) (by as_aux_lemma => kernel_rfl) (by as_aux_lemma => kernel_rfl) (by as_aux_lemma => kernel_rfl) (by exact fun _ _ _ h => h) (Or.inl ⟨by rfl, ?_⟩) (by assumption) ?_
      rotate_left
      · intro w hSw
        (try dsimp only at hSw)
        go_simp
        try with_reducible rfl
      (try simp only [Act.put, List.setIfInBounds_toArray, List.set_cons_zero, List.set_cons_succ])
      refine wpAnyH_take (i := 1) (v := ?_) (by simp only [List.getElem?_toArray, List.getElem?_cons_succ, List.getElem?_cons_zero]; exact rfl) (by as_aux_lemma => kernel_rfl) (by as_aux_lemma => kernel_rfl) (by as_aux_lemma => kernel_rfl) (by exact fun _ _ _ h => h) (Or.inl ⟨by rfl, ?_⟩) (by assumption) ?_
      rotate_left
      · intro w hSw
        (try dsimp only at hSw)
        go_simp
        try with_reducible rfl
      (try simp only [Act.put, List.setIfInBounds_toArray, List.set_cons_zero, List.set_cons_succ])
      refine wpAnyH_take (i := 2) (v := ?_) (by simp only [List.getElem?_toArray, List.getElem?_cons_succ, List.getElem?_cons_zero]; exact rfl) (by as_aux_lemma => kernel_rfl) (by as_aux_lemma => kernel_rfl) (by as_aux_lemma => kernel_rfl) (by exact fun _ _ _ h => h) (Or.inl ⟨by rfl, ?_⟩) (by assumption) ?_
      rotate_left
      · intro w hSw
        (try dsimp only at hSw)
        go_simp
        try with_reducible rfl
      (try simp only [Act.put, List.setIfInBounds_toArray, List.set_cons_zero, List.set_cons_succ])
      refine wpAnyH_take (i := 3) (v := ?_) (by simp only [List.getElem?_toArray, List.getElem?_cons_succ, List.getElem?_cons_zero]; exact rfl) (by as_aux_lemma => kernel_rfl) (by as_aux_lemma => kernel_rfl) (by as_aux_lemma => kernel_rfl) (by exact fun _ _ _ h => h) (Or.inl ⟨by rfl, ?_⟩) (by assumption) ?_
      rotate_left
      · intro w hSw
        (try dsimp only at hSw)
        go_simp
        try with_reducible rfl
      (try simp only [Act.put, List.setIfInBounds_toArray, List.set_cons_zero, List.set_cons_succ])
      refine wpAnyH_take (i := 4) (v := ?_) (by simp only [List.getElem?_toArray, List.getElem?_cons_succ, List.getElem?_cons_zero]; exact rfl) (by as_aux_lemma => kernel_rfl) (by as_aux_lemma => kernel_rfl) (by as_aux_lemma => kernel_rfl) (by exact fun _ _ _ h => h) (Or.inl ⟨by rfl, ?_⟩) (by assumption) ?_
      rotate_left
      · intro w hSw
        (try dsimp only at hSw)
        go_simp
        try with_reducible rfl
      (try simp only [Act.put, List.setIfInBounds_toArray, List.set_cons_zero, List.set_cons_succ])
      refine wpAnyH_take (i := 5) (v := ?_) (by simp only [List.getElem?_toArray, List.getElem?_cons_succ, List.getElem?_cons_zero]; exact rfl) (by as_aux_lemma => kernel_rfl) (by as_aux_lemma => kernel_rfl) (by as_aux_lemma => kernel_rfl) (by exact fun _ _ _ h => h) (Or.inl ⟨by rfl, ?_⟩) (by assumption) ?_
      rotate_left
      · intro w hSw
        (try dsimp only at hSw)
        go_simp
        try with_reducible rfl
      (try simp only [Act.put, List.setIfInBounds_toArray, List.set_cons_zero, List.set_cons_succ])
      refine wpAnyH_take (i := 6) (v := ?_) (by simp only [List.getElem?_toArray, List.getElem?_cons_succ, List.getElem?_cons_zero]; exact rfl) (by as_aux_lemma => kernel_rfl) (by as_aux_lemma => kernel_rfl) (by as_aux_lemma => kernel_rfl) (by exact fun _ _ _ h => h) (Or.inl ⟨by rfl, ?_⟩) (by assumption) ?_
      rotate_left
      · intro w hSw
        (try dsimp only at hSw)
        go_simp
        try with_reducible rfl
      (try simp only [Act.put, List.setIfInBounds_toArray, List.set_cons_zero, List.set_cons_succ])
      refine wpAnyH_take (i := 7) (v := ?_) (by simp only [List.getElem?_toArray, List.getElem?_cons_succ, List.getElem?_cons_zero]; exact rfl) (by as_aux_lemma => kernel_rfl) (by as_aux_lemma => kernel_rfl) (by as_aux_lemma => kernel_rfl) (by exact fun _ _ _ h => h) (Or.inl ⟨by rfl, ?_⟩) (by assumption) ?_
      rotate_left
      · intro w hSw
        (try dsimp only at hSw)
        go_simp
        try with_reducible rfl
      (try simp only [Act.put, List.setIfInBounds_toArray, List.set_cons_zero, List.set_cons_succ])
      refine wpAnyH_take (i := 8) (v := ?_) (by simp only [List.getElem?_toArray, List.getElem?_cons_succ, List.getElem?_cons_zero]; exact rfl) (by as_aux_lemma => kernel_rfl) (by as_aux_lemma => kernel_rfl) (by as_aux_lemma => kernel_rfl) (by exact fun _ _ _ h => h) (Or.inl ⟨by rfl, ?_⟩) (by assumption) ?_
      rotate_left
      · intro w hSw
        (try dsimp only at hSw)
        go_simp
        try with_reducible rfl
      (try simp only [Act.put, List.setIfInBounds_toArray, List.set_cons_zero, List.set_cons_succ])
      refine wpAnyH_take (i := 9) (v := ?_) (by simp only [List.getElem?_toArray, List.getElem?_cons_succ, List.getElem?_cons_zero]; exact rfl) (by as_aux_lemma => kernel_rfl) (by as_aux_lemma => kernel_rfl) (by as_aux_lemma => kernel_rfl) (by exact fun _ _ _ h => h) (Or.inl ⟨by rfl, ?_⟩) (by assumption) ?_
      rotate_left
      · intro w hSw
        (try dsimp only at hSw)
        go_simp
        try with_reducible rfl
      (try simp only [Act.put, List.setIfInBounds_toArray, List.set_cons_zero, List.set_cons_succ])
      refine wpAnyH_take (i := 10) (v := ?_) (by simp only [List.getElem?_toArray, List.getElem?_cons_succ, List.getElem?_cons_zero]; exact rfl) (by as_aux_lemma => kernel_rfl) (by as_aux_lemma => kernel_rfl) (by as_aux_lemma => kernel_rfl) (by exact fun _ _ _ h => h) (Or.inl ⟨by rfl, ?_⟩) (by assumption) ?_
      rotate_left
      · intro w hSw
        (try dsimp only at hSw)
        go_simp
        try with_reducible rfl
      (try simp only [Act.put, List.setIfInBounds_toArray, List.set_cons_zero, List.set_cons_succ])
      refine wpAnyH_take (i := 11) (v := ?_) (by simp only [List.getElem?_toArray, List.getElem?_cons_succ, List.getElem?_cons_zero]; exact rfl) (by as_aux_lemma => kernel_rfl) (by as_aux_lemma => kernel_rfl) (by as_aux_lemma => kernel_rfl) (by exact fun _ _ _ h => h) (Or.inl ⟨by rfl, ?_⟩) (by assumption) ?_
      rotate_left
      · intro w hSw
        (try dsimp only at hSw)
        go_simp
        try with_reducible rfl
      (try simp only [Act.put, List.setIfInBounds_toArray, List.set_cons_zero, List.set_cons_succ])
      refine wpAnyH_take (i := 12) (v := ?_) (by simp only [List.getElem?_toArray, List.getElem?_cons_succ, List.getElem?_cons_zero]; exact rfl) (by as_aux_lemma => kernel_rfl) (by as_aux_lemma => kernel_rfl) (by as_aux_lemma => kernel_rfl) (by exact fun _ _ _ h => h) (Or.inl ⟨by rfl, ?_⟩) (by assumption) ?_
      rotate_left
      · intro w hSw
        (try dsimp only at hSw)
        go_simp
        try with_reducible rfl
      (try simp only [Act.put, List.setIfInBounds_toArray, List.set_cons_zero, List.set_cons_succ])
      refine wpAnyH_take (i := 13) (v := ?_) (by simp only [List.getElem?_toArray, List.getElem?_cons_succ, List.getElem?_cons_zero]; exact rfl) (by as_aux_lemma => kernel_rfl) (by as_aux_lemma => kernel_rfl) (by as_aux_lemma => kernel_rfl) (by exact fun _ _ _ h => h) (Or.inl ⟨by rfl, ?_⟩) (by assumption) ?_
      rotate_left
      · intro w hSw
        (try dsimp only at hSw)
        go_simp
        try with_reducible rfl
      (try simp only [Act.put, List.setIfInBounds_toArray, List.set_cons_zero, List.set_cons_succ])
      refine wpAnyH_take (i := 14) (v := ?_) (by simp only [List.getElem?_toArray, List.getElem?_cons_succ, List.getElem?_cons_zero]; exact rfl) (by as_aux_lemma => kernel_rfl) (by as_aux_lemma => kernel_rfl) (by as_aux_lemma => kernel_rfl) (by exact fun _ _ _ h => h) (Or.inl ⟨by rfl, ?_⟩) (by assumption) ?_
      rotate_left
      · intro w hSw
        (try dsimp only at hSw)
        go_simp
        try with_reducible rfl
      (try simp only [Act.put, List.setIfInBounds_toArray, List.set_cons_zero, List.set_cons_succ])
      refine wpAnyH_take (i := 15) (v := ?_) (by simp only [List.getElem?_toArray, List.getElem?_cons_succ, List.getElem?_cons_zero]; exact rfl) (by as_aux_lemma => kernel_rfl) (by as_aux_lemma => kernel_rfl) (by as_aux_lemma => kernel_rfl) (by exact fun _ _ _ h => h) (Or.inl ⟨by rfl, ?_⟩) (by assumption) ?_
      rotate_left
      · intro w hSw
        (try dsimp only at hSw)
        go_simp
        try with_reducible rfl
      (try simp only [Act.put, List.setIfInBounds_toArray, List.set_cons_zero, List.set_cons_succ])
      refine wpAnyH_take (i := 16) (v := ?_) (by simp only [List.getElem?_toArray, List.getElem?_cons_succ, List.getElem?_cons_zero]; exact rfl) (by as_aux_lemma => kernel_rfl) (by as_aux_lemma => kernel_rfl) (by as_aux_lemma => kernel_rfl) (by exact fun _ _ _ h => h) (Or.inl ⟨by rfl, ?_⟩) (by assumption) ?_
      rotate_left
      · intro w hSw
        (try dsimp only at hSw)
        go_simp
        try with_reducible rfl
      (try simp only [Act.put, List.setIfInBounds_toArray, List.set_cons_zero, List.set_cons_succ])
      refine wpAnyH_take (i := 17) (v := ?_) (by simp only [List.getElem?_toArray, List.getElem?_cons_succ, List.getElem?_cons_zero]; exact rfl) (by as_aux_lemma => kernel_rfl) (by as_aux_lemma => kernel_rfl) (by as_aux_lemma => kernel_rfl) (by exact fun _ _ _ h => h) (Or.inl ⟨by rfl, ?_⟩) (by assumption) ?_
      rotate_left
      · intro w hSw
        (try dsimp only at hSw)
        go_simp
        try with_reducible rfl
      (try simp only [Act.put, List.setIfInBounds_toArray, List.set_cons_zero, List.set_cons_succ])
      refine wpAnyH_take (i := 18) (v := ?_) (by simp only [List.getElem?_toArray, List.getElem?_cons_succ, List.getElem?_cons_zero]; exact rfl) (by as_aux_lemma => kernel_rfl) (by as_aux_lemma => kernel_rfl) (by as_aux_lemma => kernel_rfl) (by exact fun _ _ _ h => h) (Or.inl ⟨by rfl, ?_⟩) (by assumption) ?_
      rotate_left
      · intro w hSw
        (try dsimp only at hSw)
        go_simp
        try with_reducible rfl
      (try simp only [Act.put, List.setIfInBounds_toArray, List.set_cons_zero, List.set_cons_succ])
      refine wpAnyH_take (i := 19) (v := ?_) (by simp only [List.getElem?_toArray, List.getElem?_cons_succ, List.getElem?_cons_zero]; exact rfl) (by as_aux_lemma => kernel_rfl) (by as_aux_lemma => kernel_rfl) (by as_aux_lemma => kernel_rfl) (by exact fun _ _ _ h => h) (Or.inl ⟨by rfl, ?_⟩) (by assumption) ?_
      rotate_left
      · intro w hSw
        (try dsimp only at hSw)
        go_simp
        try with_reducible rfl
      (try simp only [Act.put, List.setIfInBounds_toArray, List.set_cons_zero, List.set_cons_succ])
      refine wpAnyH_take (i := 20) (v := ?_) (by simp only [List.getElem?_toArray, List.getElem?_cons_succ, List.getElem?_cons_zero]; exact rfl) (by as_aux_lemma => kernel_rfl) (by as_aux_lemma => kernel_rfl) (by as_aux_lemma => kernel_rfl) (by exact fun _ _ _ h => h) (Or.inl ⟨by rfl, ?_⟩) (by assumption) ?_
      rotate_left
      · intro w hSw
        (try dsimp only at hSw)
        go_simp
        try with_reducible rfl
      (try simp only [Act.put, List.setIfInBounds_toArray, List.set_cons_zero, List.set_cons_succ])
      refine wpAnyH_take (i := 21) (v := ?_) (by simp only [List.getElem?_toArray, List.getElem?_cons_succ, List.getElem?_cons_zero]; exact rfl) (by as_aux_lemma => kernel_rfl) (by as_aux_lemma => kernel_rfl) (by as_aux_lemma => kernel_rfl) (by exact fun _ _ _ h => h) (Or.inl ⟨by rfl, ?_⟩) (by assumption) ?_
      rotate_left
      · intro w hSw
        (try dsimp only at hSw)
        go_simp
        try with_reducible rfl
      (try simp only [Act.put, List.setIfInBounds_toArray, List.set_cons_zero, List.set_cons_succ])
      refine wpAnyH_take (i := 22) (v := ?_) (by simp only [List.getElem?_toArray, List.getElem?_cons_succ, List.getElem?_cons_zero]; exact rfl) (by as_aux_lemma => kernel_rfl) (by as_aux_lemma => kernel_rfl) (by as_aux_lemma => kernel_rfl) (by exact fun _ _ _ h => h) (Or.inl ⟨by rfl, ?_⟩) (by assumption) ?_
      rotate_left
      · intro w hSw
        (try dsimp only at hSw)
        go_simp
        try with_reducible rfl
      (try simp only [Act.put, List.setIfInBounds_toArray, List.set_cons_zero, List.set_cons_succ])
      refine wpAnyH_take (i := 23) (v := ?_) (by simp only [List.getElem?_toArray, List.getElem?_cons_succ, List.getElem?_cons_zero]; exact rfl) (by as_aux_lemma => kernel_rfl) (by as_aux_lemma => kernel_rfl) (by as_aux_lemma => kernel_rfl) (by exact fun _ _ _ h => h) (Or.inl ⟨by rfl, ?_⟩) (by assumption) ?_
      rotate_left
      · intro w hSw
        (try dsimp only at hSw)
        go_simp
        try with_reducible rfl
      (try simp only [Act.put, List.setIfInBounds_toArray, List.set_cons_zero, List.set_cons_succ])
      refine wpAnyH_take (i := 24) (v := ?_) (by simp only [List.getElem?_toArray, List.getElem?_cons_succ, List.getElem?_cons_zero]; exact rfl) (by as_aux_lemma => kernel_rfl) (by as_aux_lemma => kernel_rfl) (by as_aux_lemma => kernel_rfl) (by exact fun _ _ _ h => h) (Or.inl ⟨by rfl, ?_⟩) (by assumption) ?_
      rotate_left
      · intro w hSw
        (try dsimp only at hSw)
        go_simp
        try with_reducible rfl
      (try simp only [Act.put, List.setIfInBounds_toArray, List.set_cons_zero, List.set_cons_succ])
      refine wpAnyH_take (i := 25) (v := ?_) (by simp only [List.getElem?_toArray, List.getElem?_cons_succ, List.getElem?_cons_zero]; exact rfl) (by as_aux_lemma => kernel_rfl) (by as_aux_lemma => kernel_rfl) (by as_aux_lemma => kernel_rfl) (by exact fun _ _ _ h => h) (Or.inl ⟨by rfl, ?_⟩) (by assumption) ?_
      rotate_left
      · intro w hSw
        (try dsimp only at hSw)
        go_simp
        try with_reducible rfl
      (try simp only [Act.put, List.setIfInBounds_toArray, List.set_cons_zero, List.set_cons_succ])
      refine wpAnyH_take (i := 26) (v := ?_) (by simp only [List.getElem?_toArray, List.getElem?_cons_succ, List.getElem?_cons_zero]; exact rfl) (by as_aux_lemma => kernel_rfl) (by as_aux_lemma => kernel_rfl) (by as_aux_lemma => kernel_rfl) (by exact fun _ _ _ h => h) (Or.inl ⟨by rfl, ?_⟩) (by assumption) ?_
      rotate_left
      · intro w hSw
        (try dsimp only at hSw)
        go_simp
        try with_reducible rfl
      (try simp only [Act.put, List.setIfInBounds_toArray, List.set_cons_zero, List.set_cons_succ])
      refine wpAnyH_take (i := 28) (v := ?_) (by simp only [List.getElem?_toArray, List.getElem?_cons_succ, List.getElem?_cons_zero]; exact rfl) (by as_aux_lemma => kernel_rfl) (by as_aux_lemma => kernel_rfl) (by as_aux_lemma => kernel_rfl) (by exact fun _ _ _ h => h) (Or.inl ⟨by rfl, ?_⟩) (by assumption) ?_
      rotate_left
      · intro w hSw
        (try dsimp only at hSw)
        go_simp
        try with_reducible rfl
      (try simp only [Act.put, List.setIfInBounds_toArray, List.set_cons_zero, List.set_cons_succ])
      refine wpAnyH_ready (rs := [27]) (by as_aux_lemma => kernel_rfl) (by simp) ?_
      refine AllReadyH.cons (by simp only [List.getElem?_toArray, List.getElem?_cons_succ, List.getElem?_cons_zero]; exact rfl) (fun K hK => ?_) AllReadyH.nil
      go_simp
      (go_at_call 26; go_must (refine (HKP.out _ ((Below.refl _ _).drew)).mono ?_; rintro _ w6 ⟨rfl, hb6⟩; have hq := (Below.refl _ _).drew.trans hb6; have HQ := Lib.hid hq))
      refine hK.out _ _ ?_ (fun hHeld => ?_)
      · (try dsimp only)
        exact HSW.out _ hq
      clear hK K
      (try simp only [Act.put, List.setIfInBounds_toArray, List.set_cons_zero, List.set_cons_succ])
      refine wpAnyH_take (i := 29) (v := ?_) (by simp only [List.getElem?_toArray, List.getElem?_cons_succ, List.getElem?_cons_zero]; exact rfl) (by as_aux_lemma => kernel_rfl) (by as_aux_lemma => kernel_rfl) (by as_aux_lemma => kernel_rfl) (by exact fun _ _ _ h => h) (Or.inl ⟨by rfl, ?_⟩) (by assumption) ?_
      rotate_left
      · intro w hSw
        (try dsimp only at hSw)
        go_simp
        try with_reducible rfl
      (try simp only [Act.put, List.setIfInBounds_toArray, List.set_cons_zero, List.set_cons_succ])
      refine wpAnyH_take (i := 30) (v := ?_) (by simp only [List.getElem?_toArray, List.getElem?_cons_succ, List.getElem?_cons_zero]; exact rfl) (by as_aux_lemma => kernel_rfl) (by as_aux_lemma => kernel_rfl) (by as_aux_lemma => kernel_rfl) (by exact fun _ _ _ h => h) (Or.inl ⟨by rfl, ?_⟩) (by assumption) ?_
      rotate_left
      · intro w hSw
        (try dsimp only at hSw)
        go_simp
        try with_reducible rfl
      (try simp only [Act.put, List.setIfInBounds_toArray, List.set_cons_zero, List.set_cons_succ])
      refine wpAnyH_done (by as_aux_lemma => kernel_rfl) ?_ _
      go_wp2
      go_meet
      exact ⟨rfl, HQ.out⟩
    case rest =>
    obtain ⟨rfl, hb6⟩ := hcut
    obtain ⟨w6, rfl⟩ : ∃ w6 : World, w6 = wc := ⟨_, rfl⟩
    have HB6 := Lib.hid hb6
    have HV6 := Lib.hid (HV5.out.below_all hb6)
    have HR6 := Lib.hid ((HR5.out.below hb6).more hb6.size)
    have hrg := HV6.out.range
    clear hb6
    go_upto_region 11 with (first
      | (refine wpList_load_mid rfl 52 (.tmp 7) rfl w4.heap.size 0 rfl [.bool g.rq, .string ⟨g.m.toArray⟩, .string ⟨g.t.toArray⟩, .int .i64 (g.st : Int), .string ⟨g.rs.toArray⟩, .int .i64 (g.mn : Int), .slice A4 g.fs.length c4] _ hrg Tryz.underlying52 rfl (by kernel_rfl) ?_)
      | (go_at_call 27; go_must (refine (hValues_any g.rq ⟨g.m.toArray⟩ ⟨g.t.toArray⟩ (g.st : Int) ⟨g.rs.toArray⟩ (g.mn : Int) A4 g.fs.length c4 (flB g.fs) sLen _ HR6.out (by omega) (by decide) HFZ.out).mono ?_; rintro _ w7 ⟨v7, rfl, hrow7, hb7⟩; rw [HF2.out] at hrow7; have HB7 := Lib.hid hb7; have HR7 := Lib.hid hrow7; clear hrow7 hb7))
      | fail)
    obtain ⟨A7, c7, e7, _, _, _, hr7⟩ := HR7.out.form
    subst e7
    obtain ⟨g7, o7, hA7, hg7, hcell7⟩ := hr7.2 (by simp)
    subst hA7
    have d7 := hcell7 0 (.string sv) rfl
    rw [Nat.add_zero] at d7
    have HD7 : Hid (∀ W, Below w7.heap.size w7 W → (Below w7.heap.size w7 W ∧ W.cell? ⟨g7, o7, none⟩ = some (.string sv))) := Lib.hid (fun W hW => ⟨hW, (hW.cell (p := ⟨g7, o7, none⟩) hg7).trans d7⟩)
    have hsub : IntKind.i64.wrap ((TB.length : Int) - (T.length : Int)) = ((B.length : Nat) : Int) := by
      have := HTL.out
      rw [IntWalk.i64_in _ (by omega)]
      omega
    clear hr7 hcell7 d7 hrg
    go_cut [87] (fun v wx => v = .bool false ∧ Below w7.heap.size w7 wx)
    case first =>
      refine wp_region_held_drew (S := (fun W => (Below w7.heap.size w7 W ∧ W.cell? ⟨g7, o7, none⟩ = some (.string sv)))) (by as_aux_lemma => kernel_rfl) ?_ (fun hHeld => ?_)
      · exact HD7.out _ ((Below.refl _ _).drew)
      refine wpAnyH_take (i := 0) (v := ?_) (by simp only [List.getElem?_toArray, List.getElem?_cons_zero]; exact rfl) (by as_aux_lemma => kernel_rfl) (by as_aux_lemma => kernel_rfl) (by as_aux_lemma => kernel_rfl) (by exact fun _ _ _ h => h) (Or.inl ⟨by rfl, ?_⟩) (by assumption) ?_
      rotate_left
      · intro w hSw
        (try dsimp only at hSw)
        go_simp
        try with_reducible rfl
      (try simp only [Act.put, List.setIfInBounds_toArray, List.set_cons_zero, List.set_cons_succ])
      refine wpAnyH_take (i := 1) (v := ?_) (by simp only [List.getElem?_toArray, List.getElem?_cons_succ, List.getElem?_cons_zero]; exact rfl) (by as_aux_lemma => kernel_rfl) (by as_aux_lemma => kernel_rfl) (by as_aux_lemma => kernel_rfl) (by exact fun _ _ _ h => h) (Or.inl ⟨by rfl, ?_⟩) (by assumption) ?_
      rotate_left
      · intro w hSw
        (try dsimp only at hSw)
        go_simp
        try with_reducible rfl
      (try simp only [Act.put, List.setIfInBounds_toArray, List.set_cons_zero, List.set_cons_succ])
      refine wpAnyH_take (i := 2) (v := ?_) (by simp only [List.getElem?_toArray, List.getElem?_cons_succ, List.getElem?_cons_zero]; exact rfl) (by as_aux_lemma => kernel_rfl) (by as_aux_lemma => kernel_rfl) (by as_aux_lemma => kernel_rfl) (by exact fun _ _ _ h => h) (Or.inl ⟨by rfl, ?_⟩) (by assumption) ?_
      rotate_left
      · intro w hSw
        (try dsimp only at hSw)
        go_simp
        try with_reducible rfl
      (try simp only [Act.put, List.setIfInBounds_toArray, List.set_cons_zero, List.set_cons_succ])
      refine wpAnyH_take (i := 3) (v := ?_) (by simp only [List.getElem?_toArray, List.getElem?_cons_succ, List.getElem?_cons_zero]; exact rfl) (by as_aux_lemma => kernel_rfl) (by as_aux_lemma => kernel_rfl) (by as_aux_lemma => kernel_rfl) (by exact fun _ _ _ h => h) (Or.inl ⟨by rfl, ?_⟩) (by assumption) ?_
      rotate_left
      · intro w hSw
        (try dsimp only at hSw)
        go_simp
        try with_reducible rfl
      (try simp only [Act.put, List.setIfInBounds_toArray, List.set_cons_zero, List.set_cons_succ])
      refine wpAnyH_take (i := 4) (v := ?_) (by simp only [List.getElem?_toArray, List.getElem?_cons_succ, List.getElem?_cons_zero]; exact rfl) (by as_aux_lemma => kernel_rfl) (by as_aux_lemma => kernel_rfl) (by as_aux_lemma => kernel_rfl) (by exact fun _ _ _ h => h) (Or.inl ⟨by rfl, ?_⟩) (by assumption) ?_
      rotate_left
      · intro w hSw
        (try dsimp only at hSw)
        go_simp
        try with_reducible rfl
      (try simp only [Act.put, List.setIfInBounds_toArray, List.set_cons_zero, List.set_cons_succ])
      refine wpAnyH_take (i := 5) (v := ?_) (by simp only [List.getElem?_toArray, List.getElem?_cons_succ, List.getElem?_cons_zero]; exact rfl) (by as_aux_lemma => kernel_rfl) (by as_aux_lemma => kernel_rfl) (by as_aux_lemma => kernel_rfl) (by exact fun _ _ _ h => h) (Or.inl ⟨by rfl, ?_⟩) (by assumption) ?_
      rotate_left
      · intro w hSw
        (try dsimp only at hSw)
        go_simp
        try with_reducible rfl
      (try simp only [Act.put, List.setIfInBounds_toArray, List.set_cons_zero, List.set_cons_succ])
      refine wpAnyH_take (i := 6) (v := ?_) (by simp only [List.getElem?_toArray, List.getElem?_cons_succ, List.getElem?_cons_zero]; exact rfl) (by as_aux_lemma => kernel_rfl) (by as_aux_lemma => kernel_rfl) (by as_aux_lemma => kernel_rfl) (by exact fun _ _ _ h => h) (Or.inl ⟨by rfl, ?_⟩) (by assumption) ?_
      rotate_left
      · intro w hSw
        (try dsimp only at hSw)
        go_simp
        try with_reducible rfl
      (try simp only [Act.put, List.setIfInBounds_toArray, List.set_cons_zero, List.set_cons_succ])
      refine wpAnyH_take (i := 7) (v := ?_) (by simp only [List.getElem?_toArray, List.getElem?_cons_succ, List.getElem?_cons_zero]; exact rfl) (by as_aux_lemma => kernel_rfl) (by as_aux_lemma => kernel_rfl) (by as_aux_lemma => kernel_rfl) (by exact fun _ _ _ h => h) (Or.inl ⟨by rfl, ?_⟩) (by assumption) ?_
      rotate_left
      · intro w hSw
        (try dsimp only at hSw)
        go_simp
        try with_reducible rfl
      (try simp only [Act.put, List.setIfInBounds_toArray, List.set_cons_zero, List.set_cons_succ])
      refine wpAnyH_take (i := 9) (v := ?_) (by simp only [List.getElem?_toArray, List.getElem?_cons_succ, List.getElem?_cons_zero]; exact rfl) (by as_aux_lemma => kernel_rfl) (by as_aux_lemma => kernel_rfl) (by as_aux_lemma => kernel_rfl) (by exact fun _ _ _ h => h) (Or.inl ⟨by rfl, ?_⟩) (by assumption) ?_
      rotate_left
      · intro w hSw
        (try dsimp only at hSw)
        go_simp
        try with_reducible rfl
      (try simp only [Act.put, List.setIfInBounds_toArray, List.set_cons_zero, List.set_cons_succ])
      refine wpAnyH_take (i := 8) (v := ?_) (by simp only [List.getElem?_toArray, List.getElem?_cons_succ, List.getElem?_cons_zero]; exact rfl) (by as_aux_lemma => kernel_rfl) (by as_aux_lemma => kernel_rfl) (by as_aux_lemma => kernel_rfl) (by exact fun _ _ _ h => h) (Or.inl ⟨by rfl, ?_⟩) (by assumption) ?_
      rotate_left
      · intro w hSw
        (try dsimp only at hSw)
        go_simp
        try with_reducible rfl
      (try simp only [Act.put, List.setIfInBounds_toArray, List.set_cons_zero, List.set_cons_succ])
      refine wpAnyH_take (i := 10) (v := ?_) (by simp only [List.getElem?_toArray, List.getElem?_cons_succ, List.getElem?_cons_zero]; exact rfl) (by as_aux_lemma => kernel_rfl) (by as_aux_lemma => kernel_rfl) (by as_aux_lemma => kernel_rfl) (by exact fun _ _ _ h => h) (Or.inl ⟨by rfl, ?_⟩) (by assumption) ?_
      rotate_left
      · intro w hSw
        (try dsimp only at hSw)
        go_simp
        try with_reducible rfl
      (try simp only [Act.put, List.setIfInBounds_toArray, List.set_cons_zero, List.set_cons_succ])
      refine wpAnyH_take (i := 11) (v := ?_) (by simp only [List.getElem?_toArray, List.getElem?_cons_succ, List.getElem?_cons_zero]; exact rfl) (by as_aux_lemma => kernel_rfl) (by as_aux_lemma => kernel_rfl) (by as_aux_lemma => kernel_rfl) (by exact fun _ _ _ h => h) (Or.inl ⟨by rfl, ?_⟩) (by assumption) ?_
      rotate_left
      · intro w hSw
        (try dsimp only at hSw)
        go_simp
        try with_reducible rfl
      (try simp only [Act.put, List.setIfInBounds_toArray, List.set_cons_zero, List.set_cons_succ])
      refine wpAnyH_ready (rs := [12]) (by as_aux_lemma => kernel_rfl) (by simp) ?_
      refine AllReadyH.cons (by simp only [List.getElem?_toArray, List.getElem?_cons_succ, List.getElem?_cons_zero]; exact rfl) (fun K hK => ?_) AllReadyH.nil
      go_simp
      (go_at_call 28; go_must (refine (HVD.out _).mono ?_; rintro _ w8 ⟨rfl, hb8⟩; have hq := (Below.refl _ _).drew.trans hb8; have HQ := Lib.hid hq))
      refine hK.out _ _ ?_ (fun hHeld => ?_)
      · (try dsimp only)
        exact HD7.out _ hq
      clear hK K
      (try simp only [Act.put, List.setIfInBounds_toArray, List.set_cons_zero, List.set_cons_succ])
      refine wpAnyH_take (i := 13) (v := ?_) (by simp only [List.getElem?_toArray, List.getElem?_cons_succ, List.getElem?_cons_zero]; exact rfl) (by as_aux_lemma => kernel_rfl) (by as_aux_lemma => kernel_rfl) (by as_aux_lemma => kernel_rfl) (by exact fun _ _ _ h => h) (Or.inl ⟨by rfl, ?_⟩) (by assumption) ?_
      rotate_left
      · intro w hSw
        (try dsimp only at hSw)
        go_simp
        try with_reducible rfl
      (try simp only [Act.put, List.setIfInBounds_toArray, List.set_cons_zero, List.set_cons_succ])
      refine wpAnyH_take (i := 14) (v := ?_) (by simp only [List.getElem?_toArray, List.getElem?_cons_succ, List.getElem?_cons_zero]; exact rfl) (by as_aux_lemma => kernel_rfl) (by as_aux_lemma => kernel_rfl) (by as_aux_lemma => kernel_rfl) (by exact fun _ _ _ h => h) (Or.inl ⟨by rfl, ?_⟩) (by assumption) ?_
      rotate_left
      · intro w hSw
        (try dsimp only at hSw)
        go_simp
        try with_reducible rfl
      (try simp only [Act.put, List.setIfInBounds_toArray, List.set_cons_zero, List.set_cons_succ])
      refine wpAnyH_done (by as_aux_lemma => kernel_rfl) ?_ _
      go_wp2
      go_meet
      exact ⟨rfl, HQ.out⟩
    case rest =>
    obtain ⟨rfl, hb8⟩ := hcut
    obtain ⟨w8, rfl⟩ : ∃ w8 : World, w8 = wc := ⟨_, rfl⟩
    have HB58 : Hid (Below w5.heap.size w5 w8) := Lib.hid (HB6.out.trans ((HB7.out.trans (hb8.mono HB7.out.size)).mono HB6.out.size))
    have HB8 : Hid (Below w.heap.size w w8) := Lib.hid (B5.out.trans (HB58.out.mono B5.out.size))
    have HS8 : Hid (w8.ShapedOpen Tryz.prog) := Lib.hid (shaped_below HS5.out HB58.out)
    have HRB8 := Lib.hid (Row.below_all HRB5.out HB58.out)
    clear hb8 HD7 HR7 HB7 HR6 HV6 HB6 hsub
    by_cases hq1 : st < 200
    · go_wp2
      go_ret
      exact ⟨rfl, HB8.out⟩
    · by_cases hq2 : st = 204
      · have k2 : (st == 204) = true := by simpa using hq2
        go_wp2
        go_ret
        exact ⟨rfl, HB8.out⟩
      · by_cases hq3 : st = 304
        · have k2 : (st == 204) = false := by simpa using hq2
          have k3 : (st == 304) = true := by simpa using hq3
          go_wp2
          go_ret
          exact ⟨rfl, HB8.out⟩
        · have k2 : (st == 204) = false := by simpa using hq2
          have k3 : (st == 304) = false := by simpa using hq3
          go_upto_region 15 with (fail)
          go_upto_region 16 with (first
            | (go_at_call 6; refine (snew_any _ false).mono ?_; rintro _ w9 ⟨rfl, hm9, hb9, hz9⟩; have HM9 := Lib.hid hm9; have HB9 := Lib.hid hb9; have HZ9 := Lib.hid hz9; clear hm9 hb9 hz9)
            | fail)
          go_upto_region 17 with (first
            | (go_at_call 7; go_must (refine (sexpect_any HM9.out ⟨#[71, 69, 84]⟩ (by simp)).mono ?_; rintro _ w10 ⟨rfl, V10, hm10, hc10, hf10⟩; have HM10 := Lib.hid hm10; have HC10 := Lib.hid hc10; have HF10 := Lib.hid hf10; clear hm10 hc10 hf10))
            | fail)
          have HB810 : Hid (Below w8.heap.size w8 w10) := Lib.hid (Below.chg HB9.out HC10.out HB9.out.size (fun k hk => by have := new_foot hk; omega))
          have hi0 : Strm.Inv ({ rq := false, ms := [Strm.sGET] } : Strm.S) 0 := by
            have h := Strm.Inv.init false
            exact ⟨h.ph, h.due, h.end_, h.blk, h.nil, h.left, h.room, h.body, h.fr, h.fr4, h.win⟩
          have hm10 : SMem w10 w8.heap.size w8.heap.size ({ rq := false, ms := [Strm.sGET] } : Strm.S) V10 0 := HM10.out
          obtain ⟨A2', c2', e2, _, _, _, hrb⟩ := (Row.below_all HRB8.out HB810.out).form
          injection e2 with e21 _ e23
          subst e21 e23
          have HFD0 := sfeed_any (T := 0) (Shp.below (Shp.of HS8.out) HB810.out) hm10 hi0 rfl rfl A2 TB.length c2 TB (by omega) (by omega) hc2 hA2 hrb (fun h0 g o e f => by
            subst e
            have h1 := (Row.lt HRB8.out g rfl).2
            rcases HF10.out g f with x | x
            · have := new_foot x; omega
            · have := HB9.out.size; omega)
          unfold FeedsPost at HFD0
          have HFD := Lib.hid HFD0
          have hBne : B ≠ [] := fun e => by rw [e] at hB1; simp at hB1
          obtain ⟨ux, hfx⟩ := Strm.local_feeds T B g HP.out HHE.out hT hBne HRQ.out (by have := HSTN.out; omega) (by
            have h1 := HF1.out
            have h2 := HF2.out
            have h3 := HF3.out
            have hs := HSTN.out
            unfold framingP
            rw [if_neg (fun h => by cases h.1), if_neg (fun h => by
              rcases h.2 with h | h | h | h
              · omega
              · omega
              · omega
              · cases h), if_neg (fun h => h h1), if_pos (by rw [h2]; simp), h3])
          have HFX := Lib.hid hfx
          have HRBT := Lib.hid hrb
          clear HFD0 hfx hm10 hi0 hrb
          go_upto_region 18 with (first
            | (go_at_call 9; go_must (refine HFD.out.mono ?_; rintro _ w11 ⟨v11, L11, u11, V11, r11, q11, rfl, hre⟩; have HRE := Lib.hid hre; clear hre))
            | fail)
          obtain ⟨hfd, ho, _, _, _, hc11, _, _⟩ := HRE.out
          rw [HTBe.out] at hfd
          obtain ⟨_, hL, hr0⟩ := hfd.det HFX.out
          subst hr0
          have HB811 : Hid (Below w8.heap.size w8 w11) := Lib.hid (Below.chg HB810.out hc11 HB810.out.size (fun k hk => by
            rcases HF10.out k hk with x | x
            · have := new_foot x; omega
            · have := HB9.out.size; omega))
          have HBT : Hid (Below w.heap.size w w11) := Lib.hid (HB8.out.trans (HB811.out.mono HB8.out.size))
          obtain ⟨x0, x1, x2, rfl, y0, y1, y2⟩ := three_of hL
          obtain ⟨Av, cvv, rfl, _, _, _, _⟩ := ho.row.form
          obtain ⟨gv, ov, ev, _, _, hcl, _⟩ := ho.row.own (show (0 : Nat) < 3 by decide)
          subst ev
          have hdr := (ho.el x1 (by simp)).d
          obtain ⟨Ad, cd, hdv, _, _, hAd, hrd⟩ := Row.form hdr
          rw [y1] at hrd hdv hAd
          have c0 : w11.cell? ⟨gv, ov, none⟩ = some (.int .i64 1) := by have := hcl 0 (.int .i64 (eKind x0.x)) rfl; rw [y0] at this; exact this
          have c8 : w11.cell? ⟨gv, ov + 8, none⟩ = some (.int .i64 1) := by have := hcl 8 (.int .i64 (eFr x0.x : Int)) rfl; rw [y0] at this; exact this
          have c9 : w11.cell? ⟨gv, ov + 9, none⟩ = some (.int .i64 (B.length : Int)) := by have := hcl 9 (.int .i64 (eLn x0.x : Int)) rfl; rw [y0] at this; exact this
          have c11 : w11.cell? ⟨gv, ov + 11, none⟩ = some (.int .i64 2) := by have := hcl 11 (.int .i64 (eKind x1.x)) rfl; rw [y1] at this; exact this
          have c21 : w11.cell? ⟨gv, ov + 21, none⟩ = some (.slice Ad B.length cd) := by have := hcl 21 x1.dv rfl; rw [hdv] at this; exact this
          have c22 : w11.cell? ⟨gv, ov + 22, none⟩ = some (.int .i64 3) := by have := hcl 22 (.int .i64 (eKind x2.x)) rfl; rw [y2] at this; exact this
          have cvd : ∀ q, (convert 26 9 (.slice Ad B.length cd)).run Tryz.prog (w11.drewN q) = .ok (.string ⟨B.toArray⟩) (w11.drewN q) := fun q => loc_convR (w := w11.drewN q) hrd (fun e => (hAd e).1)
          obtain ⟨A2', c2', e2, _, _, _, hrb⟩ := (Row.below_all HRB8.out HB811.out).form
          injection e2 with e21 _ e23
          subst e21 e23
          obtain ⟨gb, ob, eb, _, _⟩ := hrb.2 (by have := HTL.out; omega)
          subst eb
          have hrs := Rd.sub hrb T.length B.length (by have := HTL.out; omega)
          have hsub : (TB.drop T.length).take B.length = B := by
            rw [HTBe.out, List.drop_left, List.take_length]
          rw [hsub] at hrs
          have cvb : ∀ q, (convert 26 9 (.slice (some ⟨gb, ob + T.length, none⟩) B.length (c2 - T.length))).run Tryz.prog (w11.drewN q) = .ok (.string ⟨B.toArray⟩) (w11.drewN q) := fun q => loc_convR (w := w11.drewN q) hrs (fun e => by cases e)
          have hnb : TB.length - T.length = B.length := by have := HTL.out; omega
          have cvb2 : ∀ q, (convert 26 9 (.slice (some ⟨gb, ob + T.length, none⟩) (TB.length - T.length) (c2 - T.length))).run Tryz.prog (w11.drewN q) = .ok (.string ⟨B.toArray⟩) (w11.drewN q) := fun q => by rw [hnb]; exact cvb q
          have m1 : IntKind.i64.wrap ((TB.length : Int) - (T.length : Int)) = ((B.length : Nat) : Int) := by
            have := HTL.out
            rw [IntWalk.i64_in _ (by omega)]
            omega
          have m2 : ((TB.length : Nat) : Int) - ((T.length : Nat) : Int) = ((B.length : Nat) : Int) := by have := HTL.out; omega
          have m6 : IntKind.i64.wrap ((B.length : Nat) : Int) = ((B.length : Nat) : Int) := IntWalk.i64_in _ (by omega)
          have m3 : ((T.length : Nat) : Int) ≤ ((TB.length : Nat) : Int) := by have := HTL.out; omega
          have m4 : ¬ c2 = T.length := by have := HTL.out; omega
          have m5 : ((TB.length : Nat) : Int) ≤ (c2 : Int) := by omega
          clear hcl hdr hc11 ho hfd y0 y1 y2 hdv hrd hAd hrb hrs hsub HRE HFD HRBT hL hnb
          go_quiet (fail)
          go_wp2
          go_ret
          exact ⟨rfl, below_drewN HBT.out nq⟩
  · have hrp : T = [] ∧ B = [] := by
      have h := HTB.out
      unfold replyP at h
      rw [if_neg hin] at h
      injection h with h1 h2
      exact ⟨h1.symm, h2.symm⟩
    have hT0 : T.length = 0 := by rw [hrp.1]; rfl
    have hB0 : B.length = 0 := by rw [hrp.2]; rfl
    have hz2 : TB.length = 0 := by have := HTL.out; omega
    by_cases h1 : st < 100
    · go_wp2
      go_ret
      exact ⟨rfl, HB03.out⟩
    · have h2 : 599 < st := by omega
      go_wp2
      go_ret
      exact ⟨rfl, HB03.out⟩
end Go.Proofs.YtklmpadcfioefaaGreatDoor
