/- the law StreamSmuggles (printed by gen_ssmug.py). Conditions: the size, the world's shape. -/
import Derived.Test.YtklmpadcfioefaaDoorSAwake
import Derived.Test.YtklmpadcfioefaaDoorSSmgP
import Derived.Test.YtklmpadcfioefaaDoorMB
import Derived.Test.YtklmpadcfioefaaDoorMA
import Derived.Deep.RegionHeld3
namespace Go.Proofs.YtklmpadcfioefaaDoor
open Go.RowKit

theorem EvE.len (e : EvE) : e.cells.length = 11 := rfl
theorem evs_len : ∀ L : List EvE, (L.flatMap EvE.cells).length = L.length * 11
  | [] => rfl
  | e :: L => by rw [List.flatMap_cons, List.length_append, evs_len L, EvE.len, List.length_cons]; omega
theorem evs_get : ∀ (L : List EvE) (i j : Nat) (hi : i < L.length) (_ : j < 11), (L.flatMap EvE.cells)[i * 11 + j]? = (L[i].cells)[j]?
  | e :: L, 0, j, _, hj => by
    rw [List.flatMap_cons, Nat.zero_mul, Nat.zero_add, List.getElem?_append_left (by rw [EvE.len]; exact hj)]; rfl
  | e :: L, i + 1, j, hi, hj => by
    rw [List.flatMap_cons, List.getElem?_append_right (by rw [EvE.len]; omega), EvE.len, show (i + 1) * 11 + j - 11 = i * 11 + j by omega]
    exact evs_get L i j (by simpa using hi) hj
theorem vals_low {a b : ByteArray} (h : fold a.data.toList = fold b.data.toList) (fs : List Fl) : vals fs a = vals fs b := by unfold vals; rw [h]
theorem low_cod (fs : List Fl) : vals fs ⟨#[116, 114, 97, 110, 115, 102, 101, 114, 45, 101, 110, 99, 111, 100, 105, 110, 103]⟩ = vals fs sCod := vals_low (by kernel_rfl) fs
theorem low_len (fs : List Fl) : vals fs ⟨#[99, 111, 110, 116, 101, 110, 116, 45, 108, 101, 110, 103, 116, 104]⟩ = vals fs sLen := vals_low (by kernel_rfl) fs
theorem low_host (fs : List Fl) : vals fs ⟨#[104, 111, 115, 116]⟩ = vals fs sHost := vals_low (by kernel_rfl) fs
theorem ev_size {fs : List Fl} {f : Fl} (h : f ∈ fs) : f.1.size ≤ flSize fs := by
  unfold flSize
  induction fs with
  | nil => cases h
  | cons a r ih =>
    rw [List.map_cons, List.sum_cons]
    rcases List.mem_cons.1 h with h | h
    · subst h; omega
    · have := ih h; omega
theorem nil_len {α : Type} {l : List α} : l.length = 0 ↔ l = [] := List.length_eq_zero_iff

set_option maxHeartbeats 4000000 in
set_option maxRecDepth 100000 in
theorem ssmug_any (A : Option Addr) (n c : Nat) (l : Bs) (w : World) (hsh : w.ShapedOpen Tryd.prog) (hnc : n ≤ c) (hA : A = none → n = 0 ∧ c = 0) (hrd : Rd w w.heap.size 1 A n (bytesV l)) (hn : n ≤ 16777216) :
    Calls Tryd.prog 3 #[.slice A n c] w fun e w' => e = .returned (.bool true) ∧ Below w.heap.size w w' := by
  have HS := Lib.hid hsh
  have HRD := Lib.hid hrd
  clear hsh hrd
  go_enter Tryd.func3, Tryd.ntmps3
  go_upto_region 3 with (first
    | (go_at_call 6; go_must (refine (sawake_any _ HS.out).mono ?_; rintro _ w1 ⟨rfl, hb1⟩; have HB1 := Lib.hid hb1; clear hb1))
    | fail)
  have HS1 : Hid (w1.ShapedOpen Tryd.prog) := Lib.hid (shaped_below HS.out HB1.out)
  go_upto_region 4 with (first
    | (go_at_call 7; go_must (refine (snew_any _ true).mono ?_; rintro _ w2 ⟨rfl, hm2, hb2, hz2⟩; have HM2 := Lib.hid hm2; have HB2 := Lib.hid hb2; have HZ2 := Lib.hid hz2; clear hm2 hb2 hz2))
    | fail)
  have HB02 : Hid (Below w.heap.size w w2) := Lib.hid (HB1.out.trans (HB2.out.mono HB1.out.size))
  have HF := sfeed_any (T := 0) (Shp.below (Shp.of HS1.out) HB2.out) HM2.out (Strm.Inv.init true) rfl rfl A n c l (by omega) (by omega) hnc hA ((HRD.out.below HB02.out).more HB02.out.size) (fun h0 g o e f => by
    obtain ⟨g', o', e', hg, _⟩ := HRD.out.2 h0
    rw [e] at e'
    injection e' with e'
    injection e' with e' _ _
    have := new_foot f
    have := HB1.out.size
    omega)
  unfold FeedsPost at HF
  have HFD := Lib.hid HF
  clear HF
  go_upto_region 5 with (first
    | (go_at_call 8; go_must (refine HFD.out.mono ?_; rintro _ w3 ⟨v, L, u, V', r, q, rfl, hre⟩; have HRE := Lib.hid hre; clear hre))
    | fail)
  obtain ⟨hfd, ho, _, _, _, hc3, _, _⟩ := HRE.out
  have HSM := Lib.hid (Strm.feeds_smug hfd rfl)
  have hb3 : Below w.heap.size w w3 := Below.chg HB02.out hc3 HB02.out.size (fun k hk => by have := new_foot hk; have := HB1.out.size; omega)
  have HB3 := Lib.hid hb3
  have HS3 : Hid (w3.ShapedOpen Tryd.prog) := Lib.hid (by
    have h1 := Shp.chg (Shp.below (Shp.of HS1.out) HB2.out) hc3
    obtain ⟨w0, q1, _, q2⟩ := h1 (fun k hk => by have := new_foot hk; omega)
    exact shaped_below q1 q2)
  obtain ⟨Av, cv, rfl, hLc, hcm, _, hrl⟩ := ho.row.form
  have hLm : L.length ≤ 9223372036854775807 := by unfold maxLen at hcm; omega
  have HEL := Lib.hid ho.el
  have HRL := Lib.hid hrl
  clear hfd ho hc3 hb3 hrl HRE HFD HM2 hLc hcm
  go_wp2
  go_loopw [6] (fun ii wr => ∃ i : Nat, i ≤ L.length ∧ ii = .int .i64 i ∧ Below w3.heap.size w3 wr) (fun ii _ => L.length - (intOf ii).toNat)
  case atStart => exact ⟨0, Nat.zero_le _, rfl, Below.refl _ _⟩
  case round =>
    obtain ⟨i, hi, rfl, hb⟩ := hrel
    have HB := Lib.hid hb
    clear hb
    by_cases hlt : i < L.length
    · obtain ⟨g, o, rfl, hg, hcell⟩ := HRL.out.2 (by omega)
      have K : ∀ j u, j < 11 → (L[i].cells)[j]? = some u → ∀ W, Below w3.heap.size w3 W → W.cell? ⟨g, o + i * 11 + j, none⟩ = some u := fun j u hj hu W hW => (hW.cell (p := ⟨g, o + i * 11 + j, none⟩) hg).trans (by rw [Nat.add_assoc]; exact hcell _ _ ((evs_get L i j hlt hj).trans hu))
      have HE := Lib.hid (HEL.out L[i] (List.getElem_mem hlt))
      have HX : Hid (∀ h fr ln, L[i].x = .head h fr ln → Strm.NoSmug h fr) := Lib.hid (fun h fr ln e => HSM.out h fr ln (List.mem_map.2 ⟨L[i], List.getElem_mem hlt, e⟩))
      clear hcell
      generalize L[i] = ev at *
      obtain ⟨x, fv, dv⟩ := ev
      cases x with
      | body d =>
        have k0 : wr.cell? ⟨g, o + i * 11, none⟩ = some (.int .i64 2) := K 0 _ (by decide) rfl _ HB.out
        clear K
        go_wp2
        go_roundw
        case rel => exact ⟨i + 1, by omega, by go_num, HB.out⟩
        case measure => simp [intOf]; omega
      | fin =>
        have k0 : wr.cell? ⟨g, o + i * 11, none⟩ = some (.int .i64 3) := K 0 _ (by decide) rfl _ HB.out
        clear K
        go_wp2
        go_roundw
        case rel => exact ⟨i + 1, by omega, by go_num, HB.out⟩
        case measure => simp [intOf]; omega
      | head h fr ln =>
        obtain ⟨Af, cf, hfv, _, _, hAf, hrf⟩ := HE.out.f.form
        change fv = .slice Af h.fs.length cf at hfv
        subst hfv
        change Rd w3 w3.heap.size 2 Af h.fs.length (fieldsV (flB h.fs)) at hrf
        obtain ⟨p1, p2, p3, p4, p5, p6⟩ := HX.out h fr ln rfl
        have k0 : wr.cell? ⟨g, o + i * 11, none⟩ = some (.int .i64 1) := K 0 _ (by decide) rfl _ HB.out
        obtain ⟨sm, hsm⟩ : ∃ s : ByteArray, s = ⟨h.m.toArray⟩ := ⟨_, rfl⟩
        obtain ⟨st, hst⟩ : ∃ s : ByteArray, s = ⟨h.t.toArray⟩ := ⟨_, rfl⟩
        obtain ⟨sr, hsr⟩ : ∃ s : ByteArray, s = ⟨h.rs.toArray⟩ := ⟨_, rfl⟩
        obtain ⟨nf, hnf⟩ : ∃ nf, nf = h.fs.length := ⟨_, rfl⟩
        have HK : Hid (∀ W, Below w3.heap.size w3 W → (W.cell? ⟨g, o + i * 11 + 1, none⟩ = some (.bool h.rq) ∧ W.cell? ⟨g, o + i * 11 + 1 + 1, none⟩ = some (.string sm) ∧ W.cell? ⟨g, o + i * 11 + 1 + 2, none⟩ = some (.string st) ∧ W.cell? ⟨g, o + i * 11 + 1 + 3, none⟩ = some (.int .i64 (h.st : Int)) ∧ W.cell? ⟨g, o + i * 11 + 1 + 4, none⟩ = some (.string sr) ∧ W.cell? ⟨g, o + i * 11 + 1 + 5, none⟩ = some (.int .i64 (h.mn : Int)) ∧ W.cell? ⟨g, o + i * 11 + 1 + 6, none⟩ = some (.slice Af nf cf))) := Lib.hid (fun W hW => by
          rw [hsm, hst, hsr, hnf]
          exact ⟨K 1 _ (by decide) rfl W hW, K 2 _ (by decide) rfl W hW, K 3 _ (by decide) rfl W hW, K 4 _ (by decide) rfl W hW, K 5 _ (by decide) rfl W hW, K 6 _ (by decide) rfl W hW, K 7 _ (by decide) rfl W hW⟩)
        have HRG : Hid (∀ W, Below w3.heap.size w3 W → World.rangeAt W g (o + i * 11 + 1) [.bool h.rq, .string sm, .string st, .int .i64 (h.st : Int), .string sr, .int .i64 (h.mn : Int), .slice Af nf cf]) := Lib.hid (fun W hW => by
          obtain ⟨q0, q1, q2, q3, q4, q5, q6⟩ := HK.out W hW
          intro j u hj
          rcases j with _ | _ | _ | _ | _ | _ | _ | j
          · injection hj with hj; rw [← hj]; exact q0
          · injection hj with hj; rw [← hj]; exact q1
          · injection hj with hj; rw [← hj]; exact q2
          · injection hj with hj; rw [← hj]; exact q3
          · injection hj with hj; rw [← hj]; exact q4
          · injection hj with hj; rw [← hj]; exact q5
          · injection hj with hj; rw [← hj]; exact q6
          · simp at hj)
        have HK8 : Hid (∀ W, Below w3.heap.size w3 W → W.cell? ⟨g, o + i * 11 + 8, none⟩ = some (.int .i64 (fr : Int))) := Lib.hid (K 8 _ (by decide) rfl)
        have hzf : ∀ f ∈ flB h.fs, f.1.size ≤ 16777216 := fun f hf => by have := ev_size hf; omega
        rw [← hnf] at hrf p1
        have HRF := Lib.hid hrf
        obtain ⟨C, hC⟩ : ∃ C, C = vals (flB h.fs) sCod := ⟨_, rfl⟩
        obtain ⟨D, hD⟩ : ∃ D, D = vals (flB h.fs) sLen := ⟨_, rfl⟩
        obtain ⟨E, hE⟩ : ∃ E, E = vals (flB h.fs) sHost := ⟨_, rfl⟩
        have hDt := vals_total (flB h.fs) sLen
        have hDm := fun v (hv : v ∈ vals (flB h.fs) sLen) => vals_mem (name := sLen) hv
        have hCl := vals_le (flB h.fs) sCod
        have hDl := vals_le (flB h.fs) sLen
        have hfl : (flB h.fs).length = nf := by rw [flB_len, hnf]
        rw [hfl] at hCl hDl
        rw [← hD] at hDt hDm hDl p4 p5 p6
        rw [← hC] at hCl p4 p5
        rw [← hE] at p3
        have HVC := Lib.hid (fun W hW => hValues_any h.rq sm st h.st sr h.mn Af nf cf (flB h.fs) ⟨#[116, 114, 97, 110, 115, 102, 101, 114, 45, 101, 110, 99, 111, 100, 105, 110, 103]⟩ W hW (by omega) (by decide) hzf)
        have HVL := Lib.hid (fun W hW => hValues_any h.rq sm st h.st sr h.mn Af nf cf (flB h.fs) ⟨#[99, 111, 110, 116, 101, 110, 116, 45, 108, 101, 110, 103, 116, 104]⟩ W hW (by omega) (by decide) hzf)
        have HVH := Lib.hid (fun W hW => hValues_any h.rq sm st h.st sr h.mn Af nf cf (flB h.fs) ⟨#[104, 111, 115, 116]⟩ W hW (by omega) (by decide) hzf)
        rw [low_cod, ← hC] at HVC
        rw [low_len, ← hD] at HVL
        rw [low_host, ← hE] at HVH
        have HLD := Lib.hid (fun A n c W h1 h2 h3 => hList_any A n c D W h1 h2 h3 (fun s hs => by have := hDm s hs; omega) (by omega))
        have hLL := listed_len D
        obtain ⟨LL, hLLe⟩ : ∃ LL, LL = listed D := ⟨_, rfl⟩
        rw [← hLLe] at HLD p5 p6 hLL
        have hLLm : LL.length ≤ 16777216 := by omega
        have HP3 := Lib.hid p3
        have HP4 := Lib.hid p4
        have HP5 := Lib.hid p5
        have HP6 := Lib.hid p6
        have HSW : ∀ W, Below w3.heap.size w3 W → W.ShapedOpen Tryd.prog := fun W hW => shaped_below HS3.out hW
        have HSW := Lib.hid HSW
        unfold headV at HVC HVL HVH
        have hD0 : D = [] → LL = [] := fun e => by rw [hLLe, e]; simp [listed]
        have HD0 := Lib.hid hD0
        clear p3 p4 p5 p6 hrf hsm hst hsr hnf hC hD hE hDt hDm hfl hLLe hzf K hAf HX HE hD0 p2 hLL
        obtain ⟨wk, hwk⟩ : ∃ wk : World, wk = wr := ⟨_, rfl⟩
        go_upto_region 9 with (fail)
        subst hwk
        go_cut [7, 8] (fun v7 v8 wx => ∃ (A1 : Option Addr) (c1 : Nat) (A2 : Option Addr) (c2 : Nat), (v7 = .slice A1 C.length c1 ∧ v8 = .slice A2 LL.length c2) ∧ Rd wx wx.heap.size 1 A2 LL.length (strsV LL) ∧ Below w3.heap.size w3 wx)
        case first =>
          refine wp_region_held_drew (S := (fun w' => Below w3.heap.size w3 w' ∧ w'.cell? ⟨g, o + i * 11 + 1, none⟩ = some (.bool h.rq) ∧ w'.cell? ⟨g, o + i * 11 + 1 + 1, none⟩ = some (.string sm) ∧ w'.cell? ⟨g, o + i * 11 + 1 + 2, none⟩ = some (.string st) ∧ w'.cell? ⟨g, o + i * 11 + 1 + 3, none⟩ = some (.int .i64 (h.st : Int)) ∧ w'.cell? ⟨g, o + i * 11 + 1 + 4, none⟩ = some (.string sr) ∧ w'.cell? ⟨g, o + i * 11 + 1 + 5, none⟩ = some (.int .i64 (h.mn : Int)) ∧ w'.cell? ⟨g, o + i * 11 + 1 + 6, none⟩ = some (.slice Af nf cf))) (by as_aux_lemma => kernel_rfl) ?_ (fun hHeld => ?_)
          · exact ⟨below_drewN HB.out _, HK.out _ (below_drewN HB.out _)⟩
          refine wpAnyH_take (i := 0) (v := ?_) (by simp only [List.getElem?_toArray, List.getElem?_cons_zero]; exact rfl) (by as_aux_lemma => kernel_rfl) (by as_aux_lemma => kernel_rfl) (by as_aux_lemma => kernel_rfl) (by exact fun _ _ _ h => h) (Or.inl ⟨by rfl, ?_⟩) (by assumption) ?_
          rotate_left
          · intro w hSw
            (try dsimp only at hSw)
            go_simp
            try with_reducible rfl
          (try simp only [Act.put, List.setIfInBounds_toArray, List.set_cons_zero, List.set_cons_succ])
          refine wpAnyH_take (i := 1) (v := ?_) (by simp only [List.getElem?_toArray, List.getElem?_cons_succ, List.getElem?_cons_zero]; exact rfl) (by as_aux_lemma => kernel_rfl) (by as_aux_lemma => kernel_rfl) (by as_aux_lemma => kernel_rfl) (by exact fun _ _ _ h => h) (Or.inl ⟨by rfl, ?_⟩) (by assumption) ?_
          rotate_left
          · intro w hSw
            (try dsimp only at hSw)
            go_simp
            try with_reducible rfl
          (try simp only [Act.put, List.setIfInBounds_toArray, List.set_cons_zero, List.set_cons_succ])
          refine wpAnyH_take (i := 2) (v := ?_) (by simp only [List.getElem?_toArray, List.getElem?_cons_succ, List.getElem?_cons_zero]; exact rfl) (by as_aux_lemma => kernel_rfl) (by as_aux_lemma => kernel_rfl) (by as_aux_lemma => kernel_rfl) (by exact fun _ _ _ h => h) (Or.inl ⟨by rfl, ?_⟩) (by assumption) ?_
          rotate_left
          · intro w hSw
            (try dsimp only at hSw)
            go_simp
            try with_reducible rfl
          (try simp only [Act.put, List.setIfInBounds_toArray, List.set_cons_zero, List.set_cons_succ])
          refine wpAnyH_take (i := 3) (v := ?_) (by simp only [List.getElem?_toArray, List.getElem?_cons_succ, List.getElem?_cons_zero]; exact rfl) (by as_aux_lemma => kernel_rfl) (by as_aux_lemma => kernel_rfl) (by as_aux_lemma => kernel_rfl) (by exact fun _ _ _ h => h) (Or.inl ⟨by rfl, ?_⟩) (by assumption) ?_
          rotate_left
          · intro w hSw
            (try dsimp only at hSw)
            go_simp
            try with_reducible rfl
          (try simp only [Act.put, List.setIfInBounds_toArray, List.set_cons_zero, List.set_cons_succ])
          refine wpAnyH_take (i := 4) (v := ?_) (by simp only [List.getElem?_toArray, List.getElem?_cons_succ, List.getElem?_cons_zero]; exact rfl) (by as_aux_lemma => kernel_rfl) (by as_aux_lemma => kernel_rfl) (by as_aux_lemma => kernel_rfl) (by exact fun _ _ _ h => h) (Or.inl ⟨by rfl, ?_⟩) (by assumption) ?_
          rotate_left
          · intro w hSw
            (try dsimp only at hSw)
            go_simp
            try with_reducible rfl
          (try simp only [Act.put, List.setIfInBounds_toArray, List.set_cons_zero, List.set_cons_succ])
          refine wpAnyH_take (i := 6) (v := ?_) (by simp only [List.getElem?_toArray, List.getElem?_cons_succ, List.getElem?_cons_zero]; exact rfl) (by as_aux_lemma => kernel_rfl) (by as_aux_lemma => kernel_rfl) (by as_aux_lemma => kernel_rfl) (by exact fun _ _ _ h => h) (Or.inl ⟨by rfl, ?_⟩) (by assumption) ?_
          rotate_left
          · intro w hSw
            (try dsimp only at hSw)
            go_simp
            try with_reducible rfl
          (try simp only [Act.put, List.setIfInBounds_toArray, List.set_cons_zero, List.set_cons_succ])
          refine wpAnyH_take (i := 7) (v := ?_) (by simp only [List.getElem?_toArray, List.getElem?_cons_succ, List.getElem?_cons_zero]; exact rfl) (by as_aux_lemma => kernel_rfl) (by as_aux_lemma => kernel_rfl) (by as_aux_lemma => kernel_rfl) (by exact fun _ _ _ h => h) (Or.inl ⟨by rfl, ?_⟩) (by assumption) ?_
          rotate_left
          · intro w hSw
            (try dsimp only at hSw)
            go_simp
            try with_reducible rfl
          (try simp only [Act.put, List.setIfInBounds_toArray, List.set_cons_zero, List.set_cons_succ])
          refine wpAnyH_take (i := 8) (v := ?_) (by simp only [List.getElem?_toArray, List.getElem?_cons_succ, List.getElem?_cons_zero]; exact rfl) (by as_aux_lemma => kernel_rfl) (by as_aux_lemma => kernel_rfl) (by as_aux_lemma => kernel_rfl) (by exact fun _ _ _ h => h) (Or.inl ⟨by rfl, ?_⟩) (by assumption) ?_
          rotate_left
          · intro w hSw
            (try dsimp only at hSw)
            go_simp
            try with_reducible rfl
          (try simp only [Act.put, List.setIfInBounds_toArray, List.set_cons_zero, List.set_cons_succ])
          refine wpAnyH_take (i := 9) (v := ?_) (by simp only [List.getElem?_toArray, List.getElem?_cons_succ, List.getElem?_cons_zero]; exact rfl) (by as_aux_lemma => kernel_rfl) (by as_aux_lemma => kernel_rfl) (by as_aux_lemma => kernel_rfl) (by exact fun _ _ _ h => h) (Or.inl ⟨by rfl, ?_⟩) (by assumption) ?_
          rotate_left
          · intro w hSw
            (try dsimp only at hSw)
            go_simp
            try with_reducible rfl
          (try simp only [Act.put, List.setIfInBounds_toArray, List.set_cons_zero, List.set_cons_succ])
          refine wpAnyH_take (i := 10) (v := ?_) (by simp only [List.getElem?_toArray, List.getElem?_cons_succ, List.getElem?_cons_zero]; exact rfl) (by as_aux_lemma => kernel_rfl) (by as_aux_lemma => kernel_rfl) (by as_aux_lemma => kernel_rfl) (by exact fun _ _ _ h => h) (Or.inl ⟨by rfl, ?_⟩) (by assumption) ?_
          rotate_left
          · intro w hSw
            (try dsimp only at hSw)
            go_simp
            try with_reducible rfl
          (try simp only [Act.put, List.setIfInBounds_toArray, List.set_cons_zero, List.set_cons_succ])
          refine wpAnyH_ready (rs := [5]) (by as_aux_lemma => kernel_rfl) (by simp) ?_
          refine AllReadyH.cons (by simp only [List.getElem?_toArray, List.getElem?_cons_succ, List.getElem?_cons_zero]; exact rfl) (fun K hK => ?_) AllReadyH.nil
          go_simp
          (go_at_call 9; refine (HVC.out _ (Held.rd (by assumption) HRF.out)).mono ?_; rintro _ wx ⟨v, rfl, hrow, hl⟩; have hq := Held.trans (W0 := w3) (by assumption) hl; obtain ⟨A1, c1, rfl, _, _, _, rdC⟩ := hrow.form; clear hrow rdC)
          refine hK.out _ _ ?_ (fun hHeld => ?_)
          · (try dsimp only)
            exact ⟨hq, HK.out _ hq⟩
          clear hK K
          (try simp only [Act.put, List.setIfInBounds_toArray, List.set_cons_zero, List.set_cons_succ])
          refine wpAnyH_ready (rs := [11]) (by as_aux_lemma => kernel_rfl) (by simp) ?_
          refine AllReadyH.cons (by simp only [List.getElem?_toArray, List.getElem?_cons_succ, List.getElem?_cons_zero]; exact rfl) (fun K hK => ?_) AllReadyH.nil
          go_simp
          (go_at_call 9; refine (HVL.out _ (Held.rd (by assumption) HRF.out)).mono ?_; rintro _ wy ⟨v, rfl, hrow, hl⟩; have hq := Held.trans (W0 := w3) (by assumption) hl; obtain ⟨A2, c2, rfl, _, _, _, rdD⟩ := hrow.form; have HRD2 := Lib.hid rdD; clear hrow rdD)
          refine hK.out _ _ ?_ (fun hHeld => ?_)
          · (try dsimp only)
            exact ⟨hq, HK.out _ hq⟩
          clear hK K
          (try simp only [Act.put, List.setIfInBounds_toArray, List.set_cons_zero, List.set_cons_succ])
          refine wpAnyH_ready (rs := [12]) (by as_aux_lemma => kernel_rfl) (by simp) ?_
          refine AllReadyH.cons (by simp only [List.getElem?_toArray, List.getElem?_cons_succ, List.getElem?_cons_zero]; exact rfl) (fun K hK => ?_) AllReadyH.nil
          go_simp
          (go_at_call 10; refine (HLD.out A2 D.length c2 _ (HSW.out _ hq) HRD2.out (by omega)).mono ?_; rintro _ wz ⟨v, rfl, hrow, hl⟩; have hq2 := hq.trans (hl.mono hq.size); obtain ⟨A3, c3, rfl, _, _, _, rdL⟩ := hrow.form; have HRL3 := Lib.hid rdL; clear hrow rdL)
          refine hK.out _ _ ?_ (fun hHeld => ?_)
          · (try dsimp only)
            exact ⟨hq2, HK.out _ hq2⟩
          clear hK K
          (try simp only [Act.put, List.setIfInBounds_toArray, List.set_cons_zero, List.set_cons_succ])
          refine wpAnyH_take (i := 13) (v := ?_) (by simp only [List.getElem?_toArray, List.getElem?_cons_succ, List.getElem?_cons_zero]; exact rfl) (by as_aux_lemma => kernel_rfl) (by as_aux_lemma => kernel_rfl) (by as_aux_lemma => kernel_rfl) (by exact fun _ _ _ h => h) (Or.inl ⟨by rfl, ?_⟩) (by assumption) ?_
          rotate_left
          · intro w hSw
            (try dsimp only at hSw)
            go_simp
            try with_reducible rfl
          (try simp only [Act.put, List.setIfInBounds_toArray, List.set_cons_zero, List.set_cons_succ])
          refine wpAnyH_take (i := 14) (v := ?_) (by simp only [List.getElem?_toArray, List.getElem?_cons_succ, List.getElem?_cons_zero]; exact rfl) (by as_aux_lemma => kernel_rfl) (by as_aux_lemma => kernel_rfl) (by as_aux_lemma => kernel_rfl) (by exact fun _ _ _ h => h) (Or.inl ⟨by rfl, ?_⟩) (by assumption) ?_
          rotate_left
          · intro w hSw
            (try dsimp only at hSw)
            go_simp
            try with_reducible rfl
          (try simp only [Act.put, List.setIfInBounds_toArray, List.set_cons_zero, List.set_cons_succ])
          refine wpAnyH_done (by as_aux_lemma => kernel_rfl) ?_ _
          go_wp2
          go_meet
          exact ⟨A1, c1, A3, c3, ⟨rfl, rfl⟩, HRL3.out, hq2⟩
        case rest =>
        obtain ⟨A1, c1, A3, c3, ⟨rfl, rfl⟩, hrl3, hq⟩ := hcut
        obtain ⟨wz, rfl⟩ : ∃ wz : World, wz = wc := ⟨_, rfl⟩
        have HRL3 := Lib.hid hrl3
        have HBZ := Lib.hid hq
        clear hrl3 hq HB
        have hCm : C.length ≤ 16777216 := by omega
        obtain ⟨nC, hnC⟩ : ∃ nC, nC = C.length := ⟨_, rfl⟩
        obtain ⟨nL, hnL⟩ : ∃ nL, nL = LL.length := ⟨_, rfl⟩
        rw [← hnC] at hCm
        rw [← hnL] at hLLm HRL3
        rw [← hnC, ← hnL]
        have HNC := Lib.hid hnC
        have HNL := Lib.hid hnL
        clear hnC hnL HLD HVC hDl hCl
        go_upto_region 10 with (fail)
        go_cut [73] (fun v wx => v = .bool false ∧ Below wz.heap.size wz wx)
        case first =>
          by_cases hC : C = []
          · have hC0 : nC = 0 := by rw [HNC.out, hC]; rfl
            subst hC0
            go_wp2
            go_meet
            exact ⟨rfl, Below.refl _ _⟩
          · obtain ⟨hD, hfr, hmn⟩ := HP4.out hC
            have hC1 : 0 < nC := by rw [HNC.out]; exact List.length_pos_iff.2 hC
            have hD1 : D.length = 0 := by rw [hD]; rfl
            rw [hD1] at HVL
            have HFR := Lib.hid hfr
            have HMN := Lib.hid hmn
            clear hC hD hD1 hfr hmn
            go_wp2_with (first
              | (refine wpList_load_mid_g (by rfl) 32 (.tmp 51) rfl g (o + i * 11 + 1) rfl [.bool h.rq, .string sm, .string st, .int .i64 (h.st : Int), .string sr, .int .i64 (h.mn : Int), .slice Af nf cf] _ (HRG.out _ HBZ.out) Tryd.underlying32 rfl (by kernel_rfl) ?_)
              | (go_at_call 9; (refine (HVL.out _ (HRF.out.keeps HBZ.out)).mono ?_; rintro _ wx ⟨v, rfl, hrow, hl⟩; have hq := HBZ.out.trans (hl.mono HBZ.out.size); obtain ⟨A2, c2, rfl, _, _, _, _⟩ := hrow.form; have e8 := HK8.out wx hq; have e6 := (HK.out wx hq).2.2.2.2.2.1; rw [HFR.out] at e8; rw [HMN.out] at e6; clear hrow))
              | fail)
            go_meet
            exact ⟨rfl, hl⟩
        case rest =>
        obtain ⟨rfl, hq⟩ := hcut
        have HBC := Lib.hid hq
        have HL3 := Lib.hid (HBZ.out.size)
        clear hq
        clear HVL HP4 HL3 HRL
        go_wp2
        go_loopw [9] (fun ki wr => ∃ k : Nat, 1 ≤ k ∧ (k ≤ nL ∨ k = 1) ∧ ki = .int .i64 k ∧ Below wz.heap.size wz wr) (fun ki _ => nL - (intOf ki).toNat)
        case atStart => exact ⟨1, Nat.le_refl _, .inr rfl, rfl, HBC.out⟩
        case round =>
          obtain ⟨k, hk1, hk2, rfl, hbk⟩ := hrel
          have HBK := Lib.hid hbk
          clear hbk
          by_cases hlk : k < nL
          · obtain ⟨g', o', rfl, hg', hcell'⟩ := HRL3.out.2 (by omega)
            have hkL : k < LL.length := by rw [← HNL.out]; exact hlk
            have h0L : 0 < LL.length := by omega
            have e0 : LL[k] = LL[0] := HP6.out _ (List.getElem_mem hkL) _ (List.getElem_mem h0L)
            have c1 : ∀ q, (wr.drewN q).cell? ⟨g', o' + k, none⟩ = some (.string LL[k]) := fun q => (HBK.out.cell (p := ⟨g', o' + k, none⟩) hg').trans (hcell' k _ (by simp [strsV, hkL]))
            have c2 : ∀ q, (wr.drewN q).cell? ⟨g', o', none⟩ = some (.string LL[0]) := fun q => (HBK.out.cell (p := ⟨g', o', none⟩) hg').trans (hcell' 0 _ (by simp [strsV, h0L]))
            rw [e0] at c1
            clear hcell' e0
            generalize LL[0] = sx at c1 c2
            have d1 := c1 0
            have d2 := c2 0
            clear hkL h0L
            go_wp2
            go_quiet (fail)
            go_wp2
            go_roundw
            case rel => exact ⟨k + 1, by omega, .inl (by omega), by go_num, below_drewN HBK.out _⟩
            case measure => simp [intOf]; omega
          · go_upto_region 17 with (fail)
            go_cut [118] (fun v wx => v = .bool false ∧ Below wr.heap.size wr wx)
            case first =>
              have e8 := HK8.out wr (HBZ.out.trans (HBK.out.mono HBZ.out.size))
              by_cases hC : C = []
              · have hC0 : nC = 0 := by rw [HNC.out, hC]; rfl
                subst hC0
                obtain ⟨f2, f3, fL⟩ := HP5.out hC
                by_cases hL : LL = []
                · have hL0 : nL = 0 := by rw [HNL.out, hL]; rfl
                  subst hL0
                  have f1 : fr ≠ 1 := fun e => fL.2 e hL
                  have b1 : ((fr : Int) == 1) = false := by simp; omega
                  have b2 : ((fr : Int) == 2) = false := by simp; omega
                  have b3 : ((fr : Int) == 3) = false := by simp; omega
                  clear fL f1 f2 f3 hC hL
                  go_wp2
                  go_meet
                  exact ⟨rfl, Below.refl _ _⟩
                · have f1 : fr = 1 := fL.1 hL
                  have hL0 : 0 < nL := by rw [HNL.out]; exact List.length_pos_iff.2 hL
                  rw [f1] at e8
                  clear fL f1 f2 f3 hC hL
                  go_wp2
                  go_meet
                  exact ⟨rfl, Below.refl _ _⟩
              · have hC1 : 0 < nC := by rw [HNC.out]; exact List.length_pos_iff.2 hC
                clear hC
                go_wp2
                go_meet
                exact ⟨rfl, Below.refl _ _⟩
            case rest =>
            obtain ⟨rfl, hq⟩ := hcut
            obtain ⟨wy, rfl⟩ : ∃ wy : World, wy = wc := ⟨_, rfl⟩
            have HBY : Hid (Below w3.heap.size w3 wy) := Lib.hid ((HBZ.out.trans (HBK.out.mono HBZ.out.size)).trans (hq.mono (Nat.le_trans HBZ.out.size HBK.out.size)))
            clear hq HBK HRL3 HP5 HP6
            go_upto_region 19 with (fail)
            go_cut [135] (fun v wx => v = .bool false ∧ Below w3.heap.size w3 wx)
            case first =>
              have e6 := (HK.out wy HBY.out).2.2.2.2.2.1
              by_cases hm : h.mn = 1
              · have hE1 := HP3.out hm
                rw [hE1] at HVH
                have e7 := e6
                rw [hm] at e7
                have e9 : wy.cell? ⟨g, o + i * 11 + 6, none⟩ = some (.int .i64 1) := by rw [Nat.add_assoc] at e7; exact e7
                clear hm hE1 e6
                go_wp2_with (first
                  | (refine wpList_load_mid_g (by rfl) 32 (.tmp 130) rfl g (o + i * 11 + 1) rfl [.bool h.rq, .string sm, .string st, .int .i64 (h.st : Int), .string sr, .int .i64 (h.mn : Int), .slice Af nf cf] _ (HRG.out _ HBY.out) Tryd.underlying32 rfl (by kernel_rfl) ?_)
                  | (go_at_call 9; (refine (HVH.out _ (HRF.out.keeps HBY.out)).mono ?_; rintro _ wx ⟨v, rfl, hrow, hl⟩; have hq := HBY.out.trans (hl.mono HBY.out.size); obtain ⟨A2, c2, rfl, _, _, _, _⟩ := hrow.form; clear hrow))
                  | fail)
                go_meet
                exact ⟨rfl, hq⟩
              · have b6 : ((h.mn : Int) == 1) = false := by simp; omega
                clear hm
                go_wp2
                go_meet
                exact ⟨rfl, HBY.out⟩
            case rest =>
            obtain ⟨rfl, hq⟩ := hcut
            have HBQ := Lib.hid hq
            clear hq
            go_wp2
            go_roundw
            case rel => exact ⟨i + 1, by omega, by go_num, HBQ.out⟩
            case measure => simp [intOf]; omega
    · go_wp2
      go_ret
      exact ⟨rfl, HB3.out.trans (HB.out.mono HB3.out.size)⟩
end Go.Proofs.YtklmpadcfioefaaDoor
