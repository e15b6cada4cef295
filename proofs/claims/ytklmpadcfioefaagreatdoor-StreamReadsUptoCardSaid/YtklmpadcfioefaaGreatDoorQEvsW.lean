/- the document's events, walked (chapter 24; printed by gen_qevs.py). Conditions: sizes. -/
import Derived.Test.YtklmpadcfioefaaGreatDoorQEvs
namespace Go.Proofs.YtklmpadcfioefaaGreatDoor
open Go.RowKit

set_option maxHeartbeats 8000000 in
set_option maxRecDepth 100000 in
theorem qevents_any (A : Option Addr) (n c : Nat) (K : List MsE) (A' : Option Addr) (n' c' : Nat) (L : List MsE) (w : World) (h1 : Rd w w.heap.size 11 A n (K.flatMap MsE.cells)) (h2 : Rd w w.heap.size 11 A' n' (L.flatMap MsE.cells))
    (m1 : ∀ e ∈ K, ∃ Aq cq, e.dv = .slice Aq e.x.body.length cq) (m2 : ∀ e ∈ L, MsR w e) (hn : n ≤ 16777216) (hn' : n' ≤ 16777216) :
    Calls Tryz.prog 31 #[.slice A n c, .slice A' n' c'] w (QevPost w (Strm.evP (K.map MsE.x) (L.map MsE.x)) (3 * n')) := by
  have HKL : Hid (K.length = n) := Lib.hid (by have := h1.1; rw [ms_len] at this; omega)
  have HLL : Hid (L.length = n') := Lib.hid (by have := h2.1; rw [ms_len] at this; omega)
  obtain ⟨i0, hi0, iz0, iz1, iz2⟩ := info_parts infoQEv
  have H1 := Lib.hid h1
  have H2 := Lib.hid h2
  have HM1 := Lib.hid m1
  have HM2 := Lib.hid m2
  clear h1 h2 m1 m2
  obtain ⟨T, hT⟩ : ∃ T, T = Strm.evP (K.map MsE.x) (L.map MsE.x) := ⟨_, rfl⟩
  have HT := Lib.hid hT
  rw [← hT]
  clear hT
  go_enter Tryz.func31, Tryz.ntmps31
  go_wp2
  go_loopw [5, 6] (fun vo ii wr => ∃ (i : Nat) (E : List QvE), ii = .int .i64 i ∧ i ≤ n' ∧ QeSt w wr T (Strm.evP ((K.map MsE.x).drop i) ((L.map MsE.x).drop i)) (3 * i) vo E) (fun _ ii _ => n' - (intOf ii).toNat)
  case atStart => exact ⟨0, [], rfl, Nat.zero_le _, by rw [HT.out]; exact QeSt.init _ _⟩
  case round =>
    obtain ⟨i, E, rfl, hin, hst⟩ := hrel
    have hE : E.length ≤ 50331648 := by have := hst.cnt; omega
    obtain ⟨Av, cv, rfl, _, _, _, _⟩ := hst.row.form
    by_cases hi : i < n'
    · obtain ⟨g, o, rfl, hg, hcell⟩ := H2.out.2 (by omega)
      have hiL : i < L.length := by rw [HLL.out]; exact hi
      have KC : ∀ j u, j < 11 → (L[i].cells)[j]? = some u → ∀ W, Below w.heap.size w W → W.cell? ⟨g, o + i * 11 + j, none⟩ = some u := fun j u hj hu W hW => (hW.cell (p := ⟨g, o + i * 11 + j, none⟩) hg).trans (by rw [Nat.add_assoc]; exact hcell _ _ ((ms_get L i j hiL hj).trans hu))
      have hm := HM2.out _ (List.getElem_mem hiL)
      have hs := Strm.evP_step (K.map MsE.x) (L.map MsE.x) i L[i].x (by rw [List.getElem?_map, List.getElem?_eq_getElem hiL]; rfl)
      rw [hs] at hst
      clear hs hcell
      generalize L[i] = m at *
      obtain ⟨⟨mh, mf, ml, mb, mw⟩, fv, dv⟩ := m
      obtain ⟨hmf, hmd, _⟩ := hm
      dsimp only at hmf hmd
      obtain ⟨Af, cf, rfl, _, _, _, _⟩ := id hmf
      obtain ⟨Ad, cd, rfl, hcd, hcdm, _, hrd⟩ := id hmd
      have HMF := Lib.hid hmf
      have HMD := Lib.hid hmd
      have HRD := Lib.hid hrd
      have HRG : Hid (∀ W, Below w.heap.size w W → World.rangeAt W g (o + i * 11) [.bool mh.rq, .string ⟨mh.m.toArray⟩, .string ⟨mh.t.toArray⟩, .int .i64 (mh.st : Int), .string ⟨mh.rs.toArray⟩, .int .i64 (mh.mn : Int), .slice Af mh.fs.length cf, .int .i64 (mf : Int), .int .i64 (ml : Int), .slice Ad mb.length cd, .bool mw]) := Lib.hid (fun W hW j u hj => by
        have hj7 : j < 11 := by have := (List.getElem?_eq_some_iff.1 hj).1; simpa using this
        exact KC j u hj7 hj W hW)
      obtain ⟨ko, hko⟩ : ∃ ko, ko = (K.map MsE.x)[i]? := ⟨_, rfl⟩
      rw [← hko] at hst
      have HK0 : Hid ((ko = none ∧ ¬ i < n) ∨ ∃ q : Strm.RM, ko = some q ∧ i < n ∧ ∃ gk ok Aq cq, A = some ⟨gk, ok, none⟩ ∧ (∀ W, Below w.heap.size w W → W.cell? ⟨gk, ok + i * 11 + 9, none⟩ = some (.slice Aq q.body.length cq) ∧ W.cell? ⟨gk, ok + i * 11 + 10, none⟩ = some (.bool q.wh))) := Lib.hid (by
        by_cases hk : i < n
        · right
          have hiK : i < K.length := by rw [HKL.out]; exact hk
          obtain ⟨gk, ok, e, hgk, hck⟩ := H1.out.2 (by omega)
          obtain ⟨Aq, cq, e2⟩ := HM1.out _ (List.getElem_mem hiK)
          refine ⟨K[i].x, by rw [hko, List.getElem?_map, List.getElem?_eq_getElem hiK]; rfl, hk, gk, ok, Aq, cq, e, fun W hW => ⟨?_, ?_⟩⟩
          · refine (hW.cell (p := ⟨gk, ok + i * 11 + 9, none⟩) hgk).trans ?_
            rw [Nat.add_assoc, ← e2]
            exact hck _ _ ((ms_get K i 9 hiK (by decide)).trans rfl)
          · refine (hW.cell (p := ⟨gk, ok + i * 11 + 10, none⟩) hgk).trans ?_
            rw [Nat.add_assoc]
            exact hck _ _ ((ms_get K i 10 hiK (by decide)).trans rfl)
        · left
          exact ⟨by rw [hko]; exact List.getElem?_eq_none (by rw [List.length_map, HKL.out]; omega), hk⟩)
      obtain ⟨hd, hhd⟩ : ∃ hd : Nat, hd = Strm.evHad ko := ⟨_, rfl⟩
      obtain ⟨fb, hfb⟩ : ∃ fb : Bool, fb = decide (mw = true ∧ ko.map (·.wh) ≠ some true) := ⟨_, rfl⟩
      obtain ⟨tl, htl⟩ : ∃ tl, tl = Strm.evP ((K.map MsE.x).drop (i + 1)) ((L.map MsE.x).drop (i + 1)) := ⟨_, rfl⟩
      have hst2 : QeSt w wr T (Strm.evHd ko ⟨mh, mf, ml, mb, mw⟩ ++ (Strm.data (mb.drop hd) ++ ((if fb = true then [.fin] else []) ++ tl))) (3 * i) (.slice Av E.length cv) E := by
        rw [hhd, hfb, htl]
        have h := hst
        unfold Strm.evOne at h
        dsimp only at h
        rw [List.append_assoc, List.append_assoc] at h
        simp only [decide_eq_true_eq]
        exact h
      have HST := Lib.hid hst2
      have HHD := Lib.hid hhd
      have HFB := Lib.hid hfb
      have HTL := Lib.hid htl
      have HB := Lib.hid hst.bl
      have HVO : Hid (∀ k, (Value.slice Av E.length cv).ownBlock = some k → w.heap.size ≤ k ∧ k < wr.heap.size) := Lib.hid (fun k hk => hst.row.lt k hk)
      clear hst hst2 hhd hfb htl hmf hmd hrd KC hiL hko
      go_upto_region 6 with (first
        | (refine wpList_load_mid rfl 77 (.tmp 18) rfl g (o + i * 11) rfl [.bool mh.rq, .string ⟨mh.m.toArray⟩, .string ⟨mh.t.toArray⟩, .int .i64 (mh.st : Int), .string ⟨mh.rs.toArray⟩, .int .i64 (mh.mn : Int), .slice Af mh.fs.length cf, .int .i64 (mf : Int), .int .i64 (ml : Int), .slice Ad mb.length cd, .bool mw] _ (HRG.out _ HB.out) Tryz.underlying77 rfl (by kernel_rfl) ?_)
        | (refine wpList_put rfl 77 (.tmp 7) (.tmp 19) rfl wr.heap.size rfl (Var.new wr 77 [.bool false, .string ⟨#[]⟩, .string ⟨#[]⟩, .int .i64 0, .string ⟨#[]⟩, .int .i64 0, .slice none 0 0, .int .i64 0, .int .i64 0, .slice none 0 0, .bool false]) [.bool mh.rq, .string ⟨mh.m.toArray⟩, .string ⟨mh.t.toArray⟩, .int .i64 (mh.st : Int), .string ⟨mh.rs.toArray⟩, .int .i64 (mh.mn : Int), .slice Af mh.fs.length cf, .int .i64 (mf : Int), .int .i64 (ml : Int), .slice Ad mb.length cd, .bool mw] rfl rfl (by kernel_rfl) (by simp [Value.oneCell']) ?_; intro w1 hv1 hg1 hs1)
        | fail)
      obtain ⟨bm, hbm⟩ : ∃ bm, bm = wr.heap.size := ⟨_, rfl⟩
      rw [← hbm] at hv1 hg1 ⊢
      have hb1 : Below wr.heap.size wr w1 := (((Below.refl _ _).alloc (Nat.le_refl _) _)).grown hg1 (by simp) (fun j hj => by injection hj with hj; omega)
      have hz1 : w1.heap.size = bm + 1 := by rw [hs1, hbm]; simp
      have HV1 := Lib.hid hv1
      have HB1 := Lib.hid hb1
      have HZ1 := Lib.hid hz1
      have HBM := Lib.hid hbm
      clear hv1 hg1 hs1 hb1 hz1 hbm
      go_upto_if 23 with (fail)
      go_cut [5, 8] (fun v5 v8 wx => ∃ (Av2 : Option Addr) (cv2 : Nat) (E2 : List QvE), v5 = .slice Av2 E2.length cv2 ∧ v8 = .int .i64 hd ∧ QeSt w wx T (Strm.data (mb.drop hd) ++ ((if fb = true then [.fin] else []) ++ tl)) (3 * i + 1) (.slice Av2 E2.length cv2) E2 ∧ Var wx bm 77 [.bool mh.rq, .string ⟨mh.m.toArray⟩, .string ⟨mh.t.toArray⟩, .int .i64 (mh.st : Int), .string ⟨mh.rs.toArray⟩, .int .i64 (mh.mn : Int), .slice Af mh.fs.length cf, .int .i64 (mf : Int), .int .i64 (ml : Int), .slice Ad mb.length cd, .bool mw] ∧ ∀ k, (Value.slice Av2 E2.length cv2).ownBlock = some k → k ≠ bm)
      case first =>
        --P cutA
        rcases HK0.out with ⟨rfl, hni⟩ | ⟨q, rfl, hni, gk, ok, Aq, cq, rfl, hcq⟩
        · have k1 : ¬ (i : Int) < (n : Int) := by omega
          have c7 := HV1.out.cell (j := 7) rfl
          clear hni
          go_upto_region 10 with (first
            | (refine wpList_load_mid rfl 52 (.tmp 30) rfl bm 0 rfl [.bool mh.rq, .string ⟨mh.m.toArray⟩, .string ⟨mh.t.toArray⟩, .int .i64 (mh.st : Int), .string ⟨mh.rs.toArray⟩, .int .i64 (mh.mn : Int), .slice Af mh.fs.length cf] _ HV1.out.range7 Tryz.underlying52 rfl (by kernel_rfl) ?_)
            | (refine wpList_put rfl 81 (.tmp 9) (.tmp 34) rfl w1.heap.size rfl (Var.new w1 81 [.int .i64 0, .int .i64 0, .int .i64 0, .bool false, .string ⟨#[]⟩, .string ⟨#[]⟩, .int .i64 0, .string ⟨#[]⟩, .int .i64 0, .slice none 0 0, .slice none 0 0]) [.int .i64 1, .int .i64 (mf : Int), .int .i64 0, .bool mh.rq, .string ⟨mh.m.toArray⟩, .string ⟨mh.t.toArray⟩, .int .i64 (mh.st : Int), .string ⟨mh.rs.toArray⟩, .int .i64 (mh.mn : Int), .slice Af mh.fs.length cf, .slice none 0 0] rfl rfl (by kernel_rfl) (by simp [Value.oneCell']) ?_; intro w2 hv2 hg2 hs2)
            | fail)
          have hne : some w1.heap.size ≠ some bm := fun e => by injection e with e; have := HZ1.out; omega
          have hv12 := (HV1.out.alloc _).grown hg2 hne
          have hb2 : Below wr.heap.size wr w2 := (HB1.out.alloc HB1.out.size _).grown hg2 (by have := HB1.out.size; simp; omega) (fun j hj => by injection hj with hj; have := HB1.out.size; omega)
          obtain ⟨be, hbe⟩ : ∃ be, be = w1.heap.size := ⟨_, rfl⟩
          rw [← hbe] at hv2 ⊢
          have HBE : Hid (bm < be ∧ wr.heap.size ≤ be) := Lib.hid (by have := HZ1.out; have := HBM.out; omega)
          have c7 := hv12.cell (j := 7) rfl
          have c8 := hv12.cell (j := 8) rfl
          have e2 := hv2.cell (j := 2) rfl
          have q2 := hv2.frozen 2
          have HV2 := Lib.hid hv2
          have HV12 := Lib.hid hv12
          have HB2 := Lib.hid hb2
          clear hv2 hv12 hb2 hg2 hs2 hne hbe
          go_upto_if 37 with (fail)
          go_cut [] (fun wx => Var wx be 81 [.int .i64 1, .int .i64 (mf : Int), .int .i64 ((if mf = 1 then ml else 0 : Nat) : Int), .bool mh.rq, .string ⟨mh.m.toArray⟩, .string ⟨mh.t.toArray⟩, .int .i64 (mh.st : Int), .string ⟨mh.rs.toArray⟩, .int .i64 (mh.mn : Int), .slice Af mh.fs.length cf, .slice none 0 0] ∧ Var wx bm 77 [.bool mh.rq, .string ⟨mh.m.toArray⟩, .string ⟨mh.t.toArray⟩, .int .i64 (mh.st : Int), .string ⟨mh.rs.toArray⟩, .int .i64 (mh.mn : Int), .slice Af mh.fs.length cf, .int .i64 (mf : Int), .int .i64 (ml : Int), .slice Ad mb.length cd, .bool mw] ∧ Below wr.heap.size wr wx)
          case first =>
            by_cases hf1 : mf = 1
            · subst hf1
              go_wp2_with (fail)
              go_meet
              exact ⟨by simp only [if_true]; exact HV2.out.set 2 _, HV12.out.set_other (fun e => by have := HBE.out.1; dsimp only at e; omega) _, HB2.out.setCell HBE.out.2 _⟩
            · have k2 : ((mf : Int) == 1) = false := by rw [beq_eq_false_iff_ne]; omega
              have k3 : ¬ (mf : Int) = 1 := by omega
              go_wp2_with (fail)
              go_meet
              exact ⟨by rw [if_neg hf1]; exact HV2.out, HV12.out, HB2.out⟩
          case rest =>
          obtain ⟨hv3, hv13, hb3⟩ := hcut
          have HV3 := Lib.hid hv3
          have HV13 := Lib.hid hv13
          have HB3 := Lib.hid hb3
          have HROW := Lib.hid (HST.out.row.below_all hb3)
          have hz5 : w.heap.size ≤ wc.heap.size := Nat.le_trans HB.out.size hb3.size
          obtain ⟨lx, hlx⟩ : ∃ lx : Nat, lx = (if mf = 1 then ml else 0) := ⟨_, rfl⟩
          rw [← hlx] at HV3
          have HLX := Lib.hid hlx
          clear hv3 hv13 hb3 hlx
          go_wp2_with (first
            | (refine wpList_load_mid rfl 81 (.tmp 9) rfl be 0 rfl [.int .i64 1, .int .i64 (mf : Int), .int .i64 (lx : Int), .bool mh.rq, .string ⟨mh.m.toArray⟩, .string ⟨mh.t.toArray⟩, .int .i64 (mh.st : Int), .string ⟨mh.rs.toArray⟩, .int .i64 (mh.mn : Int), .slice Af mh.fs.length cf, .slice none 0 0] _ HV3.out.range Tryz.underlying81 rfl (by kernel_rfl) ?_)
            | (at_builtin; go_must (refine wpList_app _ rfl (.tmp 41) (.tmp 43) 37 37 rfl w.heap.size 81 i0 (.agg #[.int .i64 0, .int .i64 0, .int .i64 0, .bool false, .string ⟨#[]⟩, .string ⟨#[]⟩, .int .i64 0, .string ⟨#[]⟩, .int .i64 0, .slice none 0 0, .slice none 0 0]) 11 144 Tryz.underlying37 hi0 iz0 iz1 iz2 rfl (.slice Av E.length cv) E.length (E.flatMap QvE.cells) rfl (HROW.out.alloc _) _ 1 [.int .i64 1, .int .i64 (mf : Int), .int .i64 (lx : Int), .bool mh.rq, .string ⟨mh.m.toArray⟩, .string ⟨mh.t.toArray⟩, .int .i64 (mh.st : Int), .string ⟨mh.rs.toArray⟩, .int .i64 (mh.mn : Int), .slice Af mh.fs.length cf, .slice none 0 0] rfl (Src.built [.int .i64 1, .int .i64 (mf : Int), .int .i64 (lx : Int), .bool mh.rq, .string ⟨mh.m.toArray⟩, .string ⟨mh.t.toArray⟩, .int .i64 (mh.st : Int), .string ⟨mh.rs.toArray⟩, .int .i64 (mh.mn : Int), .slice Af mh.fs.length cf, .slice none 0 0] 81 Tryz.underlying37 rfl (qe_one _ _ _ _ _ _ _ _ _ _ _ _ _ _ _)) (by omega) (by omega) (by omega) (by simp; omega) ?_); intro v9 w9 hrow9 hg9 ho9)
            | fail)
          obtain ⟨Av2, cv2, rfl, _, _, _, _⟩ := hrow9.form
          go_meet
          have hbw : wr.heap.size ≤ wc.heap.size := HB3.out.size
          refine ⟨Av2, cv2, E ++ [⟨.head mh mf lx, .slice Af mh.fs.length cf, .slice none 0 0⟩], by rw [List.length_append]; rfl, by rw [HHD.out]; rfl, ?_, (HV13.out.alloc _).grown hg9 (fun e => by have := (HVO.out _ e).2; have := HBM.out; omega), fun k hk e => ?_⟩
          rotate_left
          · rw [List.length_append, List.length_singleton] at hk
            rcases ho9 with x | x
            · rw [x] at hk; have := (HVO.out _ hk).2; have := HBM.out; omega
            · rw [x] at hk; injection hk with hk; have := HV13.out.lt; simp at hk; omega
          rw [List.length_append, List.length_singleton]
          refine QeSt.push (e := ⟨.head mh mf lx, .slice Af mh.fs.length cf, .slice none 0 0⟩) (by rw [HLX.out]; exact HST.out) (HB3.out.alloc HB3.out.size _) ⟨HMF.out.below ?_, BsR.nil _⟩ ⟨HMF.out.farO (fun k hk => (HVO.out k hk).1), Far.nil _ _ _⟩ hg9 hrow9 ho9
          exact (HB.out.trans (HB3.out.mono HB.out.size)).alloc (Nat.le_trans HB.out.size HB3.out.size) _
        · have k1 : (i : Int) < (n : Int) := by omega
          have c9 := (hcq _ (HB.out.trans (HB1.out.mono HB.out.size))).1
          clear hni hcq
          go_wp2_with (fail)
          go_meet
          exact ⟨Av, cv, E, rfl, by rw [HHD.out]; rfl, (HST.out.below HB1.out).more (by omega), HV1.out, fun k hk e => by have := (HVO.out _ hk).2; have := HBM.out; omega⟩
        --Q cutA
      case rest =>
      obtain ⟨Av2, cv2, E2, rfl, rfl, hst2, hv2, hnb⟩ := hcut
      obtain ⟨wA, rfl⟩ : ∃ wA : World, wA = wc := ⟨_, rfl⟩
      have hE2 : E2.length ≤ 50331649 := by have := hst2.cnt; omega
      have c9 := hv2.cell (j := 9) rfl
      have HST2 := Lib.hid hst2
      have HV2 := Lib.hid hv2
      have HNB := Lib.hid hnb
      have HBA := Lib.hid hst2.bl
      have hzA := hst2.bl.size
      have HVO2 : Hid (∀ k, (Value.slice Av2 E2.length cv2).ownBlock = some k → w.heap.size ≤ k ∧ k < wA.heap.size) := Lib.hid (fun k hk => hst2.row.lt k hk)
      clear hst2 hv2 hnb HST HV1 HB1 HZ1 HBM HVO hE
      go_upto_if 49 with (fail)
      go_cut [5] (fun v5 wx => ∃ (Av3 : Option Addr) (cv3 : Nat) (E3 : List QvE), v5 = .slice Av3 E3.length cv3 ∧ QeSt w wx T ((if fb = true then [.fin] else []) ++ tl) (3 * i + 2) (.slice Av3 E3.length cv3) E3 ∧ Var wx bm 77 [.bool mh.rq, .string ⟨mh.m.toArray⟩, .string ⟨mh.t.toArray⟩, .int .i64 (mh.st : Int), .string ⟨mh.rs.toArray⟩, .int .i64 (mh.mn : Int), .slice Af mh.fs.length cf, .int .i64 (mf : Int), .int .i64 (ml : Int), .slice Ad mb.length cd, .bool mw])
      case first =>
        --P cutB
        by_cases hdl : hd < mb.length
        · obtain ⟨gd, od, rfl, _, _⟩ := HRD.out.2 (by omega)
          have k1 : (hd : Int) < (mb.length : Int) := by omega
          have k2 : ¬ cd = hd := by omega
          have k3 : (hd : Int) ≤ (mb.length : Int) := by omega
          go_wp2_with (first
            | (at_builtin; go_must (refine wpList_app _ rfl (.tmp 50) (.tmp 56) 37 37 rfl w.heap.size 81 i0 (.agg #[.int .i64 0, .int .i64 0, .int .i64 0, .bool false, .string ⟨#[]⟩, .string ⟨#[]⟩, .int .i64 0, .string ⟨#[]⟩, .int .i64 0, .slice none 0 0, .slice none 0 0]) 11 144 Tryz.underlying37 hi0 iz0 iz1 iz2 rfl (.slice Av2 E2.length cv2) E2.length (E2.flatMap QvE.cells) rfl (HST2.out.row.alloc _) _ 1 [.int .i64 2, .int .i64 0, .int .i64 0, .bool false, .string ⟨#[]⟩, .string ⟨#[]⟩, .int .i64 0, .string ⟨#[]⟩, .int .i64 0, .slice none 0 0, .slice (some ⟨gd, od + hd, none⟩) (mb.length - hd) (cd - hd)] rfl (Src.built [.int .i64 2, .int .i64 0, .int .i64 0, .bool false, .string ⟨#[]⟩, .string ⟨#[]⟩, .int .i64 0, .string ⟨#[]⟩, .int .i64 0, .slice none 0 0, .slice (some ⟨gd, od + hd, none⟩) (mb.length - hd) (cd - hd)] 81 Tryz.underlying37 rfl (qe_one _ _ _ _ _ _ _ _ _ _ _ _ _ _ _)) (by omega) (by omega) (by omega) (by simp; omega) ?_); intro v9 w9 hrow9 hg9 ho9)
            | fail)
          obtain ⟨Av3, cv3, rfl, _, _, _, _⟩ := hrow9.form
          go_meet
          have hdn : Strm.data (mb.drop hd) = [.body (mb.drop hd)] := if_neg (fun e => by have := congrArg List.length e; rw [List.length_drop] at this; simp at this; omega)
          refine ⟨Av3, cv3, E2 ++ [⟨.body (mb.drop hd), .slice none 0 0, .slice (some ⟨gd, od + hd, none⟩) (mb.length - hd) (cd - hd)⟩], by rw [List.length_append]; rfl, ?_, (HV2.out.alloc _).grown hg9 (fun e => HNB.out _ e rfl)⟩
          rw [List.length_append, List.length_singleton]
          have hbd := BsR.part HRD.out (by omega) (by omega) (i := hd) (j := mb.length) (by omega) (Nat.le_refl _)
          rw [List.take_of_length_le (by rw [List.length_drop]; exact Nat.le_refl _)] at hbd
          have hfar := hbd.farO (X := (Value.slice Av2 E2.length cv2).ownBlock) (fun k hk => (HVO2.out k hk).1)
          refine (QeSt.push (e := ⟨.body (mb.drop hd), .slice none 0 0, .slice (some ⟨gd, od + hd, none⟩) (mb.length - hd) (cd - hd)⟩) (by rw [hdn] at HST2; exact HST2.out) ((Below.refl _ _).alloc (Nat.le_refl _) _) ⟨FsR.nil _, (hbd.below HBA.out).below ((Below.refl _ _).alloc (Nat.le_refl _) _)⟩ ⟨Far.nil _ _ _, hfar⟩ hg9 hrow9 ho9).more (by omega)
        · have k1 : ¬ (hd : Int) < (mb.length : Int) := by omega
          have hdn : Strm.data (mb.drop hd) = [] := if_pos (List.drop_of_length_le (by omega))
          go_wp2_with (fail)
          go_meet
          refine ⟨Av2, cv2, E2, rfl, ?_, HV2.out⟩
          rw [hdn] at HST2
          exact HST2.out.more (by omega)
        --Q cutB
      case rest =>
      obtain ⟨Av3, cv3, E3, rfl, hst3, hv3⟩ := hcut
      --P tail
      obtain ⟨wB, rfl⟩ : ∃ wB : World, wB = wc := ⟨_, rfl⟩
      have hE3 : E3.length ≤ 50331650 := by have := hst3.cnt; omega
      have c10 := hv3.cell (j := 10) rfl
      have HST3 := Lib.hid hst3
      have hzB := hst3.bl.size
      have HBB := Lib.hid hst3.bl
      clear hst3 hv3 HST2 HV2 HVO2 HNB hE2 c9
      go_upto_region 15 with (fail)
      go_cut [73] (fun v73 wx => v73 = .bool fb ∧ wB = wx)
      case first =>
        cases mw with
        | false =>
          go_wp2
          go_meet
          exact ⟨by rw [HFB.out]; rfl, rfl⟩
        | true =>
          rcases HK0.out with ⟨rfl, hni⟩ | ⟨q, rfl, hni, gk, ok, Aq, cq, rfl, hcq⟩
          · have k1 : (n : Int) ≤ (i : Int) := by omega
            clear hni
            go_wp2
            go_meet
            exact ⟨by rw [HFB.out]; rfl, rfl⟩
          · have k1 : ¬ (n : Int) ≤ (i : Int) := by omega
            have k2 : (i : Int) < (n : Int) := by omega
            have d10 := (hcq _ HBB.out).2
            clear hni hcq
            go_wp2
            go_meet
            exact ⟨by rw [HFB.out]; congr 1; cases hq : q.wh <;> simp [hq], rfl⟩
      case rest =>
      obtain ⟨rfl, rfl⟩ := hcut
      cases fb with
      | false =>
        go_wp2
        go_roundw
        case rel => exact ⟨i + 1, E3, by go_num, by omega, by rw [← HTL.out]; exact HST3.out.more (by omega)⟩
        case measure => simp [intOf]; omega
      | true =>
        go_wp2_with (first
          | (at_builtin; go_must (refine wpList_app _ rfl (.tmp 74) (.tmp 76) 37 37 rfl w.heap.size 81 i0 (.agg #[.int .i64 0, .int .i64 0, .int .i64 0, .bool false, .string ⟨#[]⟩, .string ⟨#[]⟩, .int .i64 0, .string ⟨#[]⟩, .int .i64 0, .slice none 0 0, .slice none 0 0]) 11 144 Tryz.underlying37 hi0 iz0 iz1 iz2 rfl (.slice Av3 E3.length cv3) E3.length (E3.flatMap QvE.cells) rfl (HST3.out.row.alloc _) _ 1 [.int .i64 3, .int .i64 0, .int .i64 0, .bool false, .string ⟨#[]⟩, .string ⟨#[]⟩, .int .i64 0, .string ⟨#[]⟩, .int .i64 0, .slice none 0 0, .slice none 0 0] rfl (Src.built [.int .i64 3, .int .i64 0, .int .i64 0, .bool false, .string ⟨#[]⟩, .string ⟨#[]⟩, .int .i64 0, .string ⟨#[]⟩, .int .i64 0, .slice none 0 0, .slice none 0 0] 81 Tryz.underlying37 rfl (qe_one _ _ _ _ _ _ _ _ _ _ _ _ _ _ _)) (by omega) (by omega) (by omega) (by simp; omega) ?_); intro v9 w9 hrow9 hg9 ho9)
          | fail)
        go_roundw
        case rel => exact ⟨i + 1, E3 ++ [⟨.fin, .slice none 0 0, .slice none 0 0⟩], by go_num, by omega, by
          rw [← HTL.out]
          exact (QeSt.push (e := ⟨.fin, .slice none 0 0, .slice none 0 0⟩) HST3.out ((Below.refl _ _).alloc (Nat.le_refl _) _) ⟨FsR.nil _, BsR.nil _⟩ ⟨Far.nil _ _ _, Far.nil _ _ _⟩ hg9 hrow9 ho9).more (by omega)⟩
        case measure => simp [intOf]; omega
      --Q tail
    · --P stop
      have hr : Strm.evP ((K.map MsE.x).drop i) ((L.map MsE.x).drop i) = [] := by
        rw [List.drop_of_length_le (l := L.map MsE.x) (by rw [List.length_map, HLL.out]; omega)]; exact Strm.evP_nil _
      rw [hr] at hst
      have HST := Lib.hid hst
      have i1 : ¬ (i : Int) < (n' : Int) := by omega
      clear hst hr
      go_wp2
      go_ret
      exact (HST.out.more (by omega)).done
      --Q stop
end Go.Proofs.YtklmpadcfioefaaGreatDoor
