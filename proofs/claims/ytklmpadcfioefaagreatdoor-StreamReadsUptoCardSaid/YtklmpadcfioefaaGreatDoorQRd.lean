/- the document's Read of a stream, walked (chapter 24). Conditions: sizes. -/
import Derived.Test.YtklmpadcfioefaaGreatDoorMX3
import Derived.Test.YtklmpadcfioefaaGreatDoorRParse
import Derived.Test.YtklmpadcfioefaaGreatDoorQRead2
namespace Go.Proofs.YtklmpadcfioefaaGreatDoor
open Go.RowKit

theorem infoMsg : (Tryz.prog.info? 77).map (fun i => (i.zero, i.size, i.bytes)) = some (some (.agg #[.bool false, .string ⟨#[]⟩, .string ⟨#[]⟩, .int .i64 0, .string ⟨#[]⟩, .int .i64 0, .slice none 0 0, .int .i64 0, .int .i64 0, .slice none 0 0, .bool false]), 11, 144) := by kernel_rfl
theorem ms_one (a : Bool) (b c : ByteArray) (d : Int) (e : ByteArray) (f : Int) (A : Option Addr) (n k : Nat) (x y : Int) (A' : Option Addr) (n' k' : Nat) (z : Bool) : ∀ u ∈ [Value.bool a, .string b, .string c, .int .i64 d, .string e, .int .i64 f, .slice A n k, .int .i64 x, .int .i64 y, .slice A' n' k', .bool z], u.oneCell' = true := by
  simp [Value.oneCell']
theorem below_refl_alloc (w : World) (o : Obj) : Below w.heap.size w (w.alloc o) := (Below.refl _ _).alloc (Nat.le_refl _) o
set_option maxHeartbeats 8000000 in
set_option maxRecDepth 100000 in
theorem qread_any (A : Option Addr) (n c : Nat) (l : Bs) (rq : Bool) (A2 : Option Addr) (n2 c2 : Nat) (M : List ByteArray) (w : World) (hnc : n ≤ c) (hcm : c ≤ maxLen) (hrd : Rd w w.heap.size 1 A n (bytesV l)) (hn : n ≤ 16777216)
    (hrm : Rd w w.heap.size 1 A2 n2 (strsV M)) (hn2 : n2 ≤ 100000000) :
    Calls Tryz.prog 30 #[.slice A n c, .bool rq, .slice A2 n2 c2] w (RdPost w rq l M) := by
  have hlen : l.length = n := by have := hrd.1; rw [bytesV_len] at this; omega
  have hlm : M.length = n2 := by have := hrm.1; unfold strsV at this; rw [List.length_map] at this; omega
  obtain ⟨i0, hi0, iz0, iz1, iz2⟩ := info_parts infoMsg
  have HL := Lib.hid hlen
  have HLM := Lib.hid hlm
  clear hlen hlm
  go_enter Tryz.func30, Tryz.ntmps30
  go_wp2
  go_loopw [9, 10, 11] (fun v9 ai ui wr => ∃ (a k : Nat) (E : List MsE) (vo : Value), vo = v9 ∧ ai = .int .i64 a ∧ ui = .int .i64 k ∧ RdSt w wr rq l M a k vo E) (fun _ i _ _ => n - (intOf i).toNat)
  case atStart => exact ⟨0, 0, [], _, rfl, rfl, rfl, RdSt.init⟩
  case round =>
    obtain ⟨a, k, E, vo, rfl, rfl, rfl, hst⟩ := hrel
    have hal : a ≤ n := by have := hst.le; rw [HL.out] at this; exact this
    have hrw := hrd.keeps hst.bl
    have hmw := hrm.keeps hst.bl
    have hku : k ≤ n2 := by have := hst.ku; rw [HLM.out] at this; exact this
    have hE : E.length ≤ 16777216 := by have := hst.cnt; omega
    by_cases ha : a < n
    · obtain ⟨g, o, rfl, hgw, hgc⟩ := hrd.2 (by omega)
      have HGW := Lib.hid hgw
      clear hgw hgc
      have hrb := hrw.part (Nat.le_of_lt ha) (Nat.le_refl n)
      have hbl : ((l.drop a).take (n - a)) = l.drop a := List.take_of_length_le (by rw [List.length_drop, HL.out]; omega)
      rw [hbl] at hrb
      have hbn : l.drop a ≠ [] := fun e => by have := congrArg List.length e; rw [List.length_drop, HL.out] at this; simp at this; omega
      have HEN := Lib.hid (qend_any (some ⟨g, o + a, none⟩) (n - a) (c - a) (l.drop a) _ hrb (by omega))
      have HST := Lib.hid hst
      have HRW := Lib.hid hrw
      have HMW := Lib.hid hmw
      have HBN := Lib.hid hbn
      have i1 : (a : Int) < (n : Int) := by omega
      have i2 : ¬ c = a := by omega
      clear hst hrw hmw hrb hbl hbn hrd hrm
      cases he : Strm.headEnd ((l.drop a).take 16384) with
      | none =>
        --P none
        as_aux_lemma =>
          rw [endN_none he] at HEN
          by_cases hs : n - a < 16384
          · have HR := Lib.hid (Strm.rd_short (rq := rq) (X := M.drop k) HBN.out he (by rw [List.length_drop, HL.out]; exact hs))
            have i3 : (n : Int) - (a : Int) < 16384 := by omega
            clear he
            go_wp2_with (first
              | (go_at_call 59; go_must (refine HEN.out.mono ?_; rintro _ _ ⟨rfl, rfl⟩))
              | fail)
            go_ret3
            exact HST.out.stop (Below.refl _ _) HR.out rfl
          · have hr := Strm.rd_long (rq := rq) (X := M.drop k) HBN.out he (by rw [List.length_drop, HL.out]; exact hs)
            rw [Strm.refuse_lines] at hr
            have i3 : ¬ (n : Int) - (a : Int) < 16384 := by omega
            have i4 : (a : Int) + 16384 ≤ (c : Int) := by omega
            have h16 := HRW.out.part (i := a) (j := a + 16384) (by omega) (by omega)
            rw [Nat.add_sub_cancel_left] at h16
            have HLI := Lib.hid (rLines_any (some ⟨g, o + a, none⟩) 16384 (c - a) ((l.drop a).take 16384) _ (by omega) (by omega) (by intro e; cases e) h16 (by omega))
            have hpn := lines_ne ((l.drop a).take 16384) []
            generalize lines [] ((l.drop a).take 16384) = PS at *
            clear he h16
            go_upto_region 10 with (first
              | (go_at_call 59; go_must (refine HEN.out.mono ?_; rintro _ _ ⟨rfl, rfl⟩))
              | (go_at_call 60; go_must (refine HLI.out.mono ?_; rintro _ w1 ⟨v1, ps, rfl, hps, hrow, hb1⟩; obtain ⟨A3, c3, rfl, _, _, _, hr3⟩ := hrow.form))
              | fail)
            subst hps
            have HB1 := Lib.hid hb1
            cases ps with
            | nil => exact absurd rfl hpn
            | cons p r =>
              obtain ⟨g3, o3, rfl, _, hc3⟩ := hr3.2 (by simp)
              have c0 := hc3 0 (.string p) rfl
              rw [Nat.add_zero] at c0
              clear hb1 hrow hr3 hc3 hpn
              cases r with
              | nil =>
                rw [if_pos (.inl rfl)] at hr
                have HR := Lib.hid hr
                clear hr
                go_wp2
                go_ret3
                exact HST.out.stop HB1.out HR.out rfl
              | cons q r =>
                have j1 : (((p :: q :: r).length : Nat) : Int) ≠ 1 := by simp; omega
                have j2 : ((((p :: q :: r).length : Nat) : Int) == 1) = false := by rw [beq_eq_false_iff_ne]; exact j1
                by_cases hp : 4096 < p.size
                · rw [if_pos (.inr hp)] at hr
                  have HR := Lib.hid hr
                  have j3 : (4096 : Int) < (p.size : Int) := by omega
                  clear hr
                  go_wp2
                  go_ret3
                  exact HST.out.stop HB1.out HR.out rfl
                · have hne : ¬ ((List.map (fun x : ByteArray => x.data.toList) (p :: q :: r)).length = 1 ∨ 4096 < ((List.map (fun x : ByteArray => x.data.toList) (p :: q :: r)).headD []).length) := by
                    intro e
                    rcases e with e | e
                    · exact absurd e (by simp)
                    · exact hp e
                  rw [if_neg hne] at hr
                  have HR := Lib.hid hr
                  have j3 : ¬ (4096 : Int) < (p.size : Int) := by omega
                  clear hr
                  go_wp2
                  go_ret3
                  exact HST.out.stop HB1.out HR.out rfl
        --Q none
      | some n' =>
        rw [endN_some he] at HEN
        have hge := Strm.headEnd_ge he
        have hn2 : n' ≤ n - a ∧ n' ≤ 16384 := by have h := hge.2; rw [List.length_take, List.length_drop, HL.out] at h; omega
        have hn4 : 4 ≤ n' := hge.1
        have i3 : (n' : Int) ≠ 0 := by omega
        have i4 : ((n' : Int) == 0) = false := by rw [beq_eq_false_iff_ne]; exact i3
        have i5 : (a : Int) + (n' : Int) ≤ (n : Int) := by omega
        have i6 : (a : Int) + (n' : Int) ≤ (c : Int) := by omega
        have hpb := HRW.out.part (i := a) (j := a + n') (by omega) (by omega)
        rw [Nat.add_sub_cancel_left] at hpb
        have hpe : (l.drop a).take n' = (l.drop a).take n' := rfl
        have hPA := rParse_any (some ⟨g, o + a, none⟩) n' (c - a) ((l.drop a).take n') rq _ (by omega) (by omega) (by intro e; cases e) hpb (by omega)
        unfold ParsePost at hPA
        obtain ⟨P, hP⟩ : ∃ P, parseP ((l.drop a).take n') rq = P := ⟨_, rfl⟩
        rw [hP] at hPA
        obtain ⟨h, er⟩ := P
        obtain ⟨z1, z2, z3⟩ := hparse_sizes hP
        have HPA := Lib.hid hPA
        have HP := Lib.hid hP
        have HHE := Lib.hid he
        clear hge hpb hpe hPA hP he
        unfold hdV headV at HPA
        dsimp only at HPA z1 z2 z3
        go_upto_region 14 with (first
          | (go_at_call 59; go_must (refine HEN.out.mono ?_; rintro _ _ ⟨rfl, rfl⟩))
          | (go_at_call 61; go_must (refine HPA.out.mono ?_; rintro _ w1 ⟨v1, rfl, hrow, hb1⟩; obtain ⟨A3, c3, rfl, hc3, hm3, hA3, hr3⟩ := hrow.form))
          | (refine wpList_put rfl 52 (.tmp 14) (.tmp 65) rfl w1.heap.size rfl (Var.new w1 52 [.bool false, .string ⟨#[]⟩, .string ⟨#[]⟩, .int .i64 0, .string ⟨#[]⟩, .int .i64 0, .slice none 0 0]) [.bool h.rq, .string ⟨h.m.toArray⟩, .string ⟨h.t.toArray⟩, .int .i64 (h.st : Int), .string ⟨h.rs.toArray⟩, .int .i64 (h.mn : Int), .slice A3 h.fs.length c3] rfl rfl (by kernel_rfl) (by simp [Value.oneCell']) ?_; intro w2 hv2 hg2 hs2)
          | fail)
        have hb2 : Below wr.heap.size wr w2 := (hb1.alloc hb1.size _).grown hg2 (by have := hb1.size; simp; omega) (fun j hj => by injection hj with hj; have := hb1.size; omega)
        have hz2 : w2.heap.size = w1.heap.size + 1 := by rw [hs2]; simp
        have hF2 : FsR w2 (.slice A3 h.fs.length c3) h.fs := ⟨A3, c3, rfl, hc3, hm3, hA3, ((hr3.alloc (Nat.le_refl _) _).grown hg2 (by simp) (fun g hg => by injection hg with hg; omega)).more (by omega)⟩
        have HFO := Lib.hid (Far.row (X := vo.ownBlock) hrow (fun k hk => (HST.out.row.lt k hk).2))
        have HB2 := Lib.hid hb2
        have HV2 := Lib.hid hv2
        have HF2 := Lib.hid hF2
        have HZ2 := Lib.hid hz2
        clear hb1 hrow hr3 hA3 hg2 hs2 hb2 hv2 hF2 hz2 hc3 hm3
        by_cases her : er = 0
        · subst her
          have q3 := HV2.out.cell (j := 3) rfl
          have q0 := HV2.out.cell (j := 0) rfl
          go_upto_region 17 with (fail)
          go_cut [83] (fun v83 wx => v83 = .bool (decide (rq = false ∧ 200 ≤ h.st ∧ k < n2)) ∧ w2 = wx)
          case first =>
            --P t83
            as_aux_lemma =>
              by_cases hrq : rq = false
              · subst hrq
                by_cases h200 : 200 ≤ h.st
                · have j1 : (200 : Int) ≤ (h.st : Int) := by omega
                  by_cases hkm : k < n2
                  · have j2 : (k : Int) < (n2 : Int) := by omega
                    go_wp2
                    go_meet
                    exact ⟨by simp [h200, hkm], rfl⟩
                  · have j2 : ¬ (k : Int) < (n2 : Int) := by omega
                    go_wp2
                    go_meet
                    exact ⟨by rw [decide_eq_false (fun e => hkm e.2.2)], rfl⟩
                · have j1 : ¬ (200 : Int) ≤ (h.st : Int) := by omega
                  go_wp2
                  go_meet
                  exact ⟨by rw [decide_eq_false (fun e => h200 e.2.1)], rfl⟩
              · obtain rfl : rq = true := by cases rq; exact absurd rfl hrq; rfl
                clear hrq
                go_wp2
                go_meet
                exact ⟨by rw [decide_eq_false (fun e => by cases e.1)], rfl⟩
            --Q t83
          case rest =>
          obtain ⟨rfl, rfl⟩ := hcut
          have HME : Hid (∃ (k' : Nat) (mth : ByteArray), k' ≤ M.length ∧ Strm.headFr { rq := rq, ms := M.drop k } h = framingP h.rq (decide (mth = Strm.bHEAD)) h.st h.mn (flB h.fs) ∧ (if Strm.takes { rq := rq, ms := M.drop k } h = true then (M.drop k).tail else M.drop k) = M.drop k' ∧ ((decide (rq = false ∧ 200 ≤ h.st ∧ k < n2) = true ∧ k' = k + 1 ∧ ∃ gm om, A2 = some ⟨gm, om, none⟩ ∧ w2.cell? ⟨gm, om + k, none⟩ = some (.string mth)) ∨ (decide (rq = false ∧ 200 ≤ h.st ∧ k < n2) = false ∧ k' = k ∧ mth = ⟨#[71, 69, 84]⟩))) := Lib.hid (by
            by_cases hall : rq = false ∧ 200 ≤ h.st ∧ k < n2
            · obtain ⟨h1, h2, h3⟩ := hall
              have hkM : k < M.length := by rw [HLM.out]; exact h3
              obtain ⟨m1, m2⟩ := Strm.meth_yes (h := h) h1 h2 hkM
              obtain ⟨gm, om, hA2, hgm, hcm2⟩ := HMW.out.2 (by omega)
              have hcl := hcm2 k (.string M[k]) (by unfold strsV; rw [List.getElem?_map, List.getElem?_eq_getElem hkM]; rfl)
              exact ⟨k + 1, M[k], hkM, m1, m2, .inl ⟨decide_eq_true ⟨h1, h2, h3⟩, rfl, gm, om, hA2, (HB2.out.cell (p := ⟨gm, om + k, none⟩) hgm).trans hcl⟩⟩
            · obtain ⟨m1, m2⟩ := Strm.meth_no (rq := rq) (M := M) (k := k) (h := h) (fun e => hall (by rw [← HLM.out]; exact e))
              exact ⟨k, _, by rw [HLM.out]; exact hku, m1, m2, .inr ⟨decide_eq_false hall, rfl, rfl⟩⟩)
          obtain ⟨k', mth, hk', hfr, htk, hor⟩ := HME.out
          have HOR := Lib.hid hor
          have HFR := Lib.hid hfr
          have HTK := Lib.hid htk
          have HK2 := Lib.hid hk'
          have hkz : k < n2 → k ≤ 100000000 := fun _ => by omega
          clear hor hfr htk hk' HME hkz
          generalize hbb : decide (rq = false ∧ 200 ≤ h.st ∧ k < n2) = bb at *
          clear hbb
          go_upto_if 83 with (fail)
          go_cut [11, 16] (fun v11 v16 wx => v11 = .int .i64 k' ∧ v16 = .string mth ∧ w2 = wx)
          case first =>
            --P mth
            as_aux_lemma =>
              rcases HOR.out with ⟨rfl, rfl, gm, om, rfl, hcl⟩ | ⟨rfl, rfl, rfl⟩
              · have hkm : k < n2 := by have := HK2.out; rw [HLM.out] at this; omega
                have j2 : (k : Int) < (n2 : Int) := by omega
                go_wp2
                go_meet
                exact ⟨by go_num, rfl, rfl⟩
              · go_wp2
                go_meet
                exact ⟨rfl, rfl, rfl⟩
            --Q mth
          case rest =>
          obtain ⟨rfl, rfl, rfl⟩ := hcut
          obtain ⟨F, hF⟩ : ∃ F, framingP h.rq (decide (mth = ⟨#[72, 69, 65, 68]⟩)) h.st h.mn (flB h.fs) = F := ⟨_, rfl⟩
          have hQF : Calls Tryz.prog 62 #[headV h.rq ⟨h.m.toArray⟩ ⟨h.t.toArray⟩ h.st ⟨h.rs.toArray⟩ h.mn (.slice A3 h.fs.length c3), .string mth] w2 fun e w' => e = .returned (framV F) ∧ Below w2.heap.size w2 w' := by
            obtain ⟨A4, c4, e4, _, _, _, hrF⟩ := HF2.out
            injection e4 with e5 _ _
            rw [← e5] at hrF
            rw [← hF]
            exact qframing_any h.rq ⟨h.m.toArray⟩ ⟨h.t.toArray⟩ (h.st : Int) ⟨h.rs.toArray⟩ (h.mn : Int) A3 h.fs.length c3 (flB h.fs) mth w2 hrF (by omega) (fun f hf => by have := flS_mem hf; omega) (by omega)
          have hfl := Strm.framing_le h.rq (decide (mth = ⟨#[72, 69, 65, 68]⟩)) h.st h.mn (flB h.fs)
          rw [hF] at hfl
          have hfr := HFR.out
          unfold Strm.bHEAD at hfr
          rw [hF] at hfr
          obtain ⟨f, ln, e2⟩ := F
          unfold framV headV at hQF
          dsimp only at hQF hfl
          have HQF := Lib.hid hQF
          have HFQ := Lib.hid hfr
          clear hQF hfr hF HFR
          go_upto_region 21 with (first
            | (refine wpList_load_mid rfl 52 (.tmp 14) rfl w1.heap.size 0 rfl [.bool h.rq, .string ⟨h.m.toArray⟩, .string ⟨h.t.toArray⟩, .int .i64 (h.st : Int), .string ⟨h.rs.toArray⟩, .int .i64 (h.mn : Int), .slice A3 h.fs.length c3] _ HV2.out.range Tryz.underlying52 rfl (by kernel_rfl) ?_)
            | (go_at_call 62; go_must (refine HQF.out.mono ?_; rintro _ w3 ⟨rfl, hb3⟩))
            | fail)
          have HB3 := Lib.hid (HB2.out.trans (hb3.mono HB2.out.size))
          have HV3 := Lib.hid (HV2.out.below_all hb3)
          have HF3 := Lib.hid (HF2.out.below hb3)
          clear hb3
          by_cases her2 : e2 = 0
          · subst her2
            obtain ⟨p, hp⟩ : ∃ p, p = a + n' := ⟨_, rfl⟩
            have hrO := Strm.readF_head (rq := rq) (ms := M.drop k) HHE.out (by rw [HP.out]) (by rw [HP.out, HFQ.out])
            rw [HP.out, HFQ.out, HTK.out, List.drop_drop, ← hp] at hrO
            dsimp only at hrO
            have HRO := Lib.hid hrO
            have hpn : p ≤ n := by omega
            have hap : a + 4 ≤ p := by omega
            clear hrO
            go_upto_region 23 with (fail)
            go_cut [10] (fun v10 wx => v10 = .int .i64 p ∧ w3 = wx)
            case first =>
              go_wp2
              go_meet
              exact ⟨by rw [hp]; go_num, rfl⟩
            case rest =>
            obtain ⟨rfl, rfl⟩ := hcut
            have HPZ : Hid (∃ (b : Bs) (q : Bool), parseP b q = (h, 0)) := Lib.hid ⟨_, _, HP.out⟩
            clear hp i4 i5 i6 HEN HPA HQF HHE HP HTK HFQ
            obtain ⟨bm, hbm⟩ : ∃ bm, bm = w3.heap.size := ⟨_, rfl⟩
            go_upto_block 2 with (first
              | (refine wpList_load_mid rfl 52 (.tmp 14) rfl w1.heap.size 0 rfl [.bool h.rq, .string ⟨h.m.toArray⟩, .string ⟨h.t.toArray⟩, .int .i64 (h.st : Int), .string ⟨h.rs.toArray⟩, .int .i64 (h.mn : Int), .slice A3 h.fs.length c3] _ HV3.out.range Tryz.underlying52 rfl (by kernel_rfl) ?_)
              | (refine wpList_put rfl 77 (.tmp 19) (.tmp 107) rfl w3.heap.size rfl (Var.new w3 77 [.bool false, .string ⟨#[]⟩, .string ⟨#[]⟩, .int .i64 0, .string ⟨#[]⟩, .int .i64 0, .slice none 0 0, .int .i64 0, .int .i64 0, .slice none 0 0, .bool false]) [.bool h.rq, .string ⟨h.m.toArray⟩, .string ⟨h.t.toArray⟩, .int .i64 (h.st : Int), .string ⟨h.rs.toArray⟩, .int .i64 (h.mn : Int), .slice A3 h.fs.length c3, .int .i64 (f : Int), .int .i64 (ln : Int), .slice none 0 0, .bool false] rfl rfl (by kernel_rfl) (by simp [Value.oneCell']) ?_; intro w4 hv4 hg4 hs4)
              | fail)
            rw [← hbm] at hv4 hg4 ⊢
            have hb4 : Below wr.heap.size wr w4 := (HB3.out.alloc HB3.out.size _).grown hg4 (by have := HB3.out.size; simp; omega) (fun j hj => by injection hj with hj; have := HB3.out.size; omega)
            have hf4 : FsR w4 (.slice A3 h.fs.length c3) h.fs := by
              obtain ⟨A4, c4, e4, x1, x2, x3, hrF⟩ := HF3.out
              exact ⟨A4, c4, e4, x1, x2, x3, ((hrF.alloc (Nat.le_refl _) _).grown hg4 (by simp) (fun g hg => by injection hg with hg; omega)).more (by rw [hs4]; simp)⟩
            have hz4 : w4.heap.size = bm + 1 := by rw [hs4, hbm]; simp
            have HB4 := Lib.hid hb4
            have HF4 := Lib.hid hf4
            have HV4 := Lib.hid hv4
            have HG4 := Lib.hid (Nat.le_trans HB3.out.size (Nat.le_of_eq hbm.symm))
            have d9 := hv4.cell (j := 9) rfl
            have d10 := hv4.cell (j := 10) rfl
            have f9 := hv4.frozen 9
            have f10 := hv4.frozen 10
            have HR4 := Lib.hid (HRW.out.keeps hb4)
            have HFA := Lib.hid (HF3.out.far (k := bm) (Nat.le_of_eq hbm.symm))
            have HXG : Hid (bm ≠ g ∧ Far (some bm) (.slice (none : Option Addr) 0 0) ∧ (∀ x y z : Nat, Far (some bm) (.slice (some ⟨g, x, none⟩) y z) ∧ Far vo.ownBlock (.slice (some ⟨g, x, none⟩) y z))) := Lib.hid (by
              have e : bm ≠ g := by have := HG4.out; have := HST.out.bl.size; have := HGW.out; omega
              exact ⟨e, Far.nil _ _ _, fun x y z => ⟨Far.of_ne (fun e2 => e (Option.some.inj e2)), Far.of_ne (fun e2 => by have := (HST.out.row.lt g e2).1; have := HGW.out; omega)⟩⟩)
            clear hg4 hs4 hb4 hf4 hv4 hbm
            go_cut [10] (fun v10 wx => ∃ (a' : Nat) (body : Bs) (wh : Bool) (dv : Value), v10 = .int .i64 a' ∧ p ≤ a' ∧ a' ≤ n ∧ Strm.readF rq (l.drop a) (M.drop k) = (if wh = true then Strm.RR.app [{ hd := h, fr := f, ln := ln, body := body, wh := true }] (Strm.readF rq (l.drop a') (M.drop k')) else ([{ hd := h, fr := f, ln := ln, body := body, wh := false }], 0, false)) ∧ Var wx bm 77 [.bool h.rq, .string ⟨h.m.toArray⟩, .string ⟨h.t.toArray⟩, .int .i64 (h.st : Int), .string ⟨h.rs.toArray⟩, .int .i64 (h.mn : Int), .slice A3 h.fs.length c3, .int .i64 (f : Int), .int .i64 (ln : Int), dv, .bool wh] ∧ BsR wx dv body ∧ FsR wx (.slice A3 h.fs.length c3) h.fs ∧ Below wr.heap.size wr wx ∧ Far vo.ownBlock dv)
            case first =>
              have hlp : (l.drop p).length = n - p := by rw [List.length_drop, HL.out]
              have hdd : ∀ j, (l.drop p).drop j = l.drop (p + j) := fun j => by rw [List.drop_drop]
              have hf3 : f ≤ 3 := hfl.1
              have hln : ln < 1000000000000000 := hfl.2
              clear hfl
              have HLP := Lib.hid hlp
              have HDD := Lib.hid hdd
              clear hlp hdd
              rcases (show f = 0 ∨ f = 1 ∨ f = 2 ∨ f = 3 by omega) with rfl | rfl | rfl | rfl
              ·
                --P f0
                as_aux_lemma =>
                  have hro := HRO.out
                  rw [Strm.contB1] at hro
                  have HRO2 := Lib.hid hro
                  clear hro hf3
                  go_wp2_with (fail)
                  go_meet
                  have hg := World.grownBy.set w4 ⟨bm, 10, none⟩ (.bool true)
                  exact ⟨p, [], true, .slice none 0 0, rfl, Nat.le_refl _, hpn, HRO2.out, HV4.out.set 10 (.bool true), BsR.nil _, HF4.out.grown hg HFA.out hg.size, HB4.out.setCell HG4.out _, Far.nil _ _ _⟩
                --Q f0
              ·
                have hro := HRO.out
                rw [Strm.contB2, HLP.out] at hro
                have HRO2 := Lib.hid hro
                clear hro hf3
                by_cases hcp : n = p ∧ n = c
                ·
                  --P f1e
                  as_aux_lemma =>
                    obtain ⟨e1, e2⟩ := hcp
                    subst e1
                    subst e2
                    have hdn : l.drop n = [] := List.drop_of_length_le (by rw [HL.out]; omega)
                    by_cases h0 : ln = 0
                    · subst h0
                      have hro := HRO2.out
                      rw [if_pos (by omega), HDD.out] at hro
                      have HR2 := Lib.hid hro
                      have HDN := Lib.hid hdn
                      clear hro HRO2 hdn
                      go_wp2_with (fail)
                      go_meet
                      have hg := World.grownBy.comp (World.grownBy.set w4 ⟨bm, 9, none⟩ (.slice (some ⟨g, o, none⟩) 0 0)) (World.grownBy.set _ ⟨bm, 10, none⟩ (.bool true))
                      exact ⟨n, [], true, .slice (some ⟨g, o, none⟩) 0 0, by go_num, Nat.le_refl _, Nat.le_refl _, HR2.out.trans (by rw [if_pos rfl]; rfl), (HV4.out.set 9 _).set 10 _, BsR.zero, HF4.out.grown hg HFA.out hg.size, (HB4.out.setCell HG4.out _).setCell HG4.out _, Far.zero _ _ _⟩
                    · have hro := HRO2.out
                      rw [if_neg (by omega)] at hro
                      have HR2 := Lib.hid hro
                      have HDN := Lib.hid hdn
                      have k1 : ¬ (ln : Int) < 0 := by omega
                      have k4 : ((0 : Int) == (ln : Int)) = false := by rw [beq_eq_false_iff_ne]; omega
                      have k5 : ¬ (0 : Int) = (ln : Int) := by omega
                      clear hro HRO2 hdn
                      go_wp2_with (fail)
                      go_meet
                      have hg := World.grownBy.comp (World.grownBy.set w4 ⟨bm, 9, none⟩ (.slice (some ⟨g, o, none⟩) 0 0)) (World.grownBy.set _ ⟨bm, 10, none⟩ (.bool false))
                      exact ⟨n, [], false, .slice (some ⟨g, o, none⟩) 0 0, by go_num, Nat.le_refl _, Nat.le_refl _, HR2.out.trans (by rw [HDN.out]; rfl), (HV4.out.set 9 _).set 10 _, BsR.zero, HF4.out.grown hg HFA.out hg.size, (HB4.out.setCell HG4.out _).setCell HG4.out _, Far.zero _ _ _⟩
                  --Q f1e
                ·
                  --P f1n
                  as_aux_lemma =>
                    have i7 : ¬ c = p := by omega
                    obtain ⟨kk, hkk⟩ : ∃ kk : Nat, kk = min ln (n - p) := ⟨_, rfl⟩
                    have hkn : kk ≤ n - p := by omega
                    have hkl : ¬ ln < n - p → kk = n - p := by omega
                    have hkl2 : ln < n - p → kk = ln := by omega
                    have HKL := Lib.hid hkl
                    have HKL2 := Lib.hid hkl2
                    clear hcp hkl hkl2 hkk
                    go_upto_if 120 with (fail)
                    go_cut [20] (fun v20 wx => v20 = .int .i64 kk ∧ w4 = wx)
                    case first =>
                      by_cases h1 : ln < n - p
                      · have k1 : (ln : Int) < (n : Int) - (p : Int) := by omega
                        have HE := Lib.hid (HKL2.out h1)
                        clear h1 hkn
                        go_wp2
                        go_meet
                        exact ⟨by rw [HE.out], rfl⟩
                      · have k1 : ¬ (ln : Int) < (n : Int) - (p : Int) := by omega
                        have HE := Lib.hid (HKL.out h1)
                        clear h1 hkn
                        go_wp2
                        go_meet
                        exact ⟨by rw [HE.out]; congr 1; omega, rfl⟩
                    case rest =>
                    obtain ⟨rfl, rfl⟩ := hcut
                    have hbs := BsR.part HR4.out hnc hcm (i := p) (j := p + kk) (by omega) (by omega)
                    rw [Nat.add_sub_cancel_left] at hbs
                    have HBS := Lib.hid hbs
                    have k2 : (p : Int) + (kk : Int) ≤ (c : Int) := by omega
                    have k3 : (p : Int) ≤ (p : Int) + (kk : Int) := by omega
                    clear hbs
                    by_cases hkl : kk = ln
                    · have hro := HRO2.out
                      rw [if_pos (by omega), HDD.out, ← hkl] at hro
                      have HR2 := Lib.hid hro
                      have k4 : ((kk : Int) == (ln : Int)) = true := by rw [beq_iff_eq]; omega
                      have HKE := Lib.hid hkl
                      clear hro HRO2 hkl
                      go_wp2_with (fail)
                      go_meet
                      have hg := World.grownBy.comp (World.grownBy.set w4 ⟨bm, 9, none⟩ (.slice (some ⟨g, o + p, none⟩) kk (c - p))) (World.grownBy.set _ ⟨bm, 10, none⟩ (.bool true))
                      exact ⟨p + kk, (l.drop p).take kk, true, .slice (some ⟨g, o + p, none⟩) kk (c - p), by go_num, by omega, by omega, HR2.out.trans (by rw [if_pos rfl, ← HKE.out]; rfl), (HV4.out.set 9 _).set 10 _, HBS.out.grown hg (HXG.out.2.2 _ _ _).1 hg.size, HF4.out.grown hg HFA.out hg.size, (HB4.out.setCell HG4.out _).setCell HG4.out _, (HXG.out.2.2 _ _ _).2⟩
                    · have hlt : ¬ ln ≤ n - p := fun e => by
                        by_cases h : ln < n - p
                        · exact hkl (HKL2.out h)
                        · exact hkl ((HKL.out h).trans (by omega))
                      have hke := HKL.out (by omega)
                      have hro := HRO2.out
                      rw [if_neg hlt] at hro
                      have HR2 := Lib.hid hro
                      have HKE := Lib.hid hke
                      have k4 : ((kk : Int) == (ln : Int)) = false := by rw [beq_eq_false_iff_ne]; omega
                      have k5 : ¬ (kk : Int) = (ln : Int) := by omega
                      clear hro HRO2 hkl hlt hke
                      go_wp2_with (fail)
                      go_meet
                      have hg := World.grownBy.comp (World.grownBy.set w4 ⟨bm, 9, none⟩ (.slice (some ⟨g, o + p, none⟩) kk (c - p))) (World.grownBy.set _ ⟨bm, 10, none⟩ (.bool false))
                      exact ⟨p + kk, (l.drop p).take kk, false, .slice (some ⟨g, o + p, none⟩) kk (c - p), by go_num, by omega, by omega, HR2.out.trans (by rw [if_neg (by decide), List.take_of_length_le (by rw [HLP.out, HKE.out]; omega)]; rfl), (HV4.out.set 9 _).set 10 _, HBS.out.grown hg (HXG.out.2.2 _ _ _).1 hg.size, HF4.out.grown hg HFA.out hg.size, (HB4.out.setCell HG4.out _).setCell HG4.out _, (HXG.out.2.2 _ _ _).2⟩
                  --Q f1n
              ·
                --P f2
                have hro := HRO.out
                rw [Strm.contB3] at hro
                have HRO2 := Lib.hid hro
                clear hro hf3
                obtain ⟨R, hR⟩ : ∃ R, R = Chunk.readOf (l.drop p) := ⟨_, rfl⟩
                have hRr : R.read ≤ n - p := by rw [hR, Chunk.readOf_feed, ← HLP.out]; exact Chunk.feed_read_le _ _
                have HRW2 : Hid (R.wrong = true → R.done = false) := Lib.hid (fun e => by
                  rw [hR, Chunk.readOf_feed] at e ⊢
                  simp only [decide_eq_true_eq, decide_eq_false_iff_not] at e ⊢
                  omega)
                rw [← hR] at HRO2
                go_upto_region 36 with (fail)
                go_cut [21] (fun v21 wx => ∃ (bf : Nat) (vb vt : Value), v21 = .pointer (some ⟨bf, 0, none⟩) ∧ bm < bf ∧ Var wx bf 120 [vb, .int .i64 (R.read : Int), .bool R.done, .bool R.wrong, vt] ∧ Var wx bm 77 [.bool h.rq, .string ⟨h.m.toArray⟩, .string ⟨h.t.toArray⟩, .int .i64 (h.st : Int), .string ⟨h.rs.toArray⟩, .int .i64 (h.mn : Int), .slice A3 h.fs.length c3, .int .i64 ((2 : Nat) : Int), .int .i64 (ln : Int), .slice none 0 0, .bool false] ∧ BsR wx vb R.body ∧ FsR wx (.slice A3 h.fs.length c3) h.fs ∧ Below wr.heap.size wr wx ∧ Far vo.ownBlock vb ∧ Far (some bm) vb)
                case first =>
                  have HOUT : Hid (∀ (vb vt : Value) (tr : List (Bs × Bs)) (w5 w6 : World), RowB w5 w4.heap.size vb R.body → Row w5 w4.heap.size 2 vt tr.length (fieldsV (flB tr)) → Below w4.heap.size w4 w5 → Var w6 w5.heap.size 120 [vb, .int .i64 (R.read : Int), .bool R.done, .bool R.wrong, vt] → (w5.alloc (.cells (#[.slice none 0 0, .int .i64 0, .bool false, .bool false, .slice none 0 0]) 120)).grownBy w6 (some w5.heap.size) →
                      ∃ (bf : Nat) (vb' vt' : Value), Value.pointer (some ⟨w5.heap.size, 0, none⟩) = .pointer (some ⟨bf, 0, none⟩) ∧ bm < bf ∧ Var w6 bf 120 [vb', .int .i64 (R.read : Int), .bool R.done, .bool R.wrong, vt'] ∧ Var w6 bm 77 [.bool h.rq, .string ⟨h.m.toArray⟩, .string ⟨h.t.toArray⟩, .int .i64 (h.st : Int), .string ⟨h.rs.toArray⟩, .int .i64 (h.mn : Int), .slice A3 h.fs.length c3, .int .i64 ((2 : Nat) : Int), .int .i64 (ln : Int), .slice none 0 0, .bool false] ∧ BsR w6 vb' R.body ∧ FsR w6 (.slice A3 h.fs.length c3) h.fs ∧ Below wr.heap.size wr w6 ∧ Far vo.ownBlock vb' ∧ Far (some bm) vb') := Lib.hid (fun vb vt tr w5 w6 h1 h2 h3 h4 h5 => by
                    have hs := h3.size
                    have e5 : w4.heap.size ≤ w5.heap.size := hs
                    have hb5 : Below w4.heap.size w4 w6 := (h3.alloc h3.size _).grown h5 (by simp; omega) (fun j hj => by injection hj with hj; omega)
                    refine ⟨w5.heap.size, vb, vt, rfl, by omega, h4, HV4.out.below_all hb5, ?_, HF4.out.below hb5, HB4.out.trans (hb5.mono HB4.out.size), Far.row h1 (fun k hk => by have := (HST.out.row.lt k hk).2; have := HB4.out.size; omega), Far.row h1 (fun k hk => by injection hk with hk; omega)⟩
                    exact ((BsR.row h1).below ((Below.refl _ _).alloc (Nat.le_refl _) _)).grown h5 ((BsR.row h1).far (Nat.le_refl _)) h5.size)
                  by_cases hcp : n = p ∧ n = c
                  · obtain ⟨e1, e2⟩ := hcp
                    subst e1
                    subst e2
                    have hdn : l.drop n = [] := List.drop_of_length_le (by rw [HL.out]; omega)
                    have HQ := Lib.hid (rread_any (some ⟨g, o, none⟩) 0 0 (l.drop n) w4 (Nat.le_refl _) (by rw [hdn]; exact Rd.nil _ _ _ _) (by omega))
                    rw [← hR] at HQ
                    clear hR hdn
                    go_wp2_with (first
                      | (go_at_call 63; go_must (refine HQ.out.mono ?_; rintro _ w5 ⟨vb, vt, tr, rfl, hr1, hr2, _, _, hb5⟩; obtain ⟨Ab, cb, rfl, _, _, _, _⟩ := RowB.form hr1; obtain ⟨At, ct, rfl, _, _, _, _⟩ := hr2.form))
                      | (refine wpList_put rfl 120 (.tmp 21) (.tmp 141) rfl w5.heap.size rfl (Var.new w5 120 [.slice none 0 0, .int .i64 0, .bool false, .bool false, .slice none 0 0]) [.slice Ab R.body.length cb, .int .i64 (R.read : Int), .bool R.done, .bool R.wrong, .slice At tr.length ct] rfl rfl (by kernel_rfl) (by simp [Value.oneCell']) ?_; intro w6 hv6 hg6 hs6)
                      | fail)
                    go_meet
                    exact HOUT.out _ _ _ _ _ hr1 hr2 hb5 hv6 hg6
                  · have i7 : ¬ c = p := by omega
                    have HQ := Lib.hid (rread_any (some ⟨g, o + p, none⟩) (n - p) (c - p) (l.drop p) w4 (by omega) (by have := HR4.out.part (i := p) (j := n) (by omega) (Nat.le_refl _); rw [List.take_of_length_le (by rw [HLP.out]; omega)] at this; exact this) (by omega))
                    rw [← hR] at HQ
                    clear hR hcp
                    go_wp2_with (first
                      | (go_at_call 63; go_must (refine HQ.out.mono ?_; rintro _ w5 ⟨vb, vt, tr, rfl, hr1, hr2, _, _, hb5⟩; obtain ⟨Ab, cb, rfl, _, _, _, _⟩ := RowB.form hr1; obtain ⟨At, ct, rfl, _, _, _, _⟩ := hr2.form))
                      | (refine wpList_put rfl 120 (.tmp 21) (.tmp 141) rfl w5.heap.size rfl (Var.new w5 120 [.slice none 0 0, .int .i64 0, .bool false, .bool false, .slice none 0 0]) [.slice Ab R.body.length cb, .int .i64 (R.read : Int), .bool R.done, .bool R.wrong, .slice At tr.length ct] rfl rfl (by kernel_rfl) (by simp [Value.oneCell']) ?_; intro w6 hv6 hg6 hs6)
                      | fail)
                    go_meet
                    exact HOUT.out _ _ _ _ _ hr1 hr2 hb5 hv6 hg6
                case rest =>
                obtain ⟨bf, vb, vt, rfl, hbf, hv6, hv7, hd6, hf6, hb6, hfa6, hfb6⟩ := hcut
                obtain ⟨w6, rfl⟩ : ∃ w6 : World, w6 = wc := ⟨_, rfl⟩
                obtain ⟨Ab, cb, rfl, _, _, _, _⟩ := id hd6
                obtain ⟨rb, rr, rd, rw', rt⟩ := R
                dsimp only at hRr HRW2 HRO2 hv6 hd6 hfa6 hfb6 ⊢
                have n1 : ¬ bf = bm := by omega
                have n2 : ¬ bm = bf := by omega
                have zc0 := hv6.cell (j := 0) rfl
                have zc1 := hv6.cell (j := 1) rfl
                have zc2 := hv6.cell (j := 2) rfl
                have zc3 := hv6.cell (j := 3) rfl
                have e9 := hv7.cell (j := 9) rfl
                have e10 := hv7.cell (j := 10) rfl
                have q9 := hv7.frozen 9
                have q10 := hv7.frozen 10
                have HV7 := Lib.hid hv7
                have hg67 := World.grownBy.comp (World.grownBy.set w6 ⟨bm, 9, none⟩ (.slice Ab rb.length cb)) (World.grownBy.set _ ⟨bm, 10, none⟩ (.bool rd))
                have HG67 := Lib.hid hg67
                have HD6 := Lib.hid (hd6.grown hg67 hfb6 hg67.size)
                have HF6 := Lib.hid (hf6.grown hg67 HFA.out hg67.size)
                have HB6 := Lib.hid ((hb6.setCell (p := ⟨bm, 9, none⟩) HG4.out (.slice Ab rb.length cb)).setCell (p := ⟨bm, 10, none⟩) HG4.out (.bool rd))
                have HFV := Lib.hid hfa6
                have HV8 : Hid (Var ((w6.setCell ⟨bm, 9, none⟩ (.slice Ab rb.length cb)).setCell ⟨bm, 10, none⟩ (.bool rd)) bm 77 [.bool h.rq, .string ⟨h.m.toArray⟩, .string ⟨h.t.toArray⟩, .int .i64 (h.st : Int), .string ⟨h.rs.toArray⟩, .int .i64 (h.mn : Int), .slice A3 h.fs.length c3, .int .i64 ((2 : Nat) : Int), .int .i64 (ln : Int), .slice Ab rb.length cb, .bool rd]) := Lib.hid ((HV7.out.set 9 _).set 10 _)
                clear hv6 hv7 hd6 hf6 hb6 hfa6 hfb6 hR hg67 d9 d10 f9 f10 hz4 HV4 HF4 HB4 HR4 HXG
                go_upto_if 149 with (fail)
                cases rw' with
                | true =>
                  obtain rfl : rd = false := HRW2.out rfl
                  have hro := HRO2.out
                  rw [if_neg (by decide), if_pos rfl] at hro
                  have HRE := Lib.hid hro
                  generalize hW : (w6.setCell ⟨bm, 9, none⟩ (.slice Ab rb.length cb)).setCell ⟨bm, 10, none⟩ (.bool false) = W at *
                  clear hW hro HRO2 HRW2 zc0 zc1 zc2 zc3 e9 e10 q9 q10 HG67 HV7
                  obtain ⟨Av, cv, rfl, hEc, hEm, _, _⟩ := HST.out.row.form
                  have HROW := Lib.hid (HST.out.row.below_all HB6.out)
                  have hz5 : w.heap.size ≤ W.heap.size := Nat.le_trans HST.out.bl.size HB6.out.size
                  clear hEc hEm
                  go_wp2_with (first
                    | (refine wpList_load_mid rfl 77 (.tmp 19) rfl bm 0 rfl [.bool h.rq, .string ⟨h.m.toArray⟩, .string ⟨h.t.toArray⟩, .int .i64 (h.st : Int), .string ⟨h.rs.toArray⟩, .int .i64 (h.mn : Int), .slice A3 h.fs.length c3, .int .i64 ((2 : Nat) : Int), .int .i64 (ln : Int), .slice Ab rb.length cb, .bool false] _ HV8.out.range Tryz.underlying77 rfl (by kernel_rfl) ?_)
                    | (at_builtin; go_must (refine wpList_app _ rfl (.tmp 150) (.tmp 152) 73 73 rfl w.heap.size 77 i0 (.agg #[.bool false, .string ⟨#[]⟩, .string ⟨#[]⟩, .int .i64 0, .string ⟨#[]⟩, .int .i64 0, .slice none 0 0, .int .i64 0, .int .i64 0, .slice none 0 0, .bool false]) 11 144 Tryz.underlying73 hi0 iz0 iz1 iz2 rfl (.slice Av E.length cv) E.length (E.flatMap MsE.cells) rfl (HROW.out.alloc _) _ 1 [.bool h.rq, .string ⟨h.m.toArray⟩, .string ⟨h.t.toArray⟩, .int .i64 (h.st : Int), .string ⟨h.rs.toArray⟩, .int .i64 (h.mn : Int), .slice A3 h.fs.length c3, .int .i64 ((2 : Nat) : Int), .int .i64 (ln : Int), .slice Ab rb.length cb, .bool false] rfl (Src.built [.bool h.rq, .string ⟨h.m.toArray⟩, .string ⟨h.t.toArray⟩, .int .i64 (h.st : Int), .string ⟨h.rs.toArray⟩, .int .i64 (h.mn : Int), .slice A3 h.fs.length c3, .int .i64 ((2 : Nat) : Int), .int .i64 (ln : Int), .slice Ab rb.length cb, .bool false] 77 Tryz.underlying73 rfl (ms_one _ _ _ _ _ _ _ _ _ _ _ _ _ _ _)) (by omega) (by omega) (by omega) (by simp; omega) ?_); intro v9 w9 hrow9 hg9 ho9)
                    | fail)
                  go_ret3
                  exact HST.out.last (m := ⟨{ hd := h, fr := 2, ln := ln, body := rb, wh := false }, .slice A3 h.fs.length c3, .slice Ab rb.length cb⟩) (HB6.out.alloc HB6.out.size _) ((MsR.mk HF6.out HD6.out HPZ.out).below (below_refl_alloc _ _)) ⟨HFO.out, HFV.out⟩ hg9 hrow9 ho9 HRE.out (by rw [HL.out]; exact ha) rfl
                | false =>
                  have hro := HRO2.out
                  rw [if_neg (show ¬ (false = true) by decide)] at hro
                  have HRE := Lib.hid hro
                  have k1 : (p : Int) + (rr : Int) ≤ 9223372036854775807 := by omega
                  clear hro HRO2 HRW2
                  go_wp2_with (fail)
                  go_meet
                  exact ⟨p + rr, rb, rd, .slice Ab rb.length cb, by go_num, by omega, by omega, HRE.out.trans (by rw [List.drop_drop]; rfl), HV8.out, HD6.out, HF6.out, HB6.out, HFV.out⟩
                --Q f2
              ·
                have hro := HRO.out
                rw [Strm.contB4] at hro
                have HRO2 := Lib.hid hro
                clear hro hf3
                by_cases hcp : n = p ∧ n = c
                ·
                  --P f3e
                  as_aux_lemma =>
                    obtain ⟨e1, e2⟩ := hcp
                    subst e1
                    subst e2
                    have HDN : Hid (l.drop n = []) := Lib.hid (List.drop_of_length_le (by rw [HL.out]; omega))
                    go_wp2_with (fail)
                    go_meet
                    have hg := World.grownBy.set w4 ⟨bm, 9, none⟩ (.slice (some ⟨g, o, none⟩) 0 0)
                    exact ⟨n, [], false, .slice (some ⟨g, o, none⟩) 0 0, by go_num, Nat.le_refl _, Nat.le_refl _, HRO2.out.trans (by rw [HDN.out]; rfl), HV4.out.set 9 _, BsR.zero, HF4.out.grown hg HFA.out hg.size, HB4.out.setCell HG4.out _, Far.zero _ _ _⟩
                  --Q f3e
                ·
                  --P f3n
                  as_aux_lemma =>
                    have i7 : ¬ c = p := by omega
                    have hbs := BsR.part HR4.out hnc hcm (i := p) (j := n) (by omega) (Nat.le_refl _)
                    rw [List.take_of_length_le (by rw [HLP.out]; omega)] at hbs
                    have HBS := Lib.hid hbs
                    clear hbs hcp
                    go_wp2_with (fail)
                    go_meet
                    have hg := World.grownBy.set w4 ⟨bm, 9, none⟩ (.slice (some ⟨g, o + p, none⟩) (n - p) (c - p))
                    exact ⟨n, l.drop p, false, .slice (some ⟨g, o + p, none⟩) (n - p) (c - p), by go_num, hpn, Nat.le_refl _, HRO2.out, HV4.out.set 9 _, HBS.out.grown hg (HXG.out.2.2 _ _ _).1 hg.size, HF4.out.grown hg HFA.out hg.size, HB4.out.setCell HG4.out _, (HXG.out.2.2 _ _ _).2⟩
                  --Q f3n
            case rest =>
            obtain ⟨a', body, wh, dv, rfl, hpa, han, hrw, hvw, hdw, hfw, hbw, hfr⟩ := hcut
            --P rest
            obtain ⟨Av, cv, rfl, hEc, hEm, _, _⟩ := HST.out.row.form
            obtain ⟨Ad, cd, rfl, _, _, _, _⟩ := id hdw
            have HVW := Lib.hid hvw
            have HDW := Lib.hid hdw
            have HFW := Lib.hid hfw
            have HBW := Lib.hid hbw
            have HRE := Lib.hid hrw
            have HFD := Lib.hid hfr
            have HROW := Lib.hid (HST.out.row.below_all hbw)
            have HNE : Hid ((Value.slice Av E.length cv).ownBlock ≠ some bm) := Lib.hid (fun e => by have := (HST.out.row.lt bm e).2; have := HG4.out; omega)
            have hz5 : w.heap.size ≤ wc.heap.size := Nat.le_trans HST.out.bl.size hbw.size
            clear hvw hdw hfw hbw hrw hfr hEc hEm HV4 HF4 HB4 HR4 HFA HXG HRO hfl d9 d10 f9 f10
            go_upto_region 46 with (first
              | (refine wpList_load_mid rfl 77 (.tmp 19) rfl bm 0 rfl [.bool h.rq, .string ⟨h.m.toArray⟩, .string ⟨h.t.toArray⟩, .int .i64 (h.st : Int), .string ⟨h.rs.toArray⟩, .int .i64 (h.mn : Int), .slice A3 h.fs.length c3, .int .i64 (f : Int), .int .i64 (ln : Int), .slice Ad body.length cd, .bool wh] _ HVW.out.range Tryz.underlying77 rfl (by kernel_rfl) ?_)
              | (at_builtin; go_must (refine wpList_app _ rfl (.tmp 166) (.tmp 168) 73 73 rfl w.heap.size 77 i0 (.agg #[.bool false, .string ⟨#[]⟩, .string ⟨#[]⟩, .int .i64 0, .string ⟨#[]⟩, .int .i64 0, .slice none 0 0, .int .i64 0, .int .i64 0, .slice none 0 0, .bool false]) 11 144 Tryz.underlying73 hi0 iz0 iz1 iz2 rfl (.slice Av E.length cv) E.length (E.flatMap MsE.cells) rfl (HROW.out.alloc _) _ 1 [.bool h.rq, .string ⟨h.m.toArray⟩, .string ⟨h.t.toArray⟩, .int .i64 (h.st : Int), .string ⟨h.rs.toArray⟩, .int .i64 (h.mn : Int), .slice A3 h.fs.length c3, .int .i64 (f : Int), .int .i64 (ln : Int), .slice Ad body.length cd, .bool wh] rfl (Src.built [.bool h.rq, .string ⟨h.m.toArray⟩, .string ⟨h.t.toArray⟩, .int .i64 (h.st : Int), .string ⟨h.rs.toArray⟩, .int .i64 (h.mn : Int), .slice A3 h.fs.length c3, .int .i64 (f : Int), .int .i64 (ln : Int), .slice Ad body.length cd, .bool wh] 77 Tryz.underlying73 rfl (ms_one _ _ _ _ _ _ _ _ _ _ _ _ _ _ _)) (by omega) (by omega) (by omega) (by simp; omega) ?_); intro v2 w2 hrow2 hg2 ho2)
              | fail)
            have hc10 := ((HVW.out.alloc _).grown hg2 HNE.out).cell (j := 10) rfl
            have HGX := Lib.hid hg2
            have HRX := Lib.hid hrow2
            have HOX := Lib.hid ho2
            clear hg2 hrow2 ho2
            cases wh with
            | true =>
              go_wp2
              go_roundw
              case rel =>
                refine ⟨a', k', E ++ [⟨{ hd := h, fr := f, ln := ln, body := body, wh := true }, .slice A3 h.fs.length c3, .slice Ad body.length cd⟩], _, rfl, rfl, rfl, ?_⟩
                exact HST.out.next (m := ⟨{ hd := h, fr := f, ln := ln, body := body, wh := true }, .slice A3 h.fs.length c3, .slice Ad body.length cd⟩) (HBW.out.alloc HBW.out.size _) ((MsR.mk HFW.out HDW.out HPZ.out).below (below_refl_alloc _ _)) ⟨HFO.out, HFD.out⟩ HGX.out HRX.out HOX.out (by omega) (by rw [HL.out]; exact han) HK2.out (HRE.out.trans (if_pos rfl))
              case measure => simp [intOf]; omega
            | false =>
              go_wp2
              go_ret3
              exact HST.out.last (m := ⟨{ hd := h, fr := f, ln := ln, body := body, wh := false }, .slice A3 h.fs.length c3, .slice Ad body.length cd⟩) (HBW.out.alloc HBW.out.size _) ((MsR.mk HFW.out HDW.out HPZ.out).below (below_refl_alloc _ _)) ⟨HFO.out, HFD.out⟩ HGX.out HRX.out HOX.out (HRE.out.trans (if_neg (by decide))) (by rw [HL.out]; exact ha) rfl
            --Q rest
          · --P ferr
            have HR := Lib.hid (Strm.rd_ferr (rq := rq) (X := M.drop k) HBN.out HHE.out (by rw [HP.out]) (by rw [HP.out, HFQ.out]; exact her2))
            rw [HP.out, HFQ.out] at HR
            dsimp only at HR
            have e1 : ((e2 : Int) != 0) = true := by rw [bne_iff_ne]; omega
            go_wp2
            go_ret3
            exact HST.out.stop HB3.out HR.out rfl
            --Q ferr
        · --P perr
          have HR := Lib.hid (Strm.rd_perr (rq := rq) (X := M.drop k) HBN.out HHE.out (by rw [HP.out]; exact her))
          rw [HP.out] at HR
          dsimp only at HR
          have e1 : ((er : Int) != 0) = true := by rw [bne_iff_ne]; omega
          go_wp2
          go_ret3
          exact HST.out.stop HB2.out HR.out rfl
          --Q perr
    · --P stop
      have hr : Strm.readF rq (l.drop a) (M.drop k) = ([], 0, false) := by
        rw [List.drop_eq_nil_of_le (by rw [HL.out]; omega)]; rfl
      have i1 : ¬ (a : Int) < (n : Int) := by omega
      have HR := Lib.hid hr
      have HST := Lib.hid hst
      clear hr hst hrw hmw hrd hrm
      go_wp2
      go_ret3
      exact HST.out.stop (Below.refl _ _) HR.out rfl
      --Q stop
end Go.Proofs.YtklmpadcfioefaaGreatDoor
