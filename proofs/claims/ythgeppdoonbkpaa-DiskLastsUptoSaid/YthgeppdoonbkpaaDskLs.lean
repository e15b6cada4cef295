/- The law DiskLasts, walked. Conditions: sizes. -/
import Derived.Test.YthgeppdoonbkpaaDskMd
import Derived.Test.YthgeppdoonbkpaaDskMi
import Derived.Test.YthgeppdoonbkpaaDskLa
import Derived.Test.YthgeppdoonbkpaaDskG
namespace Go.Proofs.Ythgeppdoonbkpaa
open Go.RowKit
theorem Live.told_le {w0 W : World} {O : Nat → Prop} {db : Nat} {s : Dsk.St} {T : Nat} (h : Live w0 O W db s T) : (Dsk.told s).length ≤ T := by
  obtain ⟨F, ρ, hm, _⟩ := h
  obtain ⟨nb, nn, _, hdm, hnn⟩ := hm.nowm
  have hll : (Dsk.dn s).length ≤ T := by have := World.ownsMap.size_le hdm; rw [Dsk.mapD_size] at this; omega
  unfold Dsk.told
  split
  · exact Nat.zero_le _
  · rw [List.length_map]; exact hll
theorem namesV_snoc {α : Type} (f : α → Bs) (ps : List α) (p : α) : namesV ((ps ++ [p]).map f) = namesV (ps.map f) ++ [.string ⟨(f p).toArray⟩] := by
  unfold namesV strV
  simp
theorem fit_calm {s : Dsk.St} {T : Nat} (h : Dsk.Fit s T) : Dsk.Calm s := fun e => (h.calm e).1
set_option maxHeartbeats 4000000 in
set_option maxRecDepth 100000 in
theorem dlasts_any (room : Int) (A1 : Option Addr) (n1 c1 : Nat) (os : List OpV) (A2 : Option Addr) (n2 c2 : Nat) (cs : List Int) (w : World) (hroom : room ≤ 9223372036854775807)
    (r1 : OpsIn w A1 n1 os) (hsz : ∀ o ∈ os, OpSz o) (h2 : A2 = none → n2 = 0 ∧ c2 = 0) (r2 : Rd w w.heap.size 1 A2 n2 (intsV cs)) (hn2 : n2 ≤ 10000000) :
    Calls Try.prog 5 #[.int .i64 room, .slice A1 n1 c1, .slice A2 n2 c2] w fun e w' => e = .returned (.bool true) ∧ Below w.heap.size w w' := by
  have R1 := Lib.hid r1
  have R2 := Lib.hid r2
  have P2 := Lib.hid h2
  have HSZ := Lib.hid hsz
  have HL2 := Lib.hid (show cs.length = n2 by have := r2.1; rw [intsV_len] at this; omega)
  have HAW := Lib.hid (dawake_any w)
  clear r1 r2 h2 hsz
  go_enter Try.func5, Try.ntmps5
  go_upto_region 3 with (first
    | (go_at_call 7; go_must (refine HAW.out.mono ?_; rintro _ wa ⟨rfl, ba⟩))
    | fail)
  have HM := Lib.hid (dmade_any w wa room A1 n1 c1 os ba R1.out HSZ.out hroom)
  clear ba
  go_upto_region 4 with (first
    | (go_at_call 25; go_must (refine HM.out.mono ?_; rintro _ wb ⟨db, s0, rfl, l0⟩))
    | fail)
  have L0 := Lib.hid l0
  clear l0
  obtain ⟨q0, hq0⟩ : ∃ q0, q0 = Dsk.looseOf s0 [] := ⟨_, rfl⟩
  have HQ0 := Lib.hid hq0
  have hq0b : q0 ≤ 1000000 := by
    rw [hq0]
    unfold Dsk.looseOf
    split
    · omega
    · rw [if_pos rfl]
      have := L0.out.fit.lm
      omega
  have CL0 : Hid (Calls Try.prog 24 #[.pointer (some ⟨db, 0, none⟩), .string ⟨#[]⟩] wb fun e w' => e = .returned (.int .i64 (q0 : Nat)) ∧ Live w (fun _ => False) w' db s0 120 ∧ Below wb.heap.size wb w') := Lib.hid (by have h := lloose L0.out (by omega) [] (by decide); rw [← hq0] at h; exact h)
  clear hq0
  go_upto_if 25 with (first
    | (go_at_call 24; go_must (refine CL0.out.mono ?_; rintro _ wc0 ⟨rfl, lc, _⟩))
    | fail)
  have LC := Lib.hid lc
  clear lc
  go_cut [] (fun wy => ∃ s1, Live w (fun _ => False) wy db s1 121 ∧ s1.lm = [])
  case first =>
    by_cases hq : 0 < q0
    · have hqi : (0 : Int) < (q0 : Int) := by omega
      have CS := Lib.hid (lsyncDir LC.out (by omega))
      go_wp2_with (first
        | (go_at_call 13; go_must (refine CS.out.mono ?_; rintro _ wy ⟨rfl, ly, _⟩))
        | fail)
      go_meet
      exact ⟨_, ly, Dsk.syncDir_lm (fit_calm LC.out.fit)⟩
    · have hqi : ¬ (0 : Int) < (q0 : Int) := by omega
      go_wp2
      go_meet
      exact ⟨s0, LC.out.more (by omega), Dsk.loose_lm (fit_calm LC.out.fit) (by rw [← HQ0.out]; omega)⟩
  case rest =>
  obtain ⟨s, hls, hlm⟩ := hcut
  have LS := Lib.hid hls
  have HLM := Lib.hid hlm
  have CN := Lib.hid (lnames LS.out (by omega))
  clear hls hlm
  go_upto_region 7 with (first
    | (go_at_call 26; go_must (refine CN.out.mono ?_; rintro _ wd ⟨v8, rfl, hr8, hn8, ld, bd⟩))
    | fail)
  have M1 := Lib.hid ((Mine.start LS.out).grow bd (fun _ => .moves))
  have O8 := Lib.hid (OwnRow.made (own := fun _ => none) (r := .moves) hr8 LS.out.bel.size)
  obtain ⟨own1, hown1⟩ : ∃ own1, own1 = grow (fun _ => none) wc.heap.size wd.heap.size (fun _ => Role.moves) := ⟨_, rfl⟩
  rw [← hown1] at M1 O8
  obtain ⟨A8, c8, rfl, hn8c, hc8, _, _⟩ := Row.form hr8
  obtain ⟨tl, htl⟩ : ∃ tl, tl = Dsk.told s := ⟨_, rfl⟩
  have htl' := htl
  rw [← htl] at O8 hn8c ⊢
  obtain ⟨n8, hn8⟩ : ∃ n8, n8 = tl.length := ⟨_, rfl⟩
  rw [← hn8] at O8 hn8c ⊢
  have HT8 := Lib.hid hn8
  have HTL := Lib.hid (fun n (hn : n ∈ tl) => Dsk.told_len HLM.out LS.out.fit.dln (by rw [htl] at hn; exact hn))
  have hn8b : n8 ≤ 121 := by have := LS.out.told_le; rw [← htl', ← hn8] at this; exact this
  obtain ⟨j0, hj0, jz0, jz1, jz2⟩ := info_parts infoStr
  clear hown1 hr8 bd ld hn8 htl htl' hn8c hc8
  go_upto_region 9 with (fail)
  go_loopw [9, 10, 11] (fun v9 v10 iv wr => ∃ (i : Nat) (own : Roles) (ps : List (Bs × Bs)), i ≤ n8 ∧ iv = .int .i64 (i : Nat) ∧ ps.length ≤ i ∧ Mine w wr own db s 121 ∧ OwnRow w wr own .moves 1 (.slice A8 n8 c8) n8 (namesV tl) ∧ OwnRow w wr own .lasts 1 v9 ps.length (namesV (ps.map (·.1))) ∧ OwnRow w wr own .now 1 v10 ps.length (namesV (ps.map (·.2))) ∧ ∀ p ∈ ps, Dsk.Last s p.1 p.2) (fun _ _ iv _ => n8 - (intOf iv).toNat)
  case atStart => exact ⟨0, own1, [], Nat.zero_le _, rfl, Nat.le_refl _, M1.out, O8.out, OwnRow.nil _ _ _ _ _, OwnRow.nil _ _ _ _ _, fun p hp => by cases hp⟩
  case round =>
    obtain ⟨i, own, ps, hi, rfl, hps, hm, ho8, ho9, ho10, hla⟩ := hrel
    obtain ⟨B9, k9, rfl⟩ := ho9.form
    obtain ⟨B10, k10, rfl⟩ := ho10.form
    obtain ⟨np, hnp⟩ : ∃ np, np = ps.length := ⟨_, rfl⟩
    rw [← hnp] at hps ho9 ho10 ⊢
    have HNP := Lib.hid hnp
    have HM := Lib.hid hm
    have O8 := Lib.hid ho8
    have O9 := Lib.hid ho9
    have O10 := Lib.hid ho10
    have HLA := Lib.hid hla
    obtain ⟨wo, rfl⟩ : ∃ wo : World, wo = wr := ⟨_, rfl⟩
    clear hnp hm ho8 ho9 ho10 hla
    by_cases hlt : i < n8
    · have hlti : (i : Int) < (n8 : Int) := by omega
      have hil : i < tl.length := by rw [← HT8.out]; exact hlt
      obtain ⟨_, _, e8, _, _, _, hrd8⟩ := Row.form O8.out.row
      injection e8 with e8 xa1 xa2
      subst e8
      clear xa1 xa2
      obtain ⟨g8, o8, rfl, hg8, hc8⟩ := hrd8.2 (by omega)
      have d8 := hc8 i _ (namesV_get hil)
      have hnl := HTL.out tl[i] (List.getElem_mem _)
      obtain ⟨nm, hnm⟩ : ∃ nm, nm = tl[i] := ⟨_, rfl⟩
      rw [← hnm] at d8 hnl
      obtain ⟨bb, er, hre⟩ : ∃ bb er, Dsk.read s nm = (bb, er) := ⟨_, _, rfl⟩
      have CR : Hid (Calls Try.prog 21 #[.pointer (some ⟨db, 0, none⟩), .string ⟨nm.toArray⟩] wo fun e w' => ∃ v, e = .returned (.tuple #[v, .int .i64 (er : Nat)]) ∧ RowB w' wo.heap.size v bb ∧ Live w (Own own) w' db s 121 ∧ Below wo.heap.size wo w') := Lib.hid (by have h := lread HM.out.live nm (by omega); rw [hre] at h; exact h)
      have HRE := Lib.hid hre
      clear hrd8 hc8 hre hnm
      go_upto_region 12 with (first
        | (go_at_call 21; go_must (refine CR.out.mono ?_; rintro _ w1 ⟨vb, rfl, rb, _, hb1⟩))
        | fail)
      obtain ⟨Ab, cb, rfl, _, _, _, _⟩ := RowB.form rb
      have hL1 : Lies own (grow own wo.heap.size w1.heap.size (fun _ => .data)) (fun _ => False) wo w1 := grow_lies (below_lies hb1) _
      have M2 := Lib.hid (HM.out.grow hb1 (fun _ => .data))
      have P8 := Lib.hid (O8.out.keep hL1 id)
      have P9 := Lib.hid (O9.out.keep hL1 id)
      have P10 := Lib.hid (O10.out.keep hL1 id)
      have HY := Lib.hid (Byt.made (ρ := grow own wo.heap.size w1.heap.size (fun _ => .data)) rb (fun b h1 h2 => grow_new _ _ h1 h2))
      obtain ⟨own2, hown2⟩ : ∃ own2, own2 = grow own wo.heap.size w1.heap.size (fun _ => Role.data) := ⟨_, rfl⟩
      rw [← hown2] at M2 P8 P9 P10 HY
      have d81 : w1.cell? ⟨g8, o8 + i, none⟩ = some (.string ⟨nm.toArray⟩) := (hb1.cell (p := ⟨g8, o8 + i, none⟩) hg8).trans d8
      clear hL1 rb hb1 hown2 d8 hg8
      by_cases her : er = 0
      · subst her
        obtain ⟨lo, hlo⟩ : ∃ lo, lo = Dsk.looseOf s nm := ⟨_, rfl⟩
        have CLO : Hid (Calls Try.prog 24 #[.pointer (some ⟨db, 0, none⟩), .string ⟨nm.toArray⟩] w1 fun e w' => e = .returned (.int .i64 (lo : Nat)) ∧ Live w (Own own2) w' db s 121 ∧ Below w1.heap.size w1 w') := Lib.hid (by have h := lloose M2.out.live (by omega) nm (by omega); rw [← hlo] at h; exact h)
        have HLO := Lib.hid hlo
        clear hlo
        by_cases hlo0 : lo = 0
        · subst hlo0
          go_upto_region 13 with (first
            | (go_at_call 24; go_must (refine CLO.out.mono ?_; rintro _ w2 ⟨rfl, _, hb2⟩))
            | fail)
          have hL2 : Lies own2 own2 (fun _ => False) w1 w2 := below_lies hb2
          have M3 := Lib.hid (M2.out.past hb2)
          have Q8 := Lib.hid (P8.out.keep hL2 id)
          have Q9 := Lib.hid (P9.out.keep hL2 id)
          have Q10 := Lib.hid (P10.out.keep hL2 id)
          have HY3 := Lib.hid (HY.out.keep hL2 id)
          have d82 : w2.cell? ⟨g8, o8 + i, none⟩ = some (.string ⟨nm.toArray⟩) := (hb2.cell (p := ⟨g8, o8 + i, none⟩) (cell_lt d81)).trans d81
          have hws : w.heap.size ≤ w2.heap.size := M3.out.live.bel.size
          have hnpb : np ≤ 200 := by omega
          clear hL2 hb2 d81
          go_upto_region 14 with (first
            | (at_builtin; (refine wpList_app _ rfl (.tmp 56) (.tmp 61) 53 53 rfl w.heap.size 9 j0 (.string ⟨#[]⟩) 1 16 Try.underlying53 hj0 jz0 jz1 jz2 rfl (.slice B9 np k9) np (namesV (ps.map (·.1))) rfl (Q9.out.row.alloc _) _ 1 [.string ⟨nm.toArray⟩] rfl (Src.built [.string ⟨nm.toArray⟩] 9 Try.underlying53 rfl (by intro u hu; simp at hu; rcases hu with rfl; rfl)) (by omega) (by omega) (by omega) (by simp; omega) ?_); intro v9' w3 hr9 hg9 ho9)
            | fail)
          have hal : Chg (fun k => (Value.slice B9 np k9).ownBlock = some k) w2 w3 := ((Chg.refl _ _).alloc _).grown hg9 (fun k _ e => e)
          have ho9' : v9'.ownBlock = (Value.slice B9 np k9).ownBlock ∨ ∀ b, v9'.ownBlock = some b → w2.heap.size ≤ b := ho9.imp id (fun e b e2 => by rw [e] at e2; injection e2 with e2; rw [← e2]; simp)
          have hL3 := push_lies hal Q9.out.role (fun _ => .lasts)
          have M4 := Lib.hid (M3.out.push hal Q9.out.role (fun _ => .lasts))
          have S8 := Lib.hid (Q8.out.keep hL3 (by intro e; cases e))
          have S9 := Lib.hid (Q9.out.push hal hr9 ho9')
          have S10 := Lib.hid (Q10.out.keep hL3 (by intro e; cases e))
          have HY4 := Lib.hid (HY3.out.keep hL3 (by intro e; cases e))
          obtain ⟨own3, hown3⟩ : ∃ own3, own3 = grow own2 w2.heap.size w3.heap.size (fun _ => Role.lasts) := ⟨_, rfl⟩
          rw [← hown3] at M4 S8 S9 S10 HY4
          obtain ⟨B9', k9', rfl, _, _, _, _⟩ := Row.form hr9
          obtain ⟨_, _, ey, _, hzy, hry, _⟩ := HY4.out
          injection ey with ey xa1 xa2
          subst ey
          have cvb := conv_str (P := Try.prog) 22 9 5 Try.underlying22 Try.underlying5 Try.underlying9 (c := cb) hry (fun e => (hzy e).1)
          have hws3 : w.heap.size ≤ w3.heap.size := M4.out.live.bel.size
          clear hal ho9' hL3 hown3 hr9 hg9 ho9 xa1 xa2 hry hzy
          go_wp2_with (first
            | (at_builtin; (refine wpList_app _ rfl (.tmp 63) (.tmp 66) 53 53 rfl w.heap.size 9 j0 (.string ⟨#[]⟩) 1 16 Try.underlying53 hj0 jz0 jz1 jz2 rfl (.slice B10 np k10) np (namesV (ps.map (·.2))) rfl (S10.out.row.alloc _) _ 1 [.string ⟨bb.toArray⟩] rfl (Src.built [.string ⟨bb.toArray⟩] 9 Try.underlying53 rfl (by intro u hu; simp at hu; rcases hu with rfl; rfl)) (by omega) (by omega) (by omega) (by simp; omega) ?_); intro v10' w4 hr10 hg10 ho10)
            | fail)
          have hal : Chg (fun k => (Value.slice B10 np k10).ownBlock = some k) w3 w4 := ((Chg.refl _ _).alloc _).grown hg10 (fun k _ e => e)
          have ho10' : v10'.ownBlock = (Value.slice B10 np k10).ownBlock ∨ ∀ b, v10'.ownBlock = some b → w3.heap.size ≤ b := ho10.imp id (fun e b e2 => by rw [e] at e2; injection e2 with e2; rw [← e2]; simp)
          have hL4 := push_lies hal S10.out.role (fun _ => .now)
          have M5 := M4.out.push hal S10.out.role (fun _ => .now)
          have T8 := S8.out.keep hL4 (by intro e; cases e)
          have T9 := S9.out.keep hL4 (by intro e; cases e)
          have T10 := S10.out.push hal hr10 ho10'
          go_roundw
          case rel => exact ⟨i + 1, _, ps ++ [(nm, bb)], by omega, by go_num, by rw [List.length_append, List.length_singleton, ← HNP.out]; omega, M5, T8, by rw [List.length_append, List.length_singleton, ← HNP.out, namesV_snoc]; exact T9, by rw [List.length_append, List.length_singleton, ← HNP.out, namesV_snoc]; exact T10, fun p hp => by
            rcases List.mem_append.1 hp with e | e
            · exact HLA.out p e
            · rw [List.mem_singleton.1 e]
              have h := Dsk.last_of_read HLM.out (n := nm) (by rw [HRE.out]) HLO.out.symm
              rw [HRE.out] at h
              exact h⟩
          case measure => simp [intOf]; omega
        · have hlob : ((lo : Int) == 0) = false := by rw [beq_eq_false_iff_ne]; omega
          have hloi : ¬ (lo : Int) = 0 := by omega
          go_wp2_with (first
            | (go_at_call 24; go_must (refine CLO.out.mono ?_; rintro _ w2 ⟨rfl, _, hb2⟩))
            | fail)
          have hL2 : Lies own2 own2 (fun _ => False) w1 w2 := below_lies hb2
          go_roundw
          case rel => exact ⟨i + 1, own2, ps, by omega, by go_num, by rw [← HNP.out]; omega, M2.out.past hb2, P8.out.keep hL2 id, by rw [← HNP.out]; exact P9.out.keep hL2 id, by rw [← HNP.out]; exact P10.out.keep hL2 id, HLA.out⟩
          case measure => simp [intOf]; omega
      · have herb : ((er : Int) == 0) = false := by rw [beq_eq_false_iff_ne]; omega
        have heri : ¬ (er : Int) = 0 := by omega
        go_wp2
        go_roundw
        case rel => exact ⟨i + 1, own2, ps, by omega, by go_num, by rw [← HNP.out]; omega, M2.out, P8.out, by rw [← HNP.out]; exact P9.out, by rw [← HNP.out]; exact P10.out, HLA.out⟩
        case measure => simp [intOf]; omega
    · obtain rfl : i = n8 := by omega
      have hnlt : ¬ (i : Int) < (i : Int) := by omega
      have CLZ : Hid (Calls Try.prog 24 #[.pointer (some ⟨db, 0, none⟩), .string ⟨#[]⟩] wo fun e w' => e = .returned (.int .i64 0) ∧ Live w (Own own) w' db s 121 ∧ Below wo.heap.size wo w') := Lib.hid (by have h := lloose HM.out.live (by omega) [] (by decide); rw [Dsk.loose_zero HLM.out] at h; exact h)
      go_upto_region 18 with (first
        | (go_at_call 24; go_must (refine CLZ.out.mono ?_; rintro _ we ⟨rfl, _, hbe⟩))
        | fail)
      have hLe : Lies own own (fun _ => False) wo we := below_lies hbe
      have MA := Lib.hid (HM.out.past hbe)
      have E9 := Lib.hid (O9.out.keep hLe id)
      have E10 := Lib.hid (O10.out.keep hLe id)
      clear hLe hbe
      go_loopw [14] (fun tv wt => ∃ (t : Nat) (ow : Roles) (st : Dsk.St) (T : Nat), t ≤ 2 ∧ tv = .int .i64 (t : Nat) ∧ T ≤ 121 + t ∧ st.lm = [] ∧ Mine w wt ow db st T ∧ OwnRow w wt ow .lasts 1 (.slice B9 np k9) np (namesV (ps.map (·.1))) ∧ OwnRow w wt ow .now 1 (.slice B10 np k10) np (namesV (ps.map (·.2))) ∧ ∀ p ∈ ps, Dsk.Last st p.1 p.2) (fun tv _ => 2 - (intOf tv).toNat)
      case atStart => exact ⟨0, own, s, 121, by omega, rfl, by omega, HLM.out, MA.out, E9.out, E10.out, HLA.out⟩
      case round =>
        obtain ⟨t, ow, st, T, ht, rfl, hT, hlm2, hma, ho9, ho10, hla⟩ := hrel
        have MB := Lib.hid hma
        have F9 := Lib.hid ho9
        have F10 := Lib.hid ho10
        have HL3 := Lib.hid hla
        have HLM2 := Lib.hid hlm2
        clear hma ho9 ho10 hla hlm2
        obtain ⟨wf, rfl⟩ : ∃ wf : World, wf = wr := ⟨_, rfl⟩
        by_cases htl : t < 2
        · have htli : (t : Int) < 2 := by omega
          have CI := Lib.hid (dints_any A2 n2 c2 cs wf (fun e => (P2.out e).1) (MB.out.live.firstRd R2.out) (by omega))
          obtain ⟨s3, hs3⟩ : ∃ s3, s3 = Dsk.crash st cs := ⟨_, rfl⟩
          have HS3 := Lib.hid hs3
          clear hs3
          go_upto_region 21 with (first
            | (go_at_call 15; go_must (refine CI.out.mono ?_; rintro _ w1 ⟨gi, oi, ci, rfl, hgi, hgi2, hci, _, hri, hb1⟩; have hL1 : Lies ow (grow ow wf.heap.size w1.heap.size (fun _ => .arm)) (fun _ => False) wf w1 := grow_lies (below_lies hb1) _; have MC := Lib.hid (MB.out.grow hb1 (fun _ => .arm)); have G9 := Lib.hid (F9.out.keep hL1 id); have G10 := Lib.hid (F10.out.keep hL1 id); obtain ⟨ow2, how2⟩ : ∃ ow2, ow2 = grow ow wf.heap.size w1.heap.size (fun _ => Role.arm) := ⟨_, rfl⟩; have hoi : ow2 gi = some .arm := (by rw [how2]; exact grow_new ow (fun _ => Role.arm) hgi hgi2); rw [← how2] at MC G9 G10; have CCR : Hid (Calls Try.prog 18 #[.pointer (some ⟨db, 0, none⟩), .slice (some ⟨gi, oi, none⟩) n2 ci] w1 fun e w' => e = .returned (.tuple #[]) ∧ Live w (Own ow2) w' db s3 (T + 1) ∧ Kept (Own ow2) w1 w') := Lib.hid (by have h := lcrash MC.out.live (by omega) (cs := cs) (c := ci) (ints_rd HL2.out hri) (by omega) (by omega) (fun _ g o e => by injection e with e; injection e with e _ _; subst e; exact Own.of hoi); rw [← HS3.out] at h; exact h); clear hL1 hri hb1 how2 hoi hgi hgi2))
            | (go_at_call 18; go_must (refine CCR.out.mono ?_; rintro _ w2 ⟨rfl, l2, k2⟩; have MD := Lib.hid (MC.out.call l2); have K9 := Lib.hid (G9.out.keep k2.lies id); have K10 := Lib.hid (G10.out.keep k2.lies id); clear l2 k2))
            | fail)
          have CDN := Lib.hid (ldown MD.out.live)
          rw [HS3.out, Dsk.crash_down, ← HS3.out] at CDN
          go_upto_region 23 with (first
            | (go_at_call 19; go_must (refine CDN.out.mono ?_; rintro _ w3 ⟨rfl, _, hb3⟩))
            | fail)
          have hL3 : Lies ow2 ow2 (fun _ => False) w2 w3 := below_lies hb3
          have ME := Lib.hid (MD.out.past hb3)
          have N9 := Lib.hid (K9.out.keep hL3 id)
          have N10 := Lib.hid (K10.out.keep hL3 id)
          clear hL3 hb3
          have CUP := Lib.hid (lup ME.out.live)
          go_upto_region 24 with (first
            | (go_at_call 20; go_must (refine CUP.out.mono ?_; rintro _ w4 ⟨rfl, l4, k4⟩))
            | fail)
          obtain ⟨s4, hs4⟩ : ∃ s4, s4 = Dsk.up s3 := ⟨_, rfl⟩
          rw [← hs4] at l4
          have MF := Lib.hid (ME.out.call l4)
          have U9 := Lib.hid (N9.out.keep k4.lies id)
          have U10 := Lib.hid (N10.out.keep k4.lies id)
          have HLA4 := Lib.hid (fun p (hp : p ∈ ps) => (show Dsk.Last s4 p.1 p.2 by rw [hs4, HS3.out]; exact Dsk.last_crash HLM2.out (HL3.out p hp) cs))
          have HLM4 := Lib.hid (show s4.lm = [] by rw [hs4, HS3.out]; exact Dsk.crash_lm (fun _ => HLM2.out) cs)
          have HUP4 := Lib.hid (show s4.down = false by rw [hs4]; rfl)
          clear l4 k4 hs4
          go_wp2
          go_loopw [15] (fun iv wq => ∃ (j : Nat), j ≤ np ∧ iv = .int .i64 (j : Nat) ∧ Mine w wq ow2 db s4 (T + 1) ∧ OwnRow w wq ow2 .lasts 1 (.slice B9 np k9) np (namesV (ps.map (·.1))) ∧ OwnRow w wq ow2 .now 1 (.slice B10 np k10) np (namesV (ps.map (·.2)))) (fun iv _ => np - (intOf iv).toNat)
          case atStart => exact ⟨0, Nat.zero_le _, rfl, MF.out, U9.out, U10.out⟩
          case round =>
            obtain ⟨j, hj, rfl, hmg, ho9, ho10⟩ := hrel
            have MG := Lib.hid hmg
            have V9 := Lib.hid ho9
            have V10 := Lib.hid ho10
            clear hmg ho9 ho10
            obtain ⟨wg, rfl⟩ : ∃ wg : World, wg = wr := ⟨_, rfl⟩
            by_cases hjl : j < np
            · have hjli : (j : Int) < (np : Int) := by omega
              have hjp : j < ps.length := by rw [← HNP.out]; exact hjl
              obtain ⟨_, _, e9, _, _, _, hrd9⟩ := Row.form V9.out.row
              injection e9 with e9 xa1 xa2
              subst e9
              clear xa1 xa2
              obtain ⟨g9, o9, rfl, hg9, hc9⟩ := hrd9.2 (by omega)
              obtain ⟨_, _, e10, _, _, _, hrd10⟩ := Row.form V10.out.row
              injection e10 with e10 xa1 xa2
              subst e10
              clear xa1 xa2
              obtain ⟨g10, o10, rfl, hg10, hc10⟩ := hrd10.2 (by omega)
              have d9 := hc9 j _ (namesV_get (l := ps.map (·.1)) (by rw [List.length_map]; exact hjp))
              have d10 := hc10 j _ (namesV_get (l := ps.map (·.2)) (by rw [List.length_map]; exact hjp))
              rw [List.getElem_map] at d9 d10
              have hlj := HLA4.out ps[j] (List.getElem_mem _)
              obtain ⟨nm, hnm⟩ : ∃ nm, nm = ps[j].1 := ⟨_, rfl⟩
              obtain ⟨bb, hbb⟩ : ∃ bb, bb = ps[j].2 := ⟨_, rfl⟩
              rw [← hnm] at d9 hlj
              rw [← hbb] at d10 hlj
              obtain ⟨hrl1, hrl2⟩ := Dsk.last_read HLM4.out HUP4.out hlj
              have hnl : nm.length ≤ 1000000000 := by
                have h := hlj.may
                unfold Dsk.may at h
                rw [Bool.and_eq_true, decide_eq_true_eq] at h
                omega
              have CRJ : Hid (Calls Try.prog 21 #[.pointer (some ⟨db, 0, none⟩), .string ⟨nm.toArray⟩] wg fun e w' => ∃ v, e = .returned (.tuple #[v, .int .i64 0]) ∧ RowB w' wg.heap.size v bb ∧ Live w (Own ow2) w' db s4 (T + 1) ∧ Below wg.heap.size wg w') := Lib.hid (by have h := lread MG.out.live nm hnl; rw [hrl1] at h; exact h)
              have HRL2 := Lib.hid hrl2
              have HNL := Lib.hid hnl
              clear hrd9 hrd10 hc9 hc10 hlj hnm hbb hrl1 hrl2 hnl hg9 hg10
              go_upto_region 28 with (first
                | (go_at_call 21; go_must (refine CRJ.out.mono ?_; rintro _ wh ⟨vb, rfl, rb, _, hbh⟩))
                | fail)
              obtain ⟨Ab, cb, rfl, _, _, hzb, hrb⟩ := RowB.form rb
              have hbhd : Below wg.heap.size wg wh.drew := hbh.drew
              have MH := Lib.hid (MG.out.past hbhd)
              have W9 := Lib.hid (V9.out.keep (own' := ow2) (below_lies hbhd) id)
              have W10 := Lib.hid (V10.out.keep (own' := ow2) (below_lies hbhd) id)
              have d9h : wh.cell? ⟨g9, o9 + j, none⟩ = some (.string ⟨nm.toArray⟩) := (hbh.cell (p := ⟨g9, o9 + j, none⟩) (cell_lt d9)).trans d9
              have d10h : wh.cell? ⟨g10, o10 + j, none⟩ = some (.string ⟨bb.toArray⟩) := (hbh.cell (p := ⟨g10, o10 + j, none⟩) (cell_lt d10)).trans d10
              have HKP := Lib.hid (fun (W : World) (hb : Below wh.heap.size wh W) => (⟨(hb.cell (p := ⟨g9, o9 + j, none⟩) (cell_lt d9h)).trans d9h, (hb.cell (p := ⟨g10, o10 + j, none⟩) (cell_lt d10h)).trans d10h⟩ : W.cell? ⟨g9, o9 + j, none⟩ = some (.string ⟨nm.toArray⟩) ∧ W.cell? ⟨g10, o10 + j, none⟩ = some (.string ⟨bb.toArray⟩)))
              have cvd := conv_str (P := Try.prog) (w := wh.drew) 22 9 5 Try.underlying22 Try.underlying5 Try.underlying9 (c := cb) hrb.drew (fun e => (hzb e).1)
              have CLJ : Hid (Calls Try.prog 24 #[.pointer (some ⟨db, 0, none⟩), .string ⟨nm.toArray⟩] wh.drew fun e w' => e = .returned (.int .i64 0) ∧ Live w (Own ow2) w' db s4 (T + 1) ∧ Below wh.drew.heap.size wh.drew w') := Lib.hid (by have h := lloose MH.out.live (by omega) nm HNL.out; rw [HRL2.out] at h; exact h)
              clear d9 d10 rb hbh hbhd hzb hrb
              obtain ⟨nb, hnb⟩ : ∃ nb, nb = bb.length := ⟨_, rfl⟩
              rw [← hnb] at cvd ⊢
              clear hnb
              refine wp_region_held_drew (S := (fun w' => w'.cell? ⟨g9, o9 + j, none⟩ = some (.string ⟨nm.toArray⟩) ∧ w'.cell? ⟨g10, o10 + j, none⟩ = some (.string ⟨bb.toArray⟩))) (by as_aux_lemma => kernel_rfl) ?_ (fun hHeld => ?_)
              · exact HKP.out _ ((Below.refl _ _).drew)
              clear d9h d10h
              refine wpAnyH_take (i := 0) (v := ?_) (by simp only [List.getElem?_toArray, List.getElem?_cons_zero]; exact rfl) (by as_aux_lemma => kernel_rfl) (by as_aux_lemma => kernel_rfl) (by as_aux_lemma => kernel_rfl) (by exact fun _ _ _ h => h) (Or.inl ⟨by rfl, ?_⟩) (by assumption) ?_
              rotate_left
              · intro w hSw
                (try dsimp only at hSw)
                go_simp
                try with_reducible rfl
              (try simp only [Act.put, List.setIfInBounds_toArray, List.set_cons_zero, List.set_cons_succ])
              refine wpAnyH_take (i := 1) (v := ?_) (by simp only [List.getElem?_toArray, List.getElem?_cons_succ, List.getElem?_cons_zero]; exact rfl) (by as_aux_lemma => kernel_rfl) (by as_aux_lemma => kernel_rfl) (by as_aux_lemma => kernel_rfl) (by exact fun _ _ _ h => h) (Or.inl ⟨by rfl, ?_⟩) (by assumption) ?_
              rotate_left
              · intro w hSw
                (try dsimp only at hSw)
                go_simp
                try with_reducible rfl
              (try simp only [Act.put, List.setIfInBounds_toArray, List.set_cons_zero, List.set_cons_succ])
              refine wpAnyH_take (i := 2) (v := ?_) (by simp only [List.getElem?_toArray, List.getElem?_cons_succ, List.getElem?_cons_zero]; exact rfl) (by as_aux_lemma => kernel_rfl) (by as_aux_lemma => kernel_rfl) (by as_aux_lemma => kernel_rfl) (by exact fun _ _ _ h => h) (Or.inl ⟨by rfl, ?_⟩) (by assumption) ?_
              rotate_left
              · intro w hSw
                (try dsimp only at hSw)
                go_simp
                try with_reducible rfl
              (try simp only [Act.put, List.setIfInBounds_toArray, List.set_cons_zero, List.set_cons_succ])
              refine wpAnyH_take (i := 3) (v := ?_) (by simp only [List.getElem?_toArray, List.getElem?_cons_succ, List.getElem?_cons_zero]; exact rfl) (by as_aux_lemma => kernel_rfl) (by as_aux_lemma => kernel_rfl) (by as_aux_lemma => kernel_rfl) (by exact fun _ _ _ h => h) (Or.inl ⟨by rfl, ?_⟩) (by assumption) ?_
              rotate_left
              · intro w hSw
                (try dsimp only at hSw)
                go_simp
                try with_reducible rfl
              (try simp only [Act.put, List.setIfInBounds_toArray, List.set_cons_zero, List.set_cons_succ])
              refine wpAnyH_take (i := 5) (v := ?_) (by simp only [List.getElem?_toArray, List.getElem?_cons_succ, List.getElem?_cons_zero]; exact rfl) (by as_aux_lemma => kernel_rfl) (by as_aux_lemma => kernel_rfl) (by as_aux_lemma => kernel_rfl) (by exact fun _ _ _ h => h) (Or.inl ⟨by rfl, ?_⟩) (by assumption) ?_
              rotate_left
              · intro w hSw
                (try dsimp only at hSw)
                go_simp
                try with_reducible rfl
              (try simp only [Act.put, List.setIfInBounds_toArray, List.set_cons_zero, List.set_cons_succ])
              refine wpAnyH_take (i := 6) (v := ?_) (by simp only [List.getElem?_toArray, List.getElem?_cons_succ, List.getElem?_cons_zero]; exact rfl) (by as_aux_lemma => kernel_rfl) (by as_aux_lemma => kernel_rfl) (by as_aux_lemma => kernel_rfl) (by exact fun _ _ _ h => h) (Or.inl ⟨by rfl, ?_⟩) (by assumption) ?_
              rotate_left
              · intro w hSw
                (try dsimp only at hSw)
                go_simp
                try with_reducible rfl
              (try simp only [Act.put, List.setIfInBounds_toArray, List.set_cons_zero, List.set_cons_succ])
              refine wpAnyH_take (i := 7) (v := ?_) (by simp only [List.getElem?_toArray, List.getElem?_cons_succ, List.getElem?_cons_zero]; exact rfl) (by as_aux_lemma => kernel_rfl) (by as_aux_lemma => kernel_rfl) (by as_aux_lemma => kernel_rfl) (by exact fun _ _ _ h => h) (Or.inl ⟨by rfl, ?_⟩) (by assumption) ?_
              rotate_left
              · intro w hSw
                (try dsimp only at hSw)
                go_simp
                try with_reducible rfl
              (try simp only [Act.put, List.setIfInBounds_toArray, List.set_cons_zero, List.set_cons_succ])
              refine wpAnyH_take (i := 8) (v := ?_) (by simp only [List.getElem?_toArray, List.getElem?_cons_succ, List.getElem?_cons_zero]; exact rfl) (by as_aux_lemma => kernel_rfl) (by as_aux_lemma => kernel_rfl) (by as_aux_lemma => kernel_rfl) (by exact fun _ _ _ h => h) (Or.inl ⟨by rfl, ?_⟩) (by assumption) ?_
              rotate_left
              · intro w hSw
                (try dsimp only at hSw)
                go_simp
                try with_reducible rfl
              (try simp only [Act.put, List.setIfInBounds_toArray, List.set_cons_zero, List.set_cons_succ])
              refine wpAnyH_ready (rs := [4]) (by as_aux_lemma => kernel_rfl) (by simp) ?_
              refine AllReadyH.cons (by simp only [List.getElem?_toArray, List.getElem?_cons_succ, List.getElem?_cons_zero]; exact rfl) (fun K hK => ?_) AllReadyH.nil
              go_simp
              refine hK.out _ _ ?_ (fun hHeld => ?_)
              · (try dsimp only)
                exact hHeld
              clear hK K
              (try simp only [Act.put, List.setIfInBounds_toArray, List.set_cons_zero, List.set_cons_succ])
              refine wpAnyH_take (i := 9) (v := ?_) (by simp only [List.getElem?_toArray, List.getElem?_cons_succ, List.getElem?_cons_zero]; exact rfl) (by as_aux_lemma => kernel_rfl) (by as_aux_lemma => kernel_rfl) (by as_aux_lemma => kernel_rfl) (by exact fun _ _ _ h => h) (Or.inl ⟨by rfl, ?_⟩) (by assumption) ?_
              rotate_left
              · intro w hSw
                (try dsimp only at hSw)
                go_simp
                try with_reducible rfl
              (try simp only [Act.put, List.setIfInBounds_toArray, List.set_cons_zero, List.set_cons_succ])
              refine wpAnyH_take (i := 10) (v := ?_) (by simp only [List.getElem?_toArray, List.getElem?_cons_succ, List.getElem?_cons_zero]; exact rfl) (by as_aux_lemma => kernel_rfl) (by as_aux_lemma => kernel_rfl) (by as_aux_lemma => kernel_rfl) (by exact fun _ _ _ h => h) (Or.inl ⟨by rfl, ?_⟩) (by assumption) ?_
              rotate_left
              · intro w hSw
                (try dsimp only at hSw)
                go_simp
                try with_reducible rfl
              (try simp only [Act.put, List.setIfInBounds_toArray, List.set_cons_zero, List.set_cons_succ])
              refine wpAnyH_take (i := 11) (v := ?_) (by simp only [List.getElem?_toArray, List.getElem?_cons_succ, List.getElem?_cons_zero]; exact rfl) (by as_aux_lemma => kernel_rfl) (by as_aux_lemma => kernel_rfl) (by as_aux_lemma => kernel_rfl) (by exact fun _ _ _ h => h) (Or.inl ⟨by rfl, ?_⟩) (by assumption) ?_
              rotate_left
              · intro w hSw
                (try dsimp only at hSw)
                go_simp
                try with_reducible rfl
              (try simp only [Act.put, List.setIfInBounds_toArray, List.set_cons_zero, List.set_cons_succ])
              refine wpAnyH_take (i := 12) (v := ?_) (by simp only [List.getElem?_toArray, List.getElem?_cons_succ, List.getElem?_cons_zero]; exact rfl) (by as_aux_lemma => kernel_rfl) (by as_aux_lemma => kernel_rfl) (by as_aux_lemma => kernel_rfl) (by exact fun _ _ _ h => h) (Or.inl ⟨by rfl, ?_⟩) (by assumption) ?_
              rotate_left
              · intro w hSw
                (try dsimp only at hSw)
                go_simp
                try with_reducible rfl
              (try simp only [Act.put, List.setIfInBounds_toArray, List.set_cons_zero, List.set_cons_succ])
              refine wpAnyH_take (i := 13) (v := ?_) (by simp only [List.getElem?_toArray, List.getElem?_cons_succ, List.getElem?_cons_zero]; exact rfl) (by as_aux_lemma => kernel_rfl) (by as_aux_lemma => kernel_rfl) (by as_aux_lemma => kernel_rfl) (by exact fun _ _ _ h => h) (Or.inl ⟨by rfl, ?_⟩) (by assumption) ?_
              rotate_left
              · intro w hSw
                (try dsimp only at hSw)
                go_simp
                try with_reducible rfl
              (try simp only [Act.put, List.setIfInBounds_toArray, List.set_cons_zero, List.set_cons_succ])
              refine wpAnyH_take (i := 14) (v := ?_) (by simp only [List.getElem?_toArray, List.getElem?_cons_succ, List.getElem?_cons_zero]; exact rfl) (by as_aux_lemma => kernel_rfl) (by as_aux_lemma => kernel_rfl) (by as_aux_lemma => kernel_rfl) (by exact fun _ _ _ h => h) (Or.inl ⟨by rfl, ?_⟩) (by assumption) ?_
              rotate_left
              · intro w hSw
                (try dsimp only at hSw)
                go_simp
                try with_reducible rfl
              (try simp only [Act.put, List.setIfInBounds_toArray, List.set_cons_zero, List.set_cons_succ])
              refine wpAnyH_take (i := 15) (v := ?_) (by simp only [List.getElem?_toArray, List.getElem?_cons_succ, List.getElem?_cons_zero]; exact rfl) (by as_aux_lemma => kernel_rfl) (by as_aux_lemma => kernel_rfl) (by as_aux_lemma => kernel_rfl) (by exact fun _ _ _ h => h) (Or.inl ⟨by rfl, ?_⟩) (by assumption) ?_
              rotate_left
              · intro w hSw
                (try dsimp only at hSw)
                go_simp
                try with_reducible rfl
              (try simp only [Act.put, List.setIfInBounds_toArray, List.set_cons_zero, List.set_cons_succ])
              refine wpAnyH_take (i := 16) (v := ?_) (by simp only [List.getElem?_toArray, List.getElem?_cons_succ, List.getElem?_cons_zero]; exact rfl) (by as_aux_lemma => kernel_rfl) (by as_aux_lemma => kernel_rfl) (by as_aux_lemma => kernel_rfl) (by exact fun _ _ _ h => h) (Or.inl ⟨by rfl, ?_⟩) (by assumption) ?_
              rotate_left
              · intro w hSw
                (try dsimp only at hSw)
                go_simp
                try with_reducible rfl
              (try simp only [Act.put, List.setIfInBounds_toArray, List.set_cons_zero, List.set_cons_succ])
              refine wpAnyH_ready (rs := [17]) (by as_aux_lemma => kernel_rfl) (by simp) ?_
              refine AllReadyH.cons (by simp only [List.getElem?_toArray, List.getElem?_cons_succ, List.getElem?_cons_zero]; exact rfl) (fun K hK => ?_) AllReadyH.nil
              go_simp
              (go_at_call 24; refine CLJ.out.mono ?_; rintro _ wi ⟨rfl, _, hbi⟩)
              refine hK.out _ _ ?_ (fun hHeld => ?_)
              · (try dsimp only)
                exact HKP.out _ (Below.of_drew hbi)
              clear hK K
              (try simp only [Act.put, List.setIfInBounds_toArray, List.set_cons_zero, List.set_cons_succ])
              refine wpAnyH_take (i := 18) (v := ?_) (by simp only [List.getElem?_toArray, List.getElem?_cons_succ, List.getElem?_cons_zero]; exact rfl) (by as_aux_lemma => kernel_rfl) (by as_aux_lemma => kernel_rfl) (by as_aux_lemma => kernel_rfl) (by exact fun _ _ _ h => h) (Or.inl ⟨by rfl, ?_⟩) (by assumption) ?_
              rotate_left
              · intro w hSw
                (try dsimp only at hSw)
                go_simp
                try with_reducible rfl
              (try simp only [Act.put, List.setIfInBounds_toArray, List.set_cons_zero, List.set_cons_succ])
              refine wpAnyH_take (i := 19) (v := ?_) (by simp only [List.getElem?_toArray, List.getElem?_cons_succ, List.getElem?_cons_zero]; exact rfl) (by as_aux_lemma => kernel_rfl) (by as_aux_lemma => kernel_rfl) (by as_aux_lemma => kernel_rfl) (by exact fun _ _ _ h => h) (Or.inl ⟨by rfl, ?_⟩) (by assumption) ?_
              rotate_left
              · intro w hSw
                (try dsimp only at hSw)
                go_simp
                try with_reducible rfl
              (try simp only [Act.put, List.setIfInBounds_toArray, List.set_cons_zero, List.set_cons_succ])
              refine wpAnyH_done (by as_aux_lemma => kernel_rfl) ?_ _
              have MI := Lib.hid (MH.out.past hbi)
              have X9 := Lib.hid (W9.out.keep (own' := ow2) (below_lies hbi) id)
              have X10 := Lib.hid (W10.out.keep (own' := ow2) (below_lies hbi) id)
              clear hHeld hbi cvd
              go_wp2
              go_roundw
              case rel => exact ⟨j + 1, by omega, by go_num, MI.out, X9.out, X10.out⟩
              case measure => simp [intOf]; omega
            · obtain rfl : j = np := by omega
              have hnlt2 : ¬ (j : Int) < (j : Int) := by omega
              go_wp2
              go_roundw
              case rel => exact ⟨t + 1, ow2, s4, T + 1, by omega, by go_num, by omega, HLM4.out, MG.out, V9.out, V10.out, HLA4.out⟩
              case measure => simp [intOf]; omega
        · have htli : ¬ (t : Int) < 2 := by omega
          have CLY : Hid (Calls Try.prog 24 #[.pointer (some ⟨db, 0, none⟩), .string ⟨#[]⟩] wf fun e w' => e = .returned (.int .i64 0) ∧ Live w (Own ow) w' db st T ∧ Below wf.heap.size wf w') := Lib.hid (by have h := lloose MB.out.live (by omega) [] (by decide); rw [Dsk.loose_zero HLM2.out] at h; exact h)
          go_wp2_with (first
            | (go_at_call 24; go_must (refine CLY.out.mono ?_; rintro _ we2 ⟨rfl, lz, _⟩))
            | fail)
          go_ret
          exact ⟨rfl, lz.bel⟩
end Go.Proofs.Ythgeppdoonbkpaa
