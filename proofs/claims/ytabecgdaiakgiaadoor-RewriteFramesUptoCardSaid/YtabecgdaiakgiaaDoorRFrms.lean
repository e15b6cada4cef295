/- law RewriteFrames (printed by gen_frames.py). Conditions: sizes, the library's variables. -/
import Derived.Test.YtabecgdaiakgiaaDoorRHeads
import Derived.Test.YtabecgdaiakgiaaDoorRKeepI
import Derived.Test.YtabecgdaiakgiaaDoorFramL
import Derived.Test.YtabecgdaiakgiaaDoorVAuth
import Derived.Test.YtabecgdaiakgiaaDoorSFram2
namespace Go.Proofs.YtabecgdaiakgiaaDoor
open Go.RowKit

theorem reqP_grd {h R : HB} {fr ln : Int} {host : ByteArray} (e : reqP h fr ln host = (R, 0)) : 0 ≤ fr ∧ fr ≤ 2 ∧ (fr = 1 → 0 ≤ ln) := by
  unfold reqP at e
  split at e
  · cases e
  · split at e
    · rename_i hg
      unfold reqG at hg
      simp only [Bool.and_eq_true, decide_eq_true_eq] at hg
      exact hg.1.2
    · cases e
theorem rspP_grd {h R : HB} {fr ln : Int} {cl x : Bool} {mi : Int} (e : rspP h fr ln cl mi = ((R, 0), x)) : fr = 1 → 0 ≤ ln := by
  unfold rspP at e
  split at e
  · rename_i hg
    unfold rspG at hg
    simp only [Bool.and_eq_true, decide_eq_true_eq] at hg
    exact hg.2.2.2.1
  · cases e
theorem framV_said {fr ln LI : Int} (h0 : 0 ≤ fr) (hl : fr = 1 → 0 ≤ ln) (hL : LI = if fr = 1 then ln else 0) : framV (fr.toNat, lenN fr ln, 0) = .tuple #[.int .i64 fr, .int .i64 LI, .int .i64 0] := by
  unfold framV lenN
  have e1 : ((fr.toNat : Nat) : Int) = fr := by omega
  have e2 : (((if fr = 1 then ln.toNat else 0) : Nat) : Int) = LI := by
    rw [hL]
    by_cases h : fr = 1
    · rw [if_pos h, if_pos h]; have := hl h; omega
    · rw [if_neg h, if_neg h]; rfl
  simp only [e1, e2]
  rfl
set_option maxHeartbeats 8000000 in
set_option maxRecDepth 100000 in
theorem rframes_any (rq : Bool) (mt t : ByteArray) (st : Int) (rs : ByteArray) (mn : Int) (A : Option Addr) (n c : Nat) (fs : List Fl) (fr ln : Int) (host : ByteArray) (cl : Bool) (mi : Int) (w : World) (hsh : w.ShapedOpen Tryd.prog) (htab : Tab w) (hA : A = none → n = 0) (hrd : Rd w w.heap.size 2 A n (fieldsV fs))
    (hst : isInt st) (hln : isInt ln) (hn : n ≤ 1048576) (hm : mt.size + t.size + rs.size ≤ 1048576) (hfz : flSize fs ≤ 2097152) (hhs : host.size ≤ 1048576) (hfs : ∀ f ∈ fs, f.1.size ≤ 16777216) (hvs : total (vals fs sConn) ≤ 8388608) :
    Calls Tryd.prog 12 #[.agg #[.bool rq, .string mt, .string t, .int .i64 st, .string rs, .int .i64 mn, .slice A n c, .int .i64 fr, .int .i64 ln, .string host, .bool cl, .int .i64 mi]] w fun e w' => e = .returned (.bool true) ∧ Below w.heap.size w w' := by
  have B1 : Below w.heap.size w (w.alloc (.cells #[.bool rq, .string mt, .string t, .int .i64 st, .string rs, .int .i64 mn, .slice A n c, .int .i64 fr, .int .i64 ln, .string host, .bool cl, .int .i64 mi] 74)) := (Below.refl _ _).alloc (Nat.le_refl _) _
  have R1 := (hrd.below B1).more B1.size
  have V1 := Lib.hid (Var.new w 74 [.bool rq, .string mt, .string t, .int .i64 st, .string rs, .int .i64 mn, .slice A n c, .int .i64 fr, .int .i64 ln, .string host, .bool cl, .int .i64 mi])
  have HR1 := Lib.hid R1
  have HB1 := Lib.hid B1
  have HS0 := Lib.hid hsh
  have HT0 := Lib.hid htab
  have HAW := Lib.hid (vawake_any _ (shaped_below hsh B1) (htab.below B1))
  have HL := Lib.hid (fun W h => vlent_any rq mt t st rs mn A n c fs W hA h (by omega))
  have HRQ := Lib.hid (fun A c W h1 h2 h3 h4 => wRequest_any rq mt t st rs mn A n c fs fr ln host W h1 h2 h3 h4 hln hn hm hfz hhs hfs hvs)
  unfold headV at HL HRQ
  unfold HeadPost hbV headV at HRQ
  obtain ⟨K, hK⟩ : ∃ K, K = reqP ⟨rq, mt, t, st, rs, mn, fs⟩ fr ln host := ⟨_, rfl⟩
  rw [← hK] at HRQ
  have HK := Lib.hid hK
  clear hsh htab hrd B1 R1 hK
  obtain ⟨⟨q0, q1, q2, q3, q4, q5, R2⟩, E⟩ := K
  have hlen : fs.length = n := by have := HR1.out.1; rw [fieldsV_len] at this; omega
  go_enter Tryd.func12, Tryd.ntmps12
  go_upto_region 3 with (first
    | (go_at_call 45; go_must (refine HAW.out.mono ?_; rintro _ w2 ⟨rfl, hb2⟩))
    | fail)
  have z1 := HB1.out.size
  have z2 := hb2.size
  have HB2 := Lib.hid (HB1.out.trans (hb2.mono z1))
  have HS2 : Hid (w2.ShapedOpen Tryd.prog) := Lib.hid (shaped_below HS0.out HB2.out)
  have HT2 := Lib.hid (HT0.out.below HB2.out)
  have HV2 := Lib.hid (V1.out.below_all hb2)
  have HR2 := Lib.hid (HR1.out.keeps hb2)
  have HKK : Hid (∀ w' : World, Below w2.heap.size w2 w' → (Below w2.heap.size w2 w' ∧ w'.cell? ⟨w.heap.size, 0, none⟩ = some (.bool rq) ∧ w'.cell? ⟨w.heap.size, 1, none⟩ = some (.string mt) ∧ w'.cell? ⟨w.heap.size, 2, none⟩ = some (.string t) ∧ w'.cell? ⟨w.heap.size, 3, none⟩ = some (.int .i64 st) ∧ w'.cell? ⟨w.heap.size, 4, none⟩ = some (.string rs) ∧ w'.cell? ⟨w.heap.size, 5, none⟩ = some (.int .i64 mn) ∧ w'.cell? ⟨w.heap.size, 6, none⟩ = some (.slice A n c) ∧ w'.cell? ⟨w.heap.size, 7, none⟩ = some (.int .i64 fr) ∧ w'.cell? ⟨w.heap.size, 8, none⟩ = some (.int .i64 ln) ∧ w'.cell? ⟨w.heap.size, 9, none⟩ = some (.string host) ∧ w'.cell? ⟨w.heap.size, 10, none⟩ = some (.bool cl) ∧ w'.cell? ⟨w.heap.size, 11, none⟩ = some (.int .i64 mi))) := Lib.hid (fun w' hB => by
    have a0 := HV2.out.below_all hB
    exact ⟨hB, a0.cell (j := 0) rfl, a0.cell (j := 1) rfl, a0.cell (j := 2) rfl, a0.cell (j := 3) rfl, a0.cell (j := 4) rfl, a0.cell (j := 5) rfl, a0.cell (j := 6) rfl, a0.cell (j := 7) rfl, a0.cell (j := 8) rfl, a0.cell (j := 9) rfl, a0.cell (j := 10) rfl, a0.cell (j := 11) rfl⟩)
  clear hb2
  obtain ⟨LI, hLI⟩ : ∃ LI : Int, LI = if fr = 1 then ln else 0 := ⟨_, rfl⟩
  have HLI := Lib.hid hLI
  clear hLI
  have a7 := HV2.out.cell (j := 7) rfl
  have a8 := HV2.out.cell (j := 8) rfl
  by_cases hbig : 1000000000000000 ≤ ln
  · go_wp2
    go_ret
    exact ⟨rfl, HB2.out⟩
  have HL15 : Hid (ln < 1000000000000000) := Lib.hid (by omega)
  go_upto_if 22 with (fail)
  go_cut [3] (fun v wx => v = .int .i64 LI ∧ w2 = wx)
  case first =>
    by_cases e1 : fr = 1
    · have h3 : LI = ln := by rw [HLI.out, if_pos e1]
      subst e1 h3
      go_wp2
      go_meet
      exact ⟨rfl, rfl⟩
    · have h3 : LI = 0 := by rw [HLI.out, if_neg e1]
      have q1 : (fr == 1) = false := by simpa using e1
      subst h3
      clear e1
      go_wp2
      go_meet
      exact ⟨rfl, rfl⟩
  case rest =>
  obtain ⟨rfl, rfl⟩ := hcut
  clear hbig a7 a8
  go_upto_region 8 with (fail)
  go_cut [4, 5] (fun v3 v4 wx => (v4 = .int .i64 (E : Int) ∧ Hold wx w2.heap.size ⟨q0, q1, q2, q3, q4, q5, R2⟩ v3) ∧ Below w2.heap.size w2 wx)
  case first =>
    refine wp_region_held_drew (S := (fun w' => Below w2.heap.size w2 w' ∧ w'.cell? ⟨w.heap.size, 0, none⟩ = some (.bool rq) ∧ w'.cell? ⟨w.heap.size, 1, none⟩ = some (.string mt) ∧ w'.cell? ⟨w.heap.size, 2, none⟩ = some (.string t) ∧ w'.cell? ⟨w.heap.size, 3, none⟩ = some (.int .i64 st) ∧ w'.cell? ⟨w.heap.size, 4, none⟩ = some (.string rs) ∧ w'.cell? ⟨w.heap.size, 5, none⟩ = some (.int .i64 mn) ∧ w'.cell? ⟨w.heap.size, 6, none⟩ = some (.slice A n c) ∧ w'.cell? ⟨w.heap.size, 7, none⟩ = some (.int .i64 fr) ∧ w'.cell? ⟨w.heap.size, 8, none⟩ = some (.int .i64 ln) ∧ w'.cell? ⟨w.heap.size, 9, none⟩ = some (.string host) ∧ w'.cell? ⟨w.heap.size, 10, none⟩ = some (.bool cl) ∧ w'.cell? ⟨w.heap.size, 11, none⟩ = some (.int .i64 mi))) (by as_aux_lemma => kernel_rfl) ?_ (fun hHeld => ?_)
    · exact HKK.out _ ((Below.refl _ _).drew)
    refine wpAnyH_take (i := 0) (v := ?_) (by simp only [List.getElem?_toArray, List.getElem?_cons_zero]; exact rfl) (by as_aux_lemma => kernel_rfl) (by as_aux_lemma => kernel_rfl) (by as_aux_lemma => kernel_rfl) (by exact fun _ _ _ h => h) (Or.inl ⟨by rfl, ?_⟩) (by assumption) ?_
    rotate_left
    · intro w hSw
      (try dsimp only at hSw)
      go_simp
      try with_reducible rfl
    (try simp only [Act.put, List.setIfInBounds_toArray, List.set_cons_zero, List.set_cons_succ])
    refine wpAnyH_take (i := 1) (v := ?_) (by simp only [List.getElem?_toArray, List.getElem?_cons_succ, List.getElem?_cons_zero]; exact rfl) (by as_aux_lemma => kernel_rfl) (by as_aux_lemma => kernel_rfl) (by as_aux_lemma => kernel_rfl) (by exact fun _ _ _ h => h) (Or.inl ⟨by rfl, ?_⟩) (by assumption) ?_
    rotate_left
    · intro w hSw
      (try dsimp only at hSw)
      go_simp
      try with_reducible rfl
    (try simp only [Act.put, List.setIfInBounds_toArray, List.set_cons_zero, List.set_cons_succ])
    refine wpAnyH_take (i := 3) (v := ?_) (by simp only [List.getElem?_toArray, List.getElem?_cons_succ, List.getElem?_cons_zero]; exact rfl) (by as_aux_lemma => kernel_rfl) (by as_aux_lemma => kernel_rfl) (by as_aux_lemma => kernel_rfl) (by exact fun _ _ _ h => h) (Or.inl ⟨by rfl, ?_⟩) (by assumption) ?_
    rotate_left
    · intro w hSw
      (try dsimp only at hSw)
      go_simp
      try with_reducible rfl
    (try simp only [Act.put, List.setIfInBounds_toArray, List.set_cons_zero, List.set_cons_succ])
    refine wpAnyH_take (i := 4) (v := ?_) (by simp only [List.getElem?_toArray, List.getElem?_cons_succ, List.getElem?_cons_zero]; exact rfl) (by as_aux_lemma => kernel_rfl) (by as_aux_lemma => kernel_rfl) (by as_aux_lemma => kernel_rfl) (by exact fun _ _ _ h => h) (Or.inl ⟨by rfl, ?_⟩) (by assumption) ?_
    rotate_left
    · intro w hSw
      (try dsimp only at hSw)
      go_simp
      try with_reducible rfl
    (try simp only [Act.put, List.setIfInBounds_toArray, List.set_cons_zero, List.set_cons_succ])
    refine wpAnyH_take (i := 5) (v := ?_) (by simp only [List.getElem?_toArray, List.getElem?_cons_succ, List.getElem?_cons_zero]; exact rfl) (by as_aux_lemma => kernel_rfl) (by as_aux_lemma => kernel_rfl) (by as_aux_lemma => kernel_rfl) (by exact fun _ _ _ h => h) (Or.inl ⟨by rfl, ?_⟩) (by assumption) ?_
    rotate_left
    · intro w hSw
      (try dsimp only at hSw)
      go_simp
      try with_reducible rfl
    (try simp only [Act.put, List.setIfInBounds_toArray, List.set_cons_zero, List.set_cons_succ])
    refine wpAnyH_take (i := 6) (v := ?_) (by simp only [List.getElem?_toArray, List.getElem?_cons_succ, List.getElem?_cons_zero]; exact rfl) (by as_aux_lemma => kernel_rfl) (by as_aux_lemma => kernel_rfl) (by as_aux_lemma => kernel_rfl) (by exact fun _ _ _ h => h) (Or.inl ⟨by rfl, ?_⟩) (by assumption) ?_
    rotate_left
    · intro w hSw
      (try dsimp only at hSw)
      go_simp
      try with_reducible rfl
    (try simp only [Act.put, List.setIfInBounds_toArray, List.set_cons_zero, List.set_cons_succ])
    refine wpAnyH_take (i := 7) (v := ?_) (by simp only [List.getElem?_toArray, List.getElem?_cons_succ, List.getElem?_cons_zero]; exact rfl) (by as_aux_lemma => kernel_rfl) (by as_aux_lemma => kernel_rfl) (by as_aux_lemma => kernel_rfl) (by exact fun _ _ _ h => h) (Or.inl ⟨by rfl, ?_⟩) (by assumption) ?_
    rotate_left
    · intro w hSw
      (try dsimp only at hSw)
      go_simp
      try with_reducible rfl
    (try simp only [Act.put, List.setIfInBounds_toArray, List.set_cons_zero, List.set_cons_succ])
    refine wpAnyH_take (i := 8) (v := ?_) (by simp only [List.getElem?_toArray, List.getElem?_cons_succ, List.getElem?_cons_zero]; exact rfl) (by as_aux_lemma => kernel_rfl) (by as_aux_lemma => kernel_rfl) (by as_aux_lemma => kernel_rfl) (by exact fun _ _ _ h => h) (Or.inl ⟨by rfl, ?_⟩) (by assumption) ?_
    rotate_left
    · intro w hSw
      (try dsimp only at hSw)
      go_simp
      try with_reducible rfl
    (try simp only [Act.put, List.setIfInBounds_toArray, List.set_cons_zero, List.set_cons_succ])
    refine wpAnyH_ready (rs := [2, 13]) (by as_aux_lemma => kernel_rfl) (by simp) ?_
    refine AllReadyH.cons (by simp only [List.getElem?_toArray, List.getElem?_cons_succ, List.getElem?_cons_zero]; exact rfl) (fun K hK => ?_) ?_
    · go_simp
      (go_at_call 13; refine (HL.out _ (Held.rd (by assumption) HR2.out)).mono ?_; rintro _ wx ⟨gz, oz, cx, rfl, hcx, hrx, hl⟩; have hq := Held.trans (W0 := w2) (by assumption) hl; have rl := Lib.hid (lent_rd hrx); have hqx := Lib.hid hq; clear hrx)
      refine hK.out _ _ ?_ (fun hHeld => ?_)
      · (try dsimp only)
        exact HKK.out _ hq
      clear hK K
      (try simp only [Act.put, List.setIfInBounds_toArray, List.set_cons_zero, List.set_cons_succ])
      refine wpAnyH_ready (rs := [9, 13]) (by as_aux_lemma => kernel_rfl) (by simp) ?_
      refine AllReadyH.cons (by simp only [List.getElem?_toArray, List.getElem?_cons_succ, List.getElem?_cons_zero]; exact rfl) (fun K hK => ?_) ?_
      · go_simp
        (go_at_call 46; refine (HRQ.out (some ⟨gz, oz, none⟩) cx _ (Held.sh (by assumption) HS2.out) (Held.tab (by assumption) HT2.out) (fun e => by cases e) rl.out).mono ?_; rintro _ wy ⟨v, rfl, hrow, hl⟩; have hq := Held.trans (W0 := w2) (by assumption) hl; obtain ⟨A5, c5, rfl, _, _, _, _⟩ := hrow.form; have hrw := Lib.hid hrow; clear hrow)
        refine hK.out _ _ ?_ (fun hHeld => ?_)
        · (try dsimp only)
          exact HKK.out _ hq
        clear hK K
        (try simp only [Act.put, List.setIfInBounds_toArray, List.set_cons_zero, List.set_cons_succ])
        refine wpAnyH_take (i := 10) (v := ?_) (by simp only [List.getElem?_toArray, List.getElem?_cons_succ, List.getElem?_cons_zero]; exact rfl) (by as_aux_lemma => kernel_rfl) (by as_aux_lemma => kernel_rfl) (by as_aux_lemma => kernel_rfl) (by exact fun _ _ _ h => h) (Or.inl ⟨by rfl, ?_⟩) (by assumption) ?_
        rotate_left
        · intro w hSw
          (try dsimp only at hSw)
          go_simp
          try with_reducible rfl
        (try simp only [Act.put, List.setIfInBounds_toArray, List.set_cons_zero, List.set_cons_succ])
        refine wpAnyH_take (i := 11) (v := ?_) (by simp only [List.getElem?_toArray, List.getElem?_cons_succ, List.getElem?_cons_zero]; exact rfl) (by as_aux_lemma => kernel_rfl) (by as_aux_lemma => kernel_rfl) (by as_aux_lemma => kernel_rfl) (by exact fun _ _ _ h => h) (Or.inl ⟨by rfl, ?_⟩) (by assumption) ?_
        rotate_left
        · intro w hSw
          (try dsimp only at hSw)
          go_simp
          try with_reducible rfl
        (try simp only [Act.put, List.setIfInBounds_toArray, List.set_cons_zero, List.set_cons_succ])
        refine wpAnyH_take (i := 12) (v := ?_) (by simp only [List.getElem?_toArray, List.getElem?_cons_succ, List.getElem?_cons_zero]; exact rfl) (by as_aux_lemma => kernel_rfl) (by as_aux_lemma => kernel_rfl) (by as_aux_lemma => kernel_rfl) (by exact fun _ _ _ h => h) (Or.inl ⟨by rfl, ?_⟩) (by assumption) ?_
        rotate_left
        · intro w hSw
          (try dsimp only at hSw)
          go_simp
          try with_reducible rfl
        (try simp only [Act.put, List.setIfInBounds_toArray, List.set_cons_zero, List.set_cons_succ])
        refine wpAnyH_ready (rs := [13]) (by as_aux_lemma => kernel_rfl) (by simp) ?_
        refine AllReadyH.cons (by simp only [List.getElem?_toArray, List.getElem?_cons_succ, List.getElem?_cons_zero]; exact rfl) (fun K hK => ?_) AllReadyH.nil
        go_simp
        refine hK.out _ _ ?_ (fun hHeld => ?_)
        · (try dsimp only)
          exact HKK.out _ (Below.alloc hq hq.size _)
        clear hK K
        (try simp only [Act.put, List.setIfInBounds_toArray, List.set_cons_zero, List.set_cons_succ])
        refine wpAnyH_ready (rs := [14]) (by as_aux_lemma => kernel_rfl) (by simp) ?_
        refine AllReadyH.cons (by simp only [List.getElem?_toArray, List.getElem?_cons_succ, List.getElem?_cons_zero]; exact rfl) (fun K hK => ?_) AllReadyH.nil
        go_simp
        refine hK.out _ _ ?_ (fun hHeld => ?_)
        · (try dsimp only)
          exact HKK.out _ (Below.alloc hq hq.size _)
        clear hK K
        refine wpAnyH_take (i := 15) (v := ?_) (by simp only [List.getElem?_toArray, List.getElem?_cons_succ, List.getElem?_cons_zero]; exact rfl) (by as_aux_lemma => kernel_rfl) (by as_aux_lemma => kernel_rfl) (by as_aux_lemma => kernel_rfl) (by exact fun _ _ _ h => h) (Or.inl ⟨by rfl, ?_⟩) (by assumption) ?_
        rotate_left
        · intro w hSw
          (try dsimp only at hSw)
          go_simp
          try with_reducible rfl
        (try simp only [Act.put, List.setIfInBounds_toArray, List.set_cons_zero, List.set_cons_succ])
        refine wpAnyH_done (by as_aux_lemma => kernel_rfl) ?_ _
        go_wp2
        go_meet
        exact ⟨⟨rfl, Hold.new (R := ⟨q0, q1, q2, q3, q4, q5, R2⟩) hq.size hrw.out⟩, Below.alloc hq hq.size _⟩
      · refine AllReadyH.cons (by simp only [List.getElem?_toArray, List.getElem?_cons_succ, List.getElem?_cons_zero]; exact rfl) (fun K hK => ?_) AllReadyH.nil
        go_simp
        refine hK.out _ _ ?_ (fun hHeld => ?_)
        · (try dsimp only)
          exact HKK.out _ (Below.alloc hq hq.size _)
        clear hK K
        (try simp only [Act.put, List.setIfInBounds_toArray, List.set_cons_zero, List.set_cons_succ])
        refine wpAnyH_ready (rs := [9]) (by as_aux_lemma => kernel_rfl) (by simp) ?_
        refine AllReadyH.cons (by simp only [List.getElem?_toArray, List.getElem?_cons_succ, List.getElem?_cons_zero]; exact rfl) (fun K hK => ?_) AllReadyH.nil
        go_simp
        (go_at_call 46; refine (HRQ.out (some ⟨gz, oz, none⟩) cx _ (Held.sh (by assumption) HS2.out) (Held.tab (by assumption) HT2.out) (fun e => by cases e) (rl.out.keeps ((Below.refl _ _).alloc (Nat.le_refl _) _))).mono ?_; rintro _ wy ⟨v, rfl, hrow, hl⟩; have hq := Held.trans (W0 := w2) (by assumption) hl; obtain ⟨A5, c5, rfl, _, _, _, _⟩ := hrow.form; have hrw := Lib.hid hrow; clear hrow; have U := Lib.hid (Var.below_all (Var.new wx 24 [.bool false, .string ⟨#[]⟩, .string ⟨#[]⟩, .int .i64 0, .string ⟨#[]⟩, .int .i64 0, .slice none 0 0]) hl); have hub := hqx.out.size; have u0 := U.out.cell (j := 0) rfl; have u1 := U.out.cell (j := 1) rfl; have u2 := U.out.cell (j := 2) rfl; have u3 := U.out.cell (j := 3) rfl; have u4 := U.out.cell (j := 4) rfl; have u5 := U.out.cell (j := 5) rfl; have u6 := U.out.cell (j := 6) rfl; have y0 := U.out.frozen 0; have y1 := U.out.frozen 1; have y2 := U.out.frozen 2; have y3 := U.out.frozen 3; have y4 := U.out.frozen 4; have y5 := U.out.frozen 5; have y6 := U.out.frozen 6)
        refine hK.out _ _ ?_ (fun hHeld => ?_)
        · (try dsimp only)
          exact HKK.out _ hq
        clear hK K
        (try simp only [Act.put, List.setIfInBounds_toArray, List.set_cons_zero, List.set_cons_succ])
        refine wpAnyH_take (i := 10) (v := ?_) (by simp only [List.getElem?_toArray, List.getElem?_cons_succ, List.getElem?_cons_zero]; exact rfl) (by as_aux_lemma => kernel_rfl) (by as_aux_lemma => kernel_rfl) (by as_aux_lemma => kernel_rfl) (by exact fun _ _ _ h => h) (Or.inl ⟨by rfl, ?_⟩) (by assumption) ?_
        rotate_left
        · intro w hSw
          (try dsimp only at hSw)
          go_simp
          try with_reducible rfl
        (try simp only [Act.put, List.setIfInBounds_toArray, List.set_cons_zero, List.set_cons_succ])
        refine wpAnyH_take (i := 11) (v := ?_) (by simp only [List.getElem?_toArray, List.getElem?_cons_succ, List.getElem?_cons_zero]; exact rfl) (by as_aux_lemma => kernel_rfl) (by as_aux_lemma => kernel_rfl) (by as_aux_lemma => kernel_rfl) (by exact fun _ _ _ h => h) (Or.inl ⟨by rfl, ?_⟩) (by assumption) ?_
        rotate_left
        · intro w hSw
          (try dsimp only at hSw)
          go_simp
          try with_reducible rfl
        (try simp only [Act.put, List.setIfInBounds_toArray, List.set_cons_zero, List.set_cons_succ])
        refine wpAnyH_take (i := 12) (v := ?_) (by simp only [List.getElem?_toArray, List.getElem?_cons_succ, List.getElem?_cons_zero]; exact rfl) (by as_aux_lemma => kernel_rfl) (by as_aux_lemma => kernel_rfl) (by as_aux_lemma => kernel_rfl) (by exact fun _ _ _ h => h) (Or.inl ⟨by rfl, ?_⟩) (by assumption) ?_
        rotate_left
        · intro w hSw
          (try dsimp only at hSw)
          go_simp
          try with_reducible rfl
        (try simp only [Act.put, List.setIfInBounds_toArray, List.set_cons_zero, List.set_cons_succ])
        refine wpAnyH_ready (rs := [14]) (by as_aux_lemma => kernel_rfl) (by simp) ?_
        refine AllReadyH.cons (by simp only [List.getElem?_toArray, List.getElem?_cons_succ, List.getElem?_cons_zero]; exact rfl) (fun K hK => ?_) AllReadyH.nil
        go_simp
        refine hK.out _ _ ?_ (fun hHeld => ?_)
        · (try dsimp only)
          exact HKK.out _ (Below.set7 hq hub _ _ _ _ _ _ _)
        clear hK K
        refine wpAnyH_take (i := 15) (v := ?_) (by simp only [List.getElem?_toArray, List.getElem?_cons_succ, List.getElem?_cons_zero]; exact rfl) (by as_aux_lemma => kernel_rfl) (by as_aux_lemma => kernel_rfl) (by as_aux_lemma => kernel_rfl) (by exact fun _ _ _ h => h) (Or.inl ⟨by rfl, ?_⟩) (by assumption) ?_
        rotate_left
        · intro w hSw
          (try dsimp only at hSw)
          go_simp
          try with_reducible rfl
        (try simp only [Act.put, List.setIfInBounds_toArray, List.set_cons_zero, List.set_cons_succ])
        refine wpAnyH_done (by as_aux_lemma => kernel_rfl) ?_ _
        have hbb2 : wx.heap.size < (wx.alloc (.cells #[.bool false, .string ⟨#[]⟩, .string ⟨#[]⟩, .int .i64 0, .string ⟨#[]⟩, .int .i64 0, .slice none 0 0] 24)).heap.size := by rw [heap_alloc_size]; omega
        clear u0 u1 u2 u3 u4 u5 u6 y0 y1 y2 y3 y4 y5 y6
        go_wp2
        go_meet
        exact ⟨⟨rfl, Hold.put (R := ⟨q0, q1, q2, q3, q4, q5, R2⟩) hub hbb2 U.out hrw.out⟩, Below.set7 hq hub _ _ _ _ _ _ _⟩
    · refine AllReadyH.cons (by simp only [List.getElem?_toArray, List.getElem?_cons_succ, List.getElem?_cons_zero]; exact rfl) (fun K hK => ?_) AllReadyH.nil
      go_simp
      refine hK.out _ _ ?_ (fun hHeld => ?_)
      · (try dsimp only)
        (first | with_reducible exact HKK.out _ hq | with_reducible exact HKK.out _ ((Below.refl _ _).drew) | with_reducible exact HKK.out _ (((Below.refl _ _).alloc (Nat.le_refl _) _).drew) | with_reducible exact HKK.out _ (((Below.refl _ _).drew).alloc (Nat.le_refl _) _))
      clear hK K
      (try simp only [Act.put, List.setIfInBounds_toArray, List.set_cons_zero, List.set_cons_succ])
      refine wpAnyH_ready (rs := [2]) (by as_aux_lemma => kernel_rfl) (by simp) ?_
      refine AllReadyH.cons (by simp only [List.getElem?_toArray, List.getElem?_cons_succ, List.getElem?_cons_zero]; exact rfl) (fun K hK => ?_) AllReadyH.nil
      go_simp
      (go_at_call 13; refine (HL.out _ (Held.rd (by assumption) HR2.out)).mono ?_; rintro _ wx ⟨gz, oz, cx, rfl, hcx, hrx, hl⟩; have hq := Held.trans (W0 := w2) (by assumption) hl; have rl := Lib.hid (lent_rd hrx); have hqx := Lib.hid hq; clear hrx; have U0 : Hid (Var wx w2.heap.size 24 [.bool false, .string ⟨#[]⟩, .string ⟨#[]⟩, .int .i64 0, .string ⟨#[]⟩, .int .i64 0, .slice none 0 0]) := Lib.hid (by first | exact Var.below_all (Var.drew (Var.new w2 24 [.bool false, .string ⟨#[]⟩, .string ⟨#[]⟩, .int .i64 0, .string ⟨#[]⟩, .int .i64 0, .slice none 0 0])) hl | exact Var.below_all (Var.new (World.drew w2) 24 [.bool false, .string ⟨#[]⟩, .string ⟨#[]⟩, .int .i64 0, .string ⟨#[]⟩, .int .i64 0, .slice none 0 0]) hl))
      refine hK.out _ _ ?_ (fun hHeld => ?_)
      · (try dsimp only)
        exact HKK.out _ hq
      clear hK K
      (try simp only [Act.put, List.setIfInBounds_toArray, List.set_cons_zero, List.set_cons_succ])
      refine wpAnyH_ready (rs := [9]) (by as_aux_lemma => kernel_rfl) (by simp) ?_
      refine AllReadyH.cons (by simp only [List.getElem?_toArray, List.getElem?_cons_succ, List.getElem?_cons_zero]; exact rfl) (fun K hK => ?_) AllReadyH.nil
      go_simp
      (go_at_call 46; refine (HRQ.out (some ⟨gz, oz, none⟩) cx _ (Held.sh (by assumption) HS2.out) (Held.tab (by assumption) HT2.out) (fun e => by cases e) rl.out).mono ?_; rintro _ wy ⟨v, rfl, hrow, hl⟩; have hq := Held.trans (W0 := w2) (by assumption) hl; obtain ⟨A5, c5, rfl, _, _, _, _⟩ := hrow.form; have hrw := Lib.hid hrow; clear hrow; have U := Lib.hid (Var.below_all U0.out hl); have hub := Nat.le_refl w2.heap.size; have u0 := U.out.cell (j := 0) rfl; have u1 := U.out.cell (j := 1) rfl; have u2 := U.out.cell (j := 2) rfl; have u3 := U.out.cell (j := 3) rfl; have u4 := U.out.cell (j := 4) rfl; have u5 := U.out.cell (j := 5) rfl; have u6 := U.out.cell (j := 6) rfl; have y0 := U.out.frozen 0; have y1 := U.out.frozen 1; have y2 := U.out.frozen 2; have y3 := U.out.frozen 3; have y4 := U.out.frozen 4; have y5 := U.out.frozen 5; have y6 := U.out.frozen 6)
      refine hK.out _ _ ?_ (fun hHeld => ?_)
      · (try dsimp only)
        exact HKK.out _ hq
      clear hK K
      (try simp only [Act.put, List.setIfInBounds_toArray, List.set_cons_zero, List.set_cons_succ])
      refine wpAnyH_take (i := 10) (v := ?_) (by simp only [List.getElem?_toArray, List.getElem?_cons_succ, List.getElem?_cons_zero]; exact rfl) (by as_aux_lemma => kernel_rfl) (by as_aux_lemma => kernel_rfl) (by as_aux_lemma => kernel_rfl) (by exact fun _ _ _ h => h) (Or.inl ⟨by rfl, ?_⟩) (by assumption) ?_
      rotate_left
      · intro w hSw
        (try dsimp only at hSw)
        go_simp
        try with_reducible rfl
      (try simp only [Act.put, List.setIfInBounds_toArray, List.set_cons_zero, List.set_cons_succ])
      refine wpAnyH_take (i := 11) (v := ?_) (by simp only [List.getElem?_toArray, List.getElem?_cons_succ, List.getElem?_cons_zero]; exact rfl) (by as_aux_lemma => kernel_rfl) (by as_aux_lemma => kernel_rfl) (by as_aux_lemma => kernel_rfl) (by exact fun _ _ _ h => h) (Or.inl ⟨by rfl, ?_⟩) (by assumption) ?_
      rotate_left
      · intro w hSw
        (try dsimp only at hSw)
        go_simp
        try with_reducible rfl
      (try simp only [Act.put, List.setIfInBounds_toArray, List.set_cons_zero, List.set_cons_succ])
      refine wpAnyH_take (i := 12) (v := ?_) (by simp only [List.getElem?_toArray, List.getElem?_cons_succ, List.getElem?_cons_zero]; exact rfl) (by as_aux_lemma => kernel_rfl) (by as_aux_lemma => kernel_rfl) (by as_aux_lemma => kernel_rfl) (by exact fun _ _ _ h => h) (Or.inl ⟨by rfl, ?_⟩) (by assumption) ?_
      rotate_left
      · intro w hSw
        (try dsimp only at hSw)
        go_simp
        try with_reducible rfl
      (try simp only [Act.put, List.setIfInBounds_toArray, List.set_cons_zero, List.set_cons_succ])
      refine wpAnyH_ready (rs := [14]) (by as_aux_lemma => kernel_rfl) (by simp) ?_
      refine AllReadyH.cons (by simp only [List.getElem?_toArray, List.getElem?_cons_succ, List.getElem?_cons_zero]; exact rfl) (fun K hK => ?_) AllReadyH.nil
      go_simp
      refine hK.out _ _ ?_ (fun hHeld => ?_)
      · (try dsimp only)
        exact HKK.out _ (Below.set7 hq hub _ _ _ _ _ _ _)
      clear hK K
      refine wpAnyH_take (i := 15) (v := ?_) (by simp only [List.getElem?_toArray, List.getElem?_cons_succ, List.getElem?_cons_zero]; exact rfl) (by as_aux_lemma => kernel_rfl) (by as_aux_lemma => kernel_rfl) (by as_aux_lemma => kernel_rfl) (by exact fun _ _ _ h => h) (Or.inl ⟨by rfl, ?_⟩) (by assumption) ?_
      rotate_left
      · intro w hSw
        (try dsimp only at hSw)
        go_simp
        try with_reducible rfl
      (try simp only [Act.put, List.setIfInBounds_toArray, List.set_cons_zero, List.set_cons_succ])
      refine wpAnyH_done (by as_aux_lemma => kernel_rfl) ?_ _
      have hbb3 := U0.out.lt
      clear u0 u1 u2 u3 u4 u5 u6 y0 y1 y2 y3 y4 y5 y6
      go_wp2
      go_meet
      exact ⟨⟨rfl, Hold.put (R := ⟨q0, q1, q2, q3, q4, q5, R2⟩) hub hbb3 U.out hrw.out⟩, Below.set7 hq hub _ _ _ _ _ _ _⟩
  case rest =>
    obtain ⟨⟨rfl, hold⟩, hbc⟩ := hcut
    have HO := Lib.hid hold
    have HBC := Lib.hid hbc
    clear hold hbc
    obtain ⟨b3, A3, c3, rfl, hb3, hv3, hr3⟩ := HO.out
    have HS3 := Lib.hid (shaped_below HS2.out HBC.out)
    clear HO hb3
    obtain ⟨C, hC⟩ : ∃ C, C = (decide (E = 0) && authL host.data.toList) := ⟨_, rfl⟩
    have HC := Lib.hid hC
    clear hC
    have HVA := Lib.hid (HV2.out.below_all HBC.out)
    obtain ⟨wk, rfl⟩ : ∃ wk : World, wk = wc := ⟨_, rfl⟩
    go_upto_region 9 with (fail)
    go_cut [44] (fun v wx => v = .bool C ∧ wk = wx)
    case first =>
      have HAU := Lib.hid (fun W => vauthority_any host W (by omega))
      obtain ⟨B, hB⟩ : ∃ B, B = authL host.data.toList := ⟨_, rfl⟩
      rw [← hB] at HAU HC
      clear hB
      have a9 := HVA.out.cell (j := 9) rfl
      by_cases he : E = 0
      · have h3 : C = B := by rw [HC.out, decide_eq_true he, Bool.true_and]
        subst he h3
        go_wp2_with (first
          | (go_at_call 53; go_must (refine (HAU.out _).mono ?_; rintro _ w4 ⟨rfl, rfl⟩))
          | fail)
        go_meet
        exact ⟨rfl, rfl⟩
      · have h3 : C = false := by rw [HC.out, decide_eq_false he, Bool.false_and]
        have he' : ((E : Int) == 0) = false := by simp [he]
        subst h3
        go_wp2
        go_meet
        exact ⟨rfl, rfl⟩
    case rest =>
    obtain ⟨rfl, rfl⟩ := hcut
    refine (show ∀ (a : Act) (w : World), Code.wp _ _ _ a w → _ from by assumption) _ _ ?_
    go_cut [] (fun wx => Below wk.heap.size wk wx)
    case first =>
      cases C with
      | false =>
        go_wp2
        go_meet
        exact Below.refl _ _
      | true =>
        have hc := HC.out
        symm at hc
        rw [Bool.and_eq_true, decide_eq_true_eq] at hc
        obtain ⟨he, ha⟩ := hc
        subst he
        obtain ⟨i0, i1, i2, i3, i4⟩ := reqP_inv HK.out.symm
        obtain ⟨g0, g1, g2⟩ := reqP_grd HK.out.symm
        obtain ⟨s1, s2, s3⟩ := ok_sizes (reqP_ok HK.out.symm).2
        dsimp only at i0 i1 i2 i3 i4 s1 s2 s3
        subst i0 i1 i2 i3
        have hz : flSize R2 ≤ 16777216 := by
          have f1 := (frameP_size (fr := fr) hln).1
          have f2 : flSize (othersP true fs) ≤ flSize fs := flSize_filter _ _
          have f3 : flSize ((sHost, host) :: othersP true fs) = 4 + host.size + 4 + flSize (othersP true fs) := rfl
          rw [i4, flSize_append, f3]; omega
        dsimp only [hbC] at hv3 hr3
        have HV3 := Lib.hid hv3
        have HR3 := Lib.hid hr3
        clear hv3 hr3
        have HFS : Hid (framV (framingP true (decide ((⟨#[]⟩ : ByteArray) = ⟨#[72, 69, 65, 68]⟩)) q3 1 R2) = .tuple #[.int .i64 fr, .int .i64 LI, .int .i64 0]) := Lib.hid (by
          rw [show decide ((⟨#[]⟩ : ByteArray) = ⟨#[72, 69, 65, 68]⟩) = false from by decide, i4, req_framing fs host fr ln q3 ⟨g0, g1⟩ g2 HL15.out (by rw [← authL_eq]; exact ha)]
          exact framV_said g0 g2 HLI.out)
        have HL3 := Lib.hid (fun W h => vlent_any true q1 q2 q3 q4 1 A3 R2.length c3 R2 W (rd_none HR3.out) h (by omega))
        have HFR := Lib.hid (fun g o c W h1 h2 => sframing_any true q1 q2 q3 q4 1 (some ⟨g, o, none⟩) R2.length c R2 ⟨#[]⟩ W h1 h2 (by omega) s2 hz)
        unfold headV at HL3 HFR
        rw [HFS.out] at HFR
        clear i4 g0 g1 g2 s1 s2 s3 ha HFS hz
        go_wp2_with (first
          | (refine wpList_load_mid rfl 24 (.tmp 4) rfl b3 0 rfl [.bool true, .string q1, .string q2, .int .i64 q3, .string q4, .int .i64 1, .slice A3 R2.length c3] _ HV3.out.range Tryd.underlying24 rfl (by kernel_rfl) ?_)
          | (go_at_call 13; go_must (refine (HL3.out _ HR3.out).mono ?_; rintro _ w4 ⟨g4, o4, c4, rfl, hc4, hr4, hb4⟩; have rl4 := Lib.hid (lent_rd hr4); have HB4 := Lib.hid hb4; clear hr4 hb4))
          | (go_at_call 54; go_must (refine (HFR.out g4 o4 c4 _ (shaped_below HS3.out HB4.out) rl4.out).mono ?_; rintro _ w5 ⟨rfl, hb5⟩; have a75 := (HVA.out.below_all (HB4.out.trans (hb5.mono HB4.out.size))).cell (j := 7) rfl))
          | fail)
        go_meet
        exact HB4.out.trans (hb5.mono HB4.out.size)
    case rest =>
    have HBD := Lib.hid (HBC.out.trans (hcut.mono HBC.out.size))
    clear hcut hv3 hr3 HK HS3 HBC HRQ HAW HKK
    obtain ⟨wd, rfl⟩ : ∃ wd : World, wd = wc := ⟨_, rfl⟩
    have HSd : Hid (wd.ShapedOpen Tryd.prog) := Lib.hid (shaped_below HS2.out HBD.out)
    have HTd := Lib.hid (HT2.out.below HBD.out)
    have HVd := Lib.hid (HV2.out.below_all HBD.out)
    have HRd := Lib.hid (HR2.out.keeps HBD.out)
    have HZD := Lib.hid (HB2.out.trans (HBD.out.mono HB2.out.size))
    clear HBD HS2 HT2 HV2 HR2 HB2 z2
    have HRS := Lib.hid (fun A c W h1 h2 h3 h4 => wResponse_any rq mt t st rs mn A n c fs fr ln cl 1 W h1 h2 h3 h4 hst hln hn hm hfz hfs hvs)
    unfold headV at HRS
    unfold RspPost hbV headV at HRS
    obtain ⟨K, hK⟩ : ∃ K, K = rspP ⟨rq, mt, t, st, rs, mn, fs⟩ fr ln cl 1 := ⟨_, rfl⟩
    rw [← hK] at HRS
    have HK := Lib.hid hK
    clear hK
    obtain ⟨⟨⟨p0, p1, p2, p3, p4, p5, Rp⟩, F⟩, G⟩ := K
    have HKd : Hid (∀ w' : World, Below wd.heap.size wd w' → (Below wd.heap.size wd w' ∧ w'.cell? ⟨w.heap.size, 0, none⟩ = some (.bool rq) ∧ w'.cell? ⟨w.heap.size, 1, none⟩ = some (.string mt) ∧ w'.cell? ⟨w.heap.size, 2, none⟩ = some (.string t) ∧ w'.cell? ⟨w.heap.size, 3, none⟩ = some (.int .i64 st) ∧ w'.cell? ⟨w.heap.size, 4, none⟩ = some (.string rs) ∧ w'.cell? ⟨w.heap.size, 5, none⟩ = some (.int .i64 mn) ∧ w'.cell? ⟨w.heap.size, 6, none⟩ = some (.slice A n c) ∧ w'.cell? ⟨w.heap.size, 7, none⟩ = some (.int .i64 fr) ∧ w'.cell? ⟨w.heap.size, 8, none⟩ = some (.int .i64 ln) ∧ w'.cell? ⟨w.heap.size, 9, none⟩ = some (.string host) ∧ w'.cell? ⟨w.heap.size, 10, none⟩ = some (.bool cl) ∧ w'.cell? ⟨w.heap.size, 11, none⟩ = some (.int .i64 mi))) := Lib.hid (fun w' hB => by
      have a0 := HVd.out.below_all hB
      exact ⟨hB, a0.cell (j := 0) rfl, a0.cell (j := 1) rfl, a0.cell (j := 2) rfl, a0.cell (j := 3) rfl, a0.cell (j := 4) rfl, a0.cell (j := 5) rfl, a0.cell (j := 6) rfl, a0.cell (j := 7) rfl, a0.cell (j := 8) rfl, a0.cell (j := 9) rfl, a0.cell (j := 10) rfl, a0.cell (j := 11) rfl⟩)
    go_upto_region 13 with (fail)
    go_cut [9, 10, 11] (fun v9 v10 v11 wx => ((v10 = .bool G ∧ v11 = .int .i64 (F : Int)) ∧ Hold wx wd.heap.size ⟨p0, p1, p2, p3, p4, p5, Rp⟩ v9) ∧ Below wd.heap.size wd wx)
    case first =>
      refine wp_region_held_drew (S := (fun w' => Below wd.heap.size wd w' ∧ w'.cell? ⟨w.heap.size, 0, none⟩ = some (.bool rq) ∧ w'.cell? ⟨w.heap.size, 1, none⟩ = some (.string mt) ∧ w'.cell? ⟨w.heap.size, 2, none⟩ = some (.string t) ∧ w'.cell? ⟨w.heap.size, 3, none⟩ = some (.int .i64 st) ∧ w'.cell? ⟨w.heap.size, 4, none⟩ = some (.string rs) ∧ w'.cell? ⟨w.heap.size, 5, none⟩ = some (.int .i64 mn) ∧ w'.cell? ⟨w.heap.size, 6, none⟩ = some (.slice A n c) ∧ w'.cell? ⟨w.heap.size, 7, none⟩ = some (.int .i64 fr) ∧ w'.cell? ⟨w.heap.size, 8, none⟩ = some (.int .i64 ln) ∧ w'.cell? ⟨w.heap.size, 9, none⟩ = some (.string host) ∧ w'.cell? ⟨w.heap.size, 10, none⟩ = some (.bool cl) ∧ w'.cell? ⟨w.heap.size, 11, none⟩ = some (.int .i64 mi))) (by as_aux_lemma => kernel_rfl) ?_ (fun hHeld => ?_)
      · exact HKd.out _ ((Below.refl _ _).drew)
      refine wpAnyH_take (i := 0) (v := ?_) (by simp only [List.getElem?_toArray, List.getElem?_cons_zero]; exact rfl) (by as_aux_lemma => kernel_rfl) (by as_aux_lemma => kernel_rfl) (by as_aux_lemma => kernel_rfl) (by exact fun _ _ _ h => h) (Or.inl ⟨by rfl, ?_⟩) (by assumption) ?_
      rotate_left
      · intro w hSw
        (try dsimp only at hSw)
        go_simp
        try with_reducible rfl
      (try simp only [Act.put, List.setIfInBounds_toArray, List.set_cons_zero, List.set_cons_succ])
      refine wpAnyH_take (i := 1) (v := ?_) (by simp only [List.getElem?_toArray, List.getElem?_cons_succ, List.getElem?_cons_zero]; exact rfl) (by as_aux_lemma => kernel_rfl) (by as_aux_lemma => kernel_rfl) (by as_aux_lemma => kernel_rfl) (by exact fun _ _ _ h => h) (Or.inl ⟨by rfl, ?_⟩) (by assumption) ?_
      rotate_left
      · intro w hSw
        (try dsimp only at hSw)
        go_simp
        try with_reducible rfl
      (try simp only [Act.put, List.setIfInBounds_toArray, List.set_cons_zero, List.set_cons_succ])
      refine wpAnyH_take (i := 3) (v := ?_) (by simp only [List.getElem?_toArray, List.getElem?_cons_succ, List.getElem?_cons_zero]; exact rfl) (by as_aux_lemma => kernel_rfl) (by as_aux_lemma => kernel_rfl) (by as_aux_lemma => kernel_rfl) (by exact fun _ _ _ h => h) (Or.inl ⟨by rfl, ?_⟩) (by assumption) ?_
      rotate_left
      · intro w hSw
        (try dsimp only at hSw)
        go_simp
        try with_reducible rfl
      (try simp only [Act.put, List.setIfInBounds_toArray, List.set_cons_zero, List.set_cons_succ])
      refine wpAnyH_take (i := 4) (v := ?_) (by simp only [List.getElem?_toArray, List.getElem?_cons_succ, List.getElem?_cons_zero]; exact rfl) (by as_aux_lemma => kernel_rfl) (by as_aux_lemma => kernel_rfl) (by as_aux_lemma => kernel_rfl) (by exact fun _ _ _ h => h) (Or.inl ⟨by rfl, ?_⟩) (by assumption) ?_
      rotate_left
      · intro w hSw
        (try dsimp only at hSw)
        go_simp
        try with_reducible rfl
      (try simp only [Act.put, List.setIfInBounds_toArray, List.set_cons_zero, List.set_cons_succ])
      refine wpAnyH_take (i := 5) (v := ?_) (by simp only [List.getElem?_toArray, List.getElem?_cons_succ, List.getElem?_cons_zero]; exact rfl) (by as_aux_lemma => kernel_rfl) (by as_aux_lemma => kernel_rfl) (by as_aux_lemma => kernel_rfl) (by exact fun _ _ _ h => h) (Or.inl ⟨by rfl, ?_⟩) (by assumption) ?_
      rotate_left
      · intro w hSw
        (try dsimp only at hSw)
        go_simp
        try with_reducible rfl
      (try simp only [Act.put, List.setIfInBounds_toArray, List.set_cons_zero, List.set_cons_succ])
      refine wpAnyH_take (i := 6) (v := ?_) (by simp only [List.getElem?_toArray, List.getElem?_cons_succ, List.getElem?_cons_zero]; exact rfl) (by as_aux_lemma => kernel_rfl) (by as_aux_lemma => kernel_rfl) (by as_aux_lemma => kernel_rfl) (by exact fun _ _ _ h => h) (Or.inl ⟨by rfl, ?_⟩) (by assumption) ?_
      rotate_left
      · intro w hSw
        (try dsimp only at hSw)
        go_simp
        try with_reducible rfl
      (try simp only [Act.put, List.setIfInBounds_toArray, List.set_cons_zero, List.set_cons_succ])
      refine wpAnyH_take (i := 7) (v := ?_) (by simp only [List.getElem?_toArray, List.getElem?_cons_succ, List.getElem?_cons_zero]; exact rfl) (by as_aux_lemma => kernel_rfl) (by as_aux_lemma => kernel_rfl) (by as_aux_lemma => kernel_rfl) (by exact fun _ _ _ h => h) (Or.inl ⟨by rfl, ?_⟩) (by assumption) ?_
      rotate_left
      · intro w hSw
        (try dsimp only at hSw)
        go_simp
        try with_reducible rfl
      (try simp only [Act.put, List.setIfInBounds_toArray, List.set_cons_zero, List.set_cons_succ])
      refine wpAnyH_take (i := 8) (v := ?_) (by simp only [List.getElem?_toArray, List.getElem?_cons_succ, List.getElem?_cons_zero]; exact rfl) (by as_aux_lemma => kernel_rfl) (by as_aux_lemma => kernel_rfl) (by as_aux_lemma => kernel_rfl) (by exact fun _ _ _ h => h) (Or.inl ⟨by rfl, ?_⟩) (by assumption) ?_
      rotate_left
      · intro w hSw
        (try dsimp only at hSw)
        go_simp
        try with_reducible rfl
      (try simp only [Act.put, List.setIfInBounds_toArray, List.set_cons_zero, List.set_cons_succ])
      refine wpAnyH_ready (rs := [2, 14]) (by as_aux_lemma => kernel_rfl) (by simp) ?_
      refine AllReadyH.cons (by simp only [List.getElem?_toArray, List.getElem?_cons_succ, List.getElem?_cons_zero]; exact rfl) (fun K hK => ?_) ?_
      · go_simp
        (go_at_call 13; refine (HL.out _ (Held.rd (by assumption) HRd.out)).mono ?_; rintro _ wx ⟨gz, oz, cx, rfl, hcx, hrx, hl⟩; have hq := Held.trans (W0 := wd) (by assumption) hl; have rl := Lib.hid (lent_rd hrx); have hqx := Lib.hid hq; clear hrx)
        refine hK.out _ _ ?_ (fun hHeld => ?_)
        · (try dsimp only)
          exact HKd.out _ hq
        clear hK K
        (try simp only [Act.put, List.setIfInBounds_toArray, List.set_cons_zero, List.set_cons_succ])
        refine wpAnyH_ready (rs := [9, 14]) (by as_aux_lemma => kernel_rfl) (by simp) ?_
        refine AllReadyH.cons (by simp only [List.getElem?_toArray, List.getElem?_cons_succ, List.getElem?_cons_zero]; exact rfl) (fun K hK => ?_) ?_
        · go_simp
          (go_at_call 48; refine (HRS.out (some ⟨gz, oz, none⟩) cx _ (Held.sh (by assumption) HSd.out) (Held.tab (by assumption) HTd.out) (fun e => by cases e) rl.out).mono ?_; rintro _ wy ⟨v, rfl, hrow, hl⟩; have hq := Held.trans (W0 := wd) (by assumption) hl; obtain ⟨A5, c5, rfl, _, _, _, _⟩ := hrow.form; have hrw := Lib.hid hrow; clear hrow)
          refine hK.out _ _ ?_ (fun hHeld => ?_)
          · (try dsimp only)
            exact HKd.out _ hq
          clear hK K
          (try simp only [Act.put, List.setIfInBounds_toArray, List.set_cons_zero, List.set_cons_succ])
          refine wpAnyH_take (i := 10) (v := ?_) (by simp only [List.getElem?_toArray, List.getElem?_cons_succ, List.getElem?_cons_zero]; exact rfl) (by as_aux_lemma => kernel_rfl) (by as_aux_lemma => kernel_rfl) (by as_aux_lemma => kernel_rfl) (by exact fun _ _ _ h => h) (Or.inl ⟨by rfl, ?_⟩) (by assumption) ?_
          rotate_left
          · intro w hSw
            (try dsimp only at hSw)
            go_simp
            try with_reducible rfl
          (try simp only [Act.put, List.setIfInBounds_toArray, List.set_cons_zero, List.set_cons_succ])
          refine wpAnyH_take (i := 11) (v := ?_) (by simp only [List.getElem?_toArray, List.getElem?_cons_succ, List.getElem?_cons_zero]; exact rfl) (by as_aux_lemma => kernel_rfl) (by as_aux_lemma => kernel_rfl) (by as_aux_lemma => kernel_rfl) (by exact fun _ _ _ h => h) (Or.inl ⟨by rfl, ?_⟩) (by assumption) ?_
          rotate_left
          · intro w hSw
            (try dsimp only at hSw)
            go_simp
            try with_reducible rfl
          (try simp only [Act.put, List.setIfInBounds_toArray, List.set_cons_zero, List.set_cons_succ])
          refine wpAnyH_take (i := 12) (v := ?_) (by simp only [List.getElem?_toArray, List.getElem?_cons_succ, List.getElem?_cons_zero]; exact rfl) (by as_aux_lemma => kernel_rfl) (by as_aux_lemma => kernel_rfl) (by as_aux_lemma => kernel_rfl) (by exact fun _ _ _ h => h) (Or.inl ⟨by rfl, ?_⟩) (by assumption) ?_
          rotate_left
          · intro w hSw
            (try dsimp only at hSw)
            go_simp
            try with_reducible rfl
          (try simp only [Act.put, List.setIfInBounds_toArray, List.set_cons_zero, List.set_cons_succ])
          refine wpAnyH_take (i := 13) (v := ?_) (by simp only [List.getElem?_toArray, List.getElem?_cons_succ, List.getElem?_cons_zero]; exact rfl) (by as_aux_lemma => kernel_rfl) (by as_aux_lemma => kernel_rfl) (by as_aux_lemma => kernel_rfl) (by exact fun _ _ _ h => h) (Or.inl ⟨by rfl, ?_⟩) (by assumption) ?_
          rotate_left
          · intro w hSw
            (try dsimp only at hSw)
            go_simp
            try with_reducible rfl
          (try simp only [Act.put, List.setIfInBounds_toArray, List.set_cons_zero, List.set_cons_succ])
          refine wpAnyH_ready (rs := [14]) (by as_aux_lemma => kernel_rfl) (by simp) ?_
          refine AllReadyH.cons (by simp only [List.getElem?_toArray, List.getElem?_cons_succ, List.getElem?_cons_zero]; exact rfl) (fun K hK => ?_) AllReadyH.nil
          go_simp
          refine hK.out _ _ ?_ (fun hHeld => ?_)
          · (try dsimp only)
            exact HKd.out _ (Below.alloc hq hq.size _)
          clear hK K
          (try simp only [Act.put, List.setIfInBounds_toArray, List.set_cons_zero, List.set_cons_succ])
          refine wpAnyH_ready (rs := [15]) (by as_aux_lemma => kernel_rfl) (by simp) ?_
          refine AllReadyH.cons (by simp only [List.getElem?_toArray, List.getElem?_cons_succ, List.getElem?_cons_zero]; exact rfl) (fun K hK => ?_) AllReadyH.nil
          go_simp
          refine hK.out _ _ ?_ (fun hHeld => ?_)
          · (try dsimp only)
            exact HKd.out _ (Below.alloc hq hq.size _)
          clear hK K
          refine wpAnyH_take (i := 16) (v := ?_) (by simp only [List.getElem?_toArray, List.getElem?_cons_succ, List.getElem?_cons_zero]; exact rfl) (by as_aux_lemma => kernel_rfl) (by as_aux_lemma => kernel_rfl) (by as_aux_lemma => kernel_rfl) (by exact fun _ _ _ h => h) (Or.inl ⟨by rfl, ?_⟩) (by assumption) ?_
          rotate_left
          · intro w hSw
            (try dsimp only at hSw)
            go_simp
            try with_reducible rfl
          (try simp only [Act.put, List.setIfInBounds_toArray, List.set_cons_zero, List.set_cons_succ])
          refine wpAnyH_take (i := 17) (v := ?_) (by simp only [List.getElem?_toArray, List.getElem?_cons_succ, List.getElem?_cons_zero]; exact rfl) (by as_aux_lemma => kernel_rfl) (by as_aux_lemma => kernel_rfl) (by as_aux_lemma => kernel_rfl) (by exact fun _ _ _ h => h) (Or.inl ⟨by rfl, ?_⟩) (by assumption) ?_
          rotate_left
          · intro w hSw
            (try dsimp only at hSw)
            go_simp
            try with_reducible rfl
          (try simp only [Act.put, List.setIfInBounds_toArray, List.set_cons_zero, List.set_cons_succ])
          refine wpAnyH_done (by as_aux_lemma => kernel_rfl) ?_ _
          go_wp2
          go_meet
          exact ⟨⟨⟨rfl, rfl⟩, Hold.new (R := ⟨p0, p1, p2, p3, p4, p5, Rp⟩) hq.size hrw.out⟩, Below.alloc hq hq.size _⟩
        · refine AllReadyH.cons (by simp only [List.getElem?_toArray, List.getElem?_cons_succ, List.getElem?_cons_zero]; exact rfl) (fun K hK => ?_) AllReadyH.nil
          go_simp
          refine hK.out _ _ ?_ (fun hHeld => ?_)
          · (try dsimp only)
            exact HKd.out _ (Below.alloc hq hq.size _)
          clear hK K
          (try simp only [Act.put, List.setIfInBounds_toArray, List.set_cons_zero, List.set_cons_succ])
          refine wpAnyH_ready (rs := [9]) (by as_aux_lemma => kernel_rfl) (by simp) ?_
          refine AllReadyH.cons (by simp only [List.getElem?_toArray, List.getElem?_cons_succ, List.getElem?_cons_zero]; exact rfl) (fun K hK => ?_) AllReadyH.nil
          go_simp
          (go_at_call 48; refine (HRS.out (some ⟨gz, oz, none⟩) cx _ (Held.sh (by assumption) HSd.out) (Held.tab (by assumption) HTd.out) (fun e => by cases e) (rl.out.keeps ((Below.refl _ _).alloc (Nat.le_refl _) _))).mono ?_; rintro _ wy ⟨v, rfl, hrow, hl⟩; have hq := Held.trans (W0 := wd) (by assumption) hl; obtain ⟨A5, c5, rfl, _, _, _, _⟩ := hrow.form; have hrw := Lib.hid hrow; clear hrow; have U := Lib.hid (Var.below_all (Var.new wx 24 [.bool false, .string ⟨#[]⟩, .string ⟨#[]⟩, .int .i64 0, .string ⟨#[]⟩, .int .i64 0, .slice none 0 0]) hl); have hub := hqx.out.size; have u0 := U.out.cell (j := 0) rfl; have u1 := U.out.cell (j := 1) rfl; have u2 := U.out.cell (j := 2) rfl; have u3 := U.out.cell (j := 3) rfl; have u4 := U.out.cell (j := 4) rfl; have u5 := U.out.cell (j := 5) rfl; have u6 := U.out.cell (j := 6) rfl; have y0 := U.out.frozen 0; have y1 := U.out.frozen 1; have y2 := U.out.frozen 2; have y3 := U.out.frozen 3; have y4 := U.out.frozen 4; have y5 := U.out.frozen 5; have y6 := U.out.frozen 6)
          refine hK.out _ _ ?_ (fun hHeld => ?_)
          · (try dsimp only)
            exact HKd.out _ hq
          clear hK K
          (try simp only [Act.put, List.setIfInBounds_toArray, List.set_cons_zero, List.set_cons_succ])
          refine wpAnyH_take (i := 10) (v := ?_) (by simp only [List.getElem?_toArray, List.getElem?_cons_succ, List.getElem?_cons_zero]; exact rfl) (by as_aux_lemma => kernel_rfl) (by as_aux_lemma => kernel_rfl) (by as_aux_lemma => kernel_rfl) (by exact fun _ _ _ h => h) (Or.inl ⟨by rfl, ?_⟩) (by assumption) ?_
          rotate_left
          · intro w hSw
            (try dsimp only at hSw)
            go_simp
            try with_reducible rfl
          (try simp only [Act.put, List.setIfInBounds_toArray, List.set_cons_zero, List.set_cons_succ])
          refine wpAnyH_take (i := 11) (v := ?_) (by simp only [List.getElem?_toArray, List.getElem?_cons_succ, List.getElem?_cons_zero]; exact rfl) (by as_aux_lemma => kernel_rfl) (by as_aux_lemma => kernel_rfl) (by as_aux_lemma => kernel_rfl) (by exact fun _ _ _ h => h) (Or.inl ⟨by rfl, ?_⟩) (by assumption) ?_
          rotate_left
          · intro w hSw
            (try dsimp only at hSw)
            go_simp
            try with_reducible rfl
          (try simp only [Act.put, List.setIfInBounds_toArray, List.set_cons_zero, List.set_cons_succ])
          refine wpAnyH_take (i := 12) (v := ?_) (by simp only [List.getElem?_toArray, List.getElem?_cons_succ, List.getElem?_cons_zero]; exact rfl) (by as_aux_lemma => kernel_rfl) (by as_aux_lemma => kernel_rfl) (by as_aux_lemma => kernel_rfl) (by exact fun _ _ _ h => h) (Or.inl ⟨by rfl, ?_⟩) (by assumption) ?_
          rotate_left
          · intro w hSw
            (try dsimp only at hSw)
            go_simp
            try with_reducible rfl
          (try simp only [Act.put, List.setIfInBounds_toArray, List.set_cons_zero, List.set_cons_succ])
          refine wpAnyH_take (i := 13) (v := ?_) (by simp only [List.getElem?_toArray, List.getElem?_cons_succ, List.getElem?_cons_zero]; exact rfl) (by as_aux_lemma => kernel_rfl) (by as_aux_lemma => kernel_rfl) (by as_aux_lemma => kernel_rfl) (by exact fun _ _ _ h => h) (Or.inl ⟨by rfl, ?_⟩) (by assumption) ?_
          rotate_left
          · intro w hSw
            (try dsimp only at hSw)
            go_simp
            try with_reducible rfl
          (try simp only [Act.put, List.setIfInBounds_toArray, List.set_cons_zero, List.set_cons_succ])
          refine wpAnyH_ready (rs := [15]) (by as_aux_lemma => kernel_rfl) (by simp) ?_
          refine AllReadyH.cons (by simp only [List.getElem?_toArray, List.getElem?_cons_succ, List.getElem?_cons_zero]; exact rfl) (fun K hK => ?_) AllReadyH.nil
          go_simp
          refine hK.out _ _ ?_ (fun hHeld => ?_)
          · (try dsimp only)
            exact HKd.out _ (Below.set7 hq hub _ _ _ _ _ _ _)
          clear hK K
          refine wpAnyH_take (i := 16) (v := ?_) (by simp only [List.getElem?_toArray, List.getElem?_cons_succ, List.getElem?_cons_zero]; exact rfl) (by as_aux_lemma => kernel_rfl) (by as_aux_lemma => kernel_rfl) (by as_aux_lemma => kernel_rfl) (by exact fun _ _ _ h => h) (Or.inl ⟨by rfl, ?_⟩) (by assumption) ?_
          rotate_left
          · intro w hSw
            (try dsimp only at hSw)
            go_simp
            try with_reducible rfl
          (try simp only [Act.put, List.setIfInBounds_toArray, List.set_cons_zero, List.set_cons_succ])
          refine wpAnyH_take (i := 17) (v := ?_) (by simp only [List.getElem?_toArray, List.getElem?_cons_succ, List.getElem?_cons_zero]; exact rfl) (by as_aux_lemma => kernel_rfl) (by as_aux_lemma => kernel_rfl) (by as_aux_lemma => kernel_rfl) (by exact fun _ _ _ h => h) (Or.inl ⟨by rfl, ?_⟩) (by assumption) ?_
          rotate_left
          · intro w hSw
            (try dsimp only at hSw)
            go_simp
            try with_reducible rfl
          (try simp only [Act.put, List.setIfInBounds_toArray, List.set_cons_zero, List.set_cons_succ])
          refine wpAnyH_done (by as_aux_lemma => kernel_rfl) ?_ _
          have hbb2 : wx.heap.size < (wx.alloc (.cells #[.bool false, .string ⟨#[]⟩, .string ⟨#[]⟩, .int .i64 0, .string ⟨#[]⟩, .int .i64 0, .slice none 0 0] 24)).heap.size := by rw [heap_alloc_size]; omega
          clear u0 u1 u2 u3 u4 u5 u6 y0 y1 y2 y3 y4 y5 y6
          go_wp2
          go_meet
          exact ⟨⟨⟨rfl, rfl⟩, Hold.put (R := ⟨p0, p1, p2, p3, p4, p5, Rp⟩) hub hbb2 U.out hrw.out⟩, Below.set7 hq hub _ _ _ _ _ _ _⟩
      · refine AllReadyH.cons (by simp only [List.getElem?_toArray, List.getElem?_cons_succ, List.getElem?_cons_zero]; exact rfl) (fun K hK => ?_) AllReadyH.nil
        go_simp
        refine hK.out _ _ ?_ (fun hHeld => ?_)
        · (try dsimp only)
          (first | with_reducible exact HKd.out _ hq | with_reducible exact HKd.out _ ((Below.refl _ _).drew) | with_reducible exact HKd.out _ (((Below.refl _ _).alloc (Nat.le_refl _) _).drew) | with_reducible exact HKd.out _ (((Below.refl _ _).drew).alloc (Nat.le_refl _) _))
        clear hK K
        (try simp only [Act.put, List.setIfInBounds_toArray, List.set_cons_zero, List.set_cons_succ])
        refine wpAnyH_ready (rs := [2]) (by as_aux_lemma => kernel_rfl) (by simp) ?_
        refine AllReadyH.cons (by simp only [List.getElem?_toArray, List.getElem?_cons_succ, List.getElem?_cons_zero]; exact rfl) (fun K hK => ?_) AllReadyH.nil
        go_simp
        (go_at_call 13; refine (HL.out _ (Held.rd (by assumption) HRd.out)).mono ?_; rintro _ wx ⟨gz, oz, cx, rfl, hcx, hrx, hl⟩; have hq := Held.trans (W0 := wd) (by assumption) hl; have rl := Lib.hid (lent_rd hrx); have hqx := Lib.hid hq; clear hrx; have U0 : Hid (Var wx wd.heap.size 24 [.bool false, .string ⟨#[]⟩, .string ⟨#[]⟩, .int .i64 0, .string ⟨#[]⟩, .int .i64 0, .slice none 0 0]) := Lib.hid (by first | exact Var.below_all (Var.drew (Var.new wd 24 [.bool false, .string ⟨#[]⟩, .string ⟨#[]⟩, .int .i64 0, .string ⟨#[]⟩, .int .i64 0, .slice none 0 0])) hl | exact Var.below_all (Var.new (World.drew wd) 24 [.bool false, .string ⟨#[]⟩, .string ⟨#[]⟩, .int .i64 0, .string ⟨#[]⟩, .int .i64 0, .slice none 0 0]) hl))
        refine hK.out _ _ ?_ (fun hHeld => ?_)
        · (try dsimp only)
          exact HKd.out _ hq
        clear hK K
        (try simp only [Act.put, List.setIfInBounds_toArray, List.set_cons_zero, List.set_cons_succ])
        refine wpAnyH_ready (rs := [9]) (by as_aux_lemma => kernel_rfl) (by simp) ?_
        refine AllReadyH.cons (by simp only [List.getElem?_toArray, List.getElem?_cons_succ, List.getElem?_cons_zero]; exact rfl) (fun K hK => ?_) AllReadyH.nil
        go_simp
        (go_at_call 48; refine (HRS.out (some ⟨gz, oz, none⟩) cx _ (Held.sh (by assumption) HSd.out) (Held.tab (by assumption) HTd.out) (fun e => by cases e) rl.out).mono ?_; rintro _ wy ⟨v, rfl, hrow, hl⟩; have hq := Held.trans (W0 := wd) (by assumption) hl; obtain ⟨A5, c5, rfl, _, _, _, _⟩ := hrow.form; have hrw := Lib.hid hrow; clear hrow; have U := Lib.hid (Var.below_all U0.out hl); have hub := Nat.le_refl wd.heap.size; have u0 := U.out.cell (j := 0) rfl; have u1 := U.out.cell (j := 1) rfl; have u2 := U.out.cell (j := 2) rfl; have u3 := U.out.cell (j := 3) rfl; have u4 := U.out.cell (j := 4) rfl; have u5 := U.out.cell (j := 5) rfl; have u6 := U.out.cell (j := 6) rfl; have y0 := U.out.frozen 0; have y1 := U.out.frozen 1; have y2 := U.out.frozen 2; have y3 := U.out.frozen 3; have y4 := U.out.frozen 4; have y5 := U.out.frozen 5; have y6 := U.out.frozen 6)
        refine hK.out _ _ ?_ (fun hHeld => ?_)
        · (try dsimp only)
          exact HKd.out _ hq
        clear hK K
        (try simp only [Act.put, List.setIfInBounds_toArray, List.set_cons_zero, List.set_cons_succ])
        refine wpAnyH_take (i := 10) (v := ?_) (by simp only [List.getElem?_toArray, List.getElem?_cons_succ, List.getElem?_cons_zero]; exact rfl) (by as_aux_lemma => kernel_rfl) (by as_aux_lemma => kernel_rfl) (by as_aux_lemma => kernel_rfl) (by exact fun _ _ _ h => h) (Or.inl ⟨by rfl, ?_⟩) (by assumption) ?_
        rotate_left
        · intro w hSw
          (try dsimp only at hSw)
          go_simp
          try with_reducible rfl
        (try simp only [Act.put, List.setIfInBounds_toArray, List.set_cons_zero, List.set_cons_succ])
        refine wpAnyH_take (i := 11) (v := ?_) (by simp only [List.getElem?_toArray, List.getElem?_cons_succ, List.getElem?_cons_zero]; exact rfl) (by as_aux_lemma => kernel_rfl) (by as_aux_lemma => kernel_rfl) (by as_aux_lemma => kernel_rfl) (by exact fun _ _ _ h => h) (Or.inl ⟨by rfl, ?_⟩) (by assumption) ?_
        rotate_left
        · intro w hSw
          (try dsimp only at hSw)
          go_simp
          try with_reducible rfl
        (try simp only [Act.put, List.setIfInBounds_toArray, List.set_cons_zero, List.set_cons_succ])
        refine wpAnyH_take (i := 12) (v := ?_) (by simp only [List.getElem?_toArray, List.getElem?_cons_succ, List.getElem?_cons_zero]; exact rfl) (by as_aux_lemma => kernel_rfl) (by as_aux_lemma => kernel_rfl) (by as_aux_lemma => kernel_rfl) (by exact fun _ _ _ h => h) (Or.inl ⟨by rfl, ?_⟩) (by assumption) ?_
        rotate_left
        · intro w hSw
          (try dsimp only at hSw)
          go_simp
          try with_reducible rfl
        (try simp only [Act.put, List.setIfInBounds_toArray, List.set_cons_zero, List.set_cons_succ])
        refine wpAnyH_take (i := 13) (v := ?_) (by simp only [List.getElem?_toArray, List.getElem?_cons_succ, List.getElem?_cons_zero]; exact rfl) (by as_aux_lemma => kernel_rfl) (by as_aux_lemma => kernel_rfl) (by as_aux_lemma => kernel_rfl) (by exact fun _ _ _ h => h) (Or.inl ⟨by rfl, ?_⟩) (by assumption) ?_
        rotate_left
        · intro w hSw
          (try dsimp only at hSw)
          go_simp
          try with_reducible rfl
        (try simp only [Act.put, List.setIfInBounds_toArray, List.set_cons_zero, List.set_cons_succ])
        refine wpAnyH_ready (rs := [15]) (by as_aux_lemma => kernel_rfl) (by simp) ?_
        refine AllReadyH.cons (by simp only [List.getElem?_toArray, List.getElem?_cons_succ, List.getElem?_cons_zero]; exact rfl) (fun K hK => ?_) AllReadyH.nil
        go_simp
        refine hK.out _ _ ?_ (fun hHeld => ?_)
        · (try dsimp only)
          exact HKd.out _ (Below.set7 hq hub _ _ _ _ _ _ _)
        clear hK K
        refine wpAnyH_take (i := 16) (v := ?_) (by simp only [List.getElem?_toArray, List.getElem?_cons_succ, List.getElem?_cons_zero]; exact rfl) (by as_aux_lemma => kernel_rfl) (by as_aux_lemma => kernel_rfl) (by as_aux_lemma => kernel_rfl) (by exact fun _ _ _ h => h) (Or.inl ⟨by rfl, ?_⟩) (by assumption) ?_
        rotate_left
        · intro w hSw
          (try dsimp only at hSw)
          go_simp
          try with_reducible rfl
        (try simp only [Act.put, List.setIfInBounds_toArray, List.set_cons_zero, List.set_cons_succ])
        refine wpAnyH_take (i := 17) (v := ?_) (by simp only [List.getElem?_toArray, List.getElem?_cons_succ, List.getElem?_cons_zero]; exact rfl) (by as_aux_lemma => kernel_rfl) (by as_aux_lemma => kernel_rfl) (by as_aux_lemma => kernel_rfl) (by exact fun _ _ _ h => h) (Or.inl ⟨by rfl, ?_⟩) (by assumption) ?_
        rotate_left
        · intro w hSw
          (try dsimp only at hSw)
          go_simp
          try with_reducible rfl
        (try simp only [Act.put, List.setIfInBounds_toArray, List.set_cons_zero, List.set_cons_succ])
        refine wpAnyH_done (by as_aux_lemma => kernel_rfl) ?_ _
        have hbb3 := U0.out.lt
        clear u0 u1 u2 u3 u4 u5 u6 y0 y1 y2 y3 y4 y5 y6
        go_wp2
        go_meet
        exact ⟨⟨⟨rfl, rfl⟩, Hold.put (R := ⟨p0, p1, p2, p3, p4, p5, Rp⟩) hub hbb3 U.out hrw.out⟩, Below.set7 hq hub _ _ _ _ _ _ _⟩
    case rest =>
      obtain ⟨⟨⟨rfl, rfl⟩, hold⟩, hbc⟩ := hcut
      have HO := Lib.hid hold
      have HBC := Lib.hid hbc
      have HZB := Lib.hid (HZD.out.trans (hbc.mono HZD.out.size))
      clear hold hbc
      obtain ⟨b3, A3, c3, rfl, hb3, hv3, hr3⟩ := HO.out
      have HS3 := Lib.hid (shaped_below HSd.out HBC.out)
      clear HO hb3
      by_cases he : F = 0
      · subst he
        obtain ⟨i0, _, i2, i3, i4, i5, i6, _, _⟩ := rspP_inv HK.out.symm
        have g2 := rspP_grd HK.out.symm
        obtain ⟨s1, s2, s3⟩ := ok_sizes (rspP_ok HK.out.symm).2
        dsimp only at i0 i2 i3 i4 i5 i6 s1 s2 s3
        subst i0 i2 i3 i4 i5
        have hz : flSize Rp ≤ 16777216 := by
          have f1 := (frameP_size (fr := fr) hln).1
          have f2 : flSize (othersP false fs) ≤ flSize fs := flSize_filter _ _
          have f3 := (connF_size fr cl 1).1
          rw [i6, if_neg (by omega), flSize_append, flSize_append]; omega
        dsimp only [hbC] at hv3 hr3
        have HV3 := Lib.hid hv3
        have HR3 := Lib.hid hr3
        have HVA := Lib.hid (HVd.out.below_all HBC.out)
        have a7 := HVA.out.cell (j := 7) rfl
        have b33 := HV3.out.cell (j := 3) rfl
        clear hv3 hr3
        by_cases h200 : p3 < 200
        · go_wp2
          go_ret
          exact ⟨rfl, HZB.out⟩
        by_cases h204 : p3 = 204
        · subst h204
          go_wp2
          go_ret
          exact ⟨rfl, HZB.out⟩
        by_cases h304 : p3 = 304
        · subst h304
          go_wp2
          go_ret
          exact ⟨rfl, HZB.out⟩
        have q204 : (p3 == 204) = false := by simpa using h204
        have q304 : (p3 == 304) = false := by simpa using h304
        by_cases hfr : fr = 1 ∨ fr = 2
        · have HFS : Hid (framV (framingP false (decide ((⟨#[71, 69, 84]⟩ : ByteArray) = ⟨#[72, 69, 65, 68]⟩)) p3 1 Rp) = .tuple #[.int .i64 fr, .int .i64 LI, .int .i64 0]) := Lib.hid (by
            rw [show decide ((⟨#[71, 69, 84]⟩ : ByteArray) = ⟨#[72, 69, 65, 68]⟩) = false from by decide, i6, rsp_framing fs fr ln p3 cl hfr g2 HL15.out (by omega) h204 h304]
            exact framV_said (by omega) g2 HLI.out)
          have HL3 := Lib.hid (fun W h => vlent_any false p1 p2 p3 p4 1 A3 Rp.length c3 Rp W (rd_none HR3.out) h (by omega))
          have HFR := Lib.hid (fun g o c W h1 h2 => sframing_any false p1 p2 p3 p4 1 (some ⟨g, o, none⟩) Rp.length c Rp ⟨#[71, 69, 84]⟩ W h1 h2 (by omega) s2 hz)
          unfold headV at HL3 HFR
          rw [HFS.out] at HFR
          clear i6 g2 s1 s2 s3 HFS hz h204 h304
          rcases hfr with e1 | e1
          · subst e1
            (go_wp2_with (first
               | (refine wpList_load_mid rfl 24 (.tmp 9) rfl b3 0 rfl [.bool false, .string p1, .string p2, .int .i64 p3, .string p4, .int .i64 1, .slice A3 Rp.length c3] _ HV3.out.range Tryd.underlying24 rfl (by kernel_rfl) ?_)
               | (go_at_call 13; go_must (refine (HL3.out _ HR3.out).mono ?_; rintro _ w4 ⟨g4, o4, c4, rfl, hc4, hr4, hb4⟩; have rl4 := Lib.hid (lent_rd hr4); have HB4 := Lib.hid hb4; clear hr4 hb4))
               | (go_at_call 54; go_must (refine (HFR.out g4 o4 c4 _ (shaped_below HS3.out HB4.out) rl4.out).mono ?_; rintro _ w5 ⟨rfl, hb5⟩; have a75 := (HVA.out.below_all (HB4.out.trans (hb5.mono HB4.out.size))).cell (j := 7) rfl))
               | fail)
             go_ret
             exact ⟨rfl, HZB.out.trans ((HB4.out.trans (hb5.mono HB4.out.size)).mono HZB.out.size)⟩)
          · have q1 : (fr != 1) = true := by rw [bne_iff_ne]; omega
            subst e1
            (go_wp2_with (first
               | (refine wpList_load_mid rfl 24 (.tmp 9) rfl b3 0 rfl [.bool false, .string p1, .string p2, .int .i64 p3, .string p4, .int .i64 1, .slice A3 Rp.length c3] _ HV3.out.range Tryd.underlying24 rfl (by kernel_rfl) ?_)
               | (go_at_call 13; go_must (refine (HL3.out _ HR3.out).mono ?_; rintro _ w4 ⟨g4, o4, c4, rfl, hc4, hr4, hb4⟩; have rl4 := Lib.hid (lent_rd hr4); have HB4 := Lib.hid hb4; clear hr4 hb4))
               | (go_at_call 54; go_must (refine (HFR.out g4 o4 c4 _ (shaped_below HS3.out HB4.out) rl4.out).mono ?_; rintro _ w5 ⟨rfl, hb5⟩; have a75 := (HVA.out.below_all (HB4.out.trans (hb5.mono HB4.out.size))).cell (j := 7) rfl))
               | fail)
             go_ret
             exact ⟨rfl, HZB.out.trans ((HB4.out.trans (hb5.mono HB4.out.size)).mono HZB.out.size)⟩)
        · have q1 : (fr != 1) = true := by rw [bne_iff_ne]; omega
          have q2 : (fr != 2) = true := by rw [bne_iff_ne]; omega
          clear i6 g2 s1 s2 s3 h204 h304 hfr
          go_wp2
          go_ret
          exact ⟨rfl, HZB.out⟩
      · have he' : ((F : Int) != 0) = true := by simp [he]
        clear HK hv3 hr3
        go_wp2
        go_ret
        exact ⟨rfl, HZB.out⟩
end Go.Proofs.YtabecgdaiakgiaaDoor
