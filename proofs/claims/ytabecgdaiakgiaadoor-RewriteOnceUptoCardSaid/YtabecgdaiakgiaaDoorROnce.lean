/- law RewriteOnce (printed by gen_once.py). Conditions: sizes, the library's variables. -/
import Derived.Test.YtabecgdaiakgiaaDoorROnce2
namespace Go.Proofs.YtabecgdaiakgiaaDoor
open Go.RowKit

set_option maxHeartbeats 8000000 in
set_option maxRecDepth 100000 in
theorem ronce_any (rq : Bool) (mt t : ByteArray) (st : Int) (rs : ByteArray) (mn : Int) (A : Option Addr) (n c : Nat) (fs : List Fl) (fr ln : Int) (host : ByteArray) (cl : Bool) (mi : Int) (w : World) (hsh : w.ShapedOpen Tryd.prog) (htab : Tab w) (hA : A = none → n = 0) (hrd : Rd w w.heap.size 2 A n (fieldsV fs))
    (hst : isInt st) (hln : isInt ln) (hn : n ≤ 1048576) (hm : mt.size + t.size + rs.size ≤ 1048576) (hfz : flSize fs ≤ 2097152) (hhs : host.size ≤ 1048576) (hfs : ∀ f ∈ fs, f.1.size ≤ 16777216) (hvs : total (vals fs sConn) ≤ 8388608) :
    Calls Tryd.prog 8 #[.agg #[.bool rq, .string mt, .string t, .int .i64 st, .string rs, .int .i64 mn, .slice A n c, .int .i64 fr, .int .i64 ln, .string host, .bool cl, .int .i64 mi]] w fun e w' => e = .returned (.bool true) ∧ Below w.heap.size w w' := by
  have B1 : Below w.heap.size w (w.alloc (.cells #[.bool rq, .string mt, .string t, .int .i64 st, .string rs, .int .i64 mn, .slice A n c, .int .i64 fr, .int .i64 ln, .string host, .bool cl, .int .i64 mi] 74)) := (Below.refl _ _).alloc (Nat.le_refl _) _
  have R1 := (hrd.below B1).more B1.size
  have V1 := Lib.hid (Var.new w 74 [.bool rq, .string mt, .string t, .int .i64 st, .string rs, .int .i64 mn, .slice A n c, .int .i64 fr, .int .i64 ln, .string host, .bool cl, .int .i64 mi])
  have HR1 := Lib.hid R1
  have HB1 := Lib.hid B1
  have HS0 := Lib.hid hsh
  have HT0 := Lib.hid htab
  have HAW := Lib.hid (vawake_any _ (shaped_below hsh B1) (htab.below B1))
  have HL := Lib.hid (fun W h => vlent_any rq mt t st rs mn A n c fs W hA h (by omega))
  have HRQ := Lib.hid (fun A c W h1 h2 h3 h4 => wRequest_any rq mt t st rs mn A n c fs fr ln host W h1 h2 h3 h4 hln hn hm hfz hhs hfs hvs)
  unfold headV at HL HRQ
  unfold HeadPost hbV headV at HRQ
  obtain ⟨K, hK⟩ : ∃ K, K = reqP ⟨rq, mt, t, st, rs, mn, fs⟩ fr ln host := ⟨_, rfl⟩
  rw [← hK] at HRQ
  have HK := Lib.hid hK
  clear hsh htab hrd B1 R1 hK
  obtain ⟨⟨q0, q1, q2, q3, q4, q5, R2⟩, E⟩ := K
  have hlen : fs.length = n := by have := HR1.out.1; rw [fieldsV_len] at this; omega
  go_enter Tryd.func8, Tryd.ntmps8
  go_upto_region 3 with (first
    | (go_at_call 45; go_must (refine HAW.out.mono ?_; rintro _ w2 ⟨rfl, hb2⟩))
    | fail)
  have z1 := HB1.out.size
  have z2 := hb2.size
  have HB2 := Lib.hid (HB1.out.trans (hb2.mono z1))
  have HS2 : Hid (w2.ShapedOpen Tryd.prog) := Lib.hid (shaped_below HS0.out HB2.out)
  have HT2 := Lib.hid (HT0.out.below HB2.out)
  have HV2 := Lib.hid (V1.out.below_all hb2)
  have HR2 := Lib.hid (HR1.out.keeps hb2)
  have HKK : Hid (∀ w' : World, Below w2.heap.size w2 w' → (Below w2.heap.size w2 w' ∧ w'.cell? ⟨w.heap.size, 0, none⟩ = some (.bool rq) ∧ w'.cell? ⟨w.heap.size, 1, none⟩ = some (.string mt) ∧ w'.cell? ⟨w.heap.size, 2, none⟩ = some (.string t) ∧ w'.cell? ⟨w.heap.size, 3, none⟩ = some (.int .i64 st) ∧ w'.cell? ⟨w.heap.size, 4, none⟩ = some (.string rs) ∧ w'.cell? ⟨w.heap.size, 5, none⟩ = some (.int .i64 mn) ∧ w'.cell? ⟨w.heap.size, 6, none⟩ = some (.slice A n c) ∧ w'.cell? ⟨w.heap.size, 7, none⟩ = some (.int .i64 fr) ∧ w'.cell? ⟨w.heap.size, 8, none⟩ = some (.int .i64 ln) ∧ w'.cell? ⟨w.heap.size, 9, none⟩ = some (.string host) ∧ w'.cell? ⟨w.heap.size, 10, none⟩ = some (.bool cl) ∧ w'.cell? ⟨w.heap.size, 11, none⟩ = some (.int .i64 mi))) := Lib.hid (fun w' hB => by
    have a0 := HV2.out.below_all hB
    exact ⟨hB, a0.cell (j := 0) rfl, a0.cell (j := 1) rfl, a0.cell (j := 2) rfl, a0.cell (j := 3) rfl, a0.cell (j := 4) rfl, a0.cell (j := 5) rfl, a0.cell (j := 6) rfl, a0.cell (j := 7) rfl, a0.cell (j := 8) rfl, a0.cell (j := 9) rfl, a0.cell (j := 10) rfl, a0.cell (j := 11) rfl⟩)
  clear hb2
  go_cut [3, 4] (fun v3 v4 wx => (v4 = .int .i64 (E : Int) ∧ Hold wx w2.heap.size ⟨q0, q1, q2, q3, q4, q5, R2⟩ v3) ∧ Below w2.heap.size w2 wx)
  case first =>
    refine wp_region_held_drew (S := (fun w' => Below w2.heap.size w2 w' ∧ w'.cell? ⟨w.heap.size, 0, none⟩ = some (.bool rq) ∧ w'.cell? ⟨w.heap.size, 1, none⟩ = some (.string mt) ∧ w'.cell? ⟨w.heap.size, 2, none⟩ = some (.string t) ∧ w'.cell? ⟨w.heap.size, 3, none⟩ = some (.int .i64 st) ∧ w'.cell? ⟨w.heap.size, 4, none⟩ = some (.string rs) ∧ w'.cell? ⟨w.heap.size, 5, none⟩ = some (.int .i64 mn) ∧ w'.cell? ⟨w.heap.size, 6, none⟩ = some (.slice A n c) ∧ w'.cell? ⟨w.heap.size, 7, none⟩ = some (.int .i64 fr) ∧ w'.cell? ⟨w.heap.size, 8, none⟩ = some (.int .i64 ln) ∧ w'.cell? ⟨w.heap.size, 9, none⟩ = some (.string host) ∧ w'.cell? ⟨w.heap.size, 10, none⟩ = some (.bool cl) ∧ w'.cell? ⟨w.heap.size, 11, none⟩ = some (.int .i64 mi))) (by as_aux_lemma => kernel_rfl) ?_ (fun hHeld => ?_)
    · exact HKK.out _ ((Below.refl _ _).drew)
    refine wpAnyH_take (i := 0) (v := ?_) (by simp only [List.getElem?_toArray, List.getElem?_cons_zero]; exact rfl) (by as_aux_lemma => kernel_rfl) (by as_aux_lemma => kernel_rfl) (by as_aux_lemma => kernel_rfl) (by exact fun _ _ _ h => h) (Or.inl ⟨by rfl, ?_⟩) (by assumption) ?_
    rotate_left
    · intro w hSw
      (try dsimp only at hSw)
      go_simp
      try with_reducible rfl
    (try simp only [Act.put, List.setIfInBounds_toArray, List.set_cons_zero, List.set_cons_succ])
    refine wpAnyH_take (i := 1) (v := ?_) (by simp only [List.getElem?_toArray, List.getElem?_cons_succ, List.getElem?_cons_zero]; exact rfl) (by as_aux_lemma => kernel_rfl) (by as_aux_lemma => kernel_rfl) (by as_aux_lemma => kernel_rfl) (by exact fun _ _ _ h => h) (Or.inl ⟨by rfl, ?_⟩) (by assumption) ?_
    rotate_left
    · intro w hSw
      (try dsimp only at hSw)
      go_simp
      try with_reducible rfl
    (try simp only [Act.put, List.setIfInBounds_toArray, List.set_cons_zero, List.set_cons_succ])
    refine wpAnyH_take (i := 3) (v := ?_) (by simp only [List.getElem?_toArray, List.getElem?_cons_succ, List.getElem?_cons_zero]; exact rfl) (by as_aux_lemma => kernel_rfl) (by as_aux_lemma => kernel_rfl) (by as_aux_lemma => kernel_rfl) (by exact fun _ _ _ h => h) (Or.inl ⟨by rfl, ?_⟩) (by assumption) ?_
    rotate_left
    · intro w hSw
      (try dsimp only at hSw)
      go_simp
      try with_reducible rfl
    (try simp only [Act.put, List.setIfInBounds_toArray, List.set_cons_zero, List.set_cons_succ])
    refine wpAnyH_take (i := 4) (v := ?_) (by simp only [List.getElem?_toArray, List.getElem?_cons_succ, List.getElem?_cons_zero]; exact rfl) (by as_aux_lemma => kernel_rfl) (by as_aux_lemma => kernel_rfl) (by as_aux_lemma => kernel_rfl) (by exact fun _ _ _ h => h) (Or.inl ⟨by rfl, ?_⟩) (by assumption) ?_
    rotate_left
    · intro w hSw
      (try dsimp only at hSw)
      go_simp
      try with_reducible rfl
    (try simp only [Act.put, List.setIfInBounds_toArray, List.set_cons_zero, List.set_cons_succ])
    refine wpAnyH_take (i := 5) (v := ?_) (by simp only [List.getElem?_toArray, List.getElem?_cons_succ, List.getElem?_cons_zero]; exact rfl) (by as_aux_lemma => kernel_rfl) (by as_aux_lemma => kernel_rfl) (by as_aux_lemma => kernel_rfl) (by exact fun _ _ _ h => h) (Or.inl ⟨by rfl, ?_⟩) (by assumption) ?_
    rotate_left
    · intro w hSw
      (try dsimp only at hSw)
      go_simp
      try with_reducible rfl
    (try simp only [Act.put, List.setIfInBounds_toArray, List.set_cons_zero, List.set_cons_succ])
    refine wpAnyH_take (i := 6) (v := ?_) (by simp only [List.getElem?_toArray, List.getElem?_cons_succ, List.getElem?_cons_zero]; exact rfl) (by as_aux_lemma => kernel_rfl) (by as_aux_lemma => kernel_rfl) (by as_aux_lemma => kernel_rfl) (by exact fun _ _ _ h => h) (Or.inl ⟨by rfl, ?_⟩) (by assumption) ?_
    rotate_left
    · intro w hSw
      (try dsimp only at hSw)
      go_simp
      try with_reducible rfl
    (try simp only [Act.put, List.setIfInBounds_toArray, List.set_cons_zero, List.set_cons_succ])
    refine wpAnyH_take (i := 7) (v := ?_) (by simp only [List.getElem?_toArray, List.getElem?_cons_succ, List.getElem?_cons_zero]; exact rfl) (by as_aux_lemma => kernel_rfl) (by as_aux_lemma => kernel_rfl) (by as_aux_lemma => kernel_rfl) (by exact fun _ _ _ h => h) (Or.inl ⟨by rfl, ?_⟩) (by assumption) ?_
    rotate_left
    · intro w hSw
      (try dsimp only at hSw)
      go_simp
      try with_reducible rfl
    (try simp only [Act.put, List.setIfInBounds_toArray, List.set_cons_zero, List.set_cons_succ])
    refine wpAnyH_take (i := 8) (v := ?_) (by simp only [List.getElem?_toArray, List.getElem?_cons_succ, List.getElem?_cons_zero]; exact rfl) (by as_aux_lemma => kernel_rfl) (by as_aux_lemma => kernel_rfl) (by as_aux_lemma => kernel_rfl) (by exact fun _ _ _ h => h) (Or.inl ⟨by rfl, ?_⟩) (by assumption) ?_
    rotate_left
    · intro w hSw
      (try dsimp only at hSw)
      go_simp
      try with_reducible rfl
    (try simp only [Act.put, List.setIfInBounds_toArray, List.set_cons_zero, List.set_cons_succ])
    refine wpAnyH_ready (rs := [2, 13]) (by as_aux_lemma => kernel_rfl) (by simp) ?_
    refine AllReadyH.cons (by simp only [List.getElem?_toArray, List.getElem?_cons_succ, List.getElem?_cons_zero]; exact rfl) (fun K hK => ?_) ?_
    · go_simp
      (go_at_call 13; refine (HL.out _ (Held.rd (by assumption) HR2.out)).mono ?_; rintro _ wx ⟨gz, oz, cx, rfl, hcx, hrx, hl⟩; have hq := Held.trans (W0 := w2) (by assumption) hl; have rl := Lib.hid (lent_rd hrx); have hqx := Lib.hid hq; clear hrx)
      refine hK.out _ _ ?_ (fun hHeld => ?_)
      · (try dsimp only)
        exact HKK.out _ hq
      clear hK K
      (try simp only [Act.put, List.setIfInBounds_toArray, List.set_cons_zero, List.set_cons_succ])
      refine wpAnyH_ready (rs := [9, 13]) (by as_aux_lemma => kernel_rfl) (by simp) ?_
      refine AllReadyH.cons (by simp only [List.getElem?_toArray, List.getElem?_cons_succ, List.getElem?_cons_zero]; exact rfl) (fun K hK => ?_) ?_
      · go_simp
        (go_at_call 46; refine (HRQ.out (some ⟨gz, oz, none⟩) cx _ (Held.sh (by assumption) HS2.out) (Held.tab (by assumption) HT2.out) (fun e => by cases e) rl.out).mono ?_; rintro _ wy ⟨v, rfl, hrow, hl⟩; have hq := Held.trans (W0 := w2) (by assumption) hl; obtain ⟨A5, c5, rfl, _, _, _, _⟩ := hrow.form; have hrw := Lib.hid hrow; clear hrow)
        refine hK.out _ _ ?_ (fun hHeld => ?_)
        · (try dsimp only)
          exact HKK.out _ hq
        clear hK K
        (try simp only [Act.put, List.setIfInBounds_toArray, List.set_cons_zero, List.set_cons_succ])
        refine wpAnyH_take (i := 10) (v := ?_) (by simp only [List.getElem?_toArray, List.getElem?_cons_succ, List.getElem?_cons_zero]; exact rfl) (by as_aux_lemma => kernel_rfl) (by as_aux_lemma => kernel_rfl) (by as_aux_lemma => kernel_rfl) (by exact fun _ _ _ h => h) (Or.inl ⟨by rfl, ?_⟩) (by assumption) ?_
        rotate_left
        · intro w hSw
          (try dsimp only at hSw)
          go_simp
          try with_reducible rfl
        (try simp only [Act.put, List.setIfInBounds_toArray, List.set_cons_zero, List.set_cons_succ])
        refine wpAnyH_take (i := 11) (v := ?_) (by simp only [List.getElem?_toArray, List.getElem?_cons_succ, List.getElem?_cons_zero]; exact rfl) (by as_aux_lemma => kernel_rfl) (by as_aux_lemma => kernel_rfl) (by as_aux_lemma => kernel_rfl) (by exact fun _ _ _ h => h) (Or.inl ⟨by rfl, ?_⟩) (by assumption) ?_
        rotate_left
        · intro w hSw
          (try dsimp only at hSw)
          go_simp
          try with_reducible rfl
        (try simp only [Act.put, List.setIfInBounds_toArray, List.set_cons_zero, List.set_cons_succ])
        refine wpAnyH_take (i := 12) (v := ?_) (by simp only [List.getElem?_toArray, List.getElem?_cons_succ, List.getElem?_cons_zero]; exact rfl) (by as_aux_lemma => kernel_rfl) (by as_aux_lemma => kernel_rfl) (by as_aux_lemma => kernel_rfl) (by exact fun _ _ _ h => h) (Or.inl ⟨by rfl, ?_⟩) (by assumption) ?_
        rotate_left
        · intro w hSw
          (try dsimp only at hSw)
          go_simp
          try with_reducible rfl
        (try simp only [Act.put, List.setIfInBounds_toArray, List.set_cons_zero, List.set_cons_succ])
        refine wpAnyH_ready (rs := [13]) (by as_aux_lemma => kernel_rfl) (by simp) ?_
        refine AllReadyH.cons (by simp only [List.getElem?_toArray, List.getElem?_cons_succ, List.getElem?_cons_zero]; exact rfl) (fun K hK => ?_) AllReadyH.nil
        go_simp
        refine hK.out _ _ ?_ (fun hHeld => ?_)
        · (try dsimp only)
          exact HKK.out _ (Below.alloc hq hq.size _)
        clear hK K
        (try simp only [Act.put, List.setIfInBounds_toArray, List.set_cons_zero, List.set_cons_succ])
        refine wpAnyH_ready (rs := [14]) (by as_aux_lemma => kernel_rfl) (by simp) ?_
        refine AllReadyH.cons (by simp only [List.getElem?_toArray, List.getElem?_cons_succ, List.getElem?_cons_zero]; exact rfl) (fun K hK => ?_) AllReadyH.nil
        go_simp
        refine hK.out _ _ ?_ (fun hHeld => ?_)
        · (try dsimp only)
          exact HKK.out _ (Below.alloc hq hq.size _)
        clear hK K
        refine wpAnyH_take (i := 15) (v := ?_) (by simp only [List.getElem?_toArray, List.getElem?_cons_succ, List.getElem?_cons_zero]; exact rfl) (by as_aux_lemma => kernel_rfl) (by as_aux_lemma => kernel_rfl) (by as_aux_lemma => kernel_rfl) (by exact fun _ _ _ h => h) (Or.inl ⟨by rfl, ?_⟩) (by assumption) ?_
        rotate_left
        · intro w hSw
          (try dsimp only at hSw)
          go_simp
          try with_reducible rfl
        (try simp only [Act.put, List.setIfInBounds_toArray, List.set_cons_zero, List.set_cons_succ])
        refine wpAnyH_done (by as_aux_lemma => kernel_rfl) ?_ _
        go_wp2
        go_meet
        exact ⟨⟨rfl, Hold.new (R := ⟨q0, q1, q2, q3, q4, q5, R2⟩) hq.size hrw.out⟩, Below.alloc hq hq.size _⟩
      · refine AllReadyH.cons (by simp only [List.getElem?_toArray, List.getElem?_cons_succ, List.getElem?_cons_zero]; exact rfl) (fun K hK => ?_) AllReadyH.nil
        go_simp
        refine hK.out _ _ ?_ (fun hHeld => ?_)
        · (try dsimp only)
          exact HKK.out _ (Below.alloc hq hq.size _)
        clear hK K
        (try simp only [Act.put, List.setIfInBounds_toArray, List.set_cons_zero, List.set_cons_succ])
        refine wpAnyH_ready (rs := [9]) (by as_aux_lemma => kernel_rfl) (by simp) ?_
        refine AllReadyH.cons (by simp only [List.getElem?_toArray, List.getElem?_cons_succ, List.getElem?_cons_zero]; exact rfl) (fun K hK => ?_) AllReadyH.nil
        go_simp
        (go_at_call 46; refine (HRQ.out (some ⟨gz, oz, none⟩) cx _ (Held.sh (by assumption) HS2.out) (Held.tab (by assumption) HT2.out) (fun e => by cases e) (rl.out.keeps ((Below.refl _ _).alloc (Nat.le_refl _) _))).mono ?_; rintro _ wy ⟨v, rfl, hrow, hl⟩; have hq := Held.trans (W0 := w2) (by assumption) hl; obtain ⟨A5, c5, rfl, _, _, _, _⟩ := hrow.form; have hrw := Lib.hid hrow; clear hrow; have U := Lib.hid (Var.below_all (Var.new wx 24 [.bool false, .string ⟨#[]⟩, .string ⟨#[]⟩, .int .i64 0, .string ⟨#[]⟩, .int .i64 0, .slice none 0 0]) hl); have hub := hqx.out.size; have u0 := U.out.cell (j := 0) rfl; have u1 := U.out.cell (j := 1) rfl; have u2 := U.out.cell (j := 2) rfl; have u3 := U.out.cell (j := 3) rfl; have u4 := U.out.cell (j := 4) rfl; have u5 := U.out.cell (j := 5) rfl; have u6 := U.out.cell (j := 6) rfl; have y0 := U.out.frozen 0; have y1 := U.out.frozen 1; have y2 := U.out.frozen 2; have y3 := U.out.frozen 3; have y4 := U.out.frozen 4; have y5 := U.out.frozen 5; have y6 := U.out.frozen 6)
        refine hK.out _ _ ?_ (fun hHeld => ?_)
        · (try dsimp only)
          exact HKK.out _ hq
        clear hK K
        (try simp only [Act.put, List.setIfInBounds_toArray, List.set_cons_zero, List.set_cons_succ])
        refine wpAnyH_take (i := 10) (v := ?_) (by simp only [List.getElem?_toArray, List.getElem?_cons_succ, List.getElem?_cons_zero]; exact rfl) (by as_aux_lemma => kernel_rfl) (by as_aux_lemma => kernel_rfl) (by as_aux_lemma => kernel_rfl) (by exact fun _ _ _ h => h) (Or.inl ⟨by rfl, ?_⟩) (by assumption) ?_
        rotate_left
        · intro w hSw
          (try dsimp only at hSw)
          go_simp
          try with_reducible rfl
        (try simp only [Act.put, List.setIfInBounds_toArray, List.set_cons_zero, List.set_cons_succ])
        refine wpAnyH_take (i := 11) (v := ?_) (by simp only [List.getElem?_toArray, List.getElem?_cons_succ, List.getElem?_cons_zero]; exact rfl) (by as_aux_lemma => kernel_rfl) (by as_aux_lemma => kernel_rfl) (by as_aux_lemma => kernel_rfl) (by exact fun _ _ _ h => h) (Or.inl ⟨by rfl, ?_⟩) (by assumption) ?_
        rotate_left
        · intro w hSw
          (try dsimp only at hSw)
          go_simp
          try with_reducible rfl
        (try simp only [Act.put, List.setIfInBounds_toArray, List.set_cons_zero, List.set_cons_succ])
        refine wpAnyH_take (i := 12) (v := ?_) (by simp only [List.getElem?_toArray, List.getElem?_cons_succ, List.getElem?_cons_zero]; exact rfl) (by as_aux_lemma => kernel_rfl) (by as_aux_lemma => kernel_rfl) (by as_aux_lemma => kernel_rfl) (by exact fun _ _ _ h => h) (Or.inl ⟨by rfl, ?_⟩) (by assumption) ?_
        rotate_left
        · intro w hSw
          (try dsimp only at hSw)
          go_simp
          try with_reducible rfl
        (try simp only [Act.put, List.setIfInBounds_toArray, List.set_cons_zero, List.set_cons_succ])
        refine wpAnyH_ready (rs := [14]) (by as_aux_lemma => kernel_rfl) (by simp) ?_
        refine AllReadyH.cons (by simp only [List.getElem?_toArray, List.getElem?_cons_succ, List.getElem?_cons_zero]; exact rfl) (fun K hK => ?_) AllReadyH.nil
        go_simp
        refine hK.out _ _ ?_ (fun hHeld => ?_)
        · (try dsimp only)
          exact HKK.out _ (Below.set7 hq hub _ _ _ _ _ _ _)
        clear hK K
        refine wpAnyH_take (i := 15) (v := ?_) (by simp only [List.getElem?_toArray, List.getElem?_cons_succ, List.getElem?_cons_zero]; exact rfl) (by as_aux_lemma => kernel_rfl) (by as_aux_lemma => kernel_rfl) (by as_aux_lemma => kernel_rfl) (by exact fun _ _ _ h => h) (Or.inl ⟨by rfl, ?_⟩) (by assumption) ?_
        rotate_left
        · intro w hSw
          (try dsimp only at hSw)
          go_simp
          try with_reducible rfl
        (try simp only [Act.put, List.setIfInBounds_toArray, List.set_cons_zero, List.set_cons_succ])
        refine wpAnyH_done (by as_aux_lemma => kernel_rfl) ?_ _
        have hbb2 : wx.heap.size < (wx.alloc (.cells #[.bool false, .string ⟨#[]⟩, .string ⟨#[]⟩, .int .i64 0, .string ⟨#[]⟩, .int .i64 0, .slice none 0 0] 24)).heap.size := by rw [heap_alloc_size]; omega
        clear u0 u1 u2 u3 u4 u5 u6 y0 y1 y2 y3 y4 y5 y6
        go_wp2
        go_meet
        exact ⟨⟨rfl, Hold.put (R := ⟨q0, q1, q2, q3, q4, q5, R2⟩) hub hbb2 U.out hrw.out⟩, Below.set7 hq hub _ _ _ _ _ _ _⟩
    · refine AllReadyH.cons (by simp only [List.getElem?_toArray, List.getElem?_cons_succ, List.getElem?_cons_zero]; exact rfl) (fun K hK => ?_) AllReadyH.nil
      go_simp
      refine hK.out _ _ ?_ (fun hHeld => ?_)
      · (try dsimp only)
        (first | with_reducible exact HKK.out _ hq | with_reducible exact HKK.out _ ((Below.refl _ _).drew) | with_reducible exact HKK.out _ (((Below.refl _ _).alloc (Nat.le_refl _) _).drew) | with_reducible exact HKK.out _ (((Below.refl _ _).drew).alloc (Nat.le_refl _) _))
      clear hK K
      (try simp only [Act.put, List.setIfInBounds_toArray, List.set_cons_zero, List.set_cons_succ])
      refine wpAnyH_ready (rs := [2]) (by as_aux_lemma => kernel_rfl) (by simp) ?_
      refine AllReadyH.cons (by simp only [List.getElem?_toArray, List.getElem?_cons_succ, List.getElem?_cons_zero]; exact rfl) (fun K hK => ?_) AllReadyH.nil
      go_simp
      (go_at_call 13; refine (HL.out _ (Held.rd (by assumption) HR2.out)).mono ?_; rintro _ wx ⟨gz, oz, cx, rfl, hcx, hrx, hl⟩; have hq := Held.trans (W0 := w2) (by assumption) hl; have rl := Lib.hid (lent_rd hrx); have hqx := Lib.hid hq; clear hrx; have U0 : Hid (Var wx w2.heap.size 24 [.bool false, .string ⟨#[]⟩, .string ⟨#[]⟩, .int .i64 0, .string ⟨#[]⟩, .int .i64 0, .slice none 0 0]) := Lib.hid (by first | exact Var.below_all (Var.drew (Var.new w2 24 [.bool false, .string ⟨#[]⟩, .string ⟨#[]⟩, .int .i64 0, .string ⟨#[]⟩, .int .i64 0, .slice none 0 0])) hl | exact Var.below_all (Var.new (World.drew w2) 24 [.bool false, .string ⟨#[]⟩, .string ⟨#[]⟩, .int .i64 0, .string ⟨#[]⟩, .int .i64 0, .slice none 0 0]) hl))
      refine hK.out _ _ ?_ (fun hHeld => ?_)
      · (try dsimp only)
        exact HKK.out _ hq
      clear hK K
      (try simp only [Act.put, List.setIfInBounds_toArray, List.set_cons_zero, List.set_cons_succ])
      refine wpAnyH_ready (rs := [9]) (by as_aux_lemma => kernel_rfl) (by simp) ?_
      refine AllReadyH.cons (by simp only [List.getElem?_toArray, List.getElem?_cons_succ, List.getElem?_cons_zero]; exact rfl) (fun K hK => ?_) AllReadyH.nil
      go_simp
      (go_at_call 46; refine (HRQ.out (some ⟨gz, oz, none⟩) cx _ (Held.sh (by assumption) HS2.out) (Held.tab (by assumption) HT2.out) (fun e => by cases e) rl.out).mono ?_; rintro _ wy ⟨v, rfl, hrow, hl⟩; have hq := Held.trans (W0 := w2) (by assumption) hl; obtain ⟨A5, c5, rfl, _, _, _, _⟩ := hrow.form; have hrw := Lib.hid hrow; clear hrow; have U := Lib.hid (Var.below_all U0.out hl); have hub := Nat.le_refl w2.heap.size; have u0 := U.out.cell (j := 0) rfl; have u1 := U.out.cell (j := 1) rfl; have u2 := U.out.cell (j := 2) rfl; have u3 := U.out.cell (j := 3) rfl; have u4 := U.out.cell (j := 4) rfl; have u5 := U.out.cell (j := 5) rfl; have u6 := U.out.cell (j := 6) rfl; have y0 := U.out.frozen 0; have y1 := U.out.frozen 1; have y2 := U.out.frozen 2; have y3 := U.out.frozen 3; have y4 := U.out.frozen 4; have y5 := U.out.frozen 5; have y6 := U.out.frozen 6)
      refine hK.out _ _ ?_ (fun hHeld => ?_)
      · (try dsimp only)
        exact HKK.out _ hq
      clear hK K
      (try simp only [Act.put, List.setIfInBounds_toArray, List.set_cons_zero, List.set_cons_succ])
      refine wpAnyH_take (i := 10) (v := ?_) (by simp only [List.getElem?_toArray, List.getElem?_cons_succ, List.getElem?_cons_zero]; exact rfl) (by as_aux_lemma => kernel_rfl) (by as_aux_lemma => kernel_rfl) (by as_aux_lemma => kernel_rfl) (by exact fun _ _ _ h => h) (Or.inl ⟨by rfl, ?_⟩) (by assumption) ?_
      rotate_left
      · intro w hSw
        (try dsimp only at hSw)
        go_simp
        try with_reducible rfl
      (try simp only [Act.put, List.setIfInBounds_toArray, List.set_cons_zero, List.set_cons_succ])
      refine wpAnyH_take (i := 11) (v := ?_) (by simp only [List.getElem?_toArray, List.getElem?_cons_succ, List.getElem?_cons_zero]; exact rfl) (by as_aux_lemma => kernel_rfl) (by as_aux_lemma => kernel_rfl) (by as_aux_lemma => kernel_rfl) (by exact fun _ _ _ h => h) (Or.inl ⟨by rfl, ?_⟩) (by assumption) ?_
      rotate_left
      · intro w hSw
        (try dsimp only at hSw)
        go_simp
        try with_reducible rfl
      (try simp only [Act.put, List.setIfInBounds_toArray, List.set_cons_zero, List.set_cons_succ])
      refine wpAnyH_take (i := 12) (v := ?_) (by simp only [List.getElem?_toArray, List.getElem?_cons_succ, List.getElem?_cons_zero]; exact rfl) (by as_aux_lemma => kernel_rfl) (by as_aux_lemma => kernel_rfl) (by as_aux_lemma => kernel_rfl) (by exact fun _ _ _ h => h) (Or.inl ⟨by rfl, ?_⟩) (by assumption) ?_
      rotate_left
      · intro w hSw
        (try dsimp only at hSw)
        go_simp
        try with_reducible rfl
      (try simp only [Act.put, List.setIfInBounds_toArray, List.set_cons_zero, List.set_cons_succ])
      refine wpAnyH_ready (rs := [14]) (by as_aux_lemma => kernel_rfl) (by simp) ?_
      refine AllReadyH.cons (by simp only [List.getElem?_toArray, List.getElem?_cons_succ, List.getElem?_cons_zero]; exact rfl) (fun K hK => ?_) AllReadyH.nil
      go_simp
      refine hK.out _ _ ?_ (fun hHeld => ?_)
      · (try dsimp only)
        exact HKK.out _ (Below.set7 hq hub _ _ _ _ _ _ _)
      clear hK K
      refine wpAnyH_take (i := 15) (v := ?_) (by simp only [List.getElem?_toArray, List.getElem?_cons_succ, List.getElem?_cons_zero]; exact rfl) (by as_aux_lemma => kernel_rfl) (by as_aux_lemma => kernel_rfl) (by as_aux_lemma => kernel_rfl) (by exact fun _ _ _ h => h) (Or.inl ⟨by rfl, ?_⟩) (by assumption) ?_
      rotate_left
      · intro w hSw
        (try dsimp only at hSw)
        go_simp
        try with_reducible rfl
      (try simp only [Act.put, List.setIfInBounds_toArray, List.set_cons_zero, List.set_cons_succ])
      refine wpAnyH_done (by as_aux_lemma => kernel_rfl) ?_ _
      have hbb3 := U0.out.lt
      clear u0 u1 u2 u3 u4 u5 u6 y0 y1 y2 y3 y4 y5 y6
      go_wp2
      go_meet
      exact ⟨⟨rfl, Hold.put (R := ⟨q0, q1, q2, q3, q4, q5, R2⟩) hub hbb3 U.out hrw.out⟩, Below.set7 hq hub _ _ _ _ _ _ _⟩
  case rest =>
    obtain ⟨⟨rfl, hold⟩, hbc⟩ := hcut
    have HO := Lib.hid hold
    have HBC := Lib.hid hbc
    clear hold hbc
    obtain ⟨b3, A3, c3, rfl, hb3, hv3, hr3⟩ := HO.out
    have HQ3 := Lib.hid hv3
    have HS3 := Lib.hid (shaped_below HS2.out HBC.out)
    have HT3 := Lib.hid (HT2.out.below HBC.out)
    clear HO hb3
    go_upto_if 29 with (fail)
    go_cut [] (fun wx => Below wc.heap.size wc wx)
    case first =>
      by_cases he : E = 0
      · subst he
        obtain ⟨hq0, hok⟩ := reqP_ok HK.out.symm
        obtain ⟨g, l, hl, hp, hw, hR⟩ := ok_hd hok
        rw [hq0] at hp
        have hag := reqP_again HK.out.symm
        rw [hR] at hag
        unfold ofHd at hR
        injection hR with e0 e1 e2 e3 e4 e5 e6
        have hfew := parse_few hp
        subst e0 e1 e2 e3 e4 e5 e6
        dsimp only [hbC] at hv3 hr3
        rw [flB_len] at hv3 hr3
        have HV3 := Lib.hid hv3
        have HR3 := Lib.hid hr3
        have HRQ3 := Lib.hid (fun A c W h1 h2 h3 h4 => wRequest_twice hp hw hl hag A c W h1 h2 h3 h4 hln hhs)
        have HL3 := Lib.hid (fun W h => vlent_any g.rq ⟨g.m.toArray⟩ ⟨g.t.toArray⟩ (g.st : Int) ⟨g.rs.toArray⟩ (g.mn : Int) A3 g.fs.length c3 (flB g.fs) W (rd_none HR3.out) h (by omega))
        unfold headV at HL3
        have HVA := Lib.hid (HV2.out.below_all HBC.out)
        clear hv3 hr3 hp hw hag hok hq0 HK HQ3
        have HK5 : Hid (∀ w' : World, Below wc.heap.size wc w' → (Below wc.heap.size wc w' ∧ w'.cell? ⟨w.heap.size, 0, none⟩ = some (.bool rq) ∧ w'.cell? ⟨w.heap.size, 1, none⟩ = some (.string mt) ∧ w'.cell? ⟨w.heap.size, 2, none⟩ = some (.string t) ∧ w'.cell? ⟨w.heap.size, 3, none⟩ = some (.int .i64 st) ∧ w'.cell? ⟨w.heap.size, 4, none⟩ = some (.string rs) ∧ w'.cell? ⟨w.heap.size, 5, none⟩ = some (.int .i64 mn) ∧ w'.cell? ⟨w.heap.size, 6, none⟩ = some (.slice A n c) ∧ w'.cell? ⟨w.heap.size, 7, none⟩ = some (.int .i64 fr) ∧ w'.cell? ⟨w.heap.size, 8, none⟩ = some (.int .i64 ln) ∧ w'.cell? ⟨w.heap.size, 9, none⟩ = some (.string host) ∧ w'.cell? ⟨w.heap.size, 10, none⟩ = some (.bool cl) ∧ w'.cell? ⟨w.heap.size, 11, none⟩ = some (.int .i64 mi) ∧ w'.cell? ⟨b3, 0, none⟩ = some (.bool g.rq) ∧ w'.cell? ⟨b3, 1, none⟩ = some (.string ⟨g.m.toArray⟩) ∧ w'.cell? ⟨b3, 2, none⟩ = some (.string ⟨g.t.toArray⟩) ∧ w'.cell? ⟨b3, 3, none⟩ = some (.int .i64 (g.st : Int)) ∧ w'.cell? ⟨b3, 4, none⟩ = some (.string ⟨g.rs.toArray⟩) ∧ w'.cell? ⟨b3, 5, none⟩ = some (.int .i64 (g.mn : Int)) ∧ w'.cell? ⟨b3, 6, none⟩ = some (.slice A3 g.fs.length c3))) := Lib.hid (fun w' hB => by
          have a0 := HVA.out.below_all hB
          have a1 := HV3.out.below_all hB
          exact ⟨hB, a0.cell (j := 0) rfl, a0.cell (j := 1) rfl, a0.cell (j := 2) rfl, a0.cell (j := 3) rfl, a0.cell (j := 4) rfl, a0.cell (j := 5) rfl, a0.cell (j := 6) rfl, a0.cell (j := 7) rfl, a0.cell (j := 8) rfl, a0.cell (j := 9) rfl, a0.cell (j := 10) rfl, a0.cell (j := 11) rfl, a1.cell (j := 0) rfl, a1.cell (j := 1) rfl, a1.cell (j := 2) rfl, a1.cell (j := 3) rfl, a1.cell (j := 4) rfl, a1.cell (j := 5) rfl, a1.cell (j := 6) rfl⟩)
        go_upto_region 5 with (fail)
        go_cut [5, 6] (fun v5 v6 wx => (v6 = .int .i64 0 ∧ Hold wx wc.heap.size (ofHd g) v5) ∧ Below wc.heap.size wc wx)
        case first =>
          refine wp_region_held_drew (S := (fun w' => Below wc.heap.size wc w' ∧ w'.cell? ⟨w.heap.size, 0, none⟩ = some (.bool rq) ∧ w'.cell? ⟨w.heap.size, 1, none⟩ = some (.string mt) ∧ w'.cell? ⟨w.heap.size, 2, none⟩ = some (.string t) ∧ w'.cell? ⟨w.heap.size, 3, none⟩ = some (.int .i64 st) ∧ w'.cell? ⟨w.heap.size, 4, none⟩ = some (.string rs) ∧ w'.cell? ⟨w.heap.size, 5, none⟩ = some (.int .i64 mn) ∧ w'.cell? ⟨w.heap.size, 6, none⟩ = some (.slice A n c) ∧ w'.cell? ⟨w.heap.size, 7, none⟩ = some (.int .i64 fr) ∧ w'.cell? ⟨w.heap.size, 8, none⟩ = some (.int .i64 ln) ∧ w'.cell? ⟨w.heap.size, 9, none⟩ = some (.string host) ∧ w'.cell? ⟨w.heap.size, 10, none⟩ = some (.bool cl) ∧ w'.cell? ⟨w.heap.size, 11, none⟩ = some (.int .i64 mi) ∧ w'.cell? ⟨b3, 0, none⟩ = some (.bool g.rq) ∧ w'.cell? ⟨b3, 1, none⟩ = some (.string ⟨g.m.toArray⟩) ∧ w'.cell? ⟨b3, 2, none⟩ = some (.string ⟨g.t.toArray⟩) ∧ w'.cell? ⟨b3, 3, none⟩ = some (.int .i64 (g.st : Int)) ∧ w'.cell? ⟨b3, 4, none⟩ = some (.string ⟨g.rs.toArray⟩) ∧ w'.cell? ⟨b3, 5, none⟩ = some (.int .i64 (g.mn : Int)) ∧ w'.cell? ⟨b3, 6, none⟩ = some (.slice A3 g.fs.length c3))) (by as_aux_lemma => kernel_rfl) ?_ (fun hHeld => ?_)
          · exact HK5.out _ ((Below.refl _ _).drew)
          refine wpAnyH_take (i := 0) (v := ?_) (by simp only [List.getElem?_toArray, List.getElem?_cons_zero]; exact rfl) (by as_aux_lemma => kernel_rfl) (by as_aux_lemma => kernel_rfl) (by as_aux_lemma => kernel_rfl) (by exact fun _ _ _ h => h) (Or.inl ⟨by rfl, ?_⟩) (by assumption) ?_
          rotate_left
          · intro w hSw
            (try dsimp only at hSw)
            go_simp
            try with_reducible rfl
          (try simp only [Act.put, List.setIfInBounds_toArray, List.set_cons_zero, List.set_cons_succ])
          refine wpAnyH_take (i := 2) (v := ?_) (by simp only [List.getElem?_toArray, List.getElem?_cons_succ, List.getElem?_cons_zero]; exact rfl) (by as_aux_lemma => kernel_rfl) (by as_aux_lemma => kernel_rfl) (by as_aux_lemma => kernel_rfl) (by exact fun _ _ _ h => h) (Or.inl ⟨by rfl, ?_⟩) (by assumption) ?_
          rotate_left
          · intro w hSw
            (try dsimp only at hSw)
            go_simp
            try with_reducible rfl
          (try simp only [Act.put, List.setIfInBounds_toArray, List.set_cons_zero, List.set_cons_succ])
          refine wpAnyH_take (i := 3) (v := ?_) (by simp only [List.getElem?_toArray, List.getElem?_cons_succ, List.getElem?_cons_zero]; exact rfl) (by as_aux_lemma => kernel_rfl) (by as_aux_lemma => kernel_rfl) (by as_aux_lemma => kernel_rfl) (by exact fun _ _ _ h => h) (Or.inl ⟨by rfl, ?_⟩) (by assumption) ?_
          rotate_left
          · intro w hSw
            (try dsimp only at hSw)
            go_simp
            try with_reducible rfl
          (try simp only [Act.put, List.setIfInBounds_toArray, List.set_cons_zero, List.set_cons_succ])
          refine wpAnyH_take (i := 4) (v := ?_) (by simp only [List.getElem?_toArray, List.getElem?_cons_succ, List.getElem?_cons_zero]; exact rfl) (by as_aux_lemma => kernel_rfl) (by as_aux_lemma => kernel_rfl) (by as_aux_lemma => kernel_rfl) (by exact fun _ _ _ h => h) (Or.inl ⟨by rfl, ?_⟩) (by assumption) ?_
          rotate_left
          · intro w hSw
            (try dsimp only at hSw)
            go_simp
            try with_reducible rfl
          (try simp only [Act.put, List.setIfInBounds_toArray, List.set_cons_zero, List.set_cons_succ])
          refine wpAnyH_take (i := 5) (v := ?_) (by simp only [List.getElem?_toArray, List.getElem?_cons_succ, List.getElem?_cons_zero]; exact rfl) (by as_aux_lemma => kernel_rfl) (by as_aux_lemma => kernel_rfl) (by as_aux_lemma => kernel_rfl) (by exact fun _ _ _ h => h) (Or.inl ⟨by rfl, ?_⟩) (by assumption) ?_
          rotate_left
          · intro w hSw
            (try dsimp only at hSw)
            go_simp
            try with_reducible rfl
          (try simp only [Act.put, List.setIfInBounds_toArray, List.set_cons_zero, List.set_cons_succ])
          refine wpAnyH_take (i := 6) (v := ?_) (by simp only [List.getElem?_toArray, List.getElem?_cons_succ, List.getElem?_cons_zero]; exact rfl) (by as_aux_lemma => kernel_rfl) (by as_aux_lemma => kernel_rfl) (by as_aux_lemma => kernel_rfl) (by exact fun _ _ _ h => h) (Or.inl ⟨by rfl, ?_⟩) (by assumption) ?_
          rotate_left
          · intro w hSw
            (try dsimp only at hSw)
            go_simp
            try with_reducible rfl
          (try simp only [Act.put, List.setIfInBounds_toArray, List.set_cons_zero, List.set_cons_succ])
          refine wpAnyH_take (i := 7) (v := ?_) (by simp only [List.getElem?_toArray, List.getElem?_cons_succ, List.getElem?_cons_zero]; exact rfl) (by as_aux_lemma => kernel_rfl) (by as_aux_lemma => kernel_rfl) (by as_aux_lemma => kernel_rfl) (by exact fun _ _ _ h => h) (Or.inl ⟨by rfl, ?_⟩) (by assumption) ?_
          rotate_left
          · intro w hSw
            (try dsimp only at hSw)
            go_simp
            try with_reducible rfl
          (try simp only [Act.put, List.setIfInBounds_toArray, List.set_cons_zero, List.set_cons_succ])
          refine wpAnyH_ready (rs := [1, 12]) (by as_aux_lemma => kernel_rfl) (by simp) ?_
          refine AllReadyH.cons (by simp only [List.getElem?_toArray, List.getElem?_cons_succ, List.getElem?_cons_zero]; exact rfl) (fun K hK => ?_) ?_
          · go_simp
            (go_at_call 13; refine (HL3.out _ (Held.rd (by assumption) HR3.out)).mono ?_; rintro _ wx ⟨gz, oz, cx, rfl, hcx, hrx, hl⟩; have hq := Held.trans (W0 := wc) (by assumption) hl; have rl := Lib.hid (lent_rd hrx); have hqx := Lib.hid hq; clear hrx)
            refine hK.out _ _ ?_ (fun hHeld => ?_)
            · (try dsimp only)
              exact HK5.out _ hq
            clear hK K
            (try simp only [Act.put, List.setIfInBounds_toArray, List.set_cons_zero, List.set_cons_succ])
            refine wpAnyH_ready (rs := [8, 12]) (by as_aux_lemma => kernel_rfl) (by simp) ?_
            refine AllReadyH.cons (by simp only [List.getElem?_toArray, List.getElem?_cons_succ, List.getElem?_cons_zero]; exact rfl) (fun K hK => ?_) ?_
            · go_simp
              (go_at_call 46; refine (HRQ3.out (some ⟨gz, oz, none⟩) cx _ (Held.sh (by assumption) HS3.out) (Held.tab (by assumption) HT3.out) (fun e => by cases e) rl.out).mono ?_; rintro _ wy ⟨v, rfl, hrow, hl⟩; have hq := Held.trans (W0 := wc) (by assumption) hl; obtain ⟨A5, c5, rfl, _, _, _, _⟩ := hrow.form; have hrw := Lib.hid hrow; clear hrow)
              refine hK.out _ _ ?_ (fun hHeld => ?_)
              · (try dsimp only)
                exact HK5.out _ hq
              clear hK K
              (try simp only [Act.put, List.setIfInBounds_toArray, List.set_cons_zero, List.set_cons_succ])
              refine wpAnyH_take (i := 9) (v := ?_) (by simp only [List.getElem?_toArray, List.getElem?_cons_succ, List.getElem?_cons_zero]; exact rfl) (by as_aux_lemma => kernel_rfl) (by as_aux_lemma => kernel_rfl) (by as_aux_lemma => kernel_rfl) (by exact fun _ _ _ h => h) (Or.inl ⟨by rfl, ?_⟩) (by assumption) ?_
              rotate_left
              · intro w hSw
                (try dsimp only at hSw)
                go_simp
                try with_reducible rfl
              (try simp only [Act.put, List.setIfInBounds_toArray, List.set_cons_zero, List.set_cons_succ])
              refine wpAnyH_take (i := 10) (v := ?_) (by simp only [List.getElem?_toArray, List.getElem?_cons_succ, List.getElem?_cons_zero]; exact rfl) (by as_aux_lemma => kernel_rfl) (by as_aux_lemma => kernel_rfl) (by as_aux_lemma => kernel_rfl) (by exact fun _ _ _ h => h) (Or.inl ⟨by rfl, ?_⟩) (by assumption) ?_
              rotate_left
              · intro w hSw
                (try dsimp only at hSw)
                go_simp
                try with_reducible rfl
              (try simp only [Act.put, List.setIfInBounds_toArray, List.set_cons_zero, List.set_cons_succ])
              refine wpAnyH_take (i := 11) (v := ?_) (by simp only [List.getElem?_toArray, List.getElem?_cons_succ, List.getElem?_cons_zero]; exact rfl) (by as_aux_lemma => kernel_rfl) (by as_aux_lemma => kernel_rfl) (by as_aux_lemma => kernel_rfl) (by exact fun _ _ _ h => h) (Or.inl ⟨by rfl, ?_⟩) (by assumption) ?_
              rotate_left
              · intro w hSw
                (try dsimp only at hSw)
                go_simp
                try with_reducible rfl
              (try simp only [Act.put, List.setIfInBounds_toArray, List.set_cons_zero, List.set_cons_succ])
              refine wpAnyH_ready (rs := [12]) (by as_aux_lemma => kernel_rfl) (by simp) ?_
              refine AllReadyH.cons (by simp only [List.getElem?_toArray, List.getElem?_cons_succ, List.getElem?_cons_zero]; exact rfl) (fun K hK => ?_) AllReadyH.nil
              go_simp
              refine hK.out _ _ ?_ (fun hHeld => ?_)
              · (try dsimp only)
                exact HK5.out _ (Below.alloc hq hq.size _)
              clear hK K
              (try simp only [Act.put, List.setIfInBounds_toArray, List.set_cons_zero, List.set_cons_succ])
              refine wpAnyH_ready (rs := [13]) (by as_aux_lemma => kernel_rfl) (by simp) ?_
              refine AllReadyH.cons (by simp only [List.getElem?_toArray, List.getElem?_cons_succ, List.getElem?_cons_zero]; exact rfl) (fun K hK => ?_) AllReadyH.nil
              go_simp
              refine hK.out _ _ ?_ (fun hHeld => ?_)
              · (try dsimp only)
                exact HK5.out _ (Below.alloc hq hq.size _)
              clear hK K
              refine wpAnyH_take (i := 14) (v := ?_) (by simp only [List.getElem?_toArray, List.getElem?_cons_succ, List.getElem?_cons_zero]; exact rfl) (by as_aux_lemma => kernel_rfl) (by as_aux_lemma => kernel_rfl) (by as_aux_lemma => kernel_rfl) (by exact fun _ _ _ h => h) (Or.inl ⟨by rfl, ?_⟩) (by assumption) ?_
              rotate_left
              · intro w hSw
                (try dsimp only at hSw)
                go_simp
                try with_reducible rfl
              (try simp only [Act.put, List.setIfInBounds_toArray, List.set_cons_zero, List.set_cons_succ])
              refine wpAnyH_done (by as_aux_lemma => kernel_rfl) ?_ _
              go_wp2
              go_meet
              exact ⟨⟨rfl, Hold.new (R := ofHd g) hq.size hrw.out⟩, Below.alloc hq hq.size _⟩
            · refine AllReadyH.cons (by simp only [List.getElem?_toArray, List.getElem?_cons_succ, List.getElem?_cons_zero]; exact rfl) (fun K hK => ?_) AllReadyH.nil
              go_simp
              refine hK.out _ _ ?_ (fun hHeld => ?_)
              · (try dsimp only)
                exact HK5.out _ (Below.alloc hq hq.size _)
              clear hK K
              (try simp only [Act.put, List.setIfInBounds_toArray, List.set_cons_zero, List.set_cons_succ])
              refine wpAnyH_ready (rs := [8]) (by as_aux_lemma => kernel_rfl) (by simp) ?_
              refine AllReadyH.cons (by simp only [List.getElem?_toArray, List.getElem?_cons_succ, List.getElem?_cons_zero]; exact rfl) (fun K hK => ?_) AllReadyH.nil
              go_simp
              (go_at_call 46; refine (HRQ3.out (some ⟨gz, oz, none⟩) cx _ (Held.sh (by assumption) HS3.out) (Held.tab (by assumption) HT3.out) (fun e => by cases e) (rl.out.keeps ((Below.refl _ _).alloc (Nat.le_refl _) _))).mono ?_; rintro _ wy ⟨v, rfl, hrow, hl⟩; have hq := Held.trans (W0 := wc) (by assumption) hl; obtain ⟨A5, c5, rfl, _, _, _, _⟩ := hrow.form; have hrw := Lib.hid hrow; clear hrow; have U := Lib.hid (Var.below_all (Var.new wx 24 [.bool false, .string ⟨#[]⟩, .string ⟨#[]⟩, .int .i64 0, .string ⟨#[]⟩, .int .i64 0, .slice none 0 0]) hl); have hub := hqx.out.size; have u0 := U.out.cell (j := 0) rfl; have u1 := U.out.cell (j := 1) rfl; have u2 := U.out.cell (j := 2) rfl; have u3 := U.out.cell (j := 3) rfl; have u4 := U.out.cell (j := 4) rfl; have u5 := U.out.cell (j := 5) rfl; have u6 := U.out.cell (j := 6) rfl; have y0 := U.out.frozen 0; have y1 := U.out.frozen 1; have y2 := U.out.frozen 2; have y3 := U.out.frozen 3; have y4 := U.out.frozen 4; have y5 := U.out.frozen 5; have y6 := U.out.frozen 6)
              refine hK.out _ _ ?_ (fun hHeld => ?_)
              · (try dsimp only)
                exact HK5.out _ hq
              clear hK K
              (try simp only [Act.put, List.setIfInBounds_toArray, List.set_cons_zero, List.set_cons_succ])
              refine wpAnyH_take (i := 9) (v := ?_) (by simp only [List.getElem?_toArray, List.getElem?_cons_succ, List.getElem?_cons_zero]; exact rfl) (by as_aux_lemma => kernel_rfl) (by as_aux_lemma => kernel_rfl) (by as_aux_lemma => kernel_rfl) (by exact fun _ _ _ h => h) (Or.inl ⟨by rfl, ?_⟩) (by assumption) ?_
              rotate_left
              · intro w hSw
                (try dsimp only at hSw)
                go_simp
                try with_reducible rfl
              (try simp only [Act.put, List.setIfInBounds_toArray, List.set_cons_zero, List.set_cons_succ])
              refine wpAnyH_take (i := 10) (v := ?_) (by simp only [List.getElem?_toArray, List.getElem?_cons_succ, List.getElem?_cons_zero]; exact rfl) (by as_aux_lemma => kernel_rfl) (by as_aux_lemma => kernel_rfl) (by as_aux_lemma => kernel_rfl) (by exact fun _ _ _ h => h) (Or.inl ⟨by rfl, ?_⟩) (by assumption) ?_
              rotate_left
              · intro w hSw
                (try dsimp only at hSw)
                go_simp
                try with_reducible rfl
              (try simp only [Act.put, List.setIfInBounds_toArray, List.set_cons_zero, List.set_cons_succ])
              refine wpAnyH_take (i := 11) (v := ?_) (by simp only [List.getElem?_toArray, List.getElem?_cons_succ, List.getElem?_cons_zero]; exact rfl) (by as_aux_lemma => kernel_rfl) (by as_aux_lemma => kernel_rfl) (by as_aux_lemma => kernel_rfl) (by exact fun _ _ _ h => h) (Or.inl ⟨by rfl, ?_⟩) (by assumption) ?_
              rotate_left
              · intro w hSw
                (try dsimp only at hSw)
                go_simp
                try with_reducible rfl
              (try simp only [Act.put, List.setIfInBounds_toArray, List.set_cons_zero, List.set_cons_succ])
              refine wpAnyH_ready (rs := [13]) (by as_aux_lemma => kernel_rfl) (by simp) ?_
              refine AllReadyH.cons (by simp only [List.getElem?_toArray, List.getElem?_cons_succ, List.getElem?_cons_zero]; exact rfl) (fun K hK => ?_) AllReadyH.nil
              go_simp
              refine hK.out _ _ ?_ (fun hHeld => ?_)
              · (try dsimp only)
                exact HK5.out _ (Below.set7 hq hub _ _ _ _ _ _ _)
              clear hK K
              refine wpAnyH_take (i := 14) (v := ?_) (by simp only [List.getElem?_toArray, List.getElem?_cons_succ, List.getElem?_cons_zero]; exact rfl) (by as_aux_lemma => kernel_rfl) (by as_aux_lemma => kernel_rfl) (by as_aux_lemma => kernel_rfl) (by exact fun _ _ _ h => h) (Or.inl ⟨by rfl, ?_⟩) (by assumption) ?_
              rotate_left
              · intro w hSw
                (try dsimp only at hSw)
                go_simp
                try with_reducible rfl
              (try simp only [Act.put, List.setIfInBounds_toArray, List.set_cons_zero, List.set_cons_succ])
              refine wpAnyH_done (by as_aux_lemma => kernel_rfl) ?_ _
              have hbb2 : wx.heap.size < (wx.alloc (.cells #[.bool false, .string ⟨#[]⟩, .string ⟨#[]⟩, .int .i64 0, .string ⟨#[]⟩, .int .i64 0, .slice none 0 0] 24)).heap.size := by rw [heap_alloc_size]; omega
              clear u0 u1 u2 u3 u4 u5 u6 y0 y1 y2 y3 y4 y5 y6
              go_wp2
              go_meet
              exact ⟨⟨rfl, Hold.put (R := ofHd g) hub hbb2 U.out hrw.out⟩, Below.set7 hq hub _ _ _ _ _ _ _⟩
          · refine AllReadyH.cons (by simp only [List.getElem?_toArray, List.getElem?_cons_succ, List.getElem?_cons_zero]; exact rfl) (fun K hK => ?_) AllReadyH.nil
            go_simp
            refine hK.out _ _ ?_ (fun hHeld => ?_)
            · (try dsimp only)
              (first | with_reducible exact HK5.out _ hq | with_reducible exact HK5.out _ ((Below.refl _ _).drew) | with_reducible exact HK5.out _ (((Below.refl _ _).alloc (Nat.le_refl _) _).drew) | with_reducible exact HK5.out _ (((Below.refl _ _).drew).alloc (Nat.le_refl _) _))
            clear hK K
            (try simp only [Act.put, List.setIfInBounds_toArray, List.set_cons_zero, List.set_cons_succ])
            refine wpAnyH_ready (rs := [1]) (by as_aux_lemma => kernel_rfl) (by simp) ?_
            refine AllReadyH.cons (by simp only [List.getElem?_toArray, List.getElem?_cons_succ, List.getElem?_cons_zero]; exact rfl) (fun K hK => ?_) AllReadyH.nil
            go_simp
            (go_at_call 13; refine (HL3.out _ (Held.rd (by assumption) HR3.out)).mono ?_; rintro _ wx ⟨gz, oz, cx, rfl, hcx, hrx, hl⟩; have hq := Held.trans (W0 := wc) (by assumption) hl; have rl := Lib.hid (lent_rd hrx); have hqx := Lib.hid hq; clear hrx; have U0 : Hid (Var wx wc.heap.size 24 [.bool false, .string ⟨#[]⟩, .string ⟨#[]⟩, .int .i64 0, .string ⟨#[]⟩, .int .i64 0, .slice none 0 0]) := Lib.hid (by first | exact Var.below_all (Var.drew (Var.new wc 24 [.bool false, .string ⟨#[]⟩, .string ⟨#[]⟩, .int .i64 0, .string ⟨#[]⟩, .int .i64 0, .slice none 0 0])) hl | exact Var.below_all (Var.new (World.drew wc) 24 [.bool false, .string ⟨#[]⟩, .string ⟨#[]⟩, .int .i64 0, .string ⟨#[]⟩, .int .i64 0, .slice none 0 0]) hl))
            refine hK.out _ _ ?_ (fun hHeld => ?_)
            · (try dsimp only)
              exact HK5.out _ hq
            clear hK K
            (try simp only [Act.put, List.setIfInBounds_toArray, List.set_cons_zero, List.set_cons_succ])
            refine wpAnyH_ready (rs := [8]) (by as_aux_lemma => kernel_rfl) (by simp) ?_
            refine AllReadyH.cons (by simp only [List.getElem?_toArray, List.getElem?_cons_succ, List.getElem?_cons_zero]; exact rfl) (fun K hK => ?_) AllReadyH.nil
            go_simp
            (go_at_call 46; refine (HRQ3.out (some ⟨gz, oz, none⟩) cx _ (Held.sh (by assumption) HS3.out) (Held.tab (by assumption) HT3.out) (fun e => by cases e) rl.out).mono ?_; rintro _ wy ⟨v, rfl, hrow, hl⟩; have hq := Held.trans (W0 := wc) (by assumption) hl; obtain ⟨A5, c5, rfl, _, _, _, _⟩ := hrow.form; have hrw := Lib.hid hrow; clear hrow; have U := Lib.hid (Var.below_all U0.out hl); have hub := Nat.le_refl wc.heap.size; have u0 := U.out.cell (j := 0) rfl; have u1 := U.out.cell (j := 1) rfl; have u2 := U.out.cell (j := 2) rfl; have u3 := U.out.cell (j := 3) rfl; have u4 := U.out.cell (j := 4) rfl; have u5 := U.out.cell (j := 5) rfl; have u6 := U.out.cell (j := 6) rfl; have y0 := U.out.frozen 0; have y1 := U.out.frozen 1; have y2 := U.out.frozen 2; have y3 := U.out.frozen 3; have y4 := U.out.frozen 4; have y5 := U.out.frozen 5; have y6 := U.out.frozen 6)
            refine hK.out _ _ ?_ (fun hHeld => ?_)
            · (try dsimp only)
              exact HK5.out _ hq
            clear hK K
            (try simp only [Act.put, List.setIfInBounds_toArray, List.set_cons_zero, List.set_cons_succ])
            refine wpAnyH_take (i := 9) (v := ?_) (by simp only [List.getElem?_toArray, List.getElem?_cons_succ, List.getElem?_cons_zero]; exact rfl) (by as_aux_lemma => kernel_rfl) (by as_aux_lemma => kernel_rfl) (by as_aux_lemma => kernel_rfl) (by exact fun _ _ _ h => h) (Or.inl ⟨by rfl, ?_⟩) (by assumption) ?_
            rotate_left
            · intro w hSw
              (try dsimp only at hSw)
              go_simp
              try with_reducible rfl
            (try simp only [Act.put, List.setIfInBounds_toArray, List.set_cons_zero, List.set_cons_succ])
            refine wpAnyH_take (i := 10) (v := ?_) (by simp only [List.getElem?_toArray, List.getElem?_cons_succ, List.getElem?_cons_zero]; exact rfl) (by as_aux_lemma => kernel_rfl) (by as_aux_lemma => kernel_rfl) (by as_aux_lemma => kernel_rfl) (by exact fun _ _ _ h => h) (Or.inl ⟨by rfl, ?_⟩) (by assumption) ?_
            rotate_left
            · intro w hSw
              (try dsimp only at hSw)
              go_simp
              try with_reducible rfl
            (try simp only [Act.put, List.setIfInBounds_toArray, List.set_cons_zero, List.set_cons_succ])
            refine wpAnyH_take (i := 11) (v := ?_) (by simp only [List.getElem?_toArray, List.getElem?_cons_succ, List.getElem?_cons_zero]; exact rfl) (by as_aux_lemma => kernel_rfl) (by as_aux_lemma => kernel_rfl) (by as_aux_lemma => kernel_rfl) (by exact fun _ _ _ h => h) (Or.inl ⟨by rfl, ?_⟩) (by assumption) ?_
            rotate_left
            · intro w hSw
              (try dsimp only at hSw)
              go_simp
              try with_reducible rfl
            (try simp only [Act.put, List.setIfInBounds_toArray, List.set_cons_zero, List.set_cons_succ])
            refine wpAnyH_ready (rs := [13]) (by as_aux_lemma => kernel_rfl) (by simp) ?_
            refine AllReadyH.cons (by simp only [List.getElem?_toArray, List.getElem?_cons_succ, List.getElem?_cons_zero]; exact rfl) (fun K hK => ?_) AllReadyH.nil
            go_simp
            refine hK.out _ _ ?_ (fun hHeld => ?_)
            · (try dsimp only)
              exact HK5.out _ (Below.set7 hq hub _ _ _ _ _ _ _)
            clear hK K
            refine wpAnyH_take (i := 14) (v := ?_) (by simp only [List.getElem?_toArray, List.getElem?_cons_succ, List.getElem?_cons_zero]; exact rfl) (by as_aux_lemma => kernel_rfl) (by as_aux_lemma => kernel_rfl) (by as_aux_lemma => kernel_rfl) (by exact fun _ _ _ h => h) (Or.inl ⟨by rfl, ?_⟩) (by assumption) ?_
            rotate_left
            · intro w hSw
              (try dsimp only at hSw)
              go_simp
              try with_reducible rfl
            (try simp only [Act.put, List.setIfInBounds_toArray, List.set_cons_zero, List.set_cons_succ])
            refine wpAnyH_done (by as_aux_lemma => kernel_rfl) ?_ _
            have hbb3 := U0.out.lt
            clear u0 u1 u2 u3 u4 u5 u6 y0 y1 y2 y3 y4 y5 y6
            go_wp2
            go_meet
            exact ⟨⟨rfl, Hold.put (R := ofHd g) hub hbb3 U.out hrw.out⟩, Below.set7 hq hub _ _ _ _ _ _ _⟩
        case rest =>
          obtain ⟨⟨rfl, b5, A5, c5, rfl, hb5, hv5, hr5⟩, hbc5⟩ := hcut
          dsimp only [hbC, ofHd] at hv5 hr5
          rw [flB_len] at hv5 hr5
          have HV5 := Lib.hid hv5
          have HW3 := Lib.hid (HV3.out.below_all hbc5)
          have HR5 := Lib.hid (HR3.out.keeps hbc5)
          have HB5 := Lib.hid hbc5
          have HE := Lib.hid (fun W h1 h2 => vsame_any g.rq ⟨g.m.toArray⟩ ⟨g.t.toArray⟩ (g.st : Int) ⟨g.rs.toArray⟩ (g.mn : Int) A3 A5 g.fs.length c3 c5 (flB g.fs) W h1 h2 (by omega))
          unfold headV at HE
          have HR6 := Lib.hid hr5
          clear hv5 hr5 hbc5 hb5
          go_wp2_with (first
            | (refine wpList_load_mid_g (by rfl) 24 (.tmp 3) rfl b3 0 rfl [.bool g.rq, .string ⟨g.m.toArray⟩, .string ⟨g.t.toArray⟩, .int .i64 (g.st : Int), .string ⟨g.rs.toArray⟩, .int .i64 (g.mn : Int), .slice A3 g.fs.length c3] _ HW3.out.range Tryd.underlying24 rfl (by kernel_rfl) ?_)
            | (refine wpList_load_mid_g (by rfl) 24 (.tmp 5) rfl b5 0 rfl [.bool g.rq, .string ⟨g.m.toArray⟩, .string ⟨g.t.toArray⟩, .int .i64 (g.st : Int), .string ⟨g.rs.toArray⟩, .int .i64 (g.mn : Int), .slice A5 g.fs.length c5] _ HV5.out.range Tryd.underlying24 rfl (by kernel_rfl) ?_)
            | (go_at_call 47; go_must (refine (HE.out _ HR5.out HR6.out).mono ?_; rintro _ w8 ⟨rfl, hb8⟩))
            | fail)
          go_meet
          exact HB5.out.trans (hb8.mono HB5.out.size)
      · have he' : ((E : Int) == 0) = false := by simp [he]
        clear hv3 hr3 HK HQ3
        go_wp2
        go_meet
        exact Below.refl _ _
    case rest =>
      have HBD := Lib.hid (HBC.out.trans (hcut.mono HBC.out.size))
      have hZ := HB2.out.trans (HBD.out.mono HB2.out.size)
      refine (show ∀ (a : Act) (w : World), Code.wp _ _ _ a w → _ from by assumption) _ _ ?_
      exact once_rsp rq mt t st rs mn A n c fs fr ln host cl mi w wc E b3 c3 A3 ⟨q0, q1, q2, q3, q4, q5, R2⟩ hZ (shaped_below HS2.out HBD.out) (HT2.out.below HBD.out) (HV2.out.below_all HBD.out) (HR2.out.keeps HBD.out) hA (HQ3.out.below_all hcut) (fun h => congrArg HB.fs (reqP_err HK.out.symm h)) hst hln hn hm hfz hfs hvs _ _ _ _ _ _ _ _ _ _ _ _ _ _ _ _ _ _ _ _ _ _ _ _ _ _ _ _ _ _ _ _ _ _ _ _ _ _ _ _ _ _ _ _ _ _ _ _ _ _ _ _ _ _ _ _ _ _ _ _ _ _ _ _ _ _ _ _ _ _ _ _ _ _ _ _ _ _ _ _ _ _ _ _ _ _ _ _ _ _ _ _ _ _ _ _ _ _ _ _ _ _ _ _ _ _
end Go.Proofs.YtabecgdaiakgiaaDoor
