/- head.Write: a head is written as 'writeP' says. Conditions: sizes, that the numbers are ints, the library's variables. -/
import Derived.Test.YtklmpadcfioefaaGreatDoorMX0
namespace Go.Proofs.YtklmpadcfioefaaGreatDoor
open Go.RowKit

theorem data_append (a b : ByteArray) : (a ++ b).data.toList = a.data.toList ++ b.data.toList := by simp
theorem writeP_2 (rq : Bool) (m t : ByteArray) (st : Int) (rs : ByteArray) (mn : Int) (fs : List Fl) {g : Hd} {e0 : Nat} (hp : parseP (textP (hiOf rq m t st rs mn fs)) rq = (g, e0)) :
    (writeP (hiOf rq m t st rs mn fs)).2 = if e0 ≠ 0 then e0 else if g.up = hiOf rq m t st rs mn fs then 0 else 220 := by
  have e : (hiOf rq m t st rs mn fs).rq = rq := rfl
  unfold writeP
  rw [e, hp]
  by_cases h0 : e0 = 0
  · simp only [h0, ne_eq, not_true_eq_false, if_false]
    by_cases h1 : g.up = hiOf rq m t st rs mn fs
    · rw [if_pos h1, if_pos h1]
    · rw [if_neg h1, if_neg h1]
  · simp only [ne_eq, h0, not_false_eq_true, if_true]
theorem cat_run (a b : ByteArray) (ha : a.size ≤ 16777216) (hb : b.size ≤ 16777216) : ∀ W, (Op.stringOp .add a b).run Tryz.prog W = .ok (.string (a ++ b)) W := fun W => run_string_add_sum W a b (by omega)
theorem itoa_str (k : Int) (w : World) (hk : isInt k) (ht : Tab w) : Calls Tryz.prog 64 #[.int .i64 k] w fun e w' => ∃ s : ByteArray, e = .returned (.string s) ∧ s.data.toList = Lib.itoa k ∧ s.size ≤ 21 ∧ Below w.heap.size w w' :=
  (itoa_any k w hk ht).mono fun _ _ ⟨he, hb⟩ => ⟨_, he, rfl, itoa_len hk, hb⟩

set_option maxHeartbeats 2000000 in
set_option maxRecDepth 100000 in
theorem hWrite_any (rq : Bool) (m t : ByteArray) (st : Int) (rs : ByteArray) (mn : Int) (A : Option Addr) (n c : Nat) (fs : List Fl) (w : World) (hsh : w.ShapedOpen Tryz.prog) (htab : Tab w) (hrd : Rd w w.heap.size 2 A n (fieldsV fs))
    (hst : isInt st) (hmn : isInt mn) (hn : n ≤ 2097152) (hm : m.size + t.size + rs.size ≤ 2097152) (hf : flSize fs ≤ 8388608) :
    Calls Tryz.prog 32 #[headV rq m t st rs mn (.slice A n c)] w (WritePost w (hiOf rq m t st rs mn fs)) := by
  have hlen : fs.length = n := by have := hrd.1; rw [fieldsV_len] at this; omega
  have htl := textP_len rq m t st rs mn fs hst hmn
  obtain ⟨g, e0, hp⟩ : ∃ g e0, parseP (textP (hiOf rq m t st rs mn fs)) rq = (g, e0) := ⟨_, _, rfl⟩
  have hfew := parse_few hp
  have HW : Hid ((writeP (hiOf rq m t st rs mn fs)).2 = if e0 ≠ 0 then e0 else if g.up = hiOf rq m t st rs mn fs then 0 else 220) := Lib.hid (writeP_2 rq m t st rs mn fs hp)
  have HP := Lib.hid hp
  have HEQ := Lib.hid (eqH_up g rq m t st rs mn fs)
  clear hp
  have HST := Lib.hid hst
  have HMN := Lib.hid hmn
  have HSH := Lib.hid hsh
  have hb1 : Below w.heap.size w (w.alloc (.cells #[.bool rq, .string m, .string t, .int .i64 st, .string rs, .int .i64 mn, .slice A n c] 52)) := (Below.refl _ _).alloc (Nat.le_refl _) _
  have hv1 := Var.new w 52 [.bool rq, .string m, .string t, .int .i64 st, .string rs, .int .i64 mn, .slice A n c]
  have HT1 := Lib.hid (htab.below hb1)
  have hz1 : (w.alloc (.cells #[.bool rq, .string m, .string t, .int .i64 st, .string rs, .int .i64 mn, .slice A n c] 52)).heap.size = w.heap.size + 1 := by simp
  clear hst hmn hsh htab
  unfold headV
  go_enter Tryz.func32, Tryz.ntmps32
  go_upto_region 3 with (first
    | (go_at_call 64; go_must (refine (itoa_str mn _ HMN.out HT1.out).mono ?_; rintro _ w2 ⟨sn, rfl, hsn, hsz, hb2⟩))
    | fail)
  have hv2 := hv1.below_all hb2
  have hz2 := hb2.size
  rw [hz1] at hz2
  have B2 : Below (w.heap.size + 1) (w.alloc (.cells #[.bool rq, .string m, .string t, .int .i64 st, .string rs, .int .i64 mn, .slice A n c] 52)) w2 := by rw [← hz1]; exact hb2
  have HSN := Lib.hid hsn
  have HT2 := Lib.hid (HT1.out.below hb2)
  have d0 := hv2.cell (j := 0) rfl
  have d3 := hv2.cell (j := 3) rfl
  have d4 := hv2.cell (j := 4) rfl
  have d1 := hv2.cell (j := 1) rfl
  have d2 := hv2.cell (j := 2) rfl
  generalize hnb : (⟨#[72, 84, 84, 80, 47, 49, 46]⟩ : ByteArray) ++ sn = nb
  have hnz : nb.size ≤ 28 := by rw [← hnb, ByteArray.size_append]; show 7 + sn.size ≤ 28; omega
  have HNB : Hid (nb.data.toList = ver ++ Lib.itoa mn) := Lib.hid (by rw [← hnb, data_append, hsn]; rfl)
  clear hsn hb2 hz1 hnb hsz HSN
  have hLn : (lineT (hiOf rq m t st rs mn fs) ++ [13, 10]).length ≤ 2097252 := by
    have h1 := itoa_len HMN.out
    have h2 := itoa_len HST.out
    have q1 := size_data m
    have q2 := size_data t
    have q3 := size_data rs
    rw [List.length_append]
    unfold lineT
    cases rq
    · simp only [hiOf, Bool.false_eq_true, if_false, List.length_append, List.length_cons, List.length_nil, ver]; omega
    · simp only [hiOf, if_true, List.length_append, List.length_cons, List.length_nil, ver]; omega
  have HTX : Hid (textP (hiOf rq m t st rs mn fs) = (lineT (hiOf rq m t st rs mn fs) ++ [13, 10] ++ flT fs) ++ [13, 10]) := Lib.hid (by unfold textP flT; simp [hiOf])
  have HLF : Hid (rq = false → nb.data.toList ++ [32] ++ Lib.itoa st ++ [32] ++ rs.data.toList ++ [13, 10] = lineT (hiOf rq m t st rs mn fs) ++ [13, 10]) := Lib.hid (fun e => by rw [HNB.out, e]; simp [lineT, hiOf])
  have HLT : Hid (rq = true → m.data.toList ++ [32] ++ t.data.toList ++ [32] ++ nb.data.toList ++ [13, 10] = lineT (hiOf rq m t st rs mn fs) ++ [13, 10]) := Lib.hid (fun e => by rw [HNB.out, e]; simp [lineT, hiOf])
  generalize (lineT (hiOf rq m t st rs mn fs) ++ [13, 10]) = LH at hLn HTX HLF HLT
  go_upto_if 15 with (fail)
  go_cut [4] (fun v4 wx => RowB wx (w.heap.size + 1) v4 LH ∧ Below (w.heap.size + 1) w2 wx)
  case first =>
    cases rq
    · go_upto_region 5 with (fail)
      have k1 := cat_run nb ⟨#[32]⟩ (by omega) (by decide)
      go_region_held3 (fun w' => w'.cell? ⟨w.heap.size, 3, none⟩ = some (.int .i64 st) ∧ w'.cell? ⟨w.heap.size, 4, none⟩ = some (.string rs))
        (first | exact ⟨(hb4.cell (p := ⟨w.heap.size, 3, none⟩) (by show w.heap.size < w2.heap.size; omega)).trans d3, (hb4.cell (p := ⟨w.heap.size, 4, none⟩) (by show w.heap.size < w2.heap.size; omega)).trans d4⟩ | exact ⟨(hb3.cell (p := ⟨w.heap.size, 3, none⟩) (by show w.heap.size < w.heap.size + 1; omega)).trans ((hb4.cell (p := ⟨w.heap.size, 3, none⟩) (by show w.heap.size < w2.heap.size; omega)).trans d3), (hb3.cell (p := ⟨w.heap.size, 4, none⟩) (by show w.heap.size < w.heap.size + 1; omega)).trans ((hb4.cell (p := ⟨w.heap.size, 4, none⟩) (by show w.heap.size < w2.heap.size; omega)).trans d4)⟩ | go_keep)
        (first
          | (refine step_appB rfl (.tmp 28) (.tmp 39) 9 rfl (w.heap.size + 1) rfl (RowB.nil _ _) rfl (SrcB.str _ _) (by rw [size_data]; simp only [ByteArray.size_append]; show 0 + (nb.size + 1 + ss.size + 1 + rs.size + 2) ≤ _; omega) (by have := hb4.size; show w.heap.size + 1 ≤ w4.heap.size; have h9 : w2.heap.size ≤ w4.heap.size := this; omega) ?_; intro v3 w3 hrow3 hb3 _ _)
          | (go_at_call 64; refine (itoa_str st _ HST.out (by exact HT2.out)).mono ?_; rintro _ w4 ⟨ss, rfl, hss, hssz, hb4⟩; have k2 := cat_run (nb ++ ⟨#[32]⟩) ss (by rw [ByteArray.size_append]; show nb.size + 1 ≤ _; omega) (by omega); have k3 := cat_run (nb ++ ⟨#[32]⟩ ++ ss) ⟨#[32]⟩ (by rw [ByteArray.size_append, ByteArray.size_append]; show nb.size + 1 + ss.size ≤ _; omega) (by decide); have k4 := cat_run (nb ++ ⟨#[32]⟩ ++ ss ++ ⟨#[32]⟩) rs (by rw [ByteArray.size_append, ByteArray.size_append, ByteArray.size_append]; show nb.size + 1 + ss.size + 1 ≤ _; omega) (by omega); have k5 := cat_run (nb ++ ⟨#[32]⟩ ++ ss ++ ⟨#[32]⟩ ++ rs) ⟨#[13, 10]⟩ (by rw [ByteArray.size_append, ByteArray.size_append, ByteArray.size_append, ByteArray.size_append]; show nb.size + 1 + ss.size + 1 + rs.size ≤ _; omega) (by decide)))
      go_wp2
      go_meet
      refine ⟨?_, ((Below.of_drew hb4).mono (by show w.heap.size + 1 ≤ w2.heap.size; omega)).trans hb3⟩
      have e := hrow3
      rw [List.nil_append] at e
      simp only [data_append] at e
      rw [hss] at e
      rw [← HLF.out (by simp)]
      exact e
    · have k1 := cat_run m ⟨#[32]⟩ (by omega) (by decide)
      have k2 := cat_run (m ++ ⟨#[32]⟩) t (by rw [ByteArray.size_append]; show m.size + 1 ≤ _; omega) (by omega)
      go_wp2_with (first
        | (at_builtin; refine wpList_appB rfl (.tmp 16) (.tmp 26) 9 rfl (w.heap.size + 1) rfl (RowB.nil _ _) rfl (SrcB.str _ _) (by rw [size_data]; simp only [ByteArray.size_append]; show 0 + (m.size + 1 + t.size + 1 + nb.size + 2) ≤ _; omega) hz2 ?_; intro v3 w3 hrow3 hb3 _ _)
        | fail)
      go_meet
      refine ⟨?_, hb3⟩
      have e := hrow3
      rw [List.nil_append] at e
      simp only [data_append] at e
      rw [← HLT.out (by simp)]
      exact e
  case rest =>
    obtain ⟨hrow3, hb3⟩ := hcut
    have hzc : w.heap.size + 1 ≤ wc.heap.size := by have := hb3.size; omega
    have h6 := (hb3.cell (p := ⟨w.heap.size, 6, none⟩) (by show w.heap.size < _; omega)).trans (hv2.cell (j := 6) rfl)
    have hold : ∀ g o, g < w.heap.size → wc.cell? ⟨g, o, none⟩ = w.cell? ⟨g, o, none⟩ := fun g o h => (hb3.cell (p := ⟨g, o, none⟩) (by show g < _; omega)).trans ((B2.cell (p := ⟨g, o, none⟩) (by show g < _; omega)).trans (World.cell?_alloc_lt _ _ _ h))
    have HO := Lib.hid hold
    have HR3 := Lib.hid hrow3
    have HVC := Lib.hid (hv2.below hb3 (by omega))
    have HBC : Hid (Below w.heap.size w wc) := Lib.hid ((hb1.trans (B2.mono (by omega))).trans (hb3.mono (by omega)))
    clear hold hrow3 hb3 hb1 hv1 hv2 B2 d0 d1 d2 d3 d4
    go_wp2
    go_loopw [4, 44] (fun v i wr => ∃ k : Nat, k ≤ n ∧ i = .int .i64 k ∧ RowB wr (w.heap.size + 1) v (LH ++ flT (fs.take k)) ∧ Below (w.heap.size + 1) wc wr) (fun _ i _ => n - (intOf i).toNat)
    case atStart => exact ⟨0, Nat.zero_le _, rfl, by simpa [flT, fieldsT] using HR3.out, Below.refl _ _⟩
    case round =>
      obtain ⟨k, hk, rfl, hrow, hb⟩ := hrel
      have HR := Lib.hid hrow
      have HB := Lib.hid hb
      have hzr : w.heap.size + 1 ≤ wr.heap.size := by have := hb.size; omega
      have hsk := flSize_take fs k
      have hkl := flT_len (fs.take k)
      clear hrow hb
      by_cases hlt : k < n
      · obtain ⟨g, o, rfl, hg, hcell⟩ := hrd.2 (by omega)
        obtain ⟨G1, G2⟩ := fieldsV_get fs k (by omega)
        have c1 := (HB.out.cell (p := ⟨g, o + k * 2, none⟩) (by show g < _; omega)).trans ((HO.out g (o + k * 2) hg).trans (hcell _ _ G1))
        have c2 := (HB.out.cell (p := ⟨g, o + (k * 2 + 1), none⟩) (by show g < _; omega)).trans ((HO.out g (o + (k * 2 + 1)) hg).trans (hcell _ _ G2))
        have hsg := flSize_get fs k (by omega)
        have HTK := Lib.hid (flT_take fs k (by omega))
        clear hcell G1 G2
        generalize fs[k].1 = f1 at *
        generalize fs[k].2 = f2 at *
        generalize flT (fs.take k) = pk at *
        have hr : World.rangeAt wr g (o + k * 2) [.string f1, .string f2] := by
          intro j v hj
          match j, hj with
          | 0, hj => cases hj; exact c1
          | 1, hj => cases hj; exact c2
        have HKL := Lib.hid hkl
        have hpk : pk.length + (f1.size + f2.size + 4) ≤ 8388608 := by omega
        have hf1 : f1.size ≤ 8388608 := by omega
        have hf2 : f2.size ≤ 8388608 := by omega
        clear hkl
        go_wp2_with (first
          | (refine wpList_load_mid rfl 89 (.tmp 46) rfl g (o + k * 2) rfl [.string f1, .string f2] _ hr Tryz.underlying89 rfl (by kernel_rfl) ?_)
          | (at_builtin; refine wpList_appB rfl (.tmp 48) (.tmp 55) 9 rfl (w.heap.size + 1) rfl (HR.out.alloc _) rfl (SrcB.str _ _) (by rw [size_data]; simp only [ByteArray.size_append, List.length_append]; show LH.length + pk.length + (f1.size + 2 + f2.size + 2) ≤ _; omega) (by simp; omega) ?_; intro v9 w9 hrow9 hb9 _ _; have B9 := (HB.out.alloc hzr _).trans hb9)
          | fail)
        go_roundw
        case rel => exact ⟨k + 1, by omega, by go_num, (by
          have e := hrow9
          simp only [data_append] at e
          rw [HTK.out, ← List.append_assoc]
          exact e), B9⟩
        case measure => simp [intOf]; omega
      · have e1 : fs.take k = fs := List.take_of_length_le (by omega)
        rw [e1] at HR hkl hsk
        go_upto_region 12 with (first
          | (at_builtin; refine wpList_appB rfl (.tmp 58) (.const (.string ⟨#[13, 10]⟩)) 9 rfl (w.heap.size + 1) rfl HR.out rfl (SrcB.str _ _) (by rw [size_data, List.length_append]; show _ + 2 ≤ _; omega) hzr ?_; intro v9 w9 hrow9 hb9 _ _)
          | fail)
        rw [← HTX.out] at hrow9
        have hz9 := hb9.size
        have BC9 : Below (w.heap.size + 1) wc w9 := HB.out.trans hb9
        have hv9 := HVC.out.below BC9 (by omega)
        have d0 := hv9.cell (j := 0) rfl
        have B9 : Below w.heap.size w w9 := HBC.out.trans (BC9.mono (by omega))
        have HS9 : Hid (w9.ShapedOpen Tryz.prog) := Lib.hid (shaped_below HSH.out B9)
        have ra9 := (hrd.below B9).more B9.size
        generalize hhi : hiOf rq m t st rs mn fs = hi at *
        obtain ⟨A2, c2, rfl, hc2, hm2, hA2, hr2⟩ := hrow9.form
        generalize htx : textP hi = tx at hrow9 hr2 HP htl hc2 hA2
        have HTE := Lib.hid htx
        clear htx
        clear hhi HTX HLF HLT HR HB
        go_upto_region 13 with (first
          | (go_at_call 25; go_must (refine (hParse_lit A2 tx.length c2 tx rq _ HS9.out (fun e => (hA2 e).1) hr2 (by omega) HP.out).mono ?_; rintro _ w3 ⟨A3, c3, rfl, hrow3, hb3⟩))
          | (refine wpList_put rfl 52 (.tmp 8) (.tmp 65) rfl w3.heap.size rfl (Var.new w3 52 [.bool false, .string ⟨#[]⟩, .string ⟨#[]⟩, .int .i64 0, .string ⟨#[]⟩, .int .i64 0, .slice none 0 0]) [.bool g.rq, .string ⟨g.m.toArray⟩, .string ⟨g.t.toArray⟩, .int .i64 (g.st : Int), .string ⟨g.rs.toArray⟩, .int .i64 (g.mn : Int), .slice A3 g.fs.length c3] rfl rfl (by kernel_rfl) (by simp [Value.oneCell']) ?_; intro w4 hv4 hg4 hs4)
          | fail)
        have hz3 := hb3.size
        have hz4 := put_size hs4
        have b24 : Below w9.heap.size w9 w4 := Below.put hb3 hz3 hg4
        have B4 : Hid (Below w.heap.size w w4) := Lib.hid (B9.trans (b24.mono (by omega)))
        have HV4 := Lib.hid (hv9.below_all b24)
        have HG4 := Lib.hid hv4
        have HO4 := Lib.hid ((hrow9.below_all b24).mono (show w.heap.size ≤ _ by omega))
        have ra := (ra9.below b24).more b24.size
        obtain ⟨_, _, e1, _, _, _, rb⟩ := (hrow3.put hg4).form
        injection e1 with e1 _ q1
        subst e1 q1
        have z4 := B4.out.size
        clear hr2 hb3 hrow3 hv4 hg4 hs4 b24 d0 hv9 ra9 B9 BC9 hb9 hrow9 hA2
        by_cases h0 : e0 = 0
        · subst h0
          by_cases hu : g.up = hi
          · have HE : Hid (eqH g.rq rq ⟨g.m.toArray⟩ m ⟨g.t.toArray⟩ t (g.st : Int) st ⟨g.rs.toArray⟩ rs (g.mn : Int) mn (flB g.fs) fs = true) := Lib.hid (by rw [HEQ.out]; simpa using hu)
            have HF : Hid ((writeP hi).2 = 0) := Lib.hid (by rw [HW.out]; simp [hu])
            clear hu
            go_wp2_with (first
              | (go_at_call 65; go_must (refine (hSame_gen g.rq rq ⟨g.m.toArray⟩ m ⟨g.t.toArray⟩ t (g.st : Int) st ⟨g.rs.toArray⟩ rs (g.mn : Int) mn A3 A g.fs.length n c3 c (flB g.fs) fs _ rb ra (by omega) (by omega)).mono ?_; rintro _ w5 ⟨rfl, hb5⟩; rw [HE.out]))
              | (refine wpList_load_mid rfl 52 (.tmp 8) rfl w3.heap.size 0 rfl [.bool g.rq, .string ⟨g.m.toArray⟩, .string ⟨g.t.toArray⟩, .int .i64 (g.st : Int), .string ⟨g.rs.toArray⟩, .int .i64 (g.mn : Int), .slice A3 g.fs.length c3] _ HG4.out.range Tryz.underlying52 rfl (by kernel_rfl) ?_)
              | (refine wpList_load_mid rfl 52 (.tmp 1) rfl w.heap.size 0 rfl [.bool rq, .string m, .string t, .int .i64 st, .string rs, .int .i64 mn, .slice A n c] _ HV4.out.range Tryz.underlying52 rfl (by kernel_rfl) ?_)
              | fail)
            go_ret2
            exact WritePost.yes HF.out rfl (by rw [HTE.out]; exact HO4.out.below_all hb5) (B4.out.trans (hb5.mono z4))
          · have HE : Hid (eqH g.rq rq ⟨g.m.toArray⟩ m ⟨g.t.toArray⟩ t (g.st : Int) st ⟨g.rs.toArray⟩ rs (g.mn : Int) mn (flB g.fs) fs = false) := Lib.hid (by rw [HEQ.out]; simpa using hu)
            have HF : Hid ((writeP hi).2 = 220) := Lib.hid (by rw [HW.out]; simp [hu])
            clear hu
            go_wp2_with (first
              | (go_at_call 65; go_must (refine (hSame_gen g.rq rq ⟨g.m.toArray⟩ m ⟨g.t.toArray⟩ t (g.st : Int) st ⟨g.rs.toArray⟩ rs (g.mn : Int) mn A3 A g.fs.length n c3 c (flB g.fs) fs _ rb ra (by omega) (by omega)).mono ?_; rintro _ w5 ⟨rfl, hb5⟩; rw [HE.out]))
              | (refine wpList_load_mid rfl 52 (.tmp 8) rfl w3.heap.size 0 rfl [.bool g.rq, .string ⟨g.m.toArray⟩, .string ⟨g.t.toArray⟩, .int .i64 (g.st : Int), .string ⟨g.rs.toArray⟩, .int .i64 (g.mn : Int), .slice A3 g.fs.length c3] _ HG4.out.range Tryz.underlying52 rfl (by kernel_rfl) ?_)
              | (refine wpList_load_mid rfl 52 (.tmp 1) rfl w.heap.size 0 rfl [.bool rq, .string m, .string t, .int .i64 st, .string rs, .int .i64 mn, .slice A n c] _ HV4.out.range Tryz.underlying52 rfl (by kernel_rfl) ?_)
              | fail)
            go_ret2
            exact WritePost.no (by omega) HF.out rfl (B4.out.trans (hb5.mono z4))
        · have HF : Hid ((writeP hi).2 = e0) := Lib.hid (by rw [HW.out]; simp [h0])
          have h0' : ((e0 : Int) != 0) = true := by simpa using h0
          have H0 := Lib.hid h0
          clear h0
          go_wp2
          go_ret2
          exact WritePost.no H0.out HF.out rfl B4.out
end Go.Proofs.YtklmpadcfioefaaGreatDoor
