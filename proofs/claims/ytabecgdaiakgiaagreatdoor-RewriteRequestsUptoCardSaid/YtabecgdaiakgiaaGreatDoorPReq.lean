/- The reference's Request (printed by gen_preq.py). Conditions: sizes. -/
import Derived.Test.YtabecgdaiakgiaaGreatDoorPRsp3
namespace Go.Proofs.YtabecgdaiakgiaaGreatDoor
open Go.RowKit

/-- more fields -/
theorem RS.apps {w wx w' : World} {B b c : Nat} {R : HB} {A : Option Addr} {L : List Fl} {v' : Value} (h : RS w wx B b R A c) (hrow : Row w' (w.heap.size + 2) 2 v' (R.fs.length + L.length) (fieldsV R.fs ++ fieldsV L))
    (hg : wx.grownBy w' (Value.slice A R.fs.length c).ownBlock) (hv : v'.ownBlock = (Value.slice A R.fs.length c).ownBlock ∨ v'.ownBlock = some wx.heap.size) :
    ∃ A' c', v' = .slice A' (R.fs ++ L).length c' ∧ RS w (w'.setCell ⟨b, 6, none⟩ v') B b { R with fs := R.fs ++ L } A' c' := by
  have hlt := h.var.lt
  have hbz := h.bl.size
  have k := h.row.lt
  have hne : v'.ownBlock ≠ some b := by
    rcases hv with e | e
    · rw [e]; exact h.far
    · rw [e]; intro e2; injection e2 with e2; omega
  obtain ⟨A', c', rfl, _, _, _, _⟩ := hrow.form
  have hl : (R.fs ++ L).length = R.fs.length + L.length := List.length_append
  refine ⟨A', c', by rw [hl], ?_, ?_, ?_, h.le, ?_, h.resB, ?_⟩
  · have h1 := (h.var.grown hg h.far).set 6 (.slice A' (R.fs.length + L.length) c')
    unfold hbD
    rw [hl]
    exact h1
  · have h1 := hrow.setCell (p := ⟨b, 6, none⟩) hne (.slice A' (R.fs.length + L.length) c')
    show Row _ _ 2 (.slice A' (R.fs ++ L).length c') (R.fs ++ L).length (fieldsV (R.fs ++ L))
    rw [hl, fieldsV_append]
    exact h1
  · show (Value.slice A' (R.fs ++ L).length c').ownBlock ≠ some b
    rw [hl]; exact hne
  · exact (h.res.grown hg (fun e => by have := (k _ e).1; have := h.resB; omega)).set_other (p := ⟨b, 6, none⟩) (show b ≠ B by have := h.resB; have := h.le; omega) _
  · exact (h.bl.grown hg (by omega) (fun q hq => by have := (k q hq).1; omega)).setCell (p := ⟨b, 6, none⟩) (show w.heap.size ≤ b by have := h.le; omega) _
def reqOk (h : HB) (fr ln : Int) (host : ByteArray) : Bool := (pathP h.t.data.toList).isSome && reqG h fr ln host
theorem reqOk_no {h : HB} {fr ln : Int} {host : ByteArray} (e : reqOk h fr ln host = false) : reqP h fr ln host = ({}, 2) := by
  unfold reqOk at e
  refine reqP_no ?_
  cases hp : pathP h.t.data.toList with
  | none => exact .inl rfl
  | some p => rw [hp] at e; exact .inr (by simpa using e)
theorem reqOk_yes {h : HB} {fr ln : Int} {host : ByteArray} (e : reqOk h fr ln host = true) : h.rq = true ∧ (fr = 1 → 0 ≤ ln) ∧ (0 ≤ fr ∧ fr ≤ 2) ∧ reqP h fr ln host = okH (reqH h fr ln host ((pathP h.t.data.toList).getD [])) := by
  unfold reqOk at e
  rw [Bool.and_eq_true] at e
  obtain ⟨e1, e2⟩ := e
  obtain ⟨p, hp⟩ := Option.isSome_iff_exists.1 e1
  have hg := e2
  unfold reqG at hg
  simp only [Bool.and_eq_true, decide_eq_true_eq] at hg
  refine ⟨hg.1.1, hg.1.2.2.2, ⟨hg.1.2.1, hg.1.2.2.1⟩, ?_⟩
  rw [hp]
  exact reqP_yes hp e2
/-- the flag ahead of the loop -/
def reqA (pk rq : Bool) (fr ln : Int) (host : ByteArray) : Bool := pk && rq && decide (0 ≤ fr ∧ fr ≤ 2 ∧ (fr = 1 → 0 ≤ ln)) && !(host.data.toList.isEmpty)
theorem reqOk_eq (h : HB) (fr ln : Int) (host : ByteArray) : reqOk h fr ln host = (reqA (pathP h.t.data.toList).isSome h.rq fr ln host && host.data.toList.all isSeen) := by
  unfold reqOk reqA reqG hostP
  simp only [Bool.and_assoc]
theorem seen_eq (c : UInt8) : isSeen c = decide (33 ≤ c.toNat ∧ c.toNat ≤ 126) := by
  simp only [isSeen, UInt8.le_iff_toNat_le]
  simp [show (33 : UInt8).toNat = 33 from rfl, show (126 : UInt8).toNat = 126 from rfl]
theorem all_take_z {p : UInt8 → Bool} {s : ByteArray} {k : Nat} (h : k < s.size) : (s.data.toList.take (k + 1)).all p = ((s.data.toList.take k).all p && p s[k]) := by
  rw [take_succ_data s k h]; simp
theorem frame_two (fr ln : Int) : frameP fr ln = F1P fr ln ++ F2P fr 1 := by
  rw [← frame_parts fr ln 1 (.inr rfl), if_neg (by omega)]
set_option maxHeartbeats 8000000 in
set_option maxRecDepth 100000 in
theorem pRequest_any (rq : Bool) (mt t : ByteArray) (st : Int) (rs : ByteArray) (mn : Int) (A : Option Addr) (n c : Nat) (fs : List Fl) (fr ln : Int) (host : ByteArray) (w : World) (hrd : Rd w w.heap.size 2 A n (fieldsV fs))
    (hln : isInt ln) (hn : n ≤ 1048576) (hm : mt.size + t.size + rs.size ≤ 1048576) (hfz : flSize fs ≤ 2097152) (hhs : host.size ≤ 1048576) (hfs : ∀ f ∈ fs, f.1.size ≤ 16777216) (hvs : total (vals fs sConn) ≤ 8388608) :
    Calls Tryz.prog 12 #[headV rq mt t st rs mn (.slice A n c), .int .i64 fr, .int .i64 ln, .string host] w (HeadPost w (reqP ⟨rq, mt, t, st, rs, mn, fs⟩ fr ln host)) := by
  have hlen : fs.length = n := by have := hrd.1; rw [fieldsV_len] at this; omega
  obtain ⟨g0, hf0, fz0, fz1, fz2⟩ := info_parts infoField
  have B1 : Below w.heap.size w ((w.alloc (.cells #[.bool rq, .string mt, .string t, .int .i64 st, .string rs, .int .i64 mn, .slice A n c] 24)).alloc (.cells #[.bool false, .string ⟨#[]⟩, .string ⟨#[]⟩, .int .i64 0, .string ⟨#[]⟩, .int .i64 0, .slice none 0 0] 24)) := ((Below.refl _ _).alloc (Nat.le_refl _) _).alloc (by simp) _
  have V1 := Lib.hid ((Var.new w 24 [.bool rq, .string mt, .string t, .int .i64 st, .string rs, .int .i64 mn, .slice A n c]).alloc (.cells #[.bool false, .string ⟨#[]⟩, .string ⟨#[]⟩, .int .i64 0, .string ⟨#[]⟩, .int .i64 0, .slice none 0 0] 24))
  have z1 := heap_alloc_size w (.cells #[.bool rq, .string mt, .string t, .int .i64 st, .string rs, .int .i64 mn, .slice A n c] 24)
  have zz : w.heap.size + 2 ≤ ((w.alloc (.cells #[.bool rq, .string mt, .string t, .int .i64 st, .string rs, .int .i64 mn, .slice A n c] 24)).alloc (.cells #[.bool false, .string ⟨#[]⟩, .string ⟨#[]⟩, .int .i64 0, .string ⟨#[]⟩, .int .i64 0, .slice none 0 0] 24)).heap.size := by simp
  have U1 := Var.new (w.alloc (.cells #[.bool rq, .string mt, .string t, .int .i64 st, .string rs, .int .i64 mn, .slice A n c] 24)) 24 [.bool false, .string ⟨#[]⟩, .string ⟨#[]⟩, .int .i64 0, .string ⟨#[]⟩, .int .i64 0, .slice none 0 0]
  rw [z1] at U1
  have U1 := Lib.hid U1
  have HB1 := Lib.hid B1
  have HZZ := Lib.hid zz
  have HR0 := Lib.hid hrd
  have HPA := Lib.hid (fun W => pPath_any t W (by omega))
  unfold pathV at HPA
  obtain ⟨pS, hpS⟩ : ∃ pS : ByteArray, pS = ⟨((pathP t.data.toList).getD []).toArray⟩ := ⟨_, rfl⟩
  obtain ⟨pk, hpk⟩ : ∃ pk : Bool, pk = (pathP t.data.toList).isSome := ⟨_, rfl⟩
  rw [← hpS, ← hpk] at HPA
  have hpl : pS.size ≤ t.size + 1 := by
    have h2 := size_data pS
    have h3 := size_data t
    have h4 : pS.data.toList = (pathP t.data.toList).getD [] := by rw [hpS]
    cases hp : pathP t.data.toList with
    | none => rw [hp] at h4; rw [h4] at h2; simp at h2; omega
    | some p => have h1 := path_len hp; rw [hp] at h4; rw [h4] at h2; simp at h2; omega
  have hOK := reqOk_eq ⟨rq, mt, t, st, rs, mn, fs⟩ fr ln host
  dsimp only at hOK
  rw [← hpk] at hOK
  obtain ⟨AA, hAA⟩ : ∃ AA, AA = reqA pk rq fr ln host := ⟨_, rfl⟩
  have HAE := Lib.hid hAA
  rw [← hAA] at hOK
  have HOK := Lib.hid hOK
  have HPS : Hid (pS = ⟨((pathP t.data.toList).getD []).toArray⟩) := Lib.hid hpS
  unfold headV
  clear hrd B1 z1 zz hpS hpk hAA hOK
  go_enter Tryz.func12, Tryz.ntmps12
  obtain ⟨w1, hw1⟩ : ∃ w1 : World, w1 = ((w.alloc (.cells #[.bool rq, .string mt, .string t, .int .i64 st, .string rs, .int .i64 mn, .slice A n c] 24)).alloc (.cells #[.bool false, .string ⟨#[]⟩, .string ⟨#[]⟩, .int .i64 0, .string ⟨#[]⟩, .int .i64 0, .slice none 0 0] 24)) := ⟨_, rfl⟩
  go_upto_region 1 with (fail)
  rw [← hw1] at V1 U1 HB1 HZZ ⊢
  clear hw1
  have v2 := V1.out.cell (j := 2) rfl
  go_upto_region 2 with (first
    | (go_at_call 32; go_must (refine (HPA.out _).mono ?_; rintro _ w2 ⟨rfl, hb2⟩))
    | fail)
  have HB2 := Lib.hid (HB1.out.trans (hb2.mono HB1.out.size))
  have V2 := Lib.hid (V1.out.below_all hb2)
  have U2 := Lib.hid (U1.out.below_all hb2)
  have HZ2 : Hid (w.heap.size + 2 ≤ w2.heap.size) := Lib.hid (Nat.le_trans HZZ.out hb2.size)
  have v0 := V2.out.cell (j := 0) rfl
  clear hb2 v2 V1 U1 HB1 HZZ HPA
  go_cut [11] (fun v wx => v = .bool AA ∧ w2 = wx)
  case first =>
    cases pk
    · have HAA : Hid (AA = false) := Lib.hid (by rw [HAE.out]; rfl)
      (go_wp2
       go_meet
       exact ⟨by rw [HAA.out], rfl⟩)
    cases rq
    · have HAA : Hid (AA = false) := Lib.hid (by rw [HAE.out]; rfl)
      (go_wp2
       go_meet
       exact ⟨by rw [HAA.out], rfl⟩)
    by_cases f0 : fr < 0
    · have HAA : Hid (AA = false) := Lib.hid (by rw [HAE.out]; unfold reqA; rw [decide_eq_false (by omega)]; rfl)
      have d0 : decide (0 ≤ fr) = false := by simp; omega
      clear f0
      (go_wp2
       go_meet
       exact ⟨by rw [HAA.out], rfl⟩)
    have d0 : decide (0 ≤ fr) = true := by simp; omega
    by_cases f2 : 2 < fr
    · have HAA : Hid (AA = false) := Lib.hid (by rw [HAE.out]; unfold reqA; rw [decide_eq_false (by omega)]; rfl)
      have d2 : decide (fr ≤ 2) = false := by simp; omega
      clear f0 f2
      (go_wp2
       go_meet
       exact ⟨by rw [HAA.out], rfl⟩)
    have d2 : decide (fr ≤ 2) = true := by simp; omega
    by_cases h0 : host = ⟨#[]⟩
    · have HAA : Hid (AA = false) := Lib.hid (by rw [HAE.out, h0]; unfold reqA; rw [show ((⟨#[]⟩ : ByteArray).data.toList.isEmpty) = true from rfl, Bool.not_true, Bool.and_false])
      by_cases e1 : fr = 1
      · subst e1 h0
        clear f0 f2 d0 d2
        by_cases l0 : ln < 0
        · have dl : decide (0 ≤ ln) = false := by simp; omega
          clear l0
          (go_wp2
           go_meet
           exact ⟨by rw [HAA.out], rfl⟩)
        · have dl : decide (0 ≤ ln) = true := by simp; omega
          clear l0
          (go_wp2
           go_meet
           exact ⟨by rw [HAA.out], rfl⟩)
      · have q1 : (fr != 1) = true := by rw [bne_iff_ne]; omega
        subst h0
        clear f0 f2 e1
        (go_wp2
         go_meet
         exact ⟨by rw [HAA.out], rfl⟩)
    have b0 := toList_ne (l := []) h0
    have hemp : host.data.toList.isEmpty = false := by
      cases hv : host.data.toList with
      | nil => exact absurd (byte_ext.2 hv) h0
      | cons _ _ => rfl
    by_cases e1 : fr = 1
    · by_cases l0 : ln < 0
      · have HAA : Hid (AA = false) := Lib.hid (by rw [HAE.out]; unfold reqA; rw [decide_eq_false (by omega)]; rfl)
        have dl : decide (0 ≤ ln) = false := by simp; omega
        subst e1
        clear f0 f2 d0 d2 l0 h0 hemp
        (go_wp2
         go_meet
         exact ⟨by rw [HAA.out], rfl⟩)
      · have HAA : Hid (AA = true) := Lib.hid (by rw [HAE.out]; unfold reqA; rw [decide_eq_true (by omega), hemp]; rfl)
        have dl : decide (0 ≤ ln) = true := by simp; omega
        subst e1
        clear f0 f2 d0 d2 l0 h0 hemp
        (go_wp2
         go_meet
         exact ⟨by rw [HAA.out], rfl⟩)
    · have HAA : Hid (AA = true) := Lib.hid (by rw [HAE.out]; unfold reqA; rw [decide_eq_true (by omega), hemp]; rfl)
      have q1 : (fr != 1) = true := by rw [bne_iff_ne]; omega
      clear f0 f2 e1 h0 hemp
      (go_wp2
       go_meet
       exact ⟨by rw [HAA.out], rfl⟩)
  case rest =>
  obtain ⟨rfl, rfl⟩ := hcut
  clear v0
  go_wp2
  go_loop [11, 12] (fun v i => ∃ k : Nat, k ≤ host.size ∧ i = .int .i64 k ∧ v = .bool (AA && (host.data.toList.take k).all isSeen)) (fun _ i => host.size - (intOf i).toNat)
  case atStart => exact ⟨0, Nat.zero_le _, rfl, by simp⟩
  case round =>
  obtain ⟨k, hk, rfl, hv⟩ := hrel
  obtain ⟨Bk, hBk⟩ : ∃ Bk, Bk = (AA && (host.data.toList.take k).all isSeen) := ⟨_, rfl⟩
  rw [← hBk] at hv
  subst hv
  by_cases hlt : k < host.size
  · have HST : Hid ((AA && (host.data.toList.take (k + 1)).all isSeen) = (Bk && isSeen host[k])) := Lib.hid (by rw [all_take_z hlt, ← Bool.and_assoc, ← hBk])
    have HI := Lib.hid (seen_eq host[k])
    have hx := UInt8.toNat_lt host[k]
    clear hBk
    cases Bk
    · go_wp2
      go_round
      case rel => exact ⟨k + 1, by omega, by go_num, by rw [HST.out]; rfl⟩
      case measure => simp [intOf]; omega
    · by_cases hd : 33 ≤ host[k].toNat ∧ host[k].toNat ≤ 126
      · have HY : Hid (isSeen host[k] = true) := Lib.hid (by rw [HI.out]; simp [hd])
        have q1 : decide ((33 : Int) ≤ (host[k].toNat : Int)) = true := by simp; omega
        have q2 : decide ((host[k].toNat : Int) ≤ 126) = true := by simp; omega
        obtain ⟨hd1, hd2⟩ := hd
        go_wp2
        go_round
        case rel => exact ⟨k + 1, by omega, by go_num, by rw [HST.out, HY.out]; rfl⟩
        case measure => simp [intOf]; omega
      · have HY : Hid (isSeen host[k] = false) := Lib.hid (by rw [HI.out]; simp; omega)
        by_cases h33 : host[k].toNat < 33
        · have q1 : decide ((33 : Int) ≤ (host[k].toNat : Int)) = false := by simp; omega
          clear hd
          go_wp2
          go_round
          case rel => exact ⟨k + 1, by omega, by go_num, by rw [HST.out, HY.out]; rfl⟩
          case measure => simp [intOf]; omega
        · have q1 : decide ((33 : Int) ≤ (host[k].toNat : Int)) = true := by simp; omega
          have q2 : decide ((host[k].toNat : Int) ≤ 126) = false := by simp; omega
          have h126 : 126 < host[k].toNat := by omega
          clear hd
          go_wp2
          go_round
          case rel => exact ⟨k + 1, by omega, by go_num, by rw [HST.out, HY.out]; rfl⟩
          case measure => simp [intOf]; omega
  have HKE : Hid (reqOk ⟨rq, mt, t, st, rs, mn, fs⟩ fr ln host = Bk) := Lib.hid (by rw [HOK.out, hBk, List.take_of_length_le (by rw [size_data]; omega)])
  clear hBk
  cases Bk
  · have HE := Lib.hid (reqOk_no HKE.out)
    go_wp2_with (first
      | (refine wpList_put rfl 24 (.tmp 8) (.tmp 68) rfl (w.heap.size + 1) rfl U2.out [.bool false, .string ⟨#[]⟩, .string ⟨#[]⟩, .int .i64 0, .string ⟨#[]⟩, .int .i64 0, .slice none 0 0] rfl rfl (by kernel_rfl) (by simp [Value.oneCell']) ?_; intro w3 hv3 hg3 hs3)
      | fail)
    refine bodyPost_ret (results_var rfl _ _ rfl hv3 Tryz.underlying24 rfl (by kernel_rfl)) rfl ?_
    rw [HE.out]
    exact HeadPost.no (Below.grown HB2.out hg3 HB2.out.size (by intro k hk; injection hk with hk; omega))
  obtain ⟨rfl, f3, f4, hE⟩ := reqOk_yes HKE.out
  have HE := Lib.hid hE
  have H1 := Lib.hid f3
  clear hE f3 HKE HOK HAE
  obtain ⟨O, hO⟩ : ∃ O, O = othersP true fs := ⟨_, rfl⟩
  have hOL : O.length ≤ 1048576 := by rw [hO]; exact Nat.le_trans (List.length_filter_le _ _) (by omega)
  have HZF : Hid (flSize O ≤ flSize fs) := Lib.hid (by rw [hO]; exact flSize_filter _ _)
  have HOT := Lib.hid (fun W hr => pothers_any true mt t st rs mn A n c fs W hr hn hfs hvs)
  unfold headV at HOT
  rw [← hO] at HOT
  have HFS : Hid (reqH ⟨true, mt, t, st, rs, mn, fs⟩ fr ln host ((pathP t.data.toList).getD []) = { rq := true, m := mt, t := pS, mn := 1, fs := (([(sHost, host)] ++ O) ++ F1P fr ln) ++ F2P fr 1 }) := Lib.hid (by
    unfold reqH
    rw [frame_two, hO, HPS.out]
    simp only [List.append_assoc, List.cons_append, List.nil_append])
  have HRH : Hid (RS w (w2.alloc (.cells (hbD { rq := true, m := mt, t := pS, mn := 1, fs := [] } none 0).toArray 24)) (w.heap.size + 1) w2.heap.size { rq := true, m := mt, t := pS, mn := 1, fs := [] } none 0) := Lib.hid (by
    obtain ⟨A', c', e, h⟩ := RS.new (w := w) (wx := w2) (B := w.heap.size + 1) (R := { rq := true, m := mt, t := pS, mn := 1, fs := [] }) (v := .slice none 0 0) (Row.nil _ _ _) U2.out (by omega) HB2.out HZ2.out
    injection e with e1 _ e3
    subst e1 e3
    exact h)
  have HVA := Lib.hid (V2.out.alloc (.cells (hbD { rq := true, m := mt, t := pS, mn := 1, fs := [] } none 0).toArray 24))
  clear hO hvs hfs
  have v1 := V2.out.cell (j := 1) rfl
  go_upto_region 10 with (fail)
  have c06 := HRH.out.var.cell (j := 6) rfl
  have y06 := HRH.out.var.frozen 6
  have hz6 := HRH.out.bl.size
  have hvl := HRH.out.var.lt
  have hz2 := HZ2.out
  obtain ⟨wr, hwr⟩ : ∃ wr : World, wr = w2.alloc (.cells (hbD { rq := true, m := mt, t := pS, mn := 1, fs := [] } none 0).toArray 24) := ⟨_, rfl⟩
  have hsz : wr.heap.size = w2.heap.size + 1 := by rw [hwr, heap_alloc_size]
  have HSZ := Lib.hid hsz
  rw [← hwr] at HRH HVA c06 y06 hz6 hvl
  rw [show w2.alloc (.cells #[.bool true, .string mt, .string pS, .int .i64 0, .string ⟨#[]⟩, .int .i64 1, .slice none 0 0] 24) = wr from hwr.symm]
  clear hwr hsz v1
  obtain ⟨b, hb⟩ : ∃ b, b = w2.heap.size := ⟨_, rfl⟩
  rw [← hb] at HRH c06 y06 hvl HSZ hz2 ⊢
  clear hb
  go_cut [] (fun wx => ∃ (A6 : Option Addr) (c6 : Nat), RS w wx (w.heap.size + 1) b { rq := true, m := mt, t := pS, mn := 1, fs := [(sHost, host)] } A6 c6 ∧ Var wx w.heap.size 24 [.bool true, .string mt, .string t, .int .i64 st, .string rs, .int .i64 mn, .slice A n c])
  case first =>
    go_wp2_with (first
      | (at_builtin; go_must (refine wpList_app _ rfl (.tmp 74) (.tmp 77) 22 22 rfl (w.heap.size + 2) 35 g0 (.agg #[.string ⟨#[]⟩, .string ⟨#[]⟩]) 2 32 Tryz.underlying22 hf0 fz0 fz1 fz2 rfl (.slice none 0 0) 0 [] rfl (HRH.out.row.alloc _) _ 1 [.string ⟨#[72, 111, 115, 116]⟩, .string host] rfl (built_pair _ _ _) (by omega) (by omega) (by omega) (by simp; omega) ?_); intro v7 w7 hrow7 hg7 ho7; obtain ⟨A7, c7, e7, hR7⟩ := HRH.out.app (f := (⟨#[72, 111, 115, 116]⟩, host)) hrow7 hg7 ho7; obtain ⟨N7, hN7⟩ : ∃ N7, N7 = (([] : List Fl) ++ [((⟨#[72, 111, 115, 116]⟩, host) : Fl)]).length := ⟨_, rfl⟩; dsimp only at e7 hR7; rw [← hN7] at e7; subst e7; have c76 : w7.cell? ⟨b, 6, none⟩ = some (.slice none 0 0) := ((HRH.out.var.alloc _).grown hg7 HRH.out.far).cell (j := 6) rfl; have y76 : w7.frozen? ⟨b, 6, none⟩ = false := ((HRH.out.var.alloc _).grown hg7 HRH.out.far).frozen 6; have HR7 := Lib.hid hR7; have HV7 := Lib.hid (((HVA.out.alloc _).grown hg7 (by simp [Value.ownBlock])).set_other (p := ⟨b, 6, none⟩) (show b ≠ w.heap.size by omega) (.slice A7 N7 c7)); clear hrow7 hg7 ho7 hR7 hN7)
      | fail)
    go_meet
    exact ⟨A7, c7, HR7.out, HV7.out⟩
  case rest =>
  obtain ⟨A5, c5, hRS, hVP⟩ := hcut
  obtain ⟨wk, rfl⟩ : ∃ wk : World, wk = wc := ⟨_, rfl⟩
  have HR := Lib.hid hRS
  have HVP := Lib.hid hVP
  have HK : Hid (∀ w' : World, Var w' w.heap.size 24 [.bool true, .string mt, .string t, .int .i64 st, .string rs, .int .i64 mn, .slice A n c] → (w'.cell? ⟨w.heap.size, 0, none⟩ = some (.bool true) ∧ w'.cell? ⟨w.heap.size, 1, none⟩ = some (.string mt) ∧ w'.cell? ⟨w.heap.size, 2, none⟩ = some (.string t) ∧ w'.cell? ⟨w.heap.size, 3, none⟩ = some (.int .i64 st) ∧ w'.cell? ⟨w.heap.size, 4, none⟩ = some (.string rs) ∧ w'.cell? ⟨w.heap.size, 5, none⟩ = some (.int .i64 mn) ∧ w'.cell? ⟨w.heap.size, 6, none⟩ = some (.slice A n c))) := Lib.hid (fun w' a => ⟨a.cell (j := 0) rfl, a.cell (j := 1) rfl, a.cell (j := 2) rfl, a.cell (j := 3) rfl, a.cell (j := 4) rfl, a.cell (j := 5) rfl, a.cell (j := 6) rfl⟩)
  have HRk : Hid (Rd wk wk.heap.size 2 A n (fieldsV fs)) := Lib.hid ((HR0.out.below HR.out.bl).more HR.out.bl.size)
  clear hRS hVP HRH HVA c06 y06 hvl HSZ hz6 HB2 U2 V2 HZ2 hz2
  go_upto_region 11 with (fail)
  go_cut [] (fun wx => ∃ (A6 : Option Addr) (c6 : Nat), RS w wx (w.heap.size + 1) b { rq := true, m := mt, t := pS, mn := 1, fs := [(sHost, host)] ++ O } A6 c6)
  case first =>
    have V6 := HR.out.var.cell (j := 6) rfl
    have hz6 := HR.out.bl.size
    have hvl := HR.out.var.lt
    have hle := HR.out.le
    refine wp_region_held_drew (S := (fun w' => w'.cell? ⟨w.heap.size, 0, none⟩ = some (.bool true) ∧ w'.cell? ⟨w.heap.size, 1, none⟩ = some (.string mt) ∧ w'.cell? ⟨w.heap.size, 2, none⟩ = some (.string t) ∧ w'.cell? ⟨w.heap.size, 3, none⟩ = some (.int .i64 st) ∧ w'.cell? ⟨w.heap.size, 4, none⟩ = some (.string rs) ∧ w'.cell? ⟨w.heap.size, 5, none⟩ = some (.int .i64 mn) ∧ w'.cell? ⟨w.heap.size, 6, none⟩ = some (.slice A n c))) (by as_aux_lemma => kernel_rfl) ?_ (fun hHeld => ?_)
    · exact HK.out _ HVP.out.drew
    refine wpAnyH_take (i := 0) (v := ?_) (by simp only [List.getElem?_toArray, List.getElem?_cons_zero]; exact rfl) (by as_aux_lemma => kernel_rfl) (by as_aux_lemma => kernel_rfl) (by as_aux_lemma => kernel_rfl) (by exact fun _ _ _ h => h) (Or.inl ⟨by rfl, ?_⟩) (by assumption) ?_
    rotate_left
    · intro w hSw
      (try dsimp only at hSw)
      go_simp
      try with_reducible rfl
    (try simp only [Act.put, List.setIfInBounds_toArray, List.set_cons_zero, List.set_cons_succ])
    refine wpAnyH_take (i := 2) (v := ?_) (by simp only [List.getElem?_toArray, List.getElem?_cons_succ, List.getElem?_cons_zero]; exact rfl) (by as_aux_lemma => kernel_rfl) (by as_aux_lemma => kernel_rfl) (by as_aux_lemma => kernel_rfl) (by exact fun _ _ _ h => h) (Or.inl ⟨by rfl, ?_⟩) (by assumption) ?_
    rotate_left
    · intro w hSw
      (try dsimp only at hSw)
      go_simp
      try with_reducible rfl
    (try simp only [Act.put, List.setIfInBounds_toArray, List.set_cons_zero, List.set_cons_succ])
    refine wpAnyH_ready (rs := [1, 3]) (by as_aux_lemma => kernel_rfl) (by simp) ?_
    refine AllReadyH.cons (by simp only [List.getElem?_toArray, List.getElem?_cons_succ, List.getElem?_cons_zero]; exact rfl) (fun K hK => ?_) ?_
    · go_simp
      refine hK.out _ _ ?_ (fun hHeld => ?_)
      · (try dsimp only)
        exact HK.out _ HVP.out.drew
      clear hK K
      (try simp only [Act.put, List.setIfInBounds_toArray, List.set_cons_zero, List.set_cons_succ])
      refine wpAnyH_ready (rs := [3]) (by as_aux_lemma => kernel_rfl) (by simp) ?_
      refine AllReadyH.cons (by simp only [List.getElem?_toArray, List.getElem?_cons_succ, List.getElem?_cons_zero]; exact rfl) (fun K hK => ?_) AllReadyH.nil
      go_simp
      (go_at_call 26; refine (HOT.out _ (by first | exact HRk.out | exact HRk.out.drew)).mono ?_; rintro _ wy ⟨v, rfl, hrow, hl⟩; have hq : Below wk.heap.size wk wy := (by first | exact hl | exact Below.of_drew hl); obtain ⟨A6, c6, rfl, _, _, hA6, rd6⟩ := hrow.form; have HRy := Lib.hid (HR.out.below hq); have HVy := Lib.hid (HVP.out.below_all hq); have V6y := HRy.out.var.cell (j := 6) rfl; have HRD := Lib.hid rd6; have HA6 := Lib.hid hA6; clear hl hq hrow rd6 hA6)
      refine hK.out _ _ ?_ (fun hHeld => ?_)
      · (try dsimp only)
        exact HK.out _ HVy.out
      clear hK K
      (try simp only [Act.put, List.setIfInBounds_toArray, List.set_cons_zero, List.set_cons_succ])
      refine wpAnyH_ready (rs := [4]) (by as_aux_lemma => kernel_rfl) (by simp) ?_
      refine AllReadyH.cons (by simp only [List.getElem?_toArray, List.getElem?_cons_succ, List.getElem?_cons_zero]; exact rfl) (fun K hK => ?_) AllReadyH.nil
      (refine step_app _ (by rfl) (.tmp 81) (.tmp 83) 22 22 (by rfl) (w.heap.size + 2) 35 g0 (.agg #[.string ⟨#[]⟩, .string ⟨#[]⟩]) 2 32 Tryz.underlying22 hf0 fz0 fz1 fz2 rfl (.slice A5 1 c5) 1 [.string ⟨#[72, 111, 115, 116]⟩, .string host] (by rfl) HRy.out.row _ O.length (fieldsV O) (by rfl) (Src.slice Tryz.underlying22 HRD.out (fun e => (HA6.out e).1) (fieldsV_one O)) (by omega) (by omega) (by omega) (by have := HRy.out.bl.size; have := HRy.out.var.lt; have := HRy.out.le; omega) ?_; intro v7 w7 hrow7 hg7 ho7)
      obtain ⟨A7, c7, e7, hR7⟩ := HRy.out.apps (L := O) hrow7 hg7 ho7
      obtain ⟨N7, hN7⟩ : ∃ N7, N7 = ([(sHost, host)] ++ O).length := ⟨_, rfl⟩
      dsimp only at e7 hR7
      rw [← hN7] at e7
      subst e7
      have HR7 := Lib.hid hR7
      have c76 : w7.cell? ⟨b, 6, none⟩ = some (.slice A5 1 c5) := (HRy.out.var.grown hg7 HRy.out.far).cell (j := 6) rfl
      have y76 : w7.frozen? ⟨b, 6, none⟩ = false := (HRy.out.var.grown hg7 HRy.out.far).frozen 6
      have HV7 := Lib.hid (HVy.out.grown hg7 (fun e => by have := (HRy.out.row.lt _ e).1; omega))
      have HV8 := Lib.hid (HV7.out.set_other (p := ⟨b, 6, none⟩) (show b ≠ w.heap.size by have := HRy.out.le; omega) (.slice A7 N7 c7))
      clear hrow7 hg7 ho7 hR7 hN7
      refine hK.out _ _ ?_ (fun hHeld => ?_)
      · (try dsimp only)
        exact HK.out _ HV7.out
      clear hK K
      (try simp only [Act.put, List.setIfInBounds_toArray, List.set_cons_zero, List.set_cons_succ])
      refine wpAnyH_take (i := 5) (v := ?_) (by simp only [List.getElem?_toArray, List.getElem?_cons_succ, List.getElem?_cons_zero]; exact rfl) (by as_aux_lemma => kernel_rfl) (by as_aux_lemma => kernel_rfl) (by as_aux_lemma => kernel_rfl) (by exact fun _ _ _ h => h) (Or.inl ⟨by rfl, ?_⟩) (by assumption) ?_
      rotate_left
      · intro w hSw
        (try dsimp only at hSw)
        go_simp
        try with_reducible rfl
      (try simp only [Act.put, List.setIfInBounds_toArray, List.set_cons_zero, List.set_cons_succ])
      refine wpAnyH_ready (rs := [6]) (by as_aux_lemma => kernel_rfl) (by simp) ?_
      refine AllReadyH.cons (by simp only [List.getElem?_toArray, List.getElem?_cons_succ, List.getElem?_cons_zero]; exact rfl) (fun K hK => ?_) AllReadyH.nil
      go_simp
      refine hK.out _ _ ?_ (fun hHeld => ?_)
      · (try dsimp only)
        exact HK.out _ HV8.out
      clear hK K
      refine wpAnyH_done (by as_aux_lemma => kernel_rfl) ?_ _
      go_wp2
      go_meet
      exact ⟨A7, c7, HR7.out⟩
    · refine AllReadyH.cons (by simp only [List.getElem?_toArray, List.getElem?_cons_succ, List.getElem?_cons_zero]; exact rfl) (fun K hK => ?_) AllReadyH.nil
      go_simp
      (go_at_call 26; refine (HOT.out _ (by first | exact HRk.out | exact HRk.out.drew)).mono ?_; rintro _ wy ⟨v, rfl, hrow, hl⟩; have hq : Below wk.heap.size wk wy := (by first | exact hl | exact Below.of_drew hl); obtain ⟨A6, c6, rfl, _, _, hA6, rd6⟩ := hrow.form; have HRy := Lib.hid (HR.out.below hq); have HVy := Lib.hid (HVP.out.below_all hq); have V6y := HRy.out.var.cell (j := 6) rfl; have HRD := Lib.hid rd6; have HA6 := Lib.hid hA6; clear hl hq hrow rd6 hA6)
      refine hK.out _ _ ?_ (fun hHeld => ?_)
      · (try dsimp only)
        exact HK.out _ HVy.out
      clear hK K
      (try simp only [Act.put, List.setIfInBounds_toArray, List.set_cons_zero, List.set_cons_succ])
      refine wpAnyH_ready (rs := [1]) (by as_aux_lemma => kernel_rfl) (by simp) ?_
      refine AllReadyH.cons (by simp only [List.getElem?_toArray, List.getElem?_cons_succ, List.getElem?_cons_zero]; exact rfl) (fun K hK => ?_) AllReadyH.nil
      go_simp
      refine hK.out _ _ ?_ (fun hHeld => ?_)
      · (try dsimp only)
        exact HK.out _ HVy.out
      clear hK K
      (try simp only [Act.put, List.setIfInBounds_toArray, List.set_cons_zero, List.set_cons_succ])
      refine wpAnyH_ready (rs := [4]) (by as_aux_lemma => kernel_rfl) (by simp) ?_
      refine AllReadyH.cons (by simp only [List.getElem?_toArray, List.getElem?_cons_succ, List.getElem?_cons_zero]; exact rfl) (fun K hK => ?_) AllReadyH.nil
      (refine step_app _ (by rfl) (.tmp 81) (.tmp 83) 22 22 (by rfl) (w.heap.size + 2) 35 g0 (.agg #[.string ⟨#[]⟩, .string ⟨#[]⟩]) 2 32 Tryz.underlying22 hf0 fz0 fz1 fz2 rfl (.slice A5 1 c5) 1 [.string ⟨#[72, 111, 115, 116]⟩, .string host] (by rfl) HRy.out.row _ O.length (fieldsV O) (by rfl) (Src.slice Tryz.underlying22 HRD.out (fun e => (HA6.out e).1) (fieldsV_one O)) (by omega) (by omega) (by omega) (by have := HRy.out.bl.size; have := HRy.out.var.lt; have := HRy.out.le; omega) ?_; intro v7 w7 hrow7 hg7 ho7)
      obtain ⟨A7, c7, e7, hR7⟩ := HRy.out.apps (L := O) hrow7 hg7 ho7
      obtain ⟨N7, hN7⟩ : ∃ N7, N7 = ([(sHost, host)] ++ O).length := ⟨_, rfl⟩
      dsimp only at e7 hR7
      rw [← hN7] at e7
      subst e7
      have HR7 := Lib.hid hR7
      have c76 : w7.cell? ⟨b, 6, none⟩ = some (.slice A5 1 c5) := (HRy.out.var.grown hg7 HRy.out.far).cell (j := 6) rfl
      have y76 : w7.frozen? ⟨b, 6, none⟩ = false := (HRy.out.var.grown hg7 HRy.out.far).frozen 6
      have HV7 := Lib.hid (HVy.out.grown hg7 (fun e => by have := (HRy.out.row.lt _ e).1; omega))
      have HV8 := Lib.hid (HV7.out.set_other (p := ⟨b, 6, none⟩) (show b ≠ w.heap.size by have := HRy.out.le; omega) (.slice A7 N7 c7))
      clear hrow7 hg7 ho7 hR7 hN7
      refine hK.out _ _ ?_ (fun hHeld => ?_)
      · (try dsimp only)
        exact HK.out _ HV7.out
      clear hK K
      (try simp only [Act.put, List.setIfInBounds_toArray, List.set_cons_zero, List.set_cons_succ])
      refine wpAnyH_take (i := 5) (v := ?_) (by simp only [List.getElem?_toArray, List.getElem?_cons_succ, List.getElem?_cons_zero]; exact rfl) (by as_aux_lemma => kernel_rfl) (by as_aux_lemma => kernel_rfl) (by as_aux_lemma => kernel_rfl) (by exact fun _ _ _ h => h) (Or.inl ⟨by rfl, ?_⟩) (by assumption) ?_
      rotate_left
      · intro w hSw
        (try dsimp only at hSw)
        go_simp
        try with_reducible rfl
      (try simp only [Act.put, List.setIfInBounds_toArray, List.set_cons_zero, List.set_cons_succ])
      refine wpAnyH_ready (rs := [6]) (by as_aux_lemma => kernel_rfl) (by simp) ?_
      refine AllReadyH.cons (by simp only [List.getElem?_toArray, List.getElem?_cons_succ, List.getElem?_cons_zero]; exact rfl) (fun K hK => ?_) AllReadyH.nil
      go_simp
      refine hK.out _ _ ?_ (fun hHeld => ?_)
      · (try dsimp only)
        exact HK.out _ HV8.out
      clear hK K
      refine wpAnyH_done (by as_aux_lemma => kernel_rfl) ?_ _
      go_wp2
      go_meet
      exact ⟨A7, c7, HR7.out⟩
  case rest =>
  obtain ⟨A5, c5, hRS⟩ := hcut
  obtain ⟨wj, rfl⟩ : ∃ wj : World, wj = wc := ⟨_, rfl⟩
  obtain ⟨O0, hO0⟩ : ∃ O0, O0 = [(sHost, host)] ++ O := ⟨_, rfl⟩
  have hO0L : O0.length ≤ 1048577 := by rw [hO0, List.length_append, List.length_singleton]; omega
  rw [← hO0] at hRS HFS
  have HO0 := Lib.hid hO0
  clear hO0 HOT HK HRk HVP HR HR0
  go_upto_if 87 with (fail)
  go_cut [] (fun wx => ∃ (A6 : Option Addr) (c6 : Nat), RS w wx (w.heap.size + 1) b { rq := true, m := mt, t := pS, mn := 1, fs := O0 ++ F1P fr ln } A6 c6)
  case first =>
    obtain ⟨R, hR⟩ : ∃ R : HB, R = { rq := true, m := mt, t := pS, mn := 1, fs := O0 } := ⟨_, rfl⟩
    have hRf : R.fs = O0 := by rw [hR]
    rw [← hR] at hRS
    by_cases e1 : fr = 1
    · have hF : F1P fr ln = [(sLen, ⟨(Lib.itoa ln).toArray⟩)] := by rw [e1]; rfl
      have HF := Lib.hid hF
      have HR := Lib.hid hRS
      have HI := Lib.hid (fun W => ptold_any ln.toNat W (by unfold le63; have := H1.out e1; unfold isInt at hln; omega))
      have hil := itoa_len hln
      have HIT : Hid (Lib.decDigits ln.toNat = Lib.itoa ln) := Lib.hid (by rw [← itoa_nat]; congr 1; have := H1.out e1; omega)
      rw [HIT.out] at HI
      have hlnn : ((ln.toNat : Nat) : Int) = ln := by have := H1.out e1; omega
      rw [hlnn] at HI
      obtain ⟨lv, hlv⟩ : ∃ lv : ByteArray, lv = ⟨(Lib.itoa ln).toArray⟩ := ⟨_, rfl⟩
      rw [← hlv] at HI HF
      have hOR : R.fs.length ≤ 1048577 := by rw [hRf]; exact hO0L
      have HRR := Lib.hid hR
      clear hF hRS hil hlnn hlv hR hRf
      subst e1
      have V6 := HR.out.var.cell (j := 6) rfl
      have hz6 := HR.out.bl.size
      have hvl := HR.out.var.lt
      have hle := HR.out.le
      go_upto_region 13 with (fail)
      refine wp_region_held_drew (S := (fun _ => True)) (by as_aux_lemma => kernel_rfl) trivial (fun hHeld => ?_)
      refine wpAnyH_take (i := 0) (v := ?_) (by simp only [List.getElem?_toArray, List.getElem?_cons_zero]; exact rfl) (by as_aux_lemma => kernel_rfl) (by as_aux_lemma => kernel_rfl) (by as_aux_lemma => kernel_rfl) (by exact fun _ _ _ h => h) (Or.inl ⟨by rfl, ?_⟩) (by assumption) ?_
      rotate_left
      · intro w hSw
        (try dsimp only at hSw)
        go_simp
        try with_reducible rfl
      (try simp only [Act.put, List.setIfInBounds_toArray, List.set_cons_zero, List.set_cons_succ])
      refine wpAnyH_take (i := 2) (v := ?_) (by simp only [List.getElem?_toArray, List.getElem?_cons_succ, List.getElem?_cons_zero]; exact rfl) (by as_aux_lemma => kernel_rfl) (by as_aux_lemma => kernel_rfl) (by as_aux_lemma => kernel_rfl) (by exact fun _ _ _ h => h) (Or.inl ⟨by rfl, ?_⟩) (by assumption) ?_
      rotate_left
      · intro w hSw
        (try dsimp only at hSw)
        go_simp
        try with_reducible rfl
      (try simp only [Act.put, List.setIfInBounds_toArray, List.set_cons_zero, List.set_cons_succ])
      refine wpAnyH_ready (rs := [1, 3]) (by as_aux_lemma => kernel_rfl) (by simp) ?_
      refine AllReadyH.cons (by simp only [List.getElem?_toArray, List.getElem?_cons_succ, List.getElem?_cons_zero]; exact rfl) (fun K hK => ?_) ?_
      · go_simp
        refine hK.out _ _ trivial (fun hHeld => ?_)
        clear hK K
        (try simp only [Act.put, List.setIfInBounds_toArray, List.set_cons_zero, List.set_cons_succ])
        refine wpAnyH_ready (rs := [3]) (by as_aux_lemma => kernel_rfl) (by simp) ?_
        refine AllReadyH.cons (by simp only [List.getElem?_toArray, List.getElem?_cons_succ, List.getElem?_cons_zero]; exact rfl) (fun K hK => ?_) AllReadyH.nil
        go_simp
        (go_at_call 27; refine (HI.out _).mono ?_; rintro _ wy ⟨rfl, hl⟩; have hq : Below wj.heap.size wj wy := Below.of_drew hl; have HRy := Lib.hid (HR.out.below hq); have V6y := HRy.out.var.cell (j := 6) rfl; have V6z := fun o => (HRy.out.var.alloc o).cell (j := 6) rfl; clear hl hq)
        refine hK.out _ _ trivial (fun hHeld => ?_)
        clear hK K
        (try simp only [Act.put, List.setIfInBounds_toArray, List.set_cons_zero, List.set_cons_succ])
        clear V6y V6z
        refine wpAnyH_take (i := 4) (v := ?_) (by simp only [List.getElem?_toArray, List.getElem?_cons_succ, List.getElem?_cons_zero]; exact rfl) (by as_aux_lemma => kernel_rfl) (by as_aux_lemma => kernel_rfl) (by as_aux_lemma => kernel_rfl) (by exact fun _ _ _ h => h) (Or.inl ⟨by rfl, ?_⟩) (by assumption) ?_
        rotate_left
        · intro w hSw
          (try dsimp only at hSw)
          go_simp
          try with_reducible rfl
        (try simp only [Act.put, List.setIfInBounds_toArray, List.set_cons_zero, List.set_cons_succ])
        refine wpAnyH_ready (rs := [5]) (by as_aux_lemma => kernel_rfl) (by simp) ?_
        refine AllReadyH.cons (by simp only [List.getElem?_toArray, List.getElem?_cons_succ, List.getElem?_cons_zero]; exact rfl) (fun K hK => ?_) AllReadyH.nil
        go_simp
        refine hK.out _ _ trivial (fun hHeld => ?_)
        clear hK K
        (try simp only [Act.put, List.setIfInBounds_toArray, List.set_cons_zero, List.set_cons_succ])
        refine wpAnyH_ready (rs := [6]) (by as_aux_lemma => kernel_rfl) (by simp) ?_
        refine AllReadyH.cons (by simp only [List.getElem?_toArray, List.getElem?_cons_succ, List.getElem?_cons_zero]; exact rfl) (fun K hK => ?_) AllReadyH.nil
        (refine step_app _ (by rfl) (.tmp 89) (.tmp 93) 22 22 (by rfl) (w.heap.size + 2) 35 g0 (.agg #[.string ⟨#[]⟩, .string ⟨#[]⟩]) 2 32 Tryz.underlying22 hf0 fz0 fz1 fz2 rfl (.slice A5 R.fs.length c5) R.fs.length (fieldsV R.fs) (by rfl) (HRy.out.row.alloc _) _ 1 [.string ⟨#[67, 111, 110, 116, 101, 110, 116, 45, 76, 101, 110, 103, 116, 104]⟩, .string lv] (by rfl) (built_pair _ _ _) (by omega) (by omega) (by omega) (by have := HRy.out.var.lt; have := HRy.out.le; simp; omega) ?_; intro v7 w7 hrow7 hg7 ho7)
        obtain ⟨A7, c7, e7, hR7⟩ := HRy.out.app (f := (sLen, lv)) hrow7 hg7 ho7
        obtain ⟨N7, hN7⟩ : ∃ N7, N7 = (R.fs ++ [(sLen, lv)]).length := ⟨_, rfl⟩
        rw [← hN7] at e7
        subst e7
        have HR7 := Lib.hid hR7
        have c76 : w7.cell? ⟨b, 6, none⟩ = some (.slice A5 R.fs.length c5) := ((HRy.out.var.alloc _).grown hg7 HRy.out.far).cell (j := 6) rfl
        have y76 : w7.frozen? ⟨b, 6, none⟩ = false := ((HRy.out.var.alloc _).grown hg7 HRy.out.far).frozen 6
        clear hrow7 hg7 ho7 hR7 hN7
        refine hK.out _ _ trivial (fun hHeld => ?_)
        clear hK K
        (try simp only [Act.put, List.setIfInBounds_toArray, List.set_cons_zero, List.set_cons_succ])
        refine wpAnyH_take (i := 7) (v := ?_) (by simp only [List.getElem?_toArray, List.getElem?_cons_succ, List.getElem?_cons_zero]; exact rfl) (by as_aux_lemma => kernel_rfl) (by as_aux_lemma => kernel_rfl) (by as_aux_lemma => kernel_rfl) (by exact fun _ _ _ h => h) (Or.inl ⟨by rfl, ?_⟩) (by assumption) ?_
        rotate_left
        · intro w hSw
          (try dsimp only at hSw)
          go_simp
          try with_reducible rfl
        (try simp only [Act.put, List.setIfInBounds_toArray, List.set_cons_zero, List.set_cons_succ])
        refine wpAnyH_ready (rs := [8]) (by as_aux_lemma => kernel_rfl) (by simp) ?_
        refine AllReadyH.cons (by simp only [List.getElem?_toArray, List.getElem?_cons_succ, List.getElem?_cons_zero]; exact rfl) (fun K hK => ?_) AllReadyH.nil
        go_simp
        refine hK.out _ _ trivial (fun hHeld => ?_)
        clear hK K
        refine wpAnyH_done (by as_aux_lemma => kernel_rfl) ?_ _
        go_wp2
        go_meet
        rw [HF.out]
        have hfin := HR7.out
        rw [HRR.out] at hfin
        exact ⟨A7, c7, hfin⟩
      · refine AllReadyH.cons (by simp only [List.getElem?_toArray, List.getElem?_cons_succ, List.getElem?_cons_zero]; exact rfl) (fun K hK => ?_) AllReadyH.nil
        go_simp
        (go_at_call 27; refine (HI.out _).mono ?_; rintro _ wy ⟨rfl, hl⟩; have hq : Below wj.heap.size wj wy := Below.of_drew hl; have HRy := Lib.hid (HR.out.below hq); have V6y := HRy.out.var.cell (j := 6) rfl; have V6z := fun o => (HRy.out.var.alloc o).cell (j := 6) rfl; clear hl hq)
        refine hK.out _ _ trivial (fun hHeld => ?_)
        clear hK K
        (try simp only [Act.put, List.setIfInBounds_toArray, List.set_cons_zero, List.set_cons_succ])
        refine wpAnyH_take (i := 4) (v := ?_) (by simp only [List.getElem?_toArray, List.getElem?_cons_succ, List.getElem?_cons_zero]; exact rfl) (by as_aux_lemma => kernel_rfl) (by as_aux_lemma => kernel_rfl) (by as_aux_lemma => kernel_rfl) (by exact fun _ _ _ h => h) (Or.inl ⟨by rfl, ?_⟩) (by assumption) ?_
        rotate_left
        · intro w hSw
          (try dsimp only at hSw)
          go_simp
          try with_reducible rfl
        (try simp only [Act.put, List.setIfInBounds_toArray, List.set_cons_zero, List.set_cons_succ])
        refine wpAnyH_ready (rs := [1, 5]) (by as_aux_lemma => kernel_rfl) (by simp) ?_
        refine AllReadyH.cons (by simp only [List.getElem?_toArray, List.getElem?_cons_succ, List.getElem?_cons_zero]; exact rfl) (fun K hK => ?_) ?_
        · go_simp
          refine hK.out _ _ trivial (fun hHeld => ?_)
          clear hK K
          (try simp only [Act.put, List.setIfInBounds_toArray, List.set_cons_zero, List.set_cons_succ])
          clear V6y V6z
          refine wpAnyH_ready (rs := [5]) (by as_aux_lemma => kernel_rfl) (by simp) ?_
          refine AllReadyH.cons (by simp only [List.getElem?_toArray, List.getElem?_cons_succ, List.getElem?_cons_zero]; exact rfl) (fun K hK => ?_) AllReadyH.nil
          go_simp
          refine hK.out _ _ trivial (fun hHeld => ?_)
          clear hK K
          (try simp only [Act.put, List.setIfInBounds_toArray, List.set_cons_zero, List.set_cons_succ])
          refine wpAnyH_ready (rs := [6]) (by as_aux_lemma => kernel_rfl) (by simp) ?_
          refine AllReadyH.cons (by simp only [List.getElem?_toArray, List.getElem?_cons_succ, List.getElem?_cons_zero]; exact rfl) (fun K hK => ?_) AllReadyH.nil
          (refine step_app _ (by rfl) (.tmp 89) (.tmp 93) 22 22 (by rfl) (w.heap.size + 2) 35 g0 (.agg #[.string ⟨#[]⟩, .string ⟨#[]⟩]) 2 32 Tryz.underlying22 hf0 fz0 fz1 fz2 rfl (.slice A5 R.fs.length c5) R.fs.length (fieldsV R.fs) (by rfl) (HRy.out.row.alloc _) _ 1 [.string ⟨#[67, 111, 110, 116, 101, 110, 116, 45, 76, 101, 110, 103, 116, 104]⟩, .string lv] (by rfl) (built_pair _ _ _) (by omega) (by omega) (by omega) (by have := HRy.out.var.lt; have := HRy.out.le; simp; omega) ?_; intro v7 w7 hrow7 hg7 ho7)
          obtain ⟨A7, c7, e7, hR7⟩ := HRy.out.app (f := (sLen, lv)) hrow7 hg7 ho7
          obtain ⟨N7, hN7⟩ : ∃ N7, N7 = (R.fs ++ [(sLen, lv)]).length := ⟨_, rfl⟩
          rw [← hN7] at e7
          subst e7
          have HR7 := Lib.hid hR7
          have c76 : w7.cell? ⟨b, 6, none⟩ = some (.slice A5 R.fs.length c5) := ((HRy.out.var.alloc _).grown hg7 HRy.out.far).cell (j := 6) rfl
          have y76 : w7.frozen? ⟨b, 6, none⟩ = false := ((HRy.out.var.alloc _).grown hg7 HRy.out.far).frozen 6
          clear hrow7 hg7 ho7 hR7 hN7
          refine hK.out _ _ trivial (fun hHeld => ?_)
          clear hK K
          (try simp only [Act.put, List.setIfInBounds_toArray, List.set_cons_zero, List.set_cons_succ])
          refine wpAnyH_take (i := 7) (v := ?_) (by simp only [List.getElem?_toArray, List.getElem?_cons_succ, List.getElem?_cons_zero]; exact rfl) (by as_aux_lemma => kernel_rfl) (by as_aux_lemma => kernel_rfl) (by as_aux_lemma => kernel_rfl) (by exact fun _ _ _ h => h) (Or.inl ⟨by rfl, ?_⟩) (by assumption) ?_
          rotate_left
          · intro w hSw
            (try dsimp only at hSw)
            go_simp
            try with_reducible rfl
          (try simp only [Act.put, List.setIfInBounds_toArray, List.set_cons_zero, List.set_cons_succ])
          refine wpAnyH_ready (rs := [8]) (by as_aux_lemma => kernel_rfl) (by simp) ?_
          refine AllReadyH.cons (by simp only [List.getElem?_toArray, List.getElem?_cons_succ, List.getElem?_cons_zero]; exact rfl) (fun K hK => ?_) AllReadyH.nil
          go_simp
          refine hK.out _ _ trivial (fun hHeld => ?_)
          clear hK K
          refine wpAnyH_done (by as_aux_lemma => kernel_rfl) ?_ _
          go_wp2
          go_meet
          rw [HF.out]
          have hfin := HR7.out
          rw [HRR.out] at hfin
          exact ⟨A7, c7, hfin⟩
        · refine AllReadyH.cons (by simp only [List.getElem?_toArray, List.getElem?_cons_succ, List.getElem?_cons_zero]; exact rfl) (fun K hK => ?_) AllReadyH.nil
          go_simp
          refine hK.out _ _ trivial (fun hHeld => ?_)
          clear hK K
          (try simp only [Act.put, List.setIfInBounds_toArray, List.set_cons_zero, List.set_cons_succ])
          refine wpAnyH_ready (rs := [1]) (by as_aux_lemma => kernel_rfl) (by simp) ?_
          refine AllReadyH.cons (by simp only [List.getElem?_toArray, List.getElem?_cons_succ, List.getElem?_cons_zero]; exact rfl) (fun K hK => ?_) AllReadyH.nil
          go_simp
          refine hK.out _ _ trivial (fun hHeld => ?_)
          clear hK K
          (try simp only [Act.put, List.setIfInBounds_toArray, List.set_cons_zero, List.set_cons_succ])
          clear V6y V6z
          refine wpAnyH_ready (rs := [6]) (by as_aux_lemma => kernel_rfl) (by simp) ?_
          refine AllReadyH.cons (by simp only [List.getElem?_toArray, List.getElem?_cons_succ, List.getElem?_cons_zero]; exact rfl) (fun K hK => ?_) AllReadyH.nil
          (refine step_app _ (by rfl) (.tmp 89) (.tmp 93) 22 22 (by rfl) (w.heap.size + 2) 35 g0 (.agg #[.string ⟨#[]⟩, .string ⟨#[]⟩]) 2 32 Tryz.underlying22 hf0 fz0 fz1 fz2 rfl (.slice A5 R.fs.length c5) R.fs.length (fieldsV R.fs) (by rfl) (HRy.out.row.alloc _) _ 1 [.string ⟨#[67, 111, 110, 116, 101, 110, 116, 45, 76, 101, 110, 103, 116, 104]⟩, .string lv] (by rfl) (built_pair _ _ _) (by omega) (by omega) (by omega) (by have := HRy.out.var.lt; have := HRy.out.le; simp; omega) ?_; intro v7 w7 hrow7 hg7 ho7)
          obtain ⟨A7, c7, e7, hR7⟩ := HRy.out.app (f := (sLen, lv)) hrow7 hg7 ho7
          obtain ⟨N7, hN7⟩ : ∃ N7, N7 = (R.fs ++ [(sLen, lv)]).length := ⟨_, rfl⟩
          rw [← hN7] at e7
          subst e7
          have HR7 := Lib.hid hR7
          have c76 : w7.cell? ⟨b, 6, none⟩ = some (.slice A5 R.fs.length c5) := ((HRy.out.var.alloc _).grown hg7 HRy.out.far).cell (j := 6) rfl
          have y76 : w7.frozen? ⟨b, 6, none⟩ = false := ((HRy.out.var.alloc _).grown hg7 HRy.out.far).frozen 6
          clear hrow7 hg7 ho7 hR7 hN7
          refine hK.out _ _ trivial (fun hHeld => ?_)
          clear hK K
          (try simp only [Act.put, List.setIfInBounds_toArray, List.set_cons_zero, List.set_cons_succ])
          refine wpAnyH_take (i := 7) (v := ?_) (by simp only [List.getElem?_toArray, List.getElem?_cons_succ, List.getElem?_cons_zero]; exact rfl) (by as_aux_lemma => kernel_rfl) (by as_aux_lemma => kernel_rfl) (by as_aux_lemma => kernel_rfl) (by exact fun _ _ _ h => h) (Or.inl ⟨by rfl, ?_⟩) (by assumption) ?_
          rotate_left
          · intro w hSw
            (try dsimp only at hSw)
            go_simp
            try with_reducible rfl
          (try simp only [Act.put, List.setIfInBounds_toArray, List.set_cons_zero, List.set_cons_succ])
          refine wpAnyH_ready (rs := [8]) (by as_aux_lemma => kernel_rfl) (by simp) ?_
          refine AllReadyH.cons (by simp only [List.getElem?_toArray, List.getElem?_cons_succ, List.getElem?_cons_zero]; exact rfl) (fun K hK => ?_) AllReadyH.nil
          go_simp
          refine hK.out _ _ trivial (fun hHeld => ?_)
          clear hK K
          refine wpAnyH_done (by as_aux_lemma => kernel_rfl) ?_ _
          go_wp2
          go_meet
          rw [HF.out]
          have hfin := HR7.out
          rw [HRR.out] at hfin
          exact ⟨A7, c7, hfin⟩
    · have hF : F1P fr ln = [] := by unfold F1P; rw [if_neg e1]
      have q1 : (fr == 1) = false := by simpa using e1
      have HF := Lib.hid hF
      have hRN := Lib.hid hRS.nil
      rw [hR] at hRN
      clear hR hRS hRf e1 hF
      go_wp2
      go_meet
      rw [HF.out]
      exact ⟨_, _, hRN.out⟩
  case rest =>
  obtain ⟨A5, c5, hRS⟩ := hcut
  obtain ⟨O1, hO1⟩ : ∃ O1, O1 = O0 ++ F1P fr ln := ⟨_, rfl⟩
  have hO1L : O1.length ≤ 1048578 := by rw [hO1, List.length_append]; unfold F1P; split <;> simp <;> omega
  rw [← hO1] at hRS HFS
  have HO1 := Lib.hid hO1
  have HRS1 := Lib.hid hRS
  clear hRS hO1
  go_upto_if 97 with (fail)
  go_cut [] (fun wx => ∃ (A6 : Option Addr) (c6 : Nat), RS w wx (w.heap.size + 1) b { rq := true, m := mt, t := pS, mn := 1, fs := O1 ++ F2P fr 1 } A6 c6)
  case first =>
    obtain ⟨R, hR⟩ : ∃ R : HB, R = { rq := true, m := mt, t := pS, mn := 1, fs := O1 } := ⟨_, rfl⟩
    have hOR : R.fs.length ≤ 1048578 := by rw [hR]; exact hO1L
    have hRS := HRS1.out
    rw [← hR] at hRS
    have HR := Lib.hid hRS
    have HRR := Lib.hid hR
    clear hR hRS
    by_cases e2 : fr = 2
    · have HF : Hid (F2P fr 1 = [(sCod, sChunked)]) := Lib.hid (by unfold F2P; rw [if_pos ⟨e2, rfl⟩])
      subst e2
      (have V6 := HR.out.var.cell (j := 6) rfl
       have hz6 := HR.out.bl.size
       have hvl := HR.out.var.lt
       have hle := HR.out.le
       go_wp2_with (first
         | (at_builtin; go_must (refine wpList_app _ rfl (.tmp 99) (.tmp 101) 22 22 rfl (w.heap.size + 2) 35 g0 (.agg #[.string ⟨#[]⟩, .string ⟨#[]⟩]) 2 32 Tryz.underlying22 hf0 fz0 fz1 fz2 rfl (.slice A5 R.fs.length c5) R.fs.length (fieldsV R.fs) rfl (HR.out.row.alloc _) _ 1 [.string ⟨#[84, 114, 97, 110, 115, 102, 101, 114, 45, 69, 110, 99, 111, 100, 105, 110, 103]⟩, .string ⟨#[99, 104, 117, 110, 107, 101, 100]⟩] rfl (built_pair _ _ _) (by omega) (by omega) (by omega) (by simp; omega) ?_); intro v7 w7 hrow7 hg7 ho7; obtain ⟨A7, c7, e7, hR7⟩ := HR.out.app (f := (⟨#[84, 114, 97, 110, 115, 102, 101, 114, 45, 69, 110, 99, 111, 100, 105, 110, 103]⟩, ⟨#[99, 104, 117, 110, 107, 101, 100]⟩)) hrow7 hg7 ho7; obtain ⟨N7, hN7⟩ : ∃ N7, N7 = (R.fs ++ [((⟨#[84, 114, 97, 110, 115, 102, 101, 114, 45, 69, 110, 99, 111, 100, 105, 110, 103]⟩, ⟨#[99, 104, 117, 110, 107, 101, 100]⟩) : Fl)]).length := ⟨_, rfl⟩; rw [← hN7] at e7; subst e7; have c76 : w7.cell? ⟨b, 6, none⟩ = some (.slice A5 R.fs.length c5) := ((HR.out.var.alloc _).grown hg7 HR.out.far).cell (j := 6) rfl; have y76 : w7.frozen? ⟨b, 6, none⟩ = false := ((HR.out.var.alloc _).grown hg7 HR.out.far).frozen 6; have HR7 := Lib.hid hR7; clear hrow7 hg7 ho7 hR7 hN7)
         | fail)
       go_meet
       rw [HF.out]
       have hfin := HR7.out
       rw [HRR.out] at hfin
       exact ⟨A7, c7, hfin⟩)
    · have HF : Hid (F2P fr 1 = []) := Lib.hid (by unfold F2P; rw [if_neg (fun h => e2 h.1)])
      have q2 : (fr == 2) = false := by simpa using e2
      clear e2
      go_wp2
      go_meet
      rw [HF.out]
      have hfin := HR.out.nil
      rw [HRR.out] at hfin
      exact ⟨_, _, hfin⟩
  case rest =>
  obtain ⟨A5, c5, hRS⟩ := hcut
  obtain ⟨F, hF⟩ : ∃ F, F = O1 ++ F2P fr 1 := ⟨_, rfl⟩
  rw [← hF] at hRS HFS
  have hFL : F.length ≤ 1048579 := by rw [hF, List.length_append]; unfold F2P; split <;> simp <;> omega
  have hFZ : flSize F ≤ 8388608 := by
    have a1 := FP_size (fr := fr) (mi := 1) hln
    have a2 := HZF.out
    have a3 : flSize [(sHost, host)] = 4 + host.size + 4 := rfl
    rw [hF, HO1.out, HO0.out, flSize_append, flSize_append, flSize_append, a3]
    omega
  have HKK := HFS
  have HW := rWrite_any true mt pS 0 ⟨#[]⟩ 1 A5 F.length c5 F wc (RS.rd hRS) (by unfold isInt; omega) (by unfold isInt; omega) (by omega) (by show mt.size + pS.size + 0 ≤ _; omega) hFZ
  unfold WritePost headV at HW
  obtain ⟨en, hen⟩ : ∃ en, en = (writeP (hiOf true mt pS 0 ⟨#[]⟩ 1 F)).2 := ⟨_, rfl⟩
  have HK : Hid (okH { rq := true, m := mt, t := pS, mn := 1, fs := F } = if en = 0 then ({ rq := true, m := mt, t := pS, mn := 1, fs := F }, 0) else ({}, en)) := Lib.hid (by rw [hen]; rfl)
  rw [← hen] at HW
  have HR := Lib.hid hRS
  have HW := Lib.hid HW
  have HFIN : Hid (reqP ⟨true, mt, t, st, rs, mn, fs⟩ fr ln host = if en = 0 then ({ rq := true, m := mt, t := pS, mn := 1, fs := F }, 0) else ({}, en)) := Lib.hid (by rw [HE.out, HKK.out, HK.out])
  clear hen hRS hFZ hF HO1 HO0 HRS1 HFS HZF HK HKK HE
  by_cases he : en = 0
  · subst he
    rw [if_pos rfl] at HFIN
    have hbz := HR.out.bl.size
    go_wp2_with (first
      | (refine wpList_load_mid rfl 24 (.tmp 13) rfl b 0 rfl [.bool true, .string mt, .string pS, .int .i64 0, .string ⟨#[]⟩, .int .i64 1, .slice A5 F.length c5] _ HR.out.var.range Tryz.underlying24 rfl (by kernel_rfl) ?_)
      | (go_at_call 28; refine HW.out.mono ?_; rintro _ w5 ⟨v5, rfl, _, hb5⟩; have HR5 := Lib.hid (HR.out.below hb5); clear hb5)
      | (refine wpList_load_mid rfl 24 (.tmp 13) rfl b 0 rfl [.bool true, .string mt, .string pS, .int .i64 0, .string ⟨#[]⟩, .int .i64 1, .slice A5 F.length c5] _ HR5.out.var.range Tryz.underlying24 rfl (by kernel_rfl) ?_)
      | (refine wpList_put rfl 24 (.tmp 8) (.tmp 113) rfl (w.heap.size + 1) rfl HR5.out.res [.bool true, .string mt, .string pS, .int .i64 0, .string ⟨#[]⟩, .int .i64 1, .slice A5 F.length c5] rfl rfl (by kernel_rfl) (by simp [Value.oneCell']) ?_; intro wa hva hga hsa)
      | fail)
    refine bodyPost_ret (results_var rfl _ _ rfl hva Tryz.underlying24 rfl (by kernel_rfl)) rfl ?_
    rw [HFIN.out]
    have k := HR5.out.row.lt
    exact ⟨.slice A5 F.length c5, rfl, (HR5.out.row.kept hga (Or.inr (fun e => by have := (k _ e).1; omega))).mono (by omega), Below.grown HR5.out.bl hga HR5.out.bl.size (fun q hq => by injection hq with hq; omega)⟩
  · have he2 : ((en : Int) != 0) = true := by simp; omega
    rw [if_neg he] at HFIN
    go_wp2_with (first
      | (refine wpList_load_mid rfl 24 (.tmp 13) rfl b 0 rfl [.bool true, .string mt, .string pS, .int .i64 0, .string ⟨#[]⟩, .int .i64 1, .slice A5 F.length c5] _ HR.out.var.range Tryz.underlying24 rfl (by kernel_rfl) ?_)
      | (go_at_call 28; refine HW.out.mono ?_; rintro _ w5 ⟨v5, rfl, _, hb5⟩; have HR5 := Lib.hid (HR.out.below hb5); clear hb5)
      | (refine wpList_put rfl 24 (.tmp 8) (.tmp 111) rfl (w.heap.size + 1) rfl HR5.out.res [.bool false, .string ⟨#[]⟩, .string ⟨#[]⟩, .int .i64 0, .string ⟨#[]⟩, .int .i64 0, .slice none 0 0] rfl rfl (by kernel_rfl) (by simp [Value.oneCell']) ?_; intro wa hva hga hsa)
      | fail)
    refine bodyPost_ret (results_var rfl _ _ rfl hva Tryz.underlying24 rfl (by kernel_rfl)) rfl ?_
    rw [HFIN.out]
    exact ⟨.slice none 0 0, rfl, Row.nil _ _ _, Below.grown HR5.out.bl hga HR5.out.bl.size (fun q hq => by injection hq with hq; have := HR5.out.resB; omega)⟩
end Go.Proofs.YtabecgdaiakgiaaGreatDoor
