/- rewrite.Request where it answers. Conditions: sizes, the library's variables. -/
import Derived.Test.YtklmpadcfioefaaGreatDoorRReq
namespace Go.Proofs.YtklmpadcfioefaaGreatDoor
open Go.RowKit

theorem set7 {w : World} {b : Nat} {t : TypeId} {a0 a1 a2 a3 a4 a5 a6 : Value} (h : Var w b t [a0, a1, a2, a3, a4, a5, a6]) (v0 v1 v2 v3 v4 v5 v6 : Value) :
    Var (((((((w.setCell ⟨b, 0, none⟩ v0).setCell ⟨b, 1, none⟩ v1).setCell ⟨b, 2, none⟩ v2).setCell ⟨b, 3, none⟩ v3).setCell ⟨b, 4, none⟩ v4).setCell ⟨b, 5, none⟩ v5).setCell ⟨b, 6, none⟩ v6) b t [v0, v1, v2, v3, v4, v5, v6] ∧
    w.grownBy (((((((w.setCell ⟨b, 0, none⟩ v0).setCell ⟨b, 1, none⟩ v1).setCell ⟨b, 2, none⟩ v2).setCell ⟨b, 3, none⟩ v3).setCell ⟨b, 4, none⟩ v4).setCell ⟨b, 5, none⟩ v5).setCell ⟨b, 6, none⟩ v6) (some b) :=
  ⟨((((((h.set 0 v0).set 1 v1).set 2 v2).set 3 v3).set 4 v4).set 5 v5).set 6 v6,
   World.grownBy.comp (World.grownBy.comp (World.grownBy.comp (World.grownBy.comp (World.grownBy.comp (World.grownBy.comp (World.grownBy.set _ ⟨b, 0, none⟩ _) (World.grownBy.set _ ⟨b, 1, none⟩ _)) (World.grownBy.set _ ⟨b, 2, none⟩ _)) (World.grownBy.set _ ⟨b, 3, none⟩ _)) (World.grownBy.set _ ⟨b, 4, none⟩ _)) (World.grownBy.set _ ⟨b, 5, none⟩ _)) (World.grownBy.set _ ⟨b, 6, none⟩ _)⟩
set_option maxHeartbeats 4000000 in
set_option maxRecDepth 100000 in
theorem wRequest_yes (mt t : ByteArray) (st : Int) (rs : ByteArray) (mn : Int) (A : Option Addr) (n c : Nat) (fs : List Fl) (fr ln : Int) (host : ByteArray) (w : World) (hsh : w.ShapedOpen Tryz.prog) (htab : Tab w) (hA : A = none → n = 0 ∧ c = 0) (hrd : Rd w w.heap.size 2 A n (fieldsV fs))
    (hln : isInt ln) (hn : n ≤ 1048576) (hm : mt.size + t.size + rs.size ≤ 1048576) (hfz : flSize fs ≤ 2097152) (hhs : host.size ≤ 1048576) (hfs : ∀ f ∈ fs, f.1.size ≤ 16777216) (hvs : total (vals fs sConn) ≤ 8388608)
    {p : Bs} (hp : pathP t.data.toList = some p) (hho : hostP host.data.toList = true) (f0 : ¬ fr < 0) (f2 : ¬ 2 < fr) (f3 : fr = 1 → 0 ≤ ln) :
    Calls Tryz.prog 36 #[headV true mt t st rs mn (.slice A n c), .int .i64 fr, .int .i64 ln, .string host] w (HeadPost w (reqP ⟨true, mt, t, st, rs, mn, fs⟩ fr ln host)) := by
  have hlen : fs.length = n := by have := hrd.1; rw [fieldsV_len] at this; omega
  have B1 : Below w.heap.size w ((w.alloc (.cells #[.bool true, .string mt, .string t, .int .i64 st, .string rs, .int .i64 mn, .slice A n c] 52)).alloc (.cells #[.bool false, .string ⟨#[]⟩, .string ⟨#[]⟩, .int .i64 0, .string ⟨#[]⟩, .int .i64 0, .slice none 0 0] 52)) := ((Below.refl _ _).alloc (Nat.le_refl _) _).alloc (by simp) _
  have V1 := Lib.hid ((Var.new w 52 [.bool true, .string mt, .string t, .int .i64 st, .string rs, .int .i64 mn, .slice A n c]).alloc (.cells #[.bool false, .string ⟨#[]⟩, .string ⟨#[]⟩, .int .i64 0, .string ⟨#[]⟩, .int .i64 0, .slice none 0 0] 52))
  have z1 := heap_alloc_size w (.cells #[.bool true, .string mt, .string t, .int .i64 st, .string rs, .int .i64 mn, .slice A n c] 52)
  have zz : w.heap.size + 2 ≤ ((w.alloc (.cells #[.bool true, .string mt, .string t, .int .i64 st, .string rs, .int .i64 mn, .slice A n c] 52)).alloc (.cells #[.bool false, .string ⟨#[]⟩, .string ⟨#[]⟩, .int .i64 0, .string ⟨#[]⟩, .int .i64 0, .slice none 0 0] 52)).heap.size := by simp
  have U1 := Lib.hid (Var.new (w.alloc (.cells #[.bool true, .string mt, .string t, .int .i64 st, .string rs, .int .i64 mn, .slice A n c] 52)) 52 [.bool false, .string ⟨#[]⟩, .string ⟨#[]⟩, .int .i64 0, .string ⟨#[]⟩, .int .i64 0, .slice none 0 0])
  rw [z1] at U1
  have HB1 := Lib.hid B1
  have HZZ := Lib.hid zz
  have HR0 := Lib.hid hrd
  have HS0 := Lib.hid hsh
  have HT0 := Lib.hid htab
  have HPA := Lib.hid (fun W => wPath_any t W (by omega))
  unfold pathV at HPA
  unfold headV
  clear hrd hsh htab B1 z1 zz
  have d0 : decide (fr < 0) = false := by simpa using f0
  have d2 : decide (2 < fr) = false := by simpa using f2
  have hG : ∀ r, reqG ⟨r, mt, t, st, rs, mn, fs⟩ fr ln host = (r && decide (0 ≤ fr ∧ fr ≤ 2 ∧ (fr = 1 → 0 ≤ ln)) && hostP host.data.toList) := fun _ => rfl
  obtain ⟨pS, hpS⟩ : ∃ pS : ByteArray, pS = ⟨((pathP t.data.toList).getD []).toArray⟩ := ⟨_, rfl⟩
  obtain ⟨pk, hpk⟩ : ∃ pk : Bool, pk = (pathP t.data.toList).isSome := ⟨_, rfl⟩
  rw [← hpS, ← hpk] at HPA
  have HG := Lib.hid hG
  clear hG
  rw [hp] at hpk hpS
  have hpd : pS.data.toList = p := by rw [hpS]; rfl
  have hpl : pS.size ≤ t.size + 1 := by
    have h1 := path_len hp
    have h2 := size_data pS
    have h3 := size_data t
    rw [← hpd] at h1
    omega
  rw [reqP_yes (h := ⟨true, mt, t, st, rs, mn, fs⟩) hp (by rw [HG.out, hho]; simp; omega)]
  subst hpk
  obtain ⟨O, hO⟩ : ∃ O, O = othersP true fs := ⟨_, rfl⟩
  have HOL : Hid (O.length ≤ 1048576) := Lib.hid (by rw [hO]; exact Nat.le_trans (List.length_filter_le _ _) (by omega))
  have HOT : Hid (∀ W : World, Below w.heap.size w W → Calls Tryz.prog 71 #[.agg #[.bool true, .string mt, .string t, .int .i64 st, .string rs, .int .i64 mn, .slice A n c]] W fun e w' => ∃ v, e = .returned v ∧ Row w' W.heap.size 2 v O.length (fieldsV O) ∧ Below W.heap.size W w') := Lib.hid (fun W hB => by
    rw [hO]
    exact wothers_any true mt t st rs mn A n c fs W (shaped_below HS0.out hB) hA ((HR0.out.below hB).more hB.size) hn hfs hvs)
  obtain ⟨g0, hf0, fz0, fz1, fz2⟩ := info_parts infoField
  have HZF : Hid (flSize O ≤ flSize fs) := Lib.hid (by rw [hO]; exact flSize_filter _ _)
  have HRQ : Hid (reqH ⟨true, mt, t, st, rs, mn, fs⟩ fr ln host p = ⟨true, mt, pS, 0, ⟨#[]⟩, 1, ((sHost, host) :: O) ++ frameP fr ln⟩) := Lib.hid (by rw [hO, hpS]; rfl)
  rw [HRQ.out]
  clear hO hpS hp hvs
  obtain ⟨FR, hFR⟩ : ∃ FR, FR = ((sHost, host) :: O) ++ frameP fr ln := ⟨_, rfl⟩
  have HFE : Hid (((sHost, host) :: O) ++ frameP fr ln = FR) := Lib.hid hFR.symm
  have HFF : Hid (FR.length ≤ 1048579 ∧ flSize FR ≤ 8388608) := Lib.hid (by
    have h1 := frameP_size (fr := fr) hln
    have h2 := HOL.out
    have h3 := HZF.out
    have h4 : flSize ((sHost, host) :: O) = 4 + host.size + 4 + flSize O := rfl
    rw [hFR]
    constructor
    · rw [List.length_append, List.length_cons]; omega
    · rw [flSize_append, h4]; omega)
  have HW0 := Lib.hid (fun A c W h1 h2 h3 => wwritten_any true mt pS 0 ⟨#[]⟩ 1 A FR.length c FR W h1 h2 h3 (by unfold isInt; omega) (by unfold isInt; omega) (by have := HFF.out.1; omega) (by show mt.size + pS.size + 0 ≤ _; omega) HFF.out.2)
  rw [HFE.out]
  have HHI : Hid (HB.hi ⟨true, mt, pS, 0, ⟨#[]⟩, 1, FR⟩ = hiOf true mt pS 0 ⟨#[]⟩ 1 FR) := Lib.hid rfl
  clear hFR
  by_cases hen : (writeP (hiOf true mt pS 0 ⟨#[]⟩ 1 FR)).2 = 0
  · have HOK : Hid (okH ⟨true, mt, pS, 0, ⟨#[]⟩, 1, FR⟩ = (⟨true, mt, pS, 0, ⟨#[]⟩, 1, FR⟩, 0)) := Lib.hid (by unfold okH; rw [HHI.out, if_pos hen])
    rw [HOK.out]
    have HWR : Hid (∀ (A : Option Addr) (c : Nat) (W : World), W.ShapedOpen Tryz.prog → Tab W → Rd W W.heap.size 2 A FR.length (fieldsV FR) → Calls Tryz.prog 72 #[.agg #[.bool true, .string mt, .string pS, .int .i64 0, .string ⟨#[]⟩, .int .i64 1, .slice A FR.length c]] W fun e w' => e = .returned (.tuple #[.agg #[.bool true, .string mt, .string pS, .int .i64 0, .string ⟨#[]⟩, .int .i64 1, .slice A FR.length c], .int .i64 0]) ∧ Below W.heap.size W w') := Lib.hid (fun A c W h1 h2 h3 => by
      have h := HW0.out A c W h1 h2 h3
      simp only [hen, if_true] at h
      exact h)
    clear HW0 hen
    by_cases e1 : fr = 1
    · subst e1
      have d1 : decide (ln < 0) = false := by simpa using f3 rfl
      (go_enter Tryz.func36, Tryz.ntmps36
       go_upto_region 5 with (first
         | (go_at_call 69; go_must (refine (HPA.out _).mono ?_; rintro _ w2 ⟨rfl, hb2⟩; have V2 := Lib.hid (V1.out.below_all hb2); have v0 := V2.out.cell (j := 0) rfl))
         | (go_at_call 70; go_must (refine (whosted_any host _).mono ?_; rintro _ w4 ⟨rfl, hb4⟩; rw [hho]; have V4 := Lib.hid ((V2.out.below_all hb4).alloc (.cells #[.string ⟨#[72, 111, 115, 116]⟩, .string host] 89)); have z4 := heap_alloc_size w4 (.cells #[.string ⟨#[72, 111, 115, 116]⟩, .string host] 89)))
         | (refine wpList_load_mid rfl 52 (.tmp 4) rfl w.heap.size 0 rfl [.bool true, .string mt, .string t, .int .i64 st, .string rs, .int .i64 mn, .slice A n c] _ V4.out.range Tryz.underlying52 rfl (by kernel_rfl) ?_)
         | (go_at_call 71; go_must (refine (HOT.out _ ((HB1.out.trans (hb2.mono HB1.out.size)).trans (hb4.mono (by have := HB1.out.size; have := hb2.size; omega)) |>.alloc (by have := HB1.out.size; have := hb2.size; have := hb4.size; omega) _)).mono ?_; rintro _ w5 ⟨v5, rfl, hrow5, hb5⟩; obtain ⟨A5, c5, rfl, _, _, hA5, rd5⟩ := hrow5.form; have hz5 := hb5.size; have R4 := (built_row w4 [.string ⟨#[72, 111, 115, 116]⟩, .string host] 89 2 1 rfl (by omega)).below_all hb5))
         | (at_builtin; go_must (refine wpList_app _ rfl (.tmp 50) (.tmp 52) 50 50 rfl w4.heap.size 89 g0 (.agg #[.string ⟨#[]⟩, .string ⟨#[]⟩]) 2 32 Tryz.underlying50 hf0 fz0 fz1 fz2 rfl (.slice (some ⟨w4.heap.size, 0, none⟩) 1 1) 1 [.string ⟨#[72, 111, 115, 116]⟩, .string host] rfl R4 _ O.length (fieldsV O) rfl (Src.slice Tryz.underlying50 rd5 (fun e => (hA5 e).1) (fieldsV_one O)) (by have := HOL.out; omega) (by have := HOL.out; omega) (by omega) (by omega) ?_); intro v6 w6 hrow6 hg6 _)
         | fail)
       have hz2 := hb2.size
       have hz4 := hb4.size
       have hz1 := HZZ.out
       have B4 := Lib.hid ((HB1.out.trans (hb2.mono HB1.out.size)).trans (hb4.mono (by have := HB1.out.size; omega)))
       have U4 := Lib.hid ((U1.out.below_all hb2).below_all hb4)
       have V6 := Lib.hid ((V4.out.below_all hb5).grown hg6 (by simp [Value.ownBlock]; omega))
       have U6 := Lib.hid (((U4.out.alloc (.cells #[.string ⟨#[72, 111, 115, 116]⟩, .string host] 89)).below_all hb5).grown hg6 (by simp [Value.ownBlock]; omega))
       have B6 := Lib.hid (((B4.out.alloc B4.out.size (.cells #[.string ⟨#[72, 111, 115, 116]⟩, .string host] 89)).trans (hb5.mono (by have := B4.out.size; omega))).grown hg6 (by have := B4.out.size; omega) (fun k hk => by simp [Value.ownBlock] at hk; have := B4.out.size; omega))
       have hw4 : w.heap.size + 2 ≤ w4.heap.size := by omega
       have hw6 : w4.heap.size ≤ w6.heap.size := by have := hg6.size; omega
       have HS6 : Hid (w6.ShapedOpen Tryz.prog) := Lib.hid (shaped_below HS0.out B6.out)
       have HT6 := Lib.hid (HT0.out.below B6.out)
       have HFL := HFF.out
       have HR6 : Hid (Row w6 w4.heap.size 2 v6 (1 + O.length) (fieldsV ((sHost, host) :: O))) := Lib.hid hrow6
       obtain ⟨A6, c6, rfl, _, _, _, _⟩ := hrow6.form
       have HFR : Hid (∀ W : World, Below w6.heap.size w6 W → Calls Tryz.prog 73 #[.slice A6 (1 + O.length) c6, .int .i64 1, .int .i64 ln] W fun e w' => ∃ v, e = .returned v ∧ Row w' w4.heap.size 2 v FR.length (fieldsV FR) ∧ Below w4.heap.size W w') := Lib.hid (fun W hB => by
         have h := wframed_any A6 (1 + O.length) c6 w4.heap.size ((sHost, host) :: O) 1 ln W (HT6.out.below hB) hln (HR6.out.below_all hB) (by have := hB.size; omega) (by have := HOL.out; omega)
         unfold FramedPost at h
         rw [HFE.out] at h
         exact h)
       have v1 : ∀ u, (w6.drewN u).cell? ⟨w.heap.size, 1, none⟩ = some (.string mt) := fun u => V6.out.cell (j := 1) rfl
       have v1' : w6.cell? ⟨w.heap.size, 1, none⟩ = some (.string mt) := v1 0
       clear hb2 hb4 hb5 hg6 hrow6 hrow5 rd5 R4 hA5 v0 hz5 z4
       go_region_with (first
         | (go_at_call 73; refine (HFR.out _ ((Below.refl _ _).drew)).mono ?_; rintro _ w7 ⟨v7, rfl, hrow7, hb7⟩; obtain ⟨A7, c7, rfl, _, _, _, rd7⟩ := hrow7.form; have hb7' : Below w4.heap.size w6 w7 := Below.of_drew hb7; have d1 := (V6.out.below hb7' (by omega)).cell (j := 1) rfl; have U7 := Lib.hid (U6.out.below hb7' (by omega)); have S7 : Hid (w7.ShapedOpen Tryz.prog) := Lib.hid (shaped_below HS0.out (B6.out.trans (hb7'.mono (by omega)))); have T7 := Lib.hid (HT0.out.below (B6.out.trans (hb7'.mono (by omega)))); have HR7 := Lib.hid hrow7; have rd7' := Lib.hid rd7; clear hrow7 rd7)
         | (go_at_call 72; refine (HWR.out A7 c7 _ S7.out T7.out rd7'.out).mono ?_; rintro _ w8 ⟨rfl, hb8⟩; have U8 := Lib.hid (U7.out.below_all hb8); have u0 := U8.out.cell (j := 0) rfl; have u1 := U8.out.cell (j := 1) rfl; have u2 := U8.out.cell (j := 2) rfl; have u3 := U8.out.cell (j := 3) rfl; have u4 := U8.out.cell (j := 4) rfl; have u5 := U8.out.cell (j := 5) rfl; have u6 := U8.out.cell (j := 6) rfl; have y0 := U8.out.frozen 0; have y1 := U8.out.frozen 1; have y2 := U8.out.frozen 2; have y3 := U8.out.frozen 3; have y4 := U8.out.frozen 4; have y5 := U8.out.frozen 5; have y6 := U8.out.frozen 6))
       all_goals
         obtain ⟨hv9, hg9⟩ := set7 U8.out (.bool true) (.string mt) (.string pS) (.int .i64 0) (.string ⟨#[]⟩) (.int .i64 1) (.slice A7 FR.length c7)
         have HV9 := Lib.hid hv9
         have HG9 := Lib.hid hg9
         have z8 := hb8.size
         have z7 := hb7'.size
         have B8 := Lib.hid ((B6.out.trans (hb7'.mono (by omega))).trans (hb8.mono (by omega)))
         have R8 := Lib.hid (HR7.out.below_all hb8)
         have k8 := fun g hg => (HR7.out.lt g hg).1
         clear hv9 hg9 u0 u1 u2 u3 u4 u5 u6 y0 y1 y2 y3 y4 y5 y6 d1 v1 v1'
         go_wp2
         refine bodyPost_ret (results_var rfl _ _ rfl HV9.out Tryz.underlying52 rfl (by kernel_rfl)) rfl ⟨.slice A7 FR.length c7, rfl, ?_, ?_⟩
         · exact (R8.out.kept HG9.out (Or.inr (fun e => by have := k8 _ e; omega))).mono (by omega)
         · exact Below.grown B8.out HG9.out (by omega) (fun k hk => by injection hk with hk; omega))
    · have d1 : (fr == 1) = false := by simpa using e1
      (go_enter Tryz.func36, Tryz.ntmps36
       go_upto_region 5 with (first
         | (go_at_call 69; go_must (refine (HPA.out _).mono ?_; rintro _ w2 ⟨rfl, hb2⟩; have V2 := Lib.hid (V1.out.below_all hb2); have v0 := V2.out.cell (j := 0) rfl))
         | (go_at_call 70; go_must (refine (whosted_any host _).mono ?_; rintro _ w4 ⟨rfl, hb4⟩; rw [hho]; have V4 := Lib.hid ((V2.out.below_all hb4).alloc (.cells #[.string ⟨#[72, 111, 115, 116]⟩, .string host] 89)); have z4 := heap_alloc_size w4 (.cells #[.string ⟨#[72, 111, 115, 116]⟩, .string host] 89)))
         | (refine wpList_load_mid rfl 52 (.tmp 4) rfl w.heap.size 0 rfl [.bool true, .string mt, .string t, .int .i64 st, .string rs, .int .i64 mn, .slice A n c] _ V4.out.range Tryz.underlying52 rfl (by kernel_rfl) ?_)
         | (go_at_call 71; go_must (refine (HOT.out _ ((HB1.out.trans (hb2.mono HB1.out.size)).trans (hb4.mono (by have := HB1.out.size; have := hb2.size; omega)) |>.alloc (by have := HB1.out.size; have := hb2.size; have := hb4.size; omega) _)).mono ?_; rintro _ w5 ⟨v5, rfl, hrow5, hb5⟩; obtain ⟨A5, c5, rfl, _, _, hA5, rd5⟩ := hrow5.form; have hz5 := hb5.size; have R4 := (built_row w4 [.string ⟨#[72, 111, 115, 116]⟩, .string host] 89 2 1 rfl (by omega)).below_all hb5))
         | (at_builtin; go_must (refine wpList_app _ rfl (.tmp 50) (.tmp 52) 50 50 rfl w4.heap.size 89 g0 (.agg #[.string ⟨#[]⟩, .string ⟨#[]⟩]) 2 32 Tryz.underlying50 hf0 fz0 fz1 fz2 rfl (.slice (some ⟨w4.heap.size, 0, none⟩) 1 1) 1 [.string ⟨#[72, 111, 115, 116]⟩, .string host] rfl R4 _ O.length (fieldsV O) rfl (Src.slice Tryz.underlying50 rd5 (fun e => (hA5 e).1) (fieldsV_one O)) (by have := HOL.out; omega) (by have := HOL.out; omega) (by omega) (by omega) ?_); intro v6 w6 hrow6 hg6 _)
         | fail)
       have hz2 := hb2.size
       have hz4 := hb4.size
       have hz1 := HZZ.out
       have B4 := Lib.hid ((HB1.out.trans (hb2.mono HB1.out.size)).trans (hb4.mono (by have := HB1.out.size; omega)))
       have U4 := Lib.hid ((U1.out.below_all hb2).below_all hb4)
       have V6 := Lib.hid ((V4.out.below_all hb5).grown hg6 (by simp [Value.ownBlock]; omega))
       have U6 := Lib.hid (((U4.out.alloc (.cells #[.string ⟨#[72, 111, 115, 116]⟩, .string host] 89)).below_all hb5).grown hg6 (by simp [Value.ownBlock]; omega))
       have B6 := Lib.hid (((B4.out.alloc B4.out.size (.cells #[.string ⟨#[72, 111, 115, 116]⟩, .string host] 89)).trans (hb5.mono (by have := B4.out.size; omega))).grown hg6 (by have := B4.out.size; omega) (fun k hk => by simp [Value.ownBlock] at hk; have := B4.out.size; omega))
       have hw4 : w.heap.size + 2 ≤ w4.heap.size := by omega
       have hw6 : w4.heap.size ≤ w6.heap.size := by have := hg6.size; omega
       have HS6 : Hid (w6.ShapedOpen Tryz.prog) := Lib.hid (shaped_below HS0.out B6.out)
       have HT6 := Lib.hid (HT0.out.below B6.out)
       have HFL := HFF.out
       have HR6 : Hid (Row w6 w4.heap.size 2 v6 (1 + O.length) (fieldsV ((sHost, host) :: O))) := Lib.hid hrow6
       obtain ⟨A6, c6, rfl, _, _, _, _⟩ := hrow6.form
       have HFR : Hid (∀ W : World, Below w6.heap.size w6 W → Calls Tryz.prog 73 #[.slice A6 (1 + O.length) c6, .int .i64 fr, .int .i64 ln] W fun e w' => ∃ v, e = .returned v ∧ Row w' w4.heap.size 2 v FR.length (fieldsV FR) ∧ Below w4.heap.size W w') := Lib.hid (fun W hB => by
         have h := wframed_any A6 (1 + O.length) c6 w4.heap.size ((sHost, host) :: O) fr ln W (HT6.out.below hB) hln (HR6.out.below_all hB) (by have := hB.size; omega) (by have := HOL.out; omega)
         unfold FramedPost at h
         rw [HFE.out] at h
         exact h)
       have v1 : ∀ u, (w6.drewN u).cell? ⟨w.heap.size, 1, none⟩ = some (.string mt) := fun u => V6.out.cell (j := 1) rfl
       have v1' : w6.cell? ⟨w.heap.size, 1, none⟩ = some (.string mt) := v1 0
       clear hb2 hb4 hb5 hg6 hrow6 hrow5 rd5 R4 hA5 v0 hz5 z4
       go_region_with (first
         | (go_at_call 73; refine (HFR.out _ ((Below.refl _ _).drew)).mono ?_; rintro _ w7 ⟨v7, rfl, hrow7, hb7⟩; obtain ⟨A7, c7, rfl, _, _, _, rd7⟩ := hrow7.form; have hb7' : Below w4.heap.size w6 w7 := Below.of_drew hb7; have d1 := (V6.out.below hb7' (by omega)).cell (j := 1) rfl; have U7 := Lib.hid (U6.out.below hb7' (by omega)); have S7 : Hid (w7.ShapedOpen Tryz.prog) := Lib.hid (shaped_below HS0.out (B6.out.trans (hb7'.mono (by omega)))); have T7 := Lib.hid (HT0.out.below (B6.out.trans (hb7'.mono (by omega)))); have HR7 := Lib.hid hrow7; have rd7' := Lib.hid rd7; clear hrow7 rd7)
         | (go_at_call 72; refine (HWR.out A7 c7 _ S7.out T7.out rd7'.out).mono ?_; rintro _ w8 ⟨rfl, hb8⟩; have U8 := Lib.hid (U7.out.below_all hb8); have u0 := U8.out.cell (j := 0) rfl; have u1 := U8.out.cell (j := 1) rfl; have u2 := U8.out.cell (j := 2) rfl; have u3 := U8.out.cell (j := 3) rfl; have u4 := U8.out.cell (j := 4) rfl; have u5 := U8.out.cell (j := 5) rfl; have u6 := U8.out.cell (j := 6) rfl; have y0 := U8.out.frozen 0; have y1 := U8.out.frozen 1; have y2 := U8.out.frozen 2; have y3 := U8.out.frozen 3; have y4 := U8.out.frozen 4; have y5 := U8.out.frozen 5; have y6 := U8.out.frozen 6))
       all_goals
         obtain ⟨hv9, hg9⟩ := set7 U8.out (.bool true) (.string mt) (.string pS) (.int .i64 0) (.string ⟨#[]⟩) (.int .i64 1) (.slice A7 FR.length c7)
         have HV9 := Lib.hid hv9
         have HG9 := Lib.hid hg9
         have z8 := hb8.size
         have z7 := hb7'.size
         have B8 := Lib.hid ((B6.out.trans (hb7'.mono (by omega))).trans (hb8.mono (by omega)))
         have R8 := Lib.hid (HR7.out.below_all hb8)
         have k8 := fun g hg => (HR7.out.lt g hg).1
         clear hv9 hg9 u0 u1 u2 u3 u4 u5 u6 y0 y1 y2 y3 y4 y5 y6 d1 v1 v1'
         go_wp2
         refine bodyPost_ret (results_var rfl _ _ rfl HV9.out Tryz.underlying52 rfl (by kernel_rfl)) rfl ⟨.slice A7 FR.length c7, rfl, ?_, ?_⟩
         · exact (R8.out.kept HG9.out (Or.inr (fun e => by have := k8 _ e; omega))).mono (by omega)
         · exact Below.grown B8.out HG9.out (by omega) (fun k hk => by injection hk with hk; omega))
  · have HOK : Hid (okH ⟨true, mt, pS, 0, ⟨#[]⟩, 1, FR⟩ = ({}, (writeP (hiOf true mt pS 0 ⟨#[]⟩ 1 FR)).2)) := Lib.hid (by unfold okH; rw [HHI.out, if_neg hen])
    rw [HOK.out]
    have HWR : Hid (∀ (A : Option Addr) (c : Nat) (W : World), W.ShapedOpen Tryz.prog → Tab W → Rd W W.heap.size 2 A FR.length (fieldsV FR) → Calls Tryz.prog 72 #[.agg #[.bool true, .string mt, .string pS, .int .i64 0, .string ⟨#[]⟩, .int .i64 1, .slice A FR.length c]] W fun e w' => e = .returned (.tuple #[.agg #[.bool false, .string ⟨#[]⟩, .string ⟨#[]⟩, .int .i64 0, .string ⟨#[]⟩, .int .i64 0, .slice none 0 0], .int .i64 ((writeP (hiOf true mt pS 0 ⟨#[]⟩ 1 FR)).2 : Nat)]) ∧ Below W.heap.size W w') := Lib.hid (fun A c W h1 h2 h3 => by
      have h := HW0.out A c W h1 h2 h3
      simp only [if_neg hen] at h
      exact h)
    generalize (writeP (hiOf true mt pS 0 ⟨#[]⟩ 1 FR)).2 = en at HWR hen ⊢
    clear HW0 hen HOK
    by_cases e1 : fr = 1
    · subst e1
      have d1 : decide (ln < 0) = false := by simpa using f3 rfl
      (go_enter Tryz.func36, Tryz.ntmps36
       go_upto_region 5 with (first
         | (go_at_call 69; go_must (refine (HPA.out _).mono ?_; rintro _ w2 ⟨rfl, hb2⟩; have V2 := Lib.hid (V1.out.below_all hb2); have v0 := V2.out.cell (j := 0) rfl))
         | (go_at_call 70; go_must (refine (whosted_any host _).mono ?_; rintro _ w4 ⟨rfl, hb4⟩; rw [hho]; have V4 := Lib.hid ((V2.out.below_all hb4).alloc (.cells #[.string ⟨#[72, 111, 115, 116]⟩, .string host] 89)); have z4 := heap_alloc_size w4 (.cells #[.string ⟨#[72, 111, 115, 116]⟩, .string host] 89)))
         | (refine wpList_load_mid rfl 52 (.tmp 4) rfl w.heap.size 0 rfl [.bool true, .string mt, .string t, .int .i64 st, .string rs, .int .i64 mn, .slice A n c] _ V4.out.range Tryz.underlying52 rfl (by kernel_rfl) ?_)
         | (go_at_call 71; go_must (refine (HOT.out _ ((HB1.out.trans (hb2.mono HB1.out.size)).trans (hb4.mono (by have := HB1.out.size; have := hb2.size; omega)) |>.alloc (by have := HB1.out.size; have := hb2.size; have := hb4.size; omega) _)).mono ?_; rintro _ w5 ⟨v5, rfl, hrow5, hb5⟩; obtain ⟨A5, c5, rfl, _, _, hA5, rd5⟩ := hrow5.form; have hz5 := hb5.size; have R4 := (built_row w4 [.string ⟨#[72, 111, 115, 116]⟩, .string host] 89 2 1 rfl (by omega)).below_all hb5))
         | (at_builtin; go_must (refine wpList_app _ rfl (.tmp 50) (.tmp 52) 50 50 rfl w4.heap.size 89 g0 (.agg #[.string ⟨#[]⟩, .string ⟨#[]⟩]) 2 32 Tryz.underlying50 hf0 fz0 fz1 fz2 rfl (.slice (some ⟨w4.heap.size, 0, none⟩) 1 1) 1 [.string ⟨#[72, 111, 115, 116]⟩, .string host] rfl R4 _ O.length (fieldsV O) rfl (Src.slice Tryz.underlying50 rd5 (fun e => (hA5 e).1) (fieldsV_one O)) (by have := HOL.out; omega) (by have := HOL.out; omega) (by omega) (by omega) ?_); intro v6 w6 hrow6 hg6 _)
         | fail)
       have hz2 := hb2.size
       have hz4 := hb4.size
       have hz1 := HZZ.out
       have B4 := Lib.hid ((HB1.out.trans (hb2.mono HB1.out.size)).trans (hb4.mono (by have := HB1.out.size; omega)))
       have U4 := Lib.hid ((U1.out.below_all hb2).below_all hb4)
       have V6 := Lib.hid ((V4.out.below_all hb5).grown hg6 (by simp [Value.ownBlock]; omega))
       have U6 := Lib.hid (((U4.out.alloc (.cells #[.string ⟨#[72, 111, 115, 116]⟩, .string host] 89)).below_all hb5).grown hg6 (by simp [Value.ownBlock]; omega))
       have B6 := Lib.hid (((B4.out.alloc B4.out.size (.cells #[.string ⟨#[72, 111, 115, 116]⟩, .string host] 89)).trans (hb5.mono (by have := B4.out.size; omega))).grown hg6 (by have := B4.out.size; omega) (fun k hk => by simp [Value.ownBlock] at hk; have := B4.out.size; omega))
       have hw4 : w.heap.size + 2 ≤ w4.heap.size := by omega
       have hw6 : w4.heap.size ≤ w6.heap.size := by have := hg6.size; omega
       have HS6 : Hid (w6.ShapedOpen Tryz.prog) := Lib.hid (shaped_below HS0.out B6.out)
       have HT6 := Lib.hid (HT0.out.below B6.out)
       have HFL := HFF.out
       have HR6 : Hid (Row w6 w4.heap.size 2 v6 (1 + O.length) (fieldsV ((sHost, host) :: O))) := Lib.hid hrow6
       obtain ⟨A6, c6, rfl, _, _, _, _⟩ := hrow6.form
       have HFR : Hid (∀ W : World, Below w6.heap.size w6 W → Calls Tryz.prog 73 #[.slice A6 (1 + O.length) c6, .int .i64 1, .int .i64 ln] W fun e w' => ∃ v, e = .returned v ∧ Row w' w4.heap.size 2 v FR.length (fieldsV FR) ∧ Below w4.heap.size W w') := Lib.hid (fun W hB => by
         have h := wframed_any A6 (1 + O.length) c6 w4.heap.size ((sHost, host) :: O) 1 ln W (HT6.out.below hB) hln (HR6.out.below_all hB) (by have := hB.size; omega) (by have := HOL.out; omega)
         unfold FramedPost at h
         rw [HFE.out] at h
         exact h)
       have v1 : ∀ u, (w6.drewN u).cell? ⟨w.heap.size, 1, none⟩ = some (.string mt) := fun u => V6.out.cell (j := 1) rfl
       have v1' : w6.cell? ⟨w.heap.size, 1, none⟩ = some (.string mt) := v1 0
       clear hb2 hb4 hb5 hg6 hrow6 hrow5 rd5 R4 hA5 v0 hz5 z4
       go_region_with (first
         | (go_at_call 73; refine (HFR.out _ ((Below.refl _ _).drew)).mono ?_; rintro _ w7 ⟨v7, rfl, hrow7, hb7⟩; obtain ⟨A7, c7, rfl, _, _, _, rd7⟩ := hrow7.form; have hb7' : Below w4.heap.size w6 w7 := Below.of_drew hb7; have d1 := (V6.out.below hb7' (by omega)).cell (j := 1) rfl; have U7 := Lib.hid (U6.out.below hb7' (by omega)); have S7 : Hid (w7.ShapedOpen Tryz.prog) := Lib.hid (shaped_below HS0.out (B6.out.trans (hb7'.mono (by omega)))); have T7 := Lib.hid (HT0.out.below (B6.out.trans (hb7'.mono (by omega)))); have HR7 := Lib.hid hrow7; have rd7' := Lib.hid rd7; clear hrow7 rd7)
         | (go_at_call 72; refine (HWR.out A7 c7 _ S7.out T7.out rd7'.out).mono ?_; rintro _ w8 ⟨rfl, hb8⟩; have U8 := Lib.hid (U7.out.below_all hb8); have u0 := U8.out.cell (j := 0) rfl; have u1 := U8.out.cell (j := 1) rfl; have u2 := U8.out.cell (j := 2) rfl; have u3 := U8.out.cell (j := 3) rfl; have u4 := U8.out.cell (j := 4) rfl; have u5 := U8.out.cell (j := 5) rfl; have u6 := U8.out.cell (j := 6) rfl; have y0 := U8.out.frozen 0; have y1 := U8.out.frozen 1; have y2 := U8.out.frozen 2; have y3 := U8.out.frozen 3; have y4 := U8.out.frozen 4; have y5 := U8.out.frozen 5; have y6 := U8.out.frozen 6))
       all_goals
         obtain ⟨hv9, hg9⟩ := set7 U8.out (.bool false) (.string ⟨#[]⟩) (.string ⟨#[]⟩) (.int .i64 0) (.string ⟨#[]⟩) (.int .i64 0) (.slice none 0 0)
         have HV9 := Lib.hid hv9
         have HG9 := Lib.hid hg9
         have z8 := hb8.size
         have z7 := hb7'.size
         have B8 := Lib.hid ((B6.out.trans (hb7'.mono (by omega))).trans (hb8.mono (by omega)))
         have R8 := Lib.hid (HR7.out.below_all hb8)
         have k8 := fun g hg => (HR7.out.lt g hg).1
         clear hv9 hg9 u0 u1 u2 u3 u4 u5 u6 y0 y1 y2 y3 y4 y5 y6 d1 v1 v1'
         go_wp2
         refine bodyPost_ret (results_var rfl _ _ rfl HV9.out Tryz.underlying52 rfl (by kernel_rfl)) rfl ⟨.slice none 0 0, rfl, ?_, ?_⟩
         · exact Row.nil _ _ _
         · exact Below.grown B8.out HG9.out (by omega) (fun k hk => by injection hk with hk; omega))
    · have d1 : (fr == 1) = false := by simpa using e1
      (go_enter Tryz.func36, Tryz.ntmps36
       go_upto_region 5 with (first
         | (go_at_call 69; go_must (refine (HPA.out _).mono ?_; rintro _ w2 ⟨rfl, hb2⟩; have V2 := Lib.hid (V1.out.below_all hb2); have v0 := V2.out.cell (j := 0) rfl))
         | (go_at_call 70; go_must (refine (whosted_any host _).mono ?_; rintro _ w4 ⟨rfl, hb4⟩; rw [hho]; have V4 := Lib.hid ((V2.out.below_all hb4).alloc (.cells #[.string ⟨#[72, 111, 115, 116]⟩, .string host] 89)); have z4 := heap_alloc_size w4 (.cells #[.string ⟨#[72, 111, 115, 116]⟩, .string host] 89)))
         | (refine wpList_load_mid rfl 52 (.tmp 4) rfl w.heap.size 0 rfl [.bool true, .string mt, .string t, .int .i64 st, .string rs, .int .i64 mn, .slice A n c] _ V4.out.range Tryz.underlying52 rfl (by kernel_rfl) ?_)
         | (go_at_call 71; go_must (refine (HOT.out _ ((HB1.out.trans (hb2.mono HB1.out.size)).trans (hb4.mono (by have := HB1.out.size; have := hb2.size; omega)) |>.alloc (by have := HB1.out.size; have := hb2.size; have := hb4.size; omega) _)).mono ?_; rintro _ w5 ⟨v5, rfl, hrow5, hb5⟩; obtain ⟨A5, c5, rfl, _, _, hA5, rd5⟩ := hrow5.form; have hz5 := hb5.size; have R4 := (built_row w4 [.string ⟨#[72, 111, 115, 116]⟩, .string host] 89 2 1 rfl (by omega)).below_all hb5))
         | (at_builtin; go_must (refine wpList_app _ rfl (.tmp 50) (.tmp 52) 50 50 rfl w4.heap.size 89 g0 (.agg #[.string ⟨#[]⟩, .string ⟨#[]⟩]) 2 32 Tryz.underlying50 hf0 fz0 fz1 fz2 rfl (.slice (some ⟨w4.heap.size, 0, none⟩) 1 1) 1 [.string ⟨#[72, 111, 115, 116]⟩, .string host] rfl R4 _ O.length (fieldsV O) rfl (Src.slice Tryz.underlying50 rd5 (fun e => (hA5 e).1) (fieldsV_one O)) (by have := HOL.out; omega) (by have := HOL.out; omega) (by omega) (by omega) ?_); intro v6 w6 hrow6 hg6 _)
         | fail)
       have hz2 := hb2.size
       have hz4 := hb4.size
       have hz1 := HZZ.out
       have B4 := Lib.hid ((HB1.out.trans (hb2.mono HB1.out.size)).trans (hb4.mono (by have := HB1.out.size; omega)))
       have U4 := Lib.hid ((U1.out.below_all hb2).below_all hb4)
       have V6 := Lib.hid ((V4.out.below_all hb5).grown hg6 (by simp [Value.ownBlock]; omega))
       have U6 := Lib.hid (((U4.out.alloc (.cells #[.string ⟨#[72, 111, 115, 116]⟩, .string host] 89)).below_all hb5).grown hg6 (by simp [Value.ownBlock]; omega))
       have B6 := Lib.hid (((B4.out.alloc B4.out.size (.cells #[.string ⟨#[72, 111, 115, 116]⟩, .string host] 89)).trans (hb5.mono (by have := B4.out.size; omega))).grown hg6 (by have := B4.out.size; omega) (fun k hk => by simp [Value.ownBlock] at hk; have := B4.out.size; omega))
       have hw4 : w.heap.size + 2 ≤ w4.heap.size := by omega
       have hw6 : w4.heap.size ≤ w6.heap.size := by have := hg6.size; omega
       have HS6 : Hid (w6.ShapedOpen Tryz.prog) := Lib.hid (shaped_below HS0.out B6.out)
       have HT6 := Lib.hid (HT0.out.below B6.out)
       have HFL := HFF.out
       have HR6 : Hid (Row w6 w4.heap.size 2 v6 (1 + O.length) (fieldsV ((sHost, host) :: O))) := Lib.hid hrow6
       obtain ⟨A6, c6, rfl, _, _, _, _⟩ := hrow6.form
       have HFR : Hid (∀ W : World, Below w6.heap.size w6 W → Calls Tryz.prog 73 #[.slice A6 (1 + O.length) c6, .int .i64 fr, .int .i64 ln] W fun e w' => ∃ v, e = .returned v ∧ Row w' w4.heap.size 2 v FR.length (fieldsV FR) ∧ Below w4.heap.size W w') := Lib.hid (fun W hB => by
         have h := wframed_any A6 (1 + O.length) c6 w4.heap.size ((sHost, host) :: O) fr ln W (HT6.out.below hB) hln (HR6.out.below_all hB) (by have := hB.size; omega) (by have := HOL.out; omega)
         unfold FramedPost at h
         rw [HFE.out] at h
         exact h)
       have v1 : ∀ u, (w6.drewN u).cell? ⟨w.heap.size, 1, none⟩ = some (.string mt) := fun u => V6.out.cell (j := 1) rfl
       have v1' : w6.cell? ⟨w.heap.size, 1, none⟩ = some (.string mt) := v1 0
       clear hb2 hb4 hb5 hg6 hrow6 hrow5 rd5 R4 hA5 v0 hz5 z4
       go_region_with (first
         | (go_at_call 73; refine (HFR.out _ ((Below.refl _ _).drew)).mono ?_; rintro _ w7 ⟨v7, rfl, hrow7, hb7⟩; obtain ⟨A7, c7, rfl, _, _, _, rd7⟩ := hrow7.form; have hb7' : Below w4.heap.size w6 w7 := Below.of_drew hb7; have d1 := (V6.out.below hb7' (by omega)).cell (j := 1) rfl; have U7 := Lib.hid (U6.out.below hb7' (by omega)); have S7 : Hid (w7.ShapedOpen Tryz.prog) := Lib.hid (shaped_below HS0.out (B6.out.trans (hb7'.mono (by omega)))); have T7 := Lib.hid (HT0.out.below (B6.out.trans (hb7'.mono (by omega)))); have HR7 := Lib.hid hrow7; have rd7' := Lib.hid rd7; clear hrow7 rd7)
         | (go_at_call 72; refine (HWR.out A7 c7 _ S7.out T7.out rd7'.out).mono ?_; rintro _ w8 ⟨rfl, hb8⟩; have U8 := Lib.hid (U7.out.below_all hb8); have u0 := U8.out.cell (j := 0) rfl; have u1 := U8.out.cell (j := 1) rfl; have u2 := U8.out.cell (j := 2) rfl; have u3 := U8.out.cell (j := 3) rfl; have u4 := U8.out.cell (j := 4) rfl; have u5 := U8.out.cell (j := 5) rfl; have u6 := U8.out.cell (j := 6) rfl; have y0 := U8.out.frozen 0; have y1 := U8.out.frozen 1; have y2 := U8.out.frozen 2; have y3 := U8.out.frozen 3; have y4 := U8.out.frozen 4; have y5 := U8.out.frozen 5; have y6 := U8.out.frozen 6))
       all_goals
         obtain ⟨hv9, hg9⟩ := set7 U8.out (.bool false) (.string ⟨#[]⟩) (.string ⟨#[]⟩) (.int .i64 0) (.string ⟨#[]⟩) (.int .i64 0) (.slice none 0 0)
         have HV9 := Lib.hid hv9
         have HG9 := Lib.hid hg9
         have z8 := hb8.size
         have z7 := hb7'.size
         have B8 := Lib.hid ((B6.out.trans (hb7'.mono (by omega))).trans (hb8.mono (by omega)))
         have R8 := Lib.hid (HR7.out.below_all hb8)
         have k8 := fun g hg => (HR7.out.lt g hg).1
         clear hv9 hg9 u0 u1 u2 u3 u4 u5 u6 y0 y1 y2 y3 y4 y5 y6 d1 v1 v1'
         go_wp2
         refine bodyPost_ret (results_var rfl _ _ rfl HV9.out Tryz.underlying52 rfl (by kernel_rfl)) rfl ⟨.slice none 0 0, rfl, ?_, ?_⟩
         · exact Row.nil _ _ _
         · exact Below.grown B8.out HG9.out (by omega) (fun k hk => by injection hk with hk; omega))
end Go.Proofs.YtklmpadcfioefaaGreatDoor
