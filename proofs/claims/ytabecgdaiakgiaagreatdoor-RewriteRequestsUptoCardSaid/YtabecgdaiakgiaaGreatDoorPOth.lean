/- The reference's others. Conditions: sizes. -/
import Derived.Test.YtabecgdaiakgiaaGreatDoorROwn2
import Derived.Test.YtabecgdaiakgiaaGreatDoorRFramed
import Derived.Test.YtabecgdaiakgiaaGreatDoorMB
namespace Go.Proofs.YtabecgdaiakgiaaGreatDoor
open Go.RowKit

/-- fields but the connection's own -/
def keptP (rq : Bool) (fs l : List Fl) : List Fl := l.filter fun f => !(mineK rq fs (fd f.1))
theorem kept_le (rq : Bool) (fs l : List Fl) : (keptP rq fs l).length ≤ l.length := List.length_filter_le _ _
theorem oth_step (rq : Bool) (fs l : List Fl) (k : Nat) (h : k < l.length) : keptP rq fs (l.take (k + 1)) = keptP rq fs (l.take k) ++ (if mineK rq fs (fd l[k].1) = true then [] else [l[k]]) := by
  unfold keptP
  rw [List.take_succ_eq_append_getElem h, List.filter_append, List.filter_cons, List.filter_nil]
  cases mineK rq fs (fd l[k].1) <;> rfl
set_option maxHeartbeats 4000000 in
set_option maxRecDepth 100000 in
theorem pothers_any (rq : Bool) (mt t : ByteArray) (st : Int) (rs : ByteArray) (mn : Int) (A : Option Addr) (n c : Nat) (fs : List Fl) (w : World) (hrd : Rd w w.heap.size 2 A n (fieldsV fs))
    (hn : n ≤ 1048576) (hfs : ∀ f ∈ fs, f.1.size ≤ 16777216) (hvs : total (vals fs sConn) ≤ 8388608) :
    Calls Tryz.prog 26 #[headV rq mt t st rs mn (.slice A n c)] w fun e w' => ∃ v, e = .returned v ∧ Row w' w.heap.size 2 v (othersP rq fs).length (fieldsV (othersP rq fs)) ∧ Below w.heap.size w w' := by
  have hlen : fs.length = n := by have := hrd.1; rw [fieldsV_len] at this; omega
  have HOWN := Lib.hid (fun name W h2 h3 => pOwn_any rq mt t st rs mn A n c fs name W h2 hn hfs hvs h3)
  unfold headV at HOWN ⊢
  obtain ⟨f0, hf0, fz0, fz1, fz2⟩ := info_parts infoField
  have B1 : Below w.heap.size w (w.alloc (.cells #[.bool rq, .string mt, .string t, .int .i64 st, .string rs, .int .i64 mn, .slice A n c] 24)) := (Below.refl _ _).alloc (Nat.le_refl _) _
  have HR1 := Lib.hid ((hrd.below B1).more B1.size)
  have HV1 := Lib.hid (Var.new w 24 [.bool rq, .string mt, .string t, .int .i64 st, .string rs, .int .i64 mn, .slice A n c])
  have HB1 := Lib.hid B1
  clear hrd B1 hvs
  go_enter Tryz.func26, Tryz.ntmps26
  go_wp2
  obtain ⟨W1, hW1⟩ : ∃ W1 : World, W1 = w.alloc (.cells #[.bool rq, .string mt, .string t, .int .i64 st, .string rs, .int .i64 mn, .slice A n c] 24) := ⟨_, rfl⟩
  rw [← hW1] at HR1 HV1 HB1 ⊢
  have HZ : Hid (W1.heap.size = w.heap.size + 1) := Lib.hid (by rw [hW1, heap_alloc_size])
  clear hW1
  go_loopw [3, 4] (fun v i wr => ∃ k : Nat, k ≤ n ∧ i = .int .i64 k ∧ Row wr (w.heap.size + 1) 2 v (keptP rq fs (fs.take k)).length (fieldsV (keptP rq fs (fs.take k))) ∧ Below (w.heap.size + 1) W1 wr) (fun _ i _ => n - (intOf i).toNat)
  case atStart => exact ⟨0, Nat.zero_le _, rfl, Row.nil _ _ _, Below.refl _ _⟩
  case round =>
    obtain ⟨k, hk, rfl, hrow, hb⟩ := hrel
    have HB := Lib.hid hb
    have HRW := Lib.hid hrow
    have hsz : w.heap.size + 1 ≤ wr.heap.size := by have := hb.size; have := HZ.out; omega
    have HVr := Lib.hid (HV1.out.below_all (hb.mono (by have := HZ.out; omega)))
    have a6 := HVr.out.cell (j := 6) rfl
    clear hrow hb
    by_cases hlt : k < n
    · have HRr := Lib.hid (HR1.out.keeps (HB.out.mono (by have := HZ.out; omega)))
      obtain ⟨g, o, rfl, hg, hcell⟩ := HRr.out.2 (by omega)
      obtain ⟨G1, G2⟩ := fieldsV_get fs k (by omega)
      have c1 := hcell _ _ G1
      have c2 := hcell _ _ G2
      clear hcell G1 G2
      have hs1 : fs[k].1.size ≤ 16777216 := hfs _ (List.getElem_mem _)
      have HST := Lib.hid (oth_step rq fs fs k (by omega))
      have HLE : Hid ((keptP rq fs (fs.take k)).length ≤ k) := Lib.hid (Nat.le_trans (kept_le _ _ _) (by rw [List.length_take]; omega))
      obtain ⟨⟨nm, vl⟩, hf⟩ : ∃ f : Fl, f = fs[k] := ⟨_, rfl⟩
      rw [← hf] at c1 c2 hs1 HST
      clear hf
      dsimp only at c1 c2 hs1 HST
      have hr : World.rangeAt wr g (o + k * 2) [.string nm, .string vl] := by
        intro j v hj
        match j, hj with
        | 0, hj => cases hj; exact c1
        | 1, hj => cases hj; exact c2
      clear c1 c2
      have HM : Hid (mineK rq fs (fd nm) = (ownP fs nm || (rq && fd nm == bHost))) := Lib.hid rfl
      obtain ⟨P, hP⟩ : ∃ P, P = keptP rq fs (fs.take k) := ⟨_, rfl⟩
      rw [← hP] at HRW HLE HST
      have hPl := HLE.out
      clear hP HLE
      have HO := Lib.hid (HOWN.out nm)
      have HFo := Lib.hid (fun W => rFold_any nm W hs1)
      obtain ⟨FD, hFD⟩ : ∃ FD : ByteArray, FD = ⟨(fold nm.data.toList).toArray⟩ := ⟨_, rfl⟩
      rw [← hFD] at HFo
      have HFD := Lib.hid hFD
      clear hFD
      cases ho : ownP fs nm
      · rw [ho] at HO HM
        cases rq
        · have HST : Hid (keptP false fs (fs.take (k + 1)) = P ++ [(nm, vl)]) := Lib.hid (by rw [HST.out, HM.out]; rfl)
          clear ho HM
          (go_upto_region 6 with (first
             | (refine wpList_load_mid rfl 35 (.tmp 16) rfl g (o + k * 2) rfl [.string nm, .string vl] _ hr Tryz.underlying35 rfl (by kernel_rfl) ?_)
             | fail)
           go_wp2_with (first
             | (refine wpList_load_mid rfl 24 (.tmp 1) rfl w.heap.size 0 rfl [.bool false, .string mt, .string t, .int .i64 st, .string rs, .int .i64 mn, .slice (some ⟨g, o, none⟩) n c] _ (HVr.out.alloc _).range Tryz.underlying24 rfl (by kernel_rfl) ?_)
             | fail)
           go_at_call 54
           refine (HO.out _ (HRr.out.keeps ((Below.refl _ _).alloc (Nat.le_refl _) _)) hs1).mono ?_
           rintro _ w3 ⟨rfl, hb3⟩
           have hq3 : Below wr.heap.size wr w3 := ((Below.refl _ _).alloc (Nat.le_refl _) _).trans (hb3.mono (by simp))
           have V5 := (Var.new wr 35 [.string nm, .string vl]).below_all hb3
           have c50 := V5.cell (j := 0) rfl
           have HV3 := Lib.hid (HVr.out.below_all hq3)
           have v30 := HV3.out.cell (j := 0) rfl
           have HQ := Lib.hid hq3
           have HV5 := Lib.hid V5
           clear V5 hq3 hb3)
          go_wp2_with (first
            | (refine wpList_load_mid rfl 35 (.tmp 5) rfl wr.heap.size 0 rfl [.string nm, .string vl] _ HV5.out.range Tryz.underlying35 rfl (by kernel_rfl) ?_)
            | (at_builtin; go_must (refine wpList_app _ rfl (.tmp 34) (.tmp 36) 22 22 rfl (w.heap.size + 1) 35 f0 (.agg #[.string ⟨#[]⟩, .string ⟨#[]⟩]) 2 32 Tryz.underlying22 hf0 fz0 fz1 fz2 rfl u3 P.length (fieldsV P) rfl ((HRW.out.below_all HQ.out).alloc _) _ 1 [.string nm, .string vl] rfl (built_pair _ _ _) (by omega) (by omega) (by omega) (by have := HQ.out.size; simp; omega) ?_); intro v6 w6 hrow6 hg6 _)
            | fail)
          go_roundw
          case rel => exact ⟨k + 1, by omega, by go_num, by rw [HST.out, fieldsV_append, List.length_append]; exact hrow6, Below.app ((HB.out.trans (HQ.out.mono hsz)).alloc (by have := HQ.out.size; omega) _) ((HRW.out.below_all HQ.out).alloc _) hg6 (Nat.le_refl _) (by have := HQ.out.size; simp; omega)⟩
          case measure => simp [intOf]; omega
        · by_cases he : FD = ⟨#[104, 111, 115, 116]⟩
          · have HST : Hid (keptP true fs (fs.take (k + 1)) = P ++ []) := Lib.hid (by rw [HST.out, HM.out, show fd nm = bHost from by have h := he; rw [HFD.out] at h; exact byte_ext.1 h]; rfl)
            clear ho HM HFD
            subst he
            (go_upto_region 6 with (first
               | (refine wpList_load_mid rfl 35 (.tmp 16) rfl g (o + k * 2) rfl [.string nm, .string vl] _ hr Tryz.underlying35 rfl (by kernel_rfl) ?_)
               | fail)
             go_wp2_with (first
               | (refine wpList_load_mid rfl 24 (.tmp 1) rfl w.heap.size 0 rfl [.bool true, .string mt, .string t, .int .i64 st, .string rs, .int .i64 mn, .slice (some ⟨g, o, none⟩) n c] _ (HVr.out.alloc _).range Tryz.underlying24 rfl (by kernel_rfl) ?_)
               | fail)
             go_at_call 54
             refine (HO.out _ (HRr.out.keeps ((Below.refl _ _).alloc (Nat.le_refl _) _)) hs1).mono ?_
             rintro _ w3 ⟨rfl, hb3⟩
             have hq3 : Below wr.heap.size wr w3 := ((Below.refl _ _).alloc (Nat.le_refl _) _).trans (hb3.mono (by simp))
             have V5 := (Var.new wr 35 [.string nm, .string vl]).below_all hb3
             have c50 := V5.cell (j := 0) rfl
             have HV3 := Lib.hid (HVr.out.below_all hq3)
             have v30 := HV3.out.cell (j := 0) rfl
             have HQ := Lib.hid hq3
             have HV5 := Lib.hid V5
             clear V5 hq3 hb3)
            (go_wp2_with (fail)
             go_at_call 55
             refine (HFo.out _).mono ?_
             rintro _ w4 ⟨rfl, hb4⟩
             have HQ4 := Lib.hid (HQ.out.trans (hb4.mono HQ.out.size))
             have HV54 := Lib.hid (HV5.out.below_all hb4)
             clear hb4)
            go_wp2
            go_roundw
            case rel => exact ⟨k + 1, by omega, by go_num, by rw [HST.out, List.append_nil]; exact HRW.out.below_all HQ4.out, HB.out.trans (HQ4.out.mono hsz)⟩
            case measure => simp [intOf]; omega
          · have HST : Hid (keptP true fs (fs.take (k + 1)) = P ++ [(nm, vl)]) := Lib.hid (by rw [HST.out, HM.out, show (fd nm == bHost) = false from by rw [beq_eq_false_iff_ne]; intro h; exact he (by rw [HFD.out]; exact byte_ext.2 h)]; rfl)
            have hne := toList_ne he
            clear ho HM he
            (go_upto_region 6 with (first
               | (refine wpList_load_mid rfl 35 (.tmp 16) rfl g (o + k * 2) rfl [.string nm, .string vl] _ hr Tryz.underlying35 rfl (by kernel_rfl) ?_)
               | fail)
             go_wp2_with (first
               | (refine wpList_load_mid rfl 24 (.tmp 1) rfl w.heap.size 0 rfl [.bool true, .string mt, .string t, .int .i64 st, .string rs, .int .i64 mn, .slice (some ⟨g, o, none⟩) n c] _ (HVr.out.alloc _).range Tryz.underlying24 rfl (by kernel_rfl) ?_)
               | fail)
             go_at_call 54
             refine (HO.out _ (HRr.out.keeps ((Below.refl _ _).alloc (Nat.le_refl _) _)) hs1).mono ?_
             rintro _ w3 ⟨rfl, hb3⟩
             have hq3 : Below wr.heap.size wr w3 := ((Below.refl _ _).alloc (Nat.le_refl _) _).trans (hb3.mono (by simp))
             have V5 := (Var.new wr 35 [.string nm, .string vl]).below_all hb3
             have c50 := V5.cell (j := 0) rfl
             have HV3 := Lib.hid (HVr.out.below_all hq3)
             have v30 := HV3.out.cell (j := 0) rfl
             have HQ := Lib.hid hq3
             have HV5 := Lib.hid V5
             clear V5 hq3 hb3)
            (go_wp2_with (fail)
             go_at_call 55
             refine (HFo.out _).mono ?_
             rintro _ w4 ⟨rfl, hb4⟩
             have HQ4 := Lib.hid (HQ.out.trans (hb4.mono HQ.out.size))
             have HV54 := Lib.hid (HV5.out.below_all hb4)
             clear hb4)
            go_wp2_with (first
              | (refine wpList_load_mid rfl 35 (.tmp 5) rfl wr.heap.size 0 rfl [.string nm, .string vl] _ HV54.out.range Tryz.underlying35 rfl (by kernel_rfl) ?_)
              | (at_builtin; go_must (refine wpList_app _ rfl (.tmp 34) (.tmp 36) 22 22 rfl (w.heap.size + 1) 35 f0 (.agg #[.string ⟨#[]⟩, .string ⟨#[]⟩]) 2 32 Tryz.underlying22 hf0 fz0 fz1 fz2 rfl u3 P.length (fieldsV P) rfl ((HRW.out.below_all HQ4.out).alloc _) _ 1 [.string nm, .string vl] rfl (built_pair _ _ _) (by omega) (by omega) (by omega) (by have := HQ4.out.size; simp; omega) ?_); intro v6 w6 hrow6 hg6 _)
              | fail)
            go_roundw
            case rel => exact ⟨k + 1, by omega, by go_num, by rw [HST.out, fieldsV_append, List.length_append]; exact hrow6, Below.app ((HB.out.trans (HQ4.out.mono hsz)).alloc (by have := HQ4.out.size; omega) _) ((HRW.out.below_all HQ4.out).alloc _) hg6 (Nat.le_refl _) (by have := HQ4.out.size; simp; omega)⟩
            case measure => simp [intOf]; omega
      · rw [ho] at HO HM
        have HST : Hid (keptP rq fs (fs.take (k + 1)) = P ++ []) := Lib.hid (by rw [HST.out, HM.out]; rfl)
        clear ho HM
        (go_upto_region 6 with (first
           | (refine wpList_load_mid rfl 35 (.tmp 16) rfl g (o + k * 2) rfl [.string nm, .string vl] _ hr Tryz.underlying35 rfl (by kernel_rfl) ?_)
           | fail)
         go_wp2_with (first
           | (refine wpList_load_mid rfl 24 (.tmp 1) rfl w.heap.size 0 rfl [.bool rq, .string mt, .string t, .int .i64 st, .string rs, .int .i64 mn, .slice (some ⟨g, o, none⟩) n c] _ (HVr.out.alloc _).range Tryz.underlying24 rfl (by kernel_rfl) ?_)
           | fail)
         go_at_call 54
         refine (HO.out _ (HRr.out.keeps ((Below.refl _ _).alloc (Nat.le_refl _) _)) hs1).mono ?_
         rintro _ w3 ⟨rfl, hb3⟩
         have hq3 : Below wr.heap.size wr w3 := ((Below.refl _ _).alloc (Nat.le_refl _) _).trans (hb3.mono (by simp))
         have V5 := (Var.new wr 35 [.string nm, .string vl]).below_all hb3
         have c50 := V5.cell (j := 0) rfl
         have HV3 := Lib.hid (HVr.out.below_all hq3)
         have v30 := HV3.out.cell (j := 0) rfl
         have HQ := Lib.hid hq3
         have HV5 := Lib.hid V5
         clear V5 hq3 hb3)
        go_wp2
        go_roundw
        case rel => exact ⟨k + 1, by omega, by go_num, by rw [HST.out, List.append_nil]; exact HRW.out.below_all HQ.out, HB.out.trans (HQ.out.mono hsz)⟩
        case measure => simp [intOf]; omega
    · have HE : Hid (othersP rq fs = keptP rq fs (fs.take k)) := Lib.hid (by rw [List.take_of_length_le (by omega)]; rfl)
      go_wp2
      go_ret
      refine ⟨_, rfl, ?_, HB1.out.trans (HB.out.mono (by omega))⟩
      rw [HE.out]
      exact HRW.out.mono (by omega)
end Go.Proofs.YtabecgdaiakgiaaGreatDoor
