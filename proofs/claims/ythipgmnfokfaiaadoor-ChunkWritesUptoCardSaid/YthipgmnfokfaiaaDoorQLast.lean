/- the document's Last. Conditions: sizes. -/
import Derived.Test.YthipgmnfokfaiaaDoorCLast
namespace Go.Proofs.YthipgmnfokfaiaaDoor
open Go.RowKit

theorem all_false' {p : UInt8 → Bool} {s : ByteArray} {k : Nat} (h : k < s.size) (h1 : p s[k] = false) : s.data.toList.all p = false := by
  rw [List.all_eq_false]
  exact ⟨s[k], by rw [← byte_at s k h]; exact List.getElem_mem _, by simp [h1]⟩
theorem all_step' {p : UInt8 → Bool} {s : ByteArray} {k : Nat} (h : k < s.size) : (s.data.toList.take (k + 1)).all p = ((s.data.toList.take k).all p && p s[k]) := by
  rw [take_succ_data s k h]; simp
theorem all_end' {p : UInt8 → Bool} {s : ByteArray} {k : Nat} (h : s.size ≤ k) (h1 : (s.data.toList.take k).all p = true) : s.data.toList.all p = true := by
  rwa [List.take_of_length_le (by rw [size_data]; omega)] at h1
theorem okFs_cons (f : Bs × Bs) (fs : List (Bs × Bs)) (i ahead : Nat) : Chunk.okFs (f :: fs) i ahead = (Chunk.okF f ahead && decide (i < 64) && Chunk.okFs fs (i + 1) (ahead + (Chunk.lineF f).length + 2)) := rfl
theorem upF_drop (fs : List Fl) (k : Nat) (h : k < fs.length) : upF (fs.drop k) = (fs[k].1.data.toList, fs[k].2.data.toList) :: upF (fs.drop (k + 1)) := by
  rw [List.drop_eq_getElem_cons h]; rfl

set_option maxHeartbeats 8000000 in
set_option maxRecDepth 100000 in
theorem qlast_any (A : Option Addr) (n c : Nat) (fs : List Fl) (w : World) (hrd : Rd w w.heap.size 2 A n (fieldsV fs)) (hn : n ≤ 16777216) (hf : fSize fs ≤ 67108864) :
    Calls Tryd.prog 50 #[.slice A n c] w (LastPost w (Chunk.lastP (upF fs))) := by
  have hlen : fs.length = n := by have := hrd.1; rw [fieldsV_len] at this; omega
  have HLP : Hid (Chunk.lastP (upF fs) = if Chunk.okFs (upF fs) 0 0 = true then (Chunk.lastB (upF fs), 0) else ([], 2)) := Lib.hid rfl
  have HB0 := Lib.hid (built_rowB w [48, 13, 10] [.int .u8 48, .int .u8 13, .int .u8 10] 3 rfl rfl (by omega))
  go_enter Tryd.func50, Tryd.ntmps50
  go_wp2
  go_loopw [4, 5, 6] (fun vb z i wr => ∃ k : Nat, k ≤ n ∧ i = .int .i64 k ∧ z = .int .i64 (fSize (fs.take k) : Int) ∧ RowB wr w.heap.size vb ([48, 13, 10] ++ Chunk.linesF (upF (fs.take k))) ∧ Below w.heap.size w wr ∧ Chunk.okFs (upF fs) 0 0 = Chunk.okFs (upF (fs.drop k)) k (fSize (fs.take k))) (fun _ _ i _ => n - (intOf i).toNat)
  case atStart => exact ⟨0, Nat.zero_le _, rfl, by simp [fSize], by simpa [upF, Chunk.linesF] using HB0.out, (Below.refl _ _).alloc (Nat.le_refl _) _, by simp [fSize]⟩
  case round =>
    obtain ⟨k, hk, rfl, rfl, hrow, hb, hok⟩ := hrel
    obtain ⟨wo, rfl⟩ : ∃ wo : World, wo = wr := ⟨_, rfl⟩
    have hsk := fSize_take fs k
    have hkl := linesF_len (fs.take k)
    have HR := Lib.hid hrow
    have HB := Lib.hid hb
    have HOK := Lib.hid hok
    have HKL := Lib.hid hkl
    have hzw := hb.size
    clear hrow hb hok hkl HB0
    by_cases hlt : k < n
    · obtain ⟨g, o, rfl, hg, hcell⟩ := hrd.2 (by omega)
      obtain ⟨G1, G2⟩ := fieldsV_get fs k (by omega)
      have hsg := fSize_get fs k (by omega)
      have HTK := Lib.hid (linesF_take fs k (by omega))
      have hsn : fSize (fs.take (k + 1)) = fSize (fs.take k) + (fs[k].1.size + fs[k].2.size + 4) := by
        have h1 := linesF_len (fs.take (k + 1))
        rw [HTK.out] at h1
        simp only [List.length_append, List.length_cons, List.length_nil, size_data] at h1
        have := HKL.out
        omega
      have HSN := Lib.hid hsn
      have HUD := Lib.hid (upF_drop fs k (by omega))
      have o1 := hcell _ _ G1
      have o2 := hcell _ _ G2
      rw [← Nat.add_assoc] at o2
      have c1 : ∀ q, (wo.drewN q).cell? ⟨g, o + k * 2, none⟩ = some (.string fs[k].1) := fun q => (HB.out.cell (p := ⟨g, o + k * 2, none⟩) hg).trans (hcell _ _ G1)
      have c2 : ∀ q, (wo.drewN q).cell? ⟨g, o + k * 2 + 1, none⟩ = some (.string fs[k].2) := fun q => by rw [Nat.add_assoc]; exact (HB.out.cell (p := ⟨g, o + (k * 2 + 1), none⟩) hg).trans (hcell _ _ G2)
      clear hcell G1 G2 hsn
      generalize fs[k].1 = f1 at *
      generalize fs[k].2 = f2 at *
      have HOK2 := Lib.hid HOK.out
      rw [HUD.out, okFs_cons] at HOK2
      have hll := Chunk.lineF_len (f1.data.toList, f2.data.toList)
      simp only [size_data] at hll
      rw [hll] at HOK2
      have HLL := Lib.hid hll
      clear hll HUD HOK
      have d1 := c1 0
      have d2 := c2 0
      generalize Chunk.linesF (upF (fs.take k)) = pk at *
      generalize fSize (fs.take k) = sk at *
      have HT := Lib.hid (fun W => rToken_any f1 W (by omega))
      have HTR : Hid (∀ W : World, Calls Tryd.prog 78 #[.string f2] W fun e w' => e = .returned (.string ⟨(trim f2.data.toList).toArray⟩) ∧ w' = W) := Lib.hid (fun W => (qtrimmed_any f2 W (by omega)).mono fun _ _ ⟨h1, h2⟩ => ⟨h1, h2.symm⟩)
      have hs1 : f1.size ≤ 67108864 := by omega
      have hs2 : f2.size ≤ 67108864 := by omega
      go_upto_region 6 with (fail)
      go_quiet (fail)
      go_upto_region 9 with (first
        | (go_at_call 24; go_must (refine (HT.out _).mono ?_; rintro _ _ ⟨rfl, rfl⟩))
        | fail)
      have HOKF : Hid (Chunk.okF (f1.data.toList, f2.data.toList) sk = (token f1.data.toList && decide (f1.size + 2 + f2.size ≤ 4096) && decide (sk + (f1.size + 2 + f2.size) + 2 ≤ 16384) && (trim f2.data.toList == f2.data.toList) && f2.data.toList.all Chunk.plain)) := Lib.hid (by unfold Chunk.okF; rw [HLL.out])
      clear HT d1 d2 HLL
      cases htk : token f1.data.toList
      · rw [htk] at HOKF
        have HN : Hid (Chunk.lastP (upF fs) = ([], 2)) := Lib.hid (by
          rw [HLP.out, HOK2.out, HOKF.out]
          simp only [Bool.false_and, Bool.false_eq_true, if_false])
        clear HOK2 HOKF HLP HTK HR
        go_quiet (fail)
        go_wp2
        refine bodyPost_ret (results_tmp2 rfl _ _ _) rfl ?_
        rw [HN.out]
        exact ⟨_, rfl, RowB.nil _ _, by first | exact HB.out | exact below_drewN HB.out _ | exact below_drewN (below_drewN HB.out _) _⟩
      · rw [htk] at HOKF
        by_cases q1 : f1.size + 2 + f2.size ≤ 4096
        · have q1' : decide ((4096 : Int) < (f1.size : Int) + 2 + (f2.size : Int)) = false := by simp; omega
          have q1d : decide (f1.size + 2 + f2.size ≤ 4096) = true := decide_eq_true q1
          by_cases q2 : sk + (f1.size + 2 + f2.size) + 2 ≤ 16384
          · have q2' : decide ((16384 : Int) < (sk : Int) + ((f1.size : Int) + 2 + (f2.size : Int)) + 2) = false := by simp; omega
            have q2d : decide (sk + (f1.size + 2 + f2.size) + 2 ≤ 16384) = true := decide_eq_true q2
            by_cases q3 : k < 64
            · have q3' : decide ((64 : Int) ≤ (k : Int)) = false := by simp; omega
              have q3d : decide (k < 64) = true := decide_eq_true q3
              by_cases q4 : trim f2.data.toList = f2.data.toList
              · have q4d : (trim f2.data.toList == f2.data.toList) = true := by simpa using q4
                have HTR2 : Hid (∀ W : World, Calls Tryd.prog 78 #[.string f2] W fun e w' => e = .returned (.string f2) ∧ w' = W) := Lib.hid (fun W => by
                  have := HTR.out W
                  rw [q4] at this
                  exact this)
                have HOKG : Hid (Chunk.okFs (upF fs) 0 0 = (f2.data.toList.all Chunk.plain && Chunk.okFs (upF (fs.drop (k + 1))) (k + 1) (sk + (f1.size + 2 + f2.size) + 2))) := Lib.hid (by
                  rw [HOK2.out, HOKF.out, q1d, q2d, q3d, q4d]; simp)
                clear HTR q4 q4d q1d q2d q3d HOKF HOK2
                go_quiet ((go_at_call 78; refine (HTR2.out _).mono ?_; rintro _ _ ⟨rfl, rfl⟩; exact ⟨rfl, _, rfl⟩))
                clear q1' q2' q3' HTR2 htk
                have HO1 := Lib.hid o1
                have HO2 := Lib.hid o2
                clear o1 o2
                go_wp2
                go_loopw [9] (fun i wr => ∃ z q : Nat, z ≤ f2.size ∧ i = .int .i64 z ∧ (f2.data.toList.take z).all Chunk.plain = true ∧ wr = wo.drewN q) (fun i _ => f2.size - (intOf i).toNat)
                case atStart => exact ⟨0, _, Nat.zero_le _, rfl, rfl, World.drewN_drewN _ _ _⟩
                case round =>
                  obtain ⟨z, q, hz, rfl, hall, rfl⟩ := hrel
                  have HALL := Lib.hid hall
                  have e2 := c2 q
                  clear hall
                  by_cases hlz : z < f2.size
                  · have HSTEP := Lib.hid (all_step' (p := Chunk.plain) hlz)
                    have HFAIL : Hid (Chunk.plain f2[z] = false → f2.data.toList.all Chunk.plain = false) := Lib.hid (fun h => all_false' hlz h)
                    have HPL := Lib.hid (fun W => qplain_any f2[z] W)
                    cases hpz : Chunk.plain f2[z]
                    · have HN : Hid (Chunk.lastP (upF fs) = ([], 2)) := Lib.hid (by
                        rw [HLP.out, HOKG.out, HFAIL.out hpz]; rfl)
                      rw [hpz] at HPL
                      clear HOKG HFAIL HSTEP HLP HTK HR
                      go_wp2_with (first
                        | (go_at_call 79; refine (HPL.out _).mono ?_; rintro _ _ ⟨rfl, rfl⟩)
                        | fail)
                      refine bodyPost_ret (results_tmp2 rfl _ _ _) rfl ?_
                      rw [HN.out]
                      exact ⟨_, rfl, RowB.nil _ _, below_drewN HB.out _⟩
                    · rw [hpz] at HPL
                      go_wp2_with (first
                        | (go_at_call 79; refine (HPL.out _).mono ?_; rintro _ _ ⟨rfl, rfl⟩)
                        | fail)
                      go_roundw
                      case rel => exact ⟨z + 1, _, by omega, by go_num, by rw [HSTEP.out, HALL.out, hpz]; rfl, rfl⟩
                      case measure => simp [intOf]; omega
                  · have HOKN : Hid (Chunk.okFs (upF fs) 0 0 = Chunk.okFs (upF (fs.drop (k + 1))) (k + 1) (fSize (fs.take (k + 1)))) := Lib.hid (by
                      rw [HOKG.out, all_end' (p := Chunk.plain) (by omega) HALL.out, HSN.out, Bool.true_and]
                      congr 1; omega)
                    have e1 := c1 q
                    have o1 := HO1.out
                    have o2 := HO2.out
                    have HBq : Hid (Below w.heap.size w (wo.drewN q)) := Lib.hid (below_drewN HB.out q)
                    have HRq : Hid (RowB (wo.drewN q) w.heap.size u4 ([48, 13, 10] ++ pk)) := Lib.hid (HR.out.drewN q)
                    have hkl := HKL.out
                    have HO1' := Lib.hid o1
                    clear HALL HOKG c1 c2 HR HB
                    have hzq : w.heap.size ≤ (wo.drewN q).heap.size := hzw
                    generalize wo.drewN q = wp at *
                    have hpk : pk.length + (f1.size + f2.size + 4) ≤ 67108864 := by omega
                    clear hkl
                    go_wp2_with (first
                      | (at_builtin; (refine wpList_appB rfl (.tmp 88) (.tmp 93) 9 rfl w.heap.size rfl HRq.out rfl (SrcB.str _ _) (by (try simp only [List.length_append, List.length_cons, List.length_nil, size_data]); omega) (by first | omega | (simp; done) | (simp; omega)) ?_; intro v21 w21 hrow21 hb _ _; have B21 := (HBq.out).trans hb; have z21 := B21.size; have k121 := (B21.cell (p := ⟨g, o + k * 2, none⟩) hg).trans o1; have k221 := (B21.cell (p := ⟨g, o + k * 2 + 1, none⟩) hg).trans o2; clear hb))
                      | (at_builtin; (refine wpList_appB rfl (.tmp 95) (.tmp 96) 35 rfl w.heap.size rfl (hrow21.alloc _) rfl (SrcB.built [58, 32] [.int .u8 58, .int .u8 32] rfl) (by (try simp only [List.length_append, List.length_cons, List.length_nil, size_data]); omega) (by first | omega | (simp; done) | (simp; omega)) ?_; intro v22 w22 hrow22 hb _ _; have B22 := ((B21.alloc z21 _)).trans hb; have z22 := B22.size; have k122 := (B22.cell (p := ⟨g, o + k * 2, none⟩) hg).trans o1; have k222 := (B22.cell (p := ⟨g, o + k * 2 + 1, none⟩) hg).trans o2; clear hb))
                      | (at_builtin; (refine wpList_appB rfl (.tmp 98) (.tmp 103) 9 rfl w.heap.size rfl hrow22 rfl (SrcB.str _ _) (by (try simp only [List.length_append, List.length_cons, List.length_nil, size_data]); omega) (by first | omega | (simp; done) | (simp; omega)) ?_; intro v23 w23 hrow23 hb _ _; have B23 := (B22).trans hb; have z23 := B23.size; have k123 := (B23.cell (p := ⟨g, o + k * 2, none⟩) hg).trans o1; have k223 := (B23.cell (p := ⟨g, o + k * 2 + 1, none⟩) hg).trans o2; clear hb))
                      | (at_builtin; (refine wpList_appB rfl (.tmp 105) (.tmp 106) 35 rfl w.heap.size rfl (hrow23.alloc _) rfl (SrcB.built [13, 10] [.int .u8 13, .int .u8 10] rfl) (by (try simp only [List.length_append, List.length_cons, List.length_nil, size_data]); omega) (by first | omega | (simp; done) | (simp; omega)) ?_; intro v24 w24 hrow24 hb _ _; have B24 := ((B23.alloc z23 _)).trans hb; have z24 := B24.size; have k124 := (B24.cell (p := ⟨g, o + k * 2, none⟩) hg).trans o1; have k224 := (B24.cell (p := ⟨g, o + k * 2 + 1, none⟩) hg).trans o2; clear hb))
                      | fail)
                    go_roundw
                    case rel => exact ⟨k + 1, by omega, by go_num, by rw [HSN.out]; congr 1; omega, by rw [HTK.out]; simpa only [List.append_assoc] using hrow24, B24, HOKN.out⟩
                    case measure => simp [intOf]; omega
              · have q4d : (trim f2.data.toList == f2.data.toList) = false := by simpa using q4
                have HNE : Hid (((⟨(trim f2.data.toList).toArray⟩ : ByteArray).toList == f2.toList) = false) := Lib.hid (by
                  rw [ByteArray.toList_eq, ByteArray.toList_eq]
                  simpa using q4)
                generalize (⟨(trim f2.data.toList).toArray⟩ : ByteArray) = tv at HTR HNE
                have hne := HNE.out
                clear q4 HNE
                have HN : Hid (Chunk.lastP (upF fs) = ([], 2)) := Lib.hid (by
                  rw [HLP.out, HOK2.out, HOKF.out]
                  simp only [q4d, Bool.false_and, Bool.and_false, Bool.false_eq_true, if_false])
                clear HOK2 HOKF HLP HTK HR
                go_quiet ((go_at_call 78; refine (HTR.out _).mono ?_; rintro _ _ ⟨rfl, rfl⟩; exact ⟨rfl, _, rfl⟩))
                go_wp2
                refine bodyPost_ret (results_tmp2 rfl _ _ _) rfl ?_
                rw [HN.out]
                exact ⟨_, rfl, RowB.nil _ _, by first | exact HB.out | exact below_drewN HB.out _ | exact below_drewN (below_drewN HB.out _) _⟩
            · have q3' : decide ((64 : Int) ≤ (k : Int)) = true := by simp; omega
              have q3d : decide (k < 64) = false := decide_eq_false q3
              clear q3
              have HN : Hid (Chunk.lastP (upF fs) = ([], 2)) := Lib.hid (by
                rw [HLP.out, HOK2.out, HOKF.out]
                simp only [q3d, Bool.false_and, Bool.and_false, Bool.false_eq_true, if_false])
              clear HOK2 HOKF HLP HTK HR
              go_quiet (fail)
              go_wp2
              refine bodyPost_ret (results_tmp2 rfl _ _ _) rfl ?_
              rw [HN.out]
              exact ⟨_, rfl, RowB.nil _ _, by first | exact HB.out | exact below_drewN HB.out _ | exact below_drewN (below_drewN HB.out _) _⟩
          · have q2' : decide ((16384 : Int) < (sk : Int) + ((f1.size : Int) + 2 + (f2.size : Int)) + 2) = true := by simp; omega
            have q2d : decide (sk + (f1.size + 2 + f2.size) + 2 ≤ 16384) = false := decide_eq_false q2
            clear q2
            have HN : Hid (Chunk.lastP (upF fs) = ([], 2)) := Lib.hid (by
              rw [HLP.out, HOK2.out, HOKF.out]
              simp only [q2d, Bool.false_and, Bool.and_false, Bool.false_eq_true, if_false])
            clear HOK2 HOKF HLP HTK HR
            go_quiet (fail)
            go_wp2
            refine bodyPost_ret (results_tmp2 rfl _ _ _) rfl ?_
            rw [HN.out]
            exact ⟨_, rfl, RowB.nil _ _, by first | exact HB.out | exact below_drewN HB.out _ | exact below_drewN (below_drewN HB.out _) _⟩
        · have q1' : decide ((4096 : Int) < (f1.size : Int) + 2 + (f2.size : Int)) = true := by simp; omega
          have q1d : decide (f1.size + 2 + f2.size ≤ 4096) = false := decide_eq_false q1
          clear q1
          have HN : Hid (Chunk.lastP (upF fs) = ([], 2)) := Lib.hid (by
            rw [HLP.out, HOK2.out, HOKF.out]
            simp only [q1d, Bool.false_and, Bool.and_false, Bool.false_eq_true, if_false])
          clear HOK2 HOKF HLP HTK HR
          go_quiet (fail)
          go_wp2
          refine bodyPost_ret (results_tmp2 rfl _ _ _) rfl ?_
          rw [HN.out]
          exact ⟨_, rfl, RowB.nil _ _, by first | exact HB.out | exact below_drewN HB.out _ | exact below_drewN (below_drewN HB.out _) _⟩
    · have e1 : fs.take k = fs := List.take_of_length_le (by omega)
      have e2 : fs.drop k = [] := List.drop_of_length_le (by omega)
      rw [e1] at HR hsk HKL
      have hkl := HKL.out
      have HPP : Hid (Chunk.lastP (upF fs) = (([48, 13, 10] ++ Chunk.linesF (upF fs)) ++ [13, 10], 0)) := Lib.hid (by
        rw [HLP.out, HOK.out, e2]; rfl)
      clear e2 HOK HKL HLP
      go_wp2_with (first
        | (at_builtin; go_must (refine wpList_appB (L := [48, 13, 10] ++ Chunk.linesF (upF fs)) (M := [13, 10]) rfl (.tmp 108) (.tmp 109) 35 rfl w.heap.size rfl (HR.out.alloc _) rfl (SrcB.built [13, 10] [.int .u8 13, .int .u8 10] rfl) (by simp only [List.length_append, List.length_cons, List.length_nil]; omega) (by simp; omega) ?_); go_must (intro v4 w4 hrow4 hbb4 hg4 _))
        | fail)
      refine bodyPost_ret (results_tmp2 rfl _ _ _) rfl ?_
      rw [HPP.out]
      exact ⟨_, rfl, hrow4, (HB.out.alloc hzw _).trans hbb4⟩
end Go.Proofs.YthipgmnfokfaiaaDoor
