/- the reference's Keeps. Conditions: sizes. -/
import Derived.Test.YtabecgdaiakgiaaDoorRKeeps
namespace Go.Proofs.YtabecgdaiakgiaaDoor
open Go.RowKit

theorem fd_close : fd ⟨#[99, 108, 111, 115, 101]⟩ = bClose := by decide +kernel
theorem fd_keep : fd ⟨#[107, 101, 101, 112, 45, 97, 108, 105, 118, 101]⟩ = bKeep := by decide +kernel
set_option maxHeartbeats 1000000 in
set_option maxRecDepth 100000 in
theorem pKeeps_any (rq : Bool) (mt t : ByteArray) (st : Int) (rs : ByteArray) (mn : Int) (A : Option Addr) (n c : Nat) (fs : List Fl) (w : World) (hrd : Rd w w.heap.size 2 A n (fieldsV fs))
    (hn : n ≤ 1048576) (hfs : ∀ f ∈ fs, f.1.size ≤ 16777216) (hvs : total (vals fs sConn) ≤ 8388608) :
    Calls Tryd.prog 19 #[headV rq mt t st rs mn (.slice A n c)] w fun e w' => e = .returned (.bool (keepsP mn fs)) ∧ Below w.heap.size w w' := by
  have B1 : Below w.heap.size w (w.alloc (.cells #[.bool rq, .string mt, .string t, .int .i64 st, .string rs, .int .i64 mn, .slice A n c] 24)) := (Below.refl _ _).alloc (Nat.le_refl _) _
  have HR1 := Lib.hid ((hrd.below B1).more B1.size)
  have HV1 := Lib.hid (Var.new w 24 [.bool rq, .string mt, .string t, .int .i64 st, .string rs, .int .i64 mn, .slice A n c])
  have HB1 := Lib.hid B1
  have hll := listed_len (vals fs sConn)
  have hlz : ∀ s ∈ connP fs, s.size ≤ 16777216 := fun s hs => by have := listed_size hs; omega
  have hln : (connP fs).length ≤ 16777216 := by unfold connP; omega
  have HPC := Lib.hid (fun W hr => ppieces_any rq mt t st rs mn A n c fs W hr hn hfs hvs)
  have HP : Hid (keepsP mn fs = (!(inP (connP fs) bClose) && (decide (mn = 1) || inP (connP fs) bKeep))) := Lib.hid rfl
  have HIN := Lib.hid (fun A c s W h1 h2 => pin_any A (connP fs).length c (connP fs) s W h1 hln hlz h2)
  unfold headV at HPC
  unfold headV
  generalize connP fs = L at HPC HP HIN hlz hln
  clear hrd B1 hvs hll
  cases hc : inP L bClose with
  | true =>
    rw [hc] at HP
    have e1 : inP L (fd ⟨#[99, 108, 111, 115, 101]⟩) = true := by rw [fd_close]; exact hc
    go_enter Tryd.func19, Tryd.ntmps19
    go_wp2_with (first
      | (refine wpList_load_mid rfl 24 (.tmp 1) rfl w.heap.size 0 rfl [.bool rq, .string mt, .string t, .int .i64 st, .string rs, .int .i64 mn, .slice A n c] _ HV1.out.range Tryd.underlying24 rfl (by kernel_rfl) ?_)
      | (go_at_call 61; (refine (HPC.out _ HR1.out).mono ?_; rintro _ w2 ⟨v2, rfl, hrow2, hb2⟩; obtain ⟨A2, c2, rfl, _, _, _, rd2⟩ := hrow2.form))
      | (go_at_call 60; (refine (HIN.out A2 c2 ⟨#[99, 108, 111, 115, 101]⟩ w2 rd2 (by decide)).mono ?_; rintro _ w3 ⟨rfl, hb3⟩; rw [e1]; have V3 := (HV1.out.below_all hb2).below_all hb3; have v5 := V3.cell (j := 5) rfl; have R3 := (HR1.out.keeps hb2).keeps hb3))
      | fail)
    have z1 := HB1.out.size
    have z2 := hb2.size
    go_ret
    exact ⟨by rw [HP.out]; rfl, (HB1.out.trans (hb2.mono z1)).trans (hb3.mono (by omega))⟩
  | false =>
    rw [hc] at HP
    have e1 : inP L (fd ⟨#[99, 108, 111, 115, 101]⟩) = false := by rw [fd_close]; exact hc
    by_cases hm : mn = 1
    · subst hm
      go_enter Tryd.func19, Tryd.ntmps19
      go_wp2_with (first
        | (refine wpList_load_mid rfl 24 (.tmp 1) rfl w.heap.size 0 rfl [.bool rq, .string mt, .string t, .int .i64 st, .string rs, .int .i64 1, .slice A n c] _ HV1.out.range Tryd.underlying24 rfl (by kernel_rfl) ?_)
        | (refine wpList_load_mid rfl 24 (.tmp 1) rfl w.heap.size 0 rfl [.bool rq, .string mt, .string t, .int .i64 st, .string rs, .int .i64 mn, .slice A n c] _ HV1.out.range Tryd.underlying24 rfl (by kernel_rfl) ?_)
        | (go_at_call 61; (refine (HPC.out _ HR1.out).mono ?_; rintro _ w2 ⟨v2, rfl, hrow2, hb2⟩; obtain ⟨A2, c2, rfl, _, _, _, rd2⟩ := hrow2.form))
        | (go_at_call 60; (refine (HIN.out A2 c2 ⟨#[99, 108, 111, 115, 101]⟩ w2 rd2 (by decide)).mono ?_; rintro _ w3 ⟨rfl, hb3⟩; rw [e1]; have V3 := (HV1.out.below_all hb2).below_all hb3; have v5 := V3.cell (j := 5) rfl; have R3 := (HR1.out.keeps hb2).keeps hb3))
        | fail)
      have z1 := HB1.out.size
      have z2 := hb2.size
      go_ret
      exact ⟨by rw [HP.out]; rfl, (HB1.out.trans (hb2.mono z1)).trans (hb3.mono (by omega))⟩
    · have hm1 : decide (mn = 1) = false := by simpa using hm
      have hm2 : (mn == 1) = false := by simpa using hm
      rw [hm1] at HP
      cases hd : inP L bKeep
      all_goals
        rw [hd] at HP
        have e2 : inP L (fd ⟨#[107, 101, 101, 112, 45, 97, 108, 105, 118, 101]⟩) = inP L bKeep := by rw [fd_keep]
        rw [hd] at e2
        go_enter Tryd.func19, Tryd.ntmps19
        go_wp2_with (first
          | (refine wpList_load_mid_g (by rfl) 24 (.tmp 1) rfl w.heap.size 0 rfl [.bool rq, .string mt, .string t, .int .i64 st, .string rs, .int .i64 mn, .slice A n c] _ V3.range Tryd.underlying24 rfl (by kernel_rfl) ?_)
          | (go_at_call 61; (refine (HPC.out _ R3).mono ?_; rintro _ w4 ⟨v4, rfl, hrow4, hb4⟩; obtain ⟨A4, c4, rfl, _, _, _, rd4⟩ := hrow4.form))
          | (go_at_call 60; (refine (HIN.out A4 c4 ⟨#[107, 101, 101, 112, 45, 97, 108, 105, 118, 101]⟩ w4 rd4 (by decide)).mono ?_; rintro _ w5 ⟨rfl, hb5⟩; rw [e2]))
          | (refine wpList_load_mid rfl 24 (.tmp 1) rfl w.heap.size 0 rfl [.bool rq, .string mt, .string t, .int .i64 st, .string rs, .int .i64 mn, .slice A n c] _ HV1.out.range Tryd.underlying24 rfl (by kernel_rfl) ?_)
          | (go_at_call 61; (refine (HPC.out _ HR1.out).mono ?_; rintro _ w2 ⟨v2, rfl, hrow2, hb2⟩; obtain ⟨A2, c2, rfl, _, _, _, rd2⟩ := hrow2.form))
          | (go_at_call 60; (refine (HIN.out A2 c2 ⟨#[99, 108, 111, 115, 101]⟩ w2 rd2 (by decide)).mono ?_; rintro _ w3 ⟨rfl, hb3⟩; rw [e1]; have V3 := (HV1.out.below_all hb2).below_all hb3; have v5 := V3.cell (j := 5) rfl; have R3 := (HR1.out.keeps hb2).keeps hb3))
          | fail)
        have z1 := HB1.out.size
        have z2 := hb2.size
        have z3 := hb3.size
        have z4 := hb4.size
        go_ret
        exact ⟨by rw [HP.out]; rfl, (((HB1.out.trans (hb2.mono z1)).trans (hb3.mono (by omega))).trans (hb4.mono (by omega))).trans (hb5.mono (by omega))⟩
end Go.Proofs.YtabecgdaiakgiaaDoor
