/- The reference's Response where it fails; joined (printed by gen_prsp3.py out of XRRsp). Conditions: sizes. -/
import Derived.Test.YtabecgdaiakgiaaGreatDoorPRsp2
namespace Go.Proofs.YtabecgdaiakgiaaGreatDoor
open Go.RowKit

set_option maxHeartbeats 4000000 in
set_option maxRecDepth 100000 in
theorem pResponse_no (rq : Bool) (mt t : ByteArray) (st : Int) (rs : ByteArray) (mn : Int) (A : Option Addr) (n c : Nat) (fs : List Fl) (fr ln : Int) (cl : Bool) (mi : Int) (w : World) (hno : rspG ⟨rq, mt, t, st, rs, mn, fs⟩ fr ln mi = false) :
    Calls Tryz.prog 8 #[headV rq mt t st rs mn (.slice A n c), .int .i64 fr, .int .i64 ln, .bool cl, .int .i64 mi] w (RspPost w (rspP ⟨rq, mt, t, st, rs, mn, fs⟩ fr ln cl mi)) := by
  have B1 : Below w.heap.size w ((w.alloc (.cells #[.bool rq, .string mt, .string t, .int .i64 st, .string rs, .int .i64 mn, .slice A n c] 24)).alloc (.cells #[.bool false, .string ⟨#[]⟩, .string ⟨#[]⟩, .int .i64 0, .string ⟨#[]⟩, .int .i64 0, .slice none 0 0] 24)) := ((Below.refl _ _).alloc (Nat.le_refl _) _).alloc (by simp) _
  have z1 := heap_alloc_size w (.cells #[.bool rq, .string mt, .string t, .int .i64 st, .string rs, .int .i64 mn, .slice A n c] 24)
  have U1 := Lib.hid (Var.new (w.alloc (.cells #[.bool rq, .string mt, .string t, .int .i64 st, .string rs, .int .i64 mn, .slice A n c] 24)) 24 [.bool false, .string ⟨#[]⟩, .string ⟨#[]⟩, .int .i64 0, .string ⟨#[]⟩, .int .i64 0, .slice none 0 0])
  rw [z1] at U1
  have HB1 := Lib.hid B1
  unfold headV
  clear B1 z1
  cases rq
  · by_cases f0 : fr < 0
    · have d0 : decide (fr < 0) = true := by simpa using f0
      (have HE := Lib.hid (rspP_no (h := ⟨false, mt, t, st, rs, mn, fs⟩) (fr := fr) (ln := ln) (cl := cl) (mi := mi) hno)
       clear hno
       go_enter Tryz.func8, Tryz.ntmps8
       go_wp2_with (first
         | (refine wpList_put rfl 24 (.tmp 10) (.tmp 42) rfl (w.heap.size + 1) rfl U1.out [.bool false, .string ⟨#[]⟩, .string ⟨#[]⟩, .int .i64 0, .string ⟨#[]⟩, .int .i64 0, .slice none 0 0] rfl rfl (by kernel_rfl) (by simp [Value.oneCell']) ?_; intro w3 hv3 hg3 hs3)
         | fail)
       refine bodyPost_ret (results_var3 rfl _ _ rfl hv3 Tryz.underlying24 rfl (by kernel_rfl)) rfl ?_
       rw [HE.out]
       have z1 := HB1.out.size
       exact ⟨.slice none 0 0, rfl, Row.nil _ _ _, Below.grown HB1.out hg3 z1 (by intro k hk; simp at hk; omega)⟩)
    · have d0 : decide (fr < 0) = false := by simpa using f0
      by_cases f2 : 3 < fr
      · have d2 : decide (3 < fr) = true := by simpa using f2
        (have HE := Lib.hid (rspP_no (h := ⟨false, mt, t, st, rs, mn, fs⟩) (fr := fr) (ln := ln) (cl := cl) (mi := mi) hno)
         clear hno
         go_enter Tryz.func8, Tryz.ntmps8
         go_wp2_with (first
           | (refine wpList_put rfl 24 (.tmp 10) (.tmp 42) rfl (w.heap.size + 1) rfl U1.out [.bool false, .string ⟨#[]⟩, .string ⟨#[]⟩, .int .i64 0, .string ⟨#[]⟩, .int .i64 0, .slice none 0 0] rfl rfl (by kernel_rfl) (by simp [Value.oneCell']) ?_; intro w3 hv3 hg3 hs3)
           | fail)
         refine bodyPost_ret (results_var3 rfl _ _ rfl hv3 Tryz.underlying24 rfl (by kernel_rfl)) rfl ?_
         rw [HE.out]
         have z1 := HB1.out.size
         exact ⟨.slice none 0 0, rfl, Row.nil _ _ _, Below.grown HB1.out hg3 z1 (by intro k hk; simp at hk; omega)⟩)
      · have d2 : decide (3 < fr) = false := by simpa using f2
        by_cases f1 : fr = 1 ∧ ln < 0
        · obtain ⟨rfl, f1⟩ := f1
          have d1 : decide (ln < 0) = true := by simpa using f1
          (have HE := Lib.hid (rspP_no (h := ⟨false, mt, t, st, rs, mn, fs⟩) (fr := 1) (ln := ln) (cl := cl) (mi := mi) hno)
           clear hno
           go_enter Tryz.func8, Tryz.ntmps8
           go_wp2_with (first
             | (refine wpList_put rfl 24 (.tmp 10) (.tmp 42) rfl (w.heap.size + 1) rfl U1.out [.bool false, .string ⟨#[]⟩, .string ⟨#[]⟩, .int .i64 0, .string ⟨#[]⟩, .int .i64 0, .slice none 0 0] rfl rfl (by kernel_rfl) (by simp [Value.oneCell']) ?_; intro w3 hv3 hg3 hs3)
             | fail)
           refine bodyPost_ret (results_var3 rfl _ _ rfl hv3 Tryz.underlying24 rfl (by kernel_rfl)) rfl ?_
           rw [HE.out]
           have z1 := HB1.out.size
           exact ⟨.slice none 0 0, rfl, Row.nil _ _ _, Below.grown HB1.out hg3 z1 (by intro k hk; simp at hk; omega)⟩)
        · have f3 : fr = 1 → 0 ≤ ln := fun e => by omega
          have hm : mi < 0 ∨ 1 < mi := by
            unfold rspG at hno
            simp at hno
            omega
          by_cases e1 : fr = 1
          · subst e1
            have d1 : decide (ln < 0) = false := by simpa using f3 rfl
            have k0 : (mi != 0) = true := by simp; omega
            have k1 : (mi != 1) = true := by simp; omega
            (have HE := Lib.hid (rspP_no (h := ⟨false, mt, t, st, rs, mn, fs⟩) (fr := 1) (ln := ln) (cl := cl) (mi := mi) hno)
             clear hno
             go_enter Tryz.func8, Tryz.ntmps8
             go_wp2_with (first
               | (refine wpList_put rfl 24 (.tmp 10) (.tmp 42) rfl (w.heap.size + 1) rfl U1.out [.bool false, .string ⟨#[]⟩, .string ⟨#[]⟩, .int .i64 0, .string ⟨#[]⟩, .int .i64 0, .slice none 0 0] rfl rfl (by kernel_rfl) (by simp [Value.oneCell']) ?_; intro w3 hv3 hg3 hs3)
               | fail)
             refine bodyPost_ret (results_var3 rfl _ _ rfl hv3 Tryz.underlying24 rfl (by kernel_rfl)) rfl ?_
             rw [HE.out]
             have z1 := HB1.out.size
             exact ⟨.slice none 0 0, rfl, Row.nil _ _ _, Below.grown HB1.out hg3 z1 (by intro k hk; simp at hk; omega)⟩)
          · have d1 : (fr == 1) = false := by simpa using e1
            have k0 : (mi != 0) = true := by simp; omega
            have k1 : (mi != 1) = true := by simp; omega
            (have HE := Lib.hid (rspP_no (h := ⟨false, mt, t, st, rs, mn, fs⟩) (fr := fr) (ln := ln) (cl := cl) (mi := mi) hno)
             clear hno
             go_enter Tryz.func8, Tryz.ntmps8
             go_wp2_with (first
               | (refine wpList_put rfl 24 (.tmp 10) (.tmp 42) rfl (w.heap.size + 1) rfl U1.out [.bool false, .string ⟨#[]⟩, .string ⟨#[]⟩, .int .i64 0, .string ⟨#[]⟩, .int .i64 0, .slice none 0 0] rfl rfl (by kernel_rfl) (by simp [Value.oneCell']) ?_; intro w3 hv3 hg3 hs3)
               | fail)
             refine bodyPost_ret (results_var3 rfl _ _ rfl hv3 Tryz.underlying24 rfl (by kernel_rfl)) rfl ?_
             rw [HE.out]
             have z1 := HB1.out.size
             exact ⟨.slice none 0 0, rfl, Row.nil _ _ _, Below.grown HB1.out hg3 z1 (by intro k hk; simp at hk; omega)⟩)
  · (have HE := Lib.hid (rspP_no (h := ⟨true, mt, t, st, rs, mn, fs⟩) (fr := fr) (ln := ln) (cl := cl) (mi := mi) hno)
     clear hno
     go_enter Tryz.func8, Tryz.ntmps8
     go_wp2_with (first
       | (refine wpList_put rfl 24 (.tmp 10) (.tmp 42) rfl (w.heap.size + 1) rfl U1.out [.bool false, .string ⟨#[]⟩, .string ⟨#[]⟩, .int .i64 0, .string ⟨#[]⟩, .int .i64 0, .slice none 0 0] rfl rfl (by kernel_rfl) (by simp [Value.oneCell']) ?_; intro w3 hv3 hg3 hs3)
       | fail)
     refine bodyPost_ret (results_var3 rfl _ _ rfl hv3 Tryz.underlying24 rfl (by kernel_rfl)) rfl ?_
     rw [HE.out]
     have z1 := HB1.out.size
     exact ⟨.slice none 0 0, rfl, Row.nil _ _ _, Below.grown HB1.out hg3 z1 (by intro k hk; simp at hk; omega)⟩)
theorem pResponse_any (rq : Bool) (mt t : ByteArray) (st : Int) (rs : ByteArray) (mn : Int) (A : Option Addr) (n c : Nat) (fs : List Fl) (fr ln : Int) (cl : Bool) (mi : Int) (w : World) (hrd : Rd w w.heap.size 2 A n (fieldsV fs))
    (hst : isInt st) (hln : isInt ln) (hn : n ≤ 1048576) (hm : mt.size + t.size + rs.size ≤ 1048576) (hfz : flSize fs ≤ 2097152) (hfs : ∀ f ∈ fs, f.1.size ≤ 16777216) (hvs : total (vals fs sConn) ≤ 8388608) :
    Calls Tryz.prog 8 #[headV rq mt t st rs mn (.slice A n c), .int .i64 fr, .int .i64 ln, .bool cl, .int .i64 mi] w (RspPost w (rspP ⟨rq, mt, t, st, rs, mn, fs⟩ fr ln cl mi)) := by
  cases hg : rspG ⟨rq, mt, t, st, rs, mn, fs⟩ fr ln mi with
  | false => exact pResponse_no rq mt t st rs mn A n c fs fr ln cl mi w hg
  | true =>
    have h2 := hg
    unfold rspG at h2
    cases rq with
    | true => simp at h2
    | false => exact pResponse_yes mt t st rs mn A n c fs fr ln cl mi w hrd hst hln hn hm hfz hfs hvs hg
end Go.Proofs.YtabecgdaiakgiaaGreatDoor
