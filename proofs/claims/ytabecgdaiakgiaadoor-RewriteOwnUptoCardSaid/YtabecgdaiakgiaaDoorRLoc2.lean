/- A sidecar's own replies: the reference's Reason; local. Conditions: sizes, the library's variables. -/
import Derived.Test.YtabecgdaiakgiaaDoorRLoc
namespace Go.Proofs.YtabecgdaiakgiaaDoor
open Go.RowKit

set_option maxHeartbeats 8000000 in
set_option maxRecDepth 100000 in
theorem pReason_any (st : Int) (w : World) : Calls Tryd.prog 83 #[.int .i64 st] w fun e w' => e = .returned (.string ⟨(reasonP st).toArray⟩) ∧ Below w.heap.size w w' := by
  have HB : Hid (Below w.heap.size w ((w.alloc (.cells #[.int .i64 400, .int .i64 403, .int .i64 404, .int .i64 408, .int .i64 413, .int .i64 414, .int .i64 431, .int .i64 500, .int .i64 502, .int .i64 503, .int .i64 504] 3)).alloc (.cells #[.string ⟨#[66, 97, 100, 32, 82, 101, 113, 117, 101, 115, 116]⟩, .string ⟨#[70, 111, 114, 98, 105, 100, 100, 101, 110]⟩, .string ⟨#[78, 111, 116, 32, 70, 111, 117, 110, 100]⟩, .string ⟨#[82, 101, 113, 117, 101, 115, 116, 32, 84, 105, 109, 101, 111, 117, 116]⟩, .string ⟨#[67, 111, 110, 116, 101, 110, 116, 32, 84, 111, 111, 32, 76, 97, 114, 103, 101]⟩, .string ⟨#[85, 82, 73, 32, 84, 111, 111, 32, 76, 111, 110, 103]⟩, .string ⟨#[82, 101, 113, 117, 101, 115, 116, 32, 72, 101, 97, 100, 101, 114, 32, 70, 105, 101, 108, 100, 115, 32, 84, 111, 111, 32, 76, 97, 114, 103, 101]⟩, .string ⟨#[73, 110, 116, 101, 114, 110, 97, 108, 32, 83, 101, 114, 118, 101, 114, 32, 69, 114, 114, 111, 114]⟩, .string ⟨#[66, 97, 100, 32, 71, 97, 116, 101, 119, 97, 121]⟩, .string ⟨#[83, 101, 114, 118, 105, 99, 101, 32, 85, 110, 97, 118, 97, 105, 108, 97, 98, 108, 101]⟩, .string ⟨#[71, 97, 116, 101, 119, 97, 121, 32, 84, 105, 109, 101, 111, 117, 116]⟩] 9))) := Lib.hid (((Below.refl _ _).alloc (Nat.le_refl _) _).alloc (by simp) _)
  go_enter Tryd.func83, Tryd.ntmps83
  go_wp2
  go_loop [5] (fun i => ∃ k : Nat, k ≤ 11 ∧ i = .int .i64 k ∧ reasonP st = reasonOf (reasonsL.drop k) st) (fun i => 11 - (intOf i).toNat)
  case atStart => exact ⟨0, by omega, rfl, rfl⟩
  case round =>
    obtain ⟨k, hk, rfl, hr⟩ := hrel
    have HR := Lib.hid hr
    clear hr
    rcases (show k = 0 ∨ k = 1 ∨ k = 2 ∨ k = 3 ∨ k = 4 ∨ k = 5 ∨ k = 6 ∨ k = 7 ∨ k = 8 ∨ k = 9 ∨ k = 10 ∨ k = 11 by omega) with rfl | rfl | rfl | rfl | rfl | rfl | rfl | rfl | rfl | rfl | rfl | rfl
    · by_cases he : st = 400
      · subst he
        have HT : Hid (reasonP 400 = [66, 97, 100, 32, 82, 101, 113, 117, 101, 115, 116]) := Lib.hid (by rw [HR.out]; kernel_rfl)
        clear HR
        go_wp2
        go_ret
        exact ⟨by rw [HT.out]; rfl, HB.out⟩
      · have hne : ((400 : Int) == st) = false := by simpa using (fun e => he e.symm)
        have HT : Hid (reasonP st = reasonOf (reasonsL.drop 1) st) := Lib.hid (by rw [HR.out]; show reasonOf ((400, _) :: reasonsL.drop 1) st = _; rw [reasonOf, if_neg he])
        clear HR he
        go_wp2
        go_round
        case rel => exact ⟨1, by omega, by go_num, HT.out⟩
        case measure => simp [intOf]
    · by_cases he : st = 403
      · subst he
        have HT : Hid (reasonP 403 = [70, 111, 114, 98, 105, 100, 100, 101, 110]) := Lib.hid (by rw [HR.out]; kernel_rfl)
        clear HR
        go_wp2
        go_ret
        exact ⟨by rw [HT.out]; rfl, HB.out⟩
      · have hne : ((403 : Int) == st) = false := by simpa using (fun e => he e.symm)
        have HT : Hid (reasonP st = reasonOf (reasonsL.drop 2) st) := Lib.hid (by rw [HR.out]; show reasonOf ((403, _) :: reasonsL.drop 2) st = _; rw [reasonOf, if_neg he])
        clear HR he
        go_wp2
        go_round
        case rel => exact ⟨2, by omega, by go_num, HT.out⟩
        case measure => simp [intOf]
    · by_cases he : st = 404
      · subst he
        have HT : Hid (reasonP 404 = [78, 111, 116, 32, 70, 111, 117, 110, 100]) := Lib.hid (by rw [HR.out]; kernel_rfl)
        clear HR
        go_wp2
        go_ret
        exact ⟨by rw [HT.out]; rfl, HB.out⟩
      · have hne : ((404 : Int) == st) = false := by simpa using (fun e => he e.symm)
        have HT : Hid (reasonP st = reasonOf (reasonsL.drop 3) st) := Lib.hid (by rw [HR.out]; show reasonOf ((404, _) :: reasonsL.drop 3) st = _; rw [reasonOf, if_neg he])
        clear HR he
        go_wp2
        go_round
        case rel => exact ⟨3, by omega, by go_num, HT.out⟩
        case measure => simp [intOf]
    · by_cases he : st = 408
      · subst he
        have HT : Hid (reasonP 408 = [82, 101, 113, 117, 101, 115, 116, 32, 84, 105, 109, 101, 111, 117, 116]) := Lib.hid (by rw [HR.out]; kernel_rfl)
        clear HR
        go_wp2
        go_ret
        exact ⟨by rw [HT.out]; rfl, HB.out⟩
      · have hne : ((408 : Int) == st) = false := by simpa using (fun e => he e.symm)
        have HT : Hid (reasonP st = reasonOf (reasonsL.drop 4) st) := Lib.hid (by rw [HR.out]; show reasonOf ((408, _) :: reasonsL.drop 4) st = _; rw [reasonOf, if_neg he])
        clear HR he
        go_wp2
        go_round
        case rel => exact ⟨4, by omega, by go_num, HT.out⟩
        case measure => simp [intOf]
    · by_cases he : st = 413
      · subst he
        have HT : Hid (reasonP 413 = [67, 111, 110, 116, 101, 110, 116, 32, 84, 111, 111, 32, 76, 97, 114, 103, 101]) := Lib.hid (by rw [HR.out]; kernel_rfl)
        clear HR
        go_wp2
        go_ret
        exact ⟨by rw [HT.out]; rfl, HB.out⟩
      · have hne : ((413 : Int) == st) = false := by simpa using (fun e => he e.symm)
        have HT : Hid (reasonP st = reasonOf (reasonsL.drop 5) st) := Lib.hid (by rw [HR.out]; show reasonOf ((413, _) :: reasonsL.drop 5) st = _; rw [reasonOf, if_neg he])
        clear HR he
        go_wp2
        go_round
        case rel => exact ⟨5, by omega, by go_num, HT.out⟩
        case measure => simp [intOf]
    · by_cases he : st = 414
      · subst he
        have HT : Hid (reasonP 414 = [85, 82, 73, 32, 84, 111, 111, 32, 76, 111, 110, 103]) := Lib.hid (by rw [HR.out]; kernel_rfl)
        clear HR
        go_wp2
        go_ret
        exact ⟨by rw [HT.out]; rfl, HB.out⟩
      · have hne : ((414 : Int) == st) = false := by simpa using (fun e => he e.symm)
        have HT : Hid (reasonP st = reasonOf (reasonsL.drop 6) st) := Lib.hid (by rw [HR.out]; show reasonOf ((414, _) :: reasonsL.drop 6) st = _; rw [reasonOf, if_neg he])
        clear HR he
        go_wp2
        go_round
        case rel => exact ⟨6, by omega, by go_num, HT.out⟩
        case measure => simp [intOf]
    · by_cases he : st = 431
      · subst he
        have HT : Hid (reasonP 431 = [82, 101, 113, 117, 101, 115, 116, 32, 72, 101, 97, 100, 101, 114, 32, 70, 105, 101, 108, 100, 115, 32, 84, 111, 111, 32, 76, 97, 114, 103, 101]) := Lib.hid (by rw [HR.out]; kernel_rfl)
        clear HR
        go_wp2
        go_ret
        exact ⟨by rw [HT.out]; rfl, HB.out⟩
      · have hne : ((431 : Int) == st) = false := by simpa using (fun e => he e.symm)
        have HT : Hid (reasonP st = reasonOf (reasonsL.drop 7) st) := Lib.hid (by rw [HR.out]; show reasonOf ((431, _) :: reasonsL.drop 7) st = _; rw [reasonOf, if_neg he])
        clear HR he
        go_wp2
        go_round
        case rel => exact ⟨7, by omega, by go_num, HT.out⟩
        case measure => simp [intOf]
    · by_cases he : st = 500
      · subst he
        have HT : Hid (reasonP 500 = [73, 110, 116, 101, 114, 110, 97, 108, 32, 83, 101, 114, 118, 101, 114, 32, 69, 114, 114, 111, 114]) := Lib.hid (by rw [HR.out]; kernel_rfl)
        clear HR
        go_wp2
        go_ret
        exact ⟨by rw [HT.out]; rfl, HB.out⟩
      · have hne : ((500 : Int) == st) = false := by simpa using (fun e => he e.symm)
        have HT : Hid (reasonP st = reasonOf (reasonsL.drop 8) st) := Lib.hid (by rw [HR.out]; show reasonOf ((500, _) :: reasonsL.drop 8) st = _; rw [reasonOf, if_neg he])
        clear HR he
        go_wp2
        go_round
        case rel => exact ⟨8, by omega, by go_num, HT.out⟩
        case measure => simp [intOf]
    · by_cases he : st = 502
      · subst he
        have HT : Hid (reasonP 502 = [66, 97, 100, 32, 71, 97, 116, 101, 119, 97, 121]) := Lib.hid (by rw [HR.out]; kernel_rfl)
        clear HR
        go_wp2
        go_ret
        exact ⟨by rw [HT.out]; rfl, HB.out⟩
      · have hne : ((502 : Int) == st) = false := by simpa using (fun e => he e.symm)
        have HT : Hid (reasonP st = reasonOf (reasonsL.drop 9) st) := Lib.hid (by rw [HR.out]; show reasonOf ((502, _) :: reasonsL.drop 9) st = _; rw [reasonOf, if_neg he])
        clear HR he
        go_wp2
        go_round
        case rel => exact ⟨9, by omega, by go_num, HT.out⟩
        case measure => simp [intOf]
    · by_cases he : st = 503
      · subst he
        have HT : Hid (reasonP 503 = [83, 101, 114, 118, 105, 99, 101, 32, 85, 110, 97, 118, 97, 105, 108, 97, 98, 108, 101]) := Lib.hid (by rw [HR.out]; kernel_rfl)
        clear HR
        go_wp2
        go_ret
        exact ⟨by rw [HT.out]; rfl, HB.out⟩
      · have hne : ((503 : Int) == st) = false := by simpa using (fun e => he e.symm)
        have HT : Hid (reasonP st = reasonOf (reasonsL.drop 10) st) := Lib.hid (by rw [HR.out]; show reasonOf ((503, _) :: reasonsL.drop 10) st = _; rw [reasonOf, if_neg he])
        clear HR he
        go_wp2
        go_round
        case rel => exact ⟨10, by omega, by go_num, HT.out⟩
        case measure => simp [intOf]
    · by_cases he : st = 504
      · subst he
        have HT : Hid (reasonP 504 = [71, 97, 116, 101, 119, 97, 121, 32, 84, 105, 109, 101, 111, 117, 116]) := Lib.hid (by rw [HR.out]; kernel_rfl)
        clear HR
        go_wp2
        go_ret
        exact ⟨by rw [HT.out]; rfl, HB.out⟩
      · have hne : ((504 : Int) == st) = false := by simpa using (fun e => he e.symm)
        have HT : Hid (reasonP st = reasonOf (reasonsL.drop 11) st) := Lib.hid (by rw [HR.out]; show reasonOf ((504, _) :: reasonsL.drop 11) st = _; rw [reasonOf, if_neg he])
        clear HR he
        go_wp2
        go_round
        case rel => exact ⟨11, by omega, by go_num, HT.out⟩
        case measure => simp [intOf]
    · have HT : Hid (reasonP st = bStatus) := Lib.hid (by rw [HR.out]; rfl)
      clear HR
      go_wp2
      go_ret
      exact ⟨by rw [HT.out]; rfl, HB.out⟩

theorem row_rd {w : World} {base sz n c : Nat} {A : Option Addr} {xs : List Value} (h : Row w base sz (.slice A n c) n xs) : Rd w w.heap.size sz A n xs := by
  obtain ⟨_, _, e1, _, _, _, r⟩ := h.form
  injection e1 with e1 _ _
  subst e1
  exact r
theorem built_pair_at (w : World) (a b : ByteArray) {n : Nat} (h : w.heap.size = n) : Src Tryd.prog (w.alloc (.cells #[.string a, .string b] 48)) 22 2 (.slice (some ⟨n, 0, none⟩) 1 1) 1 [.string a, .string b] := by
  subst h; exact built_pair w a b
def LocPost (w : World) (r : Bs × Bs) (e : Ending) (w' : World) : Prop :=
  ∃ v, e = .returned (.tuple #[v, .string ⟨r.2.toArray⟩]) ∧ RowB w' w.heap.size v r.1 ∧ Below w.heap.size w w'
theorem reply_head (st : Int) (cl : Bool) : (writeP (localH st cl).hi).1.getD [] = (replyP st cl).1 := by
  unfold replyP
  by_cases h : 100 ≤ st ∧ st ≤ 599
  · rw [if_pos h, local_in st cl h.1 h.2]; rfl
  · rw [if_neg h, write_err (local_out st cl h)]; rfl
theorem reply_body (st : Int) (cl : Bool) : (replyP st cl).2 = if (writeP (localH st cl).hi).2 = 0 then localBody st else [] := by
  unfold replyP
  by_cases h : 100 ≤ st ∧ st ≤ 599
  · rw [if_pos h, local_in st cl h.1 h.2]; rfl
  · rw [if_neg h, if_neg (local_out st cl h)]
theorem bytes_app (a b : ByteArray) : a ++ b = ⟨(a.data.toList ++ b.data.toList).toArray⟩ := byte_ext.2 (by simp)
theorem body_bytes (a r : ByteArray) : a ++ ⟨#[32]⟩ ++ r ++ ⟨#[10]⟩ = ⟨(bodyOf a.data.toList r.data.toList).toArray⟩ := byte_ext.2 (by simp [bodyOf])
theorem reason_size (st : Int) : (reasonP st).length ≤ 40 := by
  have hc := reason_clean st
  unfold cleanR at hc
  simp only [Bool.and_eq_true, decide_eq_true_eq] at hc
  exact hc.1.1.1.2
set_option maxHeartbeats 8000000 in
set_option maxRecDepth 100000 in
theorem wlocal_any (st : Int) (cl : Bool) (w : World) (hsh : w.ShapedOpen Tryd.prog) (ht : Tab w) (hst : isInt st) :
    Calls Tryd.prog 84 #[.int .i64 st, .bool cl] w (LocPost w (replyP st cl)) := by
  have HRB := Lib.hid (reply_body st cl)
  have HHD : Hid ((writeP (localH st cl).hi).2 ≠ 0 → (replyP st cl).1 = []) := Lib.hid (fun h => by rw [← reply_head, write_err h]; rfl)
  have HRH := Lib.hid (reply_head st cl)
  unfold LocPost
  obtain ⟨RP, hRP⟩ : ∃ RP, RP = replyP st cl := ⟨_, rfl⟩
  rw [← hRP] at HRB HHD HRH ⊢
  clear hRP
  obtain ⟨hd, bd⟩ := RP
  dsimp only at HRB HHD HRH ⊢
  have HI1 := Lib.hid (fun W h => itoa_any st W hst h)
  have HRS := Lib.hid (fun W => wreason_any st W)
  have hil := itoa_len hst
  have hrl := reason_size st
  obtain ⟨a, ha⟩ : ∃ a : ByteArray, a = ⟨(Lib.itoa st).toArray⟩ := ⟨_, rfl⟩
  obtain ⟨r, hr⟩ : ∃ r : ByteArray, r = ⟨(reasonP st).toArray⟩ := ⟨_, rfl⟩
  have haz : a.size ≤ 21 := by rw [ha]; exact hil
  have hrz : r.size ≤ 40 := by rw [hr]; exact hrl
  rw [← ha] at HI1
  rw [← hr] at HRS
  have hbody : a ++ ⟨#[32]⟩ ++ r ++ ⟨#[10]⟩ = ⟨(localBody st).toArray⟩ := by rw [body_bytes, ha, hr]; rfl
  have HBD := Lib.hid hbody
  have HRR := Lib.hid hr
  have HS0 := Lib.hid hsh
  have HT0 := Lib.hid ht
  clear hbody ha hr hil hrl hsh ht
  go_enter Tryd.func84, Tryd.ntmps84
  go_upto_region 2 with (first
    | (go_at_call 78; go_must (refine (HI1.out _ HT0.out).mono ?_; rintro _ w1 ⟨rfl, hb1⟩))
    | (go_at_call 118; go_must (refine (HRS.out _).mono ?_; rintro _ _ ⟨rfl, rfl⟩))
    | fail)
  obtain ⟨B, hB⟩ : ∃ B : ByteArray, B = a ++ { data := #[32] } ++ r ++ { data := #[10] } := ⟨_, rfl⟩
  rw [← hB]
  have hBz : B.size = a.size + 1 + r.size + 1 := by rw [hB, ByteArray.size_append, ByteArray.size_append, ByteArray.size_append]; rfl
  have hBz' : B.size ≤ 70 := by omega
  have HBB : Hid (B = ⟨(localBody st).toArray⟩) := Lib.hid (by rw [hB]; exact HBD.out)
  have HBL : Hid ((localBody st).length = B.size) := Lib.hid (by rw [HBB.out]; rfl)
  have HI2 := Lib.hid (fun W h => itoa_any (B.size : Int) W (by unfold isInt; omega) h)
  have hil2 := itoa_len (n := (B.size : Int)) (by unfold isInt; omega)
  obtain ⟨lv, hlv⟩ : ∃ lv : ByteArray, lv = ⟨(Lib.itoa (B.size : Int)).toArray⟩ := ⟨_, rfl⟩
  have hlz : lv.size ≤ 21 := by rw [hlv]; exact hil2
  rw [← hlv] at HI2
  have HLV : Hid (lv = ⟨(Lib.itoa ((localBody st).length : Int)).toArray⟩) := Lib.hid (by rw [hlv, HBL.out])
  have hz1 := hb1.size
  have HS1 : Hid (w1.ShapedOpen Tryd.prog) := Lib.hid (shaped_below HS0.out hb1)
  have HT1 := Lib.hid (HT0.out.below hb1)
  have HB1 := Lib.hid hb1
  clear hB hBz hil2 hlv haz hb1
  obtain ⟨f0, hf0, fz0, fz1, fz2⟩ := info_parts infoField
  obtain ⟨FS, hFS⟩ : ∃ FS : List Fl, FS = (sType, sPlain) :: (sLen, lv) :: (if cl = true then [(sConnC, sClose)] else []) := ⟨_, rfl⟩
  have HFS : Hid (FS.length ≤ 3 ∧ flSize FS ≤ 200) := Lib.hid (by
    rw [hFS]
    cases cl
    · refine ⟨by simp, ?_⟩
      show (12 + 10 + 4) + ((14 + lv.size + 4) + 0) ≤ 200
      omega
    · refine ⟨by simp, ?_⟩
      show (12 + 10 + 4) + ((14 + lv.size + 4) + ((10 + 5 + 4) + 0)) ≤ 200
      omega)
  have HHI : Hid (hiOf false ⟨#[]⟩ ⟨#[]⟩ st r 1 FS = (localH st cl).hi) := Lib.hid (by rw [hFS, HLV.out, HRR.out]; rfl)
  have HW0 := Lib.hid (fun A c W h1 h2 h3 => hWrite_any false ⟨#[]⟩ ⟨#[]⟩ st r 1 A FS.length c FS W h1 h2 h3 hst (by unfold isInt; omega) (by have := HFS.out.1; omega) (by show 0 + 0 + r.size ≤ _; omega) (by have := HFS.out.2; omega))
  unfold WritePost at HW0
  rw [HHI.out] at HW0
  rw [HRH.out] at HW0
  generalize (writeP (localH st cl).hi).2 = en at HW0 HRB HHD
  unfold headV at HW0
  clear hst HHI
  have HBR : Hid (if en = 0 then B = ⟨bd.toArray⟩ else bd = []) := Lib.hid (by
    by_cases he : en = 0
    · rw [if_pos he, HBB.out, HRB.out, if_pos he]
    · rw [if_neg he, HRB.out, if_neg he])
  clear HRB HBB HBL HLV HBD HRR HRH
  by_cases he : en = 0
  · have HBR2 : Hid (B = ⟨bd.toArray⟩) := Lib.hid (by have := HBR.out; rwa [if_pos he] at this)
    subst he
    clear HBR
    cases cl
    · (have HFC : Hid (FS.length = 2 ∧ fieldsV FS = [.string ⟨#[67, 111, 110, 116, 101, 110, 116, 45, 84, 121, 112, 101]⟩, .string ⟨#[116, 101, 120, 116, 47, 112, 108, 97, 105, 110]⟩, .string ⟨#[67, 111, 110, 116, 101, 110, 116, 45, 76, 101, 110, 103, 116, 104]⟩, .string lv]) := Lib.hid (by rw [hFS]; exact ⟨rfl, rfl⟩)
       have HW1 := Lib.hid (fun A c W h1 h2 h3 => HW0.out A c W h1 h2 h3)
       rw [HFC.out.1, HFC.out.2] at HW1
       clear hFS HW0 HFC HFS
       go_wp2_with (first
         | (go_at_call 78; go_must (refine (HI2.out _ HT1.out).mono ?_; rintro _ w2 ⟨rfl, hb2⟩; have HB2 := Lib.hid (HB1.out.trans (hb2.mono hz1)); have hz2 := hb2.size))
         | (go_at_call 118; go_must (refine (HRS.out _).mono ?_; rintro _ _ ⟨rfl, rfl⟩))
         | (go_at_call 36; go_must (refine (HW1.out _ _ _ (shaped_below HS0.out (HB2.out.alloc HB2.out.size _)) (HT0.out.below (HB2.out.alloc HB2.out.size _)) (row_rd (built_row w2 [.string ⟨#[67, 111, 110, 116, 101, 110, 116, 45, 84, 121, 112, 101]⟩, .string ⟨#[116, 101, 120, 116, 47, 112, 108, 97, 105, 110]⟩, .string ⟨#[67, 111, 110, 116, 101, 110, 116, 45, 76, 101, 110, 103, 116, 104]⟩, .string lv] 48 2 2 rfl (by omega)))).mono ?_; rintro _ w5 ⟨v5, rfl, hrow5, hb5⟩))
         | fail))
      go_ret2
      exact ⟨v5, by rw [← HBR2.out]; rfl, hrow5.mono (by have := HB2.out.size; simp; omega), (HB2.out.alloc HB2.out.size _).trans (hb5.mono (by have := HB2.out.size; simp; omega))⟩
    · (have HFC : Hid (FS.length = 3 ∧ fieldsV FS = [.string ⟨#[67, 111, 110, 116, 101, 110, 116, 45, 84, 121, 112, 101]⟩, .string ⟨#[116, 101, 120, 116, 47, 112, 108, 97, 105, 110]⟩, .string ⟨#[67, 111, 110, 116, 101, 110, 116, 45, 76, 101, 110, 103, 116, 104]⟩, .string lv] ++ [.string ⟨#[67, 111, 110, 110, 101, 99, 116, 105, 111, 110]⟩, .string ⟨#[99, 108, 111, 115, 101]⟩]) := Lib.hid (by rw [hFS]; exact ⟨rfl, rfl⟩)
       have HW1 := Lib.hid (fun A c W h1 h2 h3 => HW0.out A c W h1 h2 h3)
       rw [HFC.out.1, HFC.out.2] at HW1
       clear hFS HW0 HFC HFS
       go_wp2_with (first
         | (go_at_call 78; go_must (refine (HI2.out _ HT1.out).mono ?_; rintro _ w2 ⟨rfl, hb2⟩; have HB2 := Lib.hid (HB1.out.trans (hb2.mono hz1)); have hz2 := hb2.size))
         | (go_at_call 118; go_must (refine (HRS.out _).mono ?_; rintro _ _ ⟨rfl, rfl⟩))
         | (at_builtin; go_must (refine wpList_app _ rfl (.tmp 24) (.tmp 26) 22 22 rfl w2.heap.size 48 f0 (.agg #[.string ⟨#[]⟩, .string ⟨#[]⟩]) 2 32 Tryd.underlying22 hf0 fz0 fz1 fz2 rfl (.slice (some ⟨w2.heap.size, 0, none⟩) 2 2) 2 [.string ⟨#[67, 111, 110, 116, 101, 110, 116, 45, 84, 121, 112, 101]⟩, .string ⟨#[116, 101, 120, 116, 47, 112, 108, 97, 105, 110]⟩, .string ⟨#[67, 111, 110, 116, 101, 110, 116, 45, 76, 101, 110, 103, 116, 104]⟩, .string lv] rfl ((built_row w2 [.string ⟨#[67, 111, 110, 116, 101, 110, 116, 45, 84, 121, 112, 101]⟩, .string ⟨#[116, 101, 120, 116, 47, 112, 108, 97, 105, 110]⟩, .string ⟨#[67, 111, 110, 116, 101, 110, 116, 45, 76, 101, 110, 103, 116, 104]⟩, .string lv] 48 2 2 rfl (by omega)).alloc _) _ 1 [.string ⟨#[67, 111, 110, 110, 101, 99, 116, 105, 111, 110]⟩, .string ⟨#[99, 108, 111, 115, 101]⟩] rfl (built_pair_at _ _ _ (by rw [heap_alloc_size])) (by omega) (by omega) (by omega) (by simp; omega) ?_); intro v4 w4 hrow4 hg4 _; have HB4 := Lib.hid (Below.app ((HB2.out.alloc HB2.out.size _).alloc (by rw [heap_alloc_size]; omega) _) ((built_row w2 [.string ⟨#[67, 111, 110, 116, 101, 110, 116, 45, 84, 121, 112, 101]⟩, .string ⟨#[116, 101, 120, 116, 47, 112, 108, 97, 105, 110]⟩, .string ⟨#[67, 111, 110, 116, 101, 110, 116, 45, 76, 101, 110, 103, 116, 104]⟩, .string lv] 48 2 2 rfl (by omega)).alloc _) hg4 (by omega) (by simp; omega)); have hz4 := HB4.out.size; have HR4 := Lib.hid hrow4; obtain ⟨A4, c4, rfl, _, _, _, _⟩ := hrow4.form; clear hrow4 hg4)
         | (go_at_call 36; go_must (refine (HW1.out _ _ _ (shaped_below HS0.out HB4.out) (HT0.out.below HB4.out) (row_rd HR4.out)).mono ?_; rintro _ w5 ⟨v5, rfl, hrow5, hb5⟩))
         | fail))
      go_ret2
      exact ⟨v5, by rw [← HBR2.out]; rfl, hrow5.mono HB4.out.size, HB4.out.trans (hb5.mono HB4.out.size)⟩
  · have HBR2 : Hid (bd = []) := Lib.hid (by have := HBR.out; rwa [if_neg he] at this)
    have hen : ((en : Int) != 0) = true := by simpa using he
    have HHN : Hid (hd = []) := Lib.hid (HHD.out he)
    clear HBR he
    cases cl
    · (have HFC : Hid (FS.length = 2 ∧ fieldsV FS = [.string ⟨#[67, 111, 110, 116, 101, 110, 116, 45, 84, 121, 112, 101]⟩, .string ⟨#[116, 101, 120, 116, 47, 112, 108, 97, 105, 110]⟩, .string ⟨#[67, 111, 110, 116, 101, 110, 116, 45, 76, 101, 110, 103, 116, 104]⟩, .string lv]) := Lib.hid (by rw [hFS]; exact ⟨rfl, rfl⟩)
       have HW1 := Lib.hid (fun A c W h1 h2 h3 => HW0.out A c W h1 h2 h3)
       rw [HFC.out.1, HFC.out.2] at HW1
       clear hFS HW0 HFC HFS
       go_wp2_with (first
         | (go_at_call 78; go_must (refine (HI2.out _ HT1.out).mono ?_; rintro _ w2 ⟨rfl, hb2⟩; have HB2 := Lib.hid (HB1.out.trans (hb2.mono hz1)); have hz2 := hb2.size))
         | (go_at_call 118; go_must (refine (HRS.out _).mono ?_; rintro _ _ ⟨rfl, rfl⟩))
         | (go_at_call 36; go_must (refine (HW1.out _ _ _ (shaped_below HS0.out (HB2.out.alloc HB2.out.size _)) (HT0.out.below (HB2.out.alloc HB2.out.size _)) (row_rd (built_row w2 [.string ⟨#[67, 111, 110, 116, 101, 110, 116, 45, 84, 121, 112, 101]⟩, .string ⟨#[116, 101, 120, 116, 47, 112, 108, 97, 105, 110]⟩, .string ⟨#[67, 111, 110, 116, 101, 110, 116, 45, 76, 101, 110, 103, 116, 104]⟩, .string lv] 48 2 2 rfl (by omega)))).mono ?_; rintro _ w5 ⟨v5, rfl, hrow5, hb5⟩))
         | fail))
      go_ret2
      exact ⟨.slice none 0 0, by rw [HBR2.out]; rfl, by rw [HHN.out]; exact RowB.nil _ _, (HB2.out.alloc HB2.out.size _).trans (hb5.mono (by have := HB2.out.size; simp; omega))⟩
    · (have HFC : Hid (FS.length = 3 ∧ fieldsV FS = [.string ⟨#[67, 111, 110, 116, 101, 110, 116, 45, 84, 121, 112, 101]⟩, .string ⟨#[116, 101, 120, 116, 47, 112, 108, 97, 105, 110]⟩, .string ⟨#[67, 111, 110, 116, 101, 110, 116, 45, 76, 101, 110, 103, 116, 104]⟩, .string lv] ++ [.string ⟨#[67, 111, 110, 110, 101, 99, 116, 105, 111, 110]⟩, .string ⟨#[99, 108, 111, 115, 101]⟩]) := Lib.hid (by rw [hFS]; exact ⟨rfl, rfl⟩)
       have HW1 := Lib.hid (fun A c W h1 h2 h3 => HW0.out A c W h1 h2 h3)
       rw [HFC.out.1, HFC.out.2] at HW1
       clear hFS HW0 HFC HFS
       go_wp2_with (first
         | (go_at_call 78; go_must (refine (HI2.out _ HT1.out).mono ?_; rintro _ w2 ⟨rfl, hb2⟩; have HB2 := Lib.hid (HB1.out.trans (hb2.mono hz1)); have hz2 := hb2.size))
         | (go_at_call 118; go_must (refine (HRS.out _).mono ?_; rintro _ _ ⟨rfl, rfl⟩))
         | (at_builtin; go_must (refine wpList_app _ rfl (.tmp 24) (.tmp 26) 22 22 rfl w2.heap.size 48 f0 (.agg #[.string ⟨#[]⟩, .string ⟨#[]⟩]) 2 32 Tryd.underlying22 hf0 fz0 fz1 fz2 rfl (.slice (some ⟨w2.heap.size, 0, none⟩) 2 2) 2 [.string ⟨#[67, 111, 110, 116, 101, 110, 116, 45, 84, 121, 112, 101]⟩, .string ⟨#[116, 101, 120, 116, 47, 112, 108, 97, 105, 110]⟩, .string ⟨#[67, 111, 110, 116, 101, 110, 116, 45, 76, 101, 110, 103, 116, 104]⟩, .string lv] rfl ((built_row w2 [.string ⟨#[67, 111, 110, 116, 101, 110, 116, 45, 84, 121, 112, 101]⟩, .string ⟨#[116, 101, 120, 116, 47, 112, 108, 97, 105, 110]⟩, .string ⟨#[67, 111, 110, 116, 101, 110, 116, 45, 76, 101, 110, 103, 116, 104]⟩, .string lv] 48 2 2 rfl (by omega)).alloc _) _ 1 [.string ⟨#[67, 111, 110, 110, 101, 99, 116, 105, 111, 110]⟩, .string ⟨#[99, 108, 111, 115, 101]⟩] rfl (built_pair_at _ _ _ (by rw [heap_alloc_size])) (by omega) (by omega) (by omega) (by simp; omega) ?_); intro v4 w4 hrow4 hg4 _; have HB4 := Lib.hid (Below.app ((HB2.out.alloc HB2.out.size _).alloc (by rw [heap_alloc_size]; omega) _) ((built_row w2 [.string ⟨#[67, 111, 110, 116, 101, 110, 116, 45, 84, 121, 112, 101]⟩, .string ⟨#[116, 101, 120, 116, 47, 112, 108, 97, 105, 110]⟩, .string ⟨#[67, 111, 110, 116, 101, 110, 116, 45, 76, 101, 110, 103, 116, 104]⟩, .string lv] 48 2 2 rfl (by omega)).alloc _) hg4 (by omega) (by simp; omega)); have hz4 := HB4.out.size; have HR4 := Lib.hid hrow4; obtain ⟨A4, c4, rfl, _, _, _, _⟩ := hrow4.form; clear hrow4 hg4)
         | (go_at_call 36; go_must (refine (HW1.out _ _ _ (shaped_below HS0.out HB4.out) (HT0.out.below HB4.out) (row_rd HR4.out)).mono ?_; rintro _ w5 ⟨v5, rfl, hrow5, hb5⟩))
         | fail))
      go_ret2
      exact ⟨.slice none 0 0, by rw [HBR2.out]; rfl, by rw [HHN.out]; exact RowB.nil _ _, HB4.out.trans (hb5.mono HB4.out.size)⟩
end Go.Proofs.YtabecgdaiakgiaaDoor
