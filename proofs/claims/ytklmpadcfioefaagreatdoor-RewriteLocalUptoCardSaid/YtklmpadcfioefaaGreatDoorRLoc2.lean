/- A sidecar's own replies: the reference's Reason; local. Conditions: sizes, the library's variables. -/
import Derived.Test.YtklmpadcfioefaaGreatDoorMX1
namespace Go.Proofs.YtklmpadcfioefaaGreatDoor
open Go.RowKit

theorem row_rd {w : World} {base sz n c : Nat} {A : Option Addr} {xs : List Value} (h : Row w base sz (.slice A n c) n xs) : Rd w w.heap.size sz A n xs := by
  obtain ⟨_, _, e1, _, _, _, r⟩ := h.form
  injection e1 with e1 _ _
  subst e1
  exact r
theorem built_pair_at (w : World) (a b : ByteArray) {n : Nat} (h : w.heap.size = n) : Src Tryz.prog (w.alloc (.cells #[.string a, .string b] 89)) 50 2 (.slice (some ⟨n, 0, none⟩) 1 1) 1 [.string a, .string b] := by
  subst h; exact built_pair w a b
def LocPost (w : World) (r : Bs × Bs) (e : Ending) (w' : World) : Prop :=
  ∃ v, e = .returned (.tuple #[v, .string ⟨r.2.toArray⟩]) ∧ RowB w' w.heap.size v r.1 ∧ Below w.heap.size w w'
theorem reply_head (st : Int) (cl : Bool) : (writeP (localH st cl).hi).1.getD [] = (replyP st cl).1 := by
  unfold replyP
  by_cases h : 100 ≤ st ∧ st ≤ 599
  · rw [if_pos h, local_in st cl h.1 h.2]; rfl
  · rw [if_neg h, write_err (local_out st cl h)]; rfl
theorem reply_body (st : Int) (cl : Bool) : (replyP st cl).2 = if (writeP (localH st cl).hi).2 = 0 then localBody st else [] := by
  unfold replyP
  by_cases h : 100 ≤ st ∧ st ≤ 599
  · rw [if_pos h, local_in st cl h.1 h.2]; rfl
  · rw [if_neg h, if_neg (local_out st cl h)]
theorem body_bytes (a r : ByteArray) : a ++ ⟨#[32]⟩ ++ r ++ ⟨#[10]⟩ = ⟨(bodyOf a.data.toList r.data.toList).toArray⟩ := byte_ext.2 (by simp [bodyOf])
theorem reason_size (st : Int) : (reasonP st).length ≤ 40 := by
  have hc := reason_clean st
  unfold cleanR at hc
  simp only [Bool.and_eq_true, decide_eq_true_eq] at hc
  exact hc.1.1.1.2
set_option maxHeartbeats 8000000 in
set_option maxRecDepth 100000 in
theorem wlocal_any (st : Int) (cl : Bool) (w : World) (hsh : w.ShapedOpen Tryz.prog) (ht : Tab w) (hst : isInt st) :
    Calls Tryz.prog 39 #[.int .i64 st, .bool cl] w (LocPost w (replyP st cl)) := by
  have HRB := Lib.hid (reply_body st cl)
  have HHD : Hid ((writeP (localH st cl).hi).2 ≠ 0 → (replyP st cl).1 = []) := Lib.hid (fun h => by rw [← reply_head, write_err h]; rfl)
  have HRH := Lib.hid (reply_head st cl)
  unfold LocPost
  obtain ⟨RP, hRP⟩ : ∃ RP, RP = replyP st cl := ⟨_, rfl⟩
  rw [← hRP] at HRB HHD HRH ⊢
  clear hRP
  obtain ⟨hd, bd⟩ := RP
  dsimp only at HRB HHD HRH ⊢
  have HI1 := Lib.hid (fun W h => itoa_any st W hst h)
  have HRS := Lib.hid (fun W => wreason_any st W)
  have hil := itoa_len hst
  have hrl := reason_size st
  obtain ⟨a, ha⟩ : ∃ a : ByteArray, a = ⟨(Lib.itoa st).toArray⟩ := ⟨_, rfl⟩
  obtain ⟨r, hr⟩ : ∃ r : ByteArray, r = ⟨(reasonP st).toArray⟩ := ⟨_, rfl⟩
  have haz : a.size ≤ 21 := by rw [ha]; exact hil
  have hrz : r.size ≤ 40 := by rw [hr]; exact hrl
  rw [← ha] at HI1
  rw [← hr] at HRS
  have hbody : a ++ ⟨#[32]⟩ ++ r ++ ⟨#[10]⟩ = ⟨(localBody st).toArray⟩ := by rw [body_bytes, ha, hr]; rfl
  have HBD := Lib.hid hbody
  have HRR := Lib.hid hr
  have HS0 := Lib.hid hsh
  have HT0 := Lib.hid ht
  clear hbody ha hr hil hrl hsh ht
  go_enter Tryz.func39, Tryz.ntmps39
  go_upto_region 2 with (first
    | (go_at_call 64; go_must (refine (HI1.out _ HT0.out).mono ?_; rintro _ w1 ⟨rfl, hb1⟩))
    | (go_at_call 74; go_must (refine (HRS.out _).mono ?_; rintro _ _ ⟨rfl, rfl⟩))
    | fail)
  obtain ⟨B, hB⟩ : ∃ B : ByteArray, B = a ++ { data := #[32] } ++ r ++ { data := #[10] } := ⟨_, rfl⟩
  rw [← hB]
  have hBz : B.size = a.size + 1 + r.size + 1 := by rw [hB, ByteArray.size_append, ByteArray.size_append, ByteArray.size_append]; rfl
  have hBz' : B.size ≤ 70 := by omega
  have HBB : Hid (B = ⟨(localBody st).toArray⟩) := Lib.hid (by rw [hB]; exact HBD.out)
  have HBL : Hid ((localBody st).length = B.size) := Lib.hid (by rw [HBB.out]; rfl)
  have HI2 := Lib.hid (fun W h => itoa_any (B.size : Int) W (by unfold isInt; omega) h)
  have hil2 := itoa_len (n := (B.size : Int)) (by unfold isInt; omega)
  obtain ⟨lv, hlv⟩ : ∃ lv : ByteArray, lv = ⟨(Lib.itoa (B.size : Int)).toArray⟩ := ⟨_, rfl⟩
  have hlz : lv.size ≤ 21 := by rw [hlv]; exact hil2
  rw [← hlv] at HI2
  have HLV : Hid (lv = ⟨(Lib.itoa ((localBody st).length : Int)).toArray⟩) := Lib.hid (by rw [hlv, HBL.out])
  have hz1 := hb1.size
  have HS1 : Hid (w1.ShapedOpen Tryz.prog) := Lib.hid (shaped_below HS0.out hb1)
  have HT1 := Lib.hid (HT0.out.below hb1)
  have HB1 := Lib.hid hb1
  clear hB hBz hil2 hlv haz hb1
  obtain ⟨f0, hf0, fz0, fz1, fz2⟩ := info_parts infoField
  obtain ⟨FS, hFS⟩ : ∃ FS : List Fl, FS = (sType, sPlain) :: (sLen, lv) :: (if cl = true then [(sConnC, sClose)] else []) := ⟨_, rfl⟩
  have HFS : Hid (FS.length ≤ 3 ∧ flSize FS ≤ 200) := Lib.hid (by
    rw [hFS]
    cases cl
    · refine ⟨by simp, ?_⟩
      show (12 + 10 + 4) + ((14 + lv.size + 4) + 0) ≤ 200
      omega
    · refine ⟨by simp, ?_⟩
      show (12 + 10 + 4) + ((14 + lv.size + 4) + ((10 + 5 + 4) + 0)) ≤ 200
      omega)
  have HHI : Hid (hiOf false ⟨#[]⟩ ⟨#[]⟩ st r 1 FS = (localH st cl).hi) := Lib.hid (by rw [hFS, HLV.out, HRR.out]; rfl)
  have HW0 := Lib.hid (fun A c W h1 h2 h3 => hWrite_any false ⟨#[]⟩ ⟨#[]⟩ st r 1 A FS.length c FS W h1 h2 h3 hst (by unfold isInt; omega) (by have := HFS.out.1; omega) (by show 0 + 0 + r.size ≤ _; omega) (by have := HFS.out.2; omega))
  unfold WritePost at HW0
  rw [HHI.out] at HW0
  rw [HRH.out] at HW0
  generalize (writeP (localH st cl).hi).2 = en at HW0 HRB HHD
  unfold headV at HW0
  clear hst HHI
  have HBR : Hid (if en = 0 then B = ⟨bd.toArray⟩ else bd = []) := Lib.hid (by
    by_cases he : en = 0
    · rw [if_pos he, HBB.out, HRB.out, if_pos he]
    · rw [if_neg he, HRB.out, if_neg he])
  clear HRB HBB HBL HLV HBD HRR HRH
  by_cases he : en = 0
  · have HBR2 : Hid (B = ⟨bd.toArray⟩) := Lib.hid (by have := HBR.out; rwa [if_pos he] at this)
    subst he
    clear HBR
    cases cl
    · (have HFC : Hid (FS.length = 2 ∧ fieldsV FS = [.string ⟨#[67, 111, 110, 116, 101, 110, 116, 45, 84, 121, 112, 101]⟩, .string ⟨#[116, 101, 120, 116, 47, 112, 108, 97, 105, 110]⟩, .string ⟨#[67, 111, 110, 116, 101, 110, 116, 45, 76, 101, 110, 103, 116, 104]⟩, .string lv]) := Lib.hid (by rw [hFS]; exact ⟨rfl, rfl⟩)
       have HW1 := Lib.hid (fun A c W h1 h2 h3 => HW0.out A c W h1 h2 h3)
       rw [HFC.out.1, HFC.out.2] at HW1
       clear hFS HW0 HFC HFS
       go_wp2_with (first
         | (go_at_call 64; go_must (refine (HI2.out _ HT1.out).mono ?_; rintro _ w2 ⟨rfl, hb2⟩; have HB2 := Lib.hid (HB1.out.trans (hb2.mono hz1)); have hz2 := hb2.size))
         | (go_at_call 74; go_must (refine (HRS.out _).mono ?_; rintro _ _ ⟨rfl, rfl⟩))
         | (go_at_call 32; go_must (refine (HW1.out _ _ _ (shaped_below HS0.out (HB2.out.alloc HB2.out.size _)) (HT0.out.below (HB2.out.alloc HB2.out.size _)) (row_rd (built_row w2 [.string ⟨#[67, 111, 110, 116, 101, 110, 116, 45, 84, 121, 112, 101]⟩, .string ⟨#[116, 101, 120, 116, 47, 112, 108, 97, 105, 110]⟩, .string ⟨#[67, 111, 110, 116, 101, 110, 116, 45, 76, 101, 110, 103, 116, 104]⟩, .string lv] 89 2 2 rfl (by omega)))).mono ?_; rintro _ w5 ⟨v5, rfl, hrow5, hb5⟩))
         | fail))
      go_ret2
      exact ⟨v5, by rw [← HBR2.out]; rfl, hrow5.mono (by have := HB2.out.size; simp; omega), (HB2.out.alloc HB2.out.size _).trans (hb5.mono (by have := HB2.out.size; simp; omega))⟩
    · (have HFC : Hid (FS.length = 3 ∧ fieldsV FS = [.string ⟨#[67, 111, 110, 116, 101, 110, 116, 45, 84, 121, 112, 101]⟩, .string ⟨#[116, 101, 120, 116, 47, 112, 108, 97, 105, 110]⟩, .string ⟨#[67, 111, 110, 116, 101, 110, 116, 45, 76, 101, 110, 103, 116, 104]⟩, .string lv] ++ [.string ⟨#[67, 111, 110, 110, 101, 99, 116, 105, 111, 110]⟩, .string ⟨#[99, 108, 111, 115, 101]⟩]) := Lib.hid (by rw [hFS]; exact ⟨rfl, rfl⟩)
       have HW1 := Lib.hid (fun A c W h1 h2 h3 => HW0.out A c W h1 h2 h3)
       rw [HFC.out.1, HFC.out.2] at HW1
       clear hFS HW0 HFC HFS
       go_wp2_with (first
         | (go_at_call 64; go_must (refine (HI2.out _ HT1.out).mono ?_; rintro _ w2 ⟨rfl, hb2⟩; have HB2 := Lib.hid (HB1.out.trans (hb2.mono hz1)); have hz2 := hb2.size))
         | (go_at_call 74; go_must (refine (HRS.out _).mono ?_; rintro _ _ ⟨rfl, rfl⟩))
         | (at_builtin; go_must (refine wpList_app _ rfl (.tmp 24) (.tmp 26) 50 50 rfl w2.heap.size 89 f0 (.agg #[.string ⟨#[]⟩, .string ⟨#[]⟩]) 2 32 Tryz.underlying50 hf0 fz0 fz1 fz2 rfl (.slice (some ⟨w2.heap.size, 0, none⟩) 2 2) 2 [.string ⟨#[67, 111, 110, 116, 101, 110, 116, 45, 84, 121, 112, 101]⟩, .string ⟨#[116, 101, 120, 116, 47, 112, 108, 97, 105, 110]⟩, .string ⟨#[67, 111, 110, 116, 101, 110, 116, 45, 76, 101, 110, 103, 116, 104]⟩, .string lv] rfl ((built_row w2 [.string ⟨#[67, 111, 110, 116, 101, 110, 116, 45, 84, 121, 112, 101]⟩, .string ⟨#[116, 101, 120, 116, 47, 112, 108, 97, 105, 110]⟩, .string ⟨#[67, 111, 110, 116, 101, 110, 116, 45, 76, 101, 110, 103, 116, 104]⟩, .string lv] 89 2 2 rfl (by omega)).alloc _) _ 1 [.string ⟨#[67, 111, 110, 110, 101, 99, 116, 105, 111, 110]⟩, .string ⟨#[99, 108, 111, 115, 101]⟩] rfl (built_pair_at _ _ _ (by rw [heap_alloc_size])) (by omega) (by omega) (by omega) (by simp; omega) ?_); intro v4 w4 hrow4 hg4 _; have HB4 := Lib.hid (Below.app ((HB2.out.alloc HB2.out.size _).alloc (by rw [heap_alloc_size]; omega) _) ((built_row w2 [.string ⟨#[67, 111, 110, 116, 101, 110, 116, 45, 84, 121, 112, 101]⟩, .string ⟨#[116, 101, 120, 116, 47, 112, 108, 97, 105, 110]⟩, .string ⟨#[67, 111, 110, 116, 101, 110, 116, 45, 76, 101, 110, 103, 116, 104]⟩, .string lv] 89 2 2 rfl (by omega)).alloc _) hg4 (by omega) (by simp; omega)); have hz4 := HB4.out.size; have HR4 := Lib.hid hrow4; obtain ⟨A4, c4, rfl, _, _, _, _⟩ := hrow4.form; clear hrow4 hg4)
         | (go_at_call 32; go_must (refine (HW1.out _ _ _ (shaped_below HS0.out HB4.out) (HT0.out.below HB4.out) (row_rd HR4.out)).mono ?_; rintro _ w5 ⟨v5, rfl, hrow5, hb5⟩))
         | fail))
      go_ret2
      exact ⟨v5, by rw [← HBR2.out]; rfl, hrow5.mono HB4.out.size, HB4.out.trans (hb5.mono HB4.out.size)⟩
  · have HBR2 : Hid (bd = []) := Lib.hid (by have := HBR.out; rwa [if_neg he] at this)
    have hen : ((en : Int) != 0) = true := by simpa using he
    have HHN : Hid (hd = []) := Lib.hid (HHD.out he)
    clear HBR he
    cases cl
    · (have HFC : Hid (FS.length = 2 ∧ fieldsV FS = [.string ⟨#[67, 111, 110, 116, 101, 110, 116, 45, 84, 121, 112, 101]⟩, .string ⟨#[116, 101, 120, 116, 47, 112, 108, 97, 105, 110]⟩, .string ⟨#[67, 111, 110, 116, 101, 110, 116, 45, 76, 101, 110, 103, 116, 104]⟩, .string lv]) := Lib.hid (by rw [hFS]; exact ⟨rfl, rfl⟩)
       have HW1 := Lib.hid (fun A c W h1 h2 h3 => HW0.out A c W h1 h2 h3)
       rw [HFC.out.1, HFC.out.2] at HW1
       clear hFS HW0 HFC HFS
       go_wp2_with (first
         | (go_at_call 64; go_must (refine (HI2.out _ HT1.out).mono ?_; rintro _ w2 ⟨rfl, hb2⟩; have HB2 := Lib.hid (HB1.out.trans (hb2.mono hz1)); have hz2 := hb2.size))
         | (go_at_call 74; go_must (refine (HRS.out _).mono ?_; rintro _ _ ⟨rfl, rfl⟩))
         | (go_at_call 32; go_must (refine (HW1.out _ _ _ (shaped_below HS0.out (HB2.out.alloc HB2.out.size _)) (HT0.out.below (HB2.out.alloc HB2.out.size _)) (row_rd (built_row w2 [.string ⟨#[67, 111, 110, 116, 101, 110, 116, 45, 84, 121, 112, 101]⟩, .string ⟨#[116, 101, 120, 116, 47, 112, 108, 97, 105, 110]⟩, .string ⟨#[67, 111, 110, 116, 101, 110, 116, 45, 76, 101, 110, 103, 116, 104]⟩, .string lv] 89 2 2 rfl (by omega)))).mono ?_; rintro _ w5 ⟨v5, rfl, hrow5, hb5⟩))
         | fail))
      go_ret2
      exact ⟨.slice none 0 0, by rw [HBR2.out]; rfl, by rw [HHN.out]; exact RowB.nil _ _, (HB2.out.alloc HB2.out.size _).trans (hb5.mono (by have := HB2.out.size; simp; omega))⟩
    · (have HFC : Hid (FS.length = 3 ∧ fieldsV FS = [.string ⟨#[67, 111, 110, 116, 101, 110, 116, 45, 84, 121, 112, 101]⟩, .string ⟨#[116, 101, 120, 116, 47, 112, 108, 97, 105, 110]⟩, .string ⟨#[67, 111, 110, 116, 101, 110, 116, 45, 76, 101, 110, 103, 116, 104]⟩, .string lv] ++ [.string ⟨#[67, 111, 110, 110, 101, 99, 116, 105, 111, 110]⟩, .string ⟨#[99, 108, 111, 115, 101]⟩]) := Lib.hid (by rw [hFS]; exact ⟨rfl, rfl⟩)
       have HW1 := Lib.hid (fun A c W h1 h2 h3 => HW0.out A c W h1 h2 h3)
       rw [HFC.out.1, HFC.out.2] at HW1
       clear hFS HW0 HFC HFS
       go_wp2_with (first
         | (go_at_call 64; go_must (refine (HI2.out _ HT1.out).mono ?_; rintro _ w2 ⟨rfl, hb2⟩; have HB2 := Lib.hid (HB1.out.trans (hb2.mono hz1)); have hz2 := hb2.size))
         | (go_at_call 74; go_must (refine (HRS.out _).mono ?_; rintro _ _ ⟨rfl, rfl⟩))
         | (at_builtin; go_must (refine wpList_app _ rfl (.tmp 24) (.tmp 26) 50 50 rfl w2.heap.size 89 f0 (.agg #[.string ⟨#[]⟩, .string ⟨#[]⟩]) 2 32 Tryz.underlying50 hf0 fz0 fz1 fz2 rfl (.slice (some ⟨w2.heap.size, 0, none⟩) 2 2) 2 [.string ⟨#[67, 111, 110, 116, 101, 110, 116, 45, 84, 121, 112, 101]⟩, .string ⟨#[116, 101, 120, 116, 47, 112, 108, 97, 105, 110]⟩, .string ⟨#[67, 111, 110, 116, 101, 110, 116, 45, 76, 101, 110, 103, 116, 104]⟩, .string lv] rfl ((built_row w2 [.string ⟨#[67, 111, 110, 116, 101, 110, 116, 45, 84, 121, 112, 101]⟩, .string ⟨#[116, 101, 120, 116, 47, 112, 108, 97, 105, 110]⟩, .string ⟨#[67, 111, 110, 116, 101, 110, 116, 45, 76, 101, 110, 103, 116, 104]⟩, .string lv] 89 2 2 rfl (by omega)).alloc _) _ 1 [.string ⟨#[67, 111, 110, 110, 101, 99, 116, 105, 111, 110]⟩, .string ⟨#[99, 108, 111, 115, 101]⟩] rfl (built_pair_at _ _ _ (by rw [heap_alloc_size])) (by omega) (by omega) (by omega) (by simp; omega) ?_); intro v4 w4 hrow4 hg4 _; have HB4 := Lib.hid (Below.app ((HB2.out.alloc HB2.out.size _).alloc (by rw [heap_alloc_size]; omega) _) ((built_row w2 [.string ⟨#[67, 111, 110, 116, 101, 110, 116, 45, 84, 121, 112, 101]⟩, .string ⟨#[116, 101, 120, 116, 47, 112, 108, 97, 105, 110]⟩, .string ⟨#[67, 111, 110, 116, 101, 110, 116, 45, 76, 101, 110, 103, 116, 104]⟩, .string lv] 89 2 2 rfl (by omega)).alloc _) hg4 (by omega) (by simp; omega)); have hz4 := HB4.out.size; have HR4 := Lib.hid hrow4; obtain ⟨A4, c4, rfl, _, _, _, _⟩ := hrow4.form; clear hrow4 hg4)
         | (go_at_call 32; go_must (refine (HW1.out _ _ _ (shaped_below HS0.out HB4.out) (HT0.out.below HB4.out) (row_rd HR4.out)).mono ?_; rintro _ w5 ⟨v5, rfl, hrow5, hb5⟩))
         | fail))
      go_ret2
      exact ⟨.slice none 0 0, by rw [HBR2.out]; rfl, by rw [HHN.out]; exact RowB.nil _ _, HB4.out.trans (hb5.mono HB4.out.size)⟩
end Go.Proofs.YtklmpadcfioefaaGreatDoor
