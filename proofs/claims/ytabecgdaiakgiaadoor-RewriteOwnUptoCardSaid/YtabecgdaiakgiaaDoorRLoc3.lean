/- A sidecar's own replies: Local, Bare, the reference's Local; the law RewriteReplies. Conditions: sizes, the library's variables. -/
import Derived.Test.YtabecgdaiakgiaaDoorRLoc2
namespace Go.Proofs.YtabecgdaiakgiaaDoor
open Go.RowKit

theorem reply_small (st : Int) (cl : Bool) : (replyP st cl).1.length ≤ 16384 ∧ (replyP st cl).2.length ≤ 64 := by
  unfold replyP
  by_cases h : 100 ≤ st ∧ st ≤ 599
  · rw [if_pos h]
    refine ⟨(write_back (local_in st cl h.1 h.2)).2.2.2, ?_⟩
    show (bodyOf (Lib.itoa st) (reasonP st)).length ≤ 64
    have h1 := reason_size st
    have h2 := itoa_len (n := st) (by unfold isInt; omega)
    simp [bodyOf]; omega
  · rw [if_neg h]; exact ⟨by simp, by simp⟩
theorem wLocal_any (st : Int) (cl : Bool) (w : World) (hsh : w.ShapedOpen Tryd.prog) (ht : Tab w) (hst : isInt st) :
    Calls Tryd.prog 43 #[.int .i64 st, .bool cl] w fun e w' => ∃ v, e = .returned v ∧ RowB w' w.heap.size v ((replyP st cl).1 ++ (replyP st cl).2) ∧ Below w.heap.size w w' := by
  have HL := Lib.hid (wlocal_any st cl w hsh ht hst)
  have hs := reply_small st cl
  unfold LocPost at HL
  obtain ⟨RP, hRP⟩ : ∃ RP, RP = replyP st cl := ⟨_, rfl⟩
  rw [← hRP] at HL hs ⊢
  clear hRP
  obtain ⟨hd, bd⟩ := RP
  dsimp only at HL hs ⊢
  obtain ⟨h1, h2⟩ := hs
  obtain ⟨B, hB⟩ : ∃ B : ByteArray, B = ⟨bd.toArray⟩ := ⟨_, rfl⟩
  have HB : Hid (bd = B.data.toList) := Lib.hid (by rw [hB])
  rw [← hB] at HL
  have h3 : B.data.toList.length ≤ 64 := by rw [← HB.out]; exact h2
  rw [HB.out]
  clear hB HB h2
  go_enter Tryd.func43, Tryd.ntmps43
  go_wp2_with (first
    | (go_at_call 84; go_must (refine HL.out.mono ?_; rintro _ w1 ⟨v1, rfl, hrow1, hb1⟩))
    | (at_builtin; go_must (refine wpList_appB rfl (.tmp 13) (.tmp 14) 9 rfl w.heap.size rfl hrow1 rfl (SrcB.str _ B) (by omega) hb1.size ?_); intro v2 w2 hrow2 hb2 hg2 _)
    | fail)
  go_ret
  exact ⟨v2, rfl, hrow2, hb1.trans hb2⟩
theorem wBare_any (st : Int) (cl : Bool) (w : World) (hsh : w.ShapedOpen Tryd.prog) (ht : Tab w) (hst : isInt st) :
    Calls Tryd.prog 44 #[.int .i64 st, .bool cl] w fun e w' => ∃ v, e = .returned v ∧ RowB w' w.heap.size v (replyP st cl).1 ∧ Below w.heap.size w w' := by
  have HL := Lib.hid (wlocal_any st cl w hsh ht hst)
  unfold LocPost at HL
  obtain ⟨RP, hRP⟩ : ∃ RP, RP = replyP st cl := ⟨_, rfl⟩
  rw [← hRP] at HL ⊢
  clear hRP
  obtain ⟨hd, bd⟩ := RP
  dsimp only at HL ⊢
  go_enter Tryd.func44, Tryd.ntmps44
  go_wp2_with (first
    | (go_at_call 84; go_must (refine HL.out.mono ?_; rintro _ w1 ⟨v1, rfl, hrow1, hb1⟩))
    | fail)
  go_ret
  exact ⟨v1, rfl, hrow1, hb1⟩

def sVer : ByteArray := ⟨#[72, 84, 84, 80, 47, 49, 46, 49, 32]⟩
def tA : Bs := [13, 10, 67, 111, 110, 116, 101, 110, 116, 45, 84, 121, 112, 101, 58, 32, 116, 101, 120, 116, 47, 112, 108, 97, 105, 110, 13, 10, 67, 111, 110, 116, 101, 110, 116, 45, 76, 101, 110, 103, 116, 104, 58, 32]
def tC : Bs := [67, 111, 110, 110, 101, 99, 116, 105, 111, 110, 58, 32, 99, 108, 111, 115, 101, 13, 10]
theorem reply_text (st : Int) (cl : Bool) : textP (localH st cl).hi = [72, 84, 84, 80, 47, 49, 46, 49, 32] ++ (Lib.itoa st ++ 32 :: reasonP st) ++ tA ++ Lib.itoa (localBody st).length ++ [13, 10] ++ (if cl = true then tC else []) ++ [13, 10] := by
  rw [localH_hi]
  unfold textP lineT
  rw [if_neg (by simp)]
  show (ver ++ (Lib.itoa ((1 : Nat) : Int) ++ 32 :: (Lib.itoa st ++ 32 :: reasonP st)) ++ 13 :: 10 :: (fieldsT ((localF (Lib.itoa (localBody st).length) cl).map fun f => (f.1.data.toList, f.2.data.toList)) ++ [13, 10])) = _
  rw [itoa_nat, Lib.decDigits_one (by omega)]
  cases cl
  · simp [localF, fieldsT, fieldT, ver, tA, sType, sPlain, sLen]
  · simp [localF, fieldsT, fieldT, ver, tA, tC, sType, sPlain, sLen, sConnC, sClose]
set_option maxHeartbeats 4000000 in
set_option maxRecDepth 100000 in
theorem pLocal_any (st : Int) (cl : Bool) (w : World) :
    Calls Tryd.prog 42 #[.int .i64 st, .bool cl] w fun e w' => e = .returned (.tuple #[.string ⟨(replyP st cl).1.toArray⟩, .string ⟨(replyP st cl).2.toArray⟩]) ∧ Below w.heap.size w w' := by
  by_cases h : 100 ≤ st ∧ st ≤ 599
  · obtain ⟨k, rfl⟩ : ∃ k : Nat, st = (k : Int) := ⟨st.toNat, by omega⟩
    have HR : Hid (replyP (k : Int) cl = (textP (localH (k : Int) cl).hi, localBody (k : Int))) := Lib.hid (by unfold replyP; rw [if_pos h])
    rw [HR.out]
    have HT := Lib.hid (fun W => ptold_any k W (by unfold le63; omega))
    have HRS := Lib.hid (fun W => pReason_any (k : Int) W)
    have hil := itoa_len (n := (k : Int)) (by unfold isInt; omega)
    rw [itoa_nat] at hil
    have hrl := reason_size (k : Int)
    obtain ⟨a, ha⟩ : ∃ a : ByteArray, a = ⟨(Lib.decDigits k).toArray⟩ := ⟨_, rfl⟩
    obtain ⟨r, hr⟩ : ∃ r : ByteArray, r = ⟨(reasonP (k : Int)).toArray⟩ := ⟨_, rfl⟩
    have haz : a.size ≤ 21 := by rw [ha]; exact hil
    have hrz : r.size ≤ 40 := by rw [hr]; exact hrl
    rw [← ha] at HT
    rw [← hr] at HRS
    obtain ⟨L, hL⟩ : ∃ L : ByteArray, L = a ++ ⟨#[32]⟩ ++ r := ⟨_, rfl⟩
    have hLz : L.size = a.size + 1 + r.size := by rw [hL, ByteArray.size_append, ByteArray.size_append]; rfl
    have hLz' : L.size ≤ 62 := by omega
    have HLL : Hid (L.data.toList = Lib.itoa (k : Int) ++ 32 :: reasonP (k : Int)) := Lib.hid (by rw [hL, ha, hr, itoa_nat]; simp)
    have HLB : Hid (localBody (k : Int) = L.data.toList ++ [10]) := Lib.hid (by rw [HLL.out]; unfold localBody bodyOf; simp)
    have HLN : Hid ((localBody (k : Int)).length = L.size + 1) := Lib.hid (by rw [HLB.out, List.length_append, size_data]; rfl)
    have HT2 := Lib.hid (fun W => ptold_any (L.size + 1) W (by unfold le63; omega))
    have hil2 := itoa_len (n := ((L.size + 1 : Nat) : Int)) (by unfold isInt; omega)
    rw [itoa_nat] at hil2
    obtain ⟨lv, hlv⟩ : ∃ lv : ByteArray, lv = ⟨(Lib.decDigits (L.size + 1)).toArray⟩ := ⟨_, rfl⟩
    have hlz : lv.size ≤ 21 := by rw [hlv]; exact hil2
    rw [← hlv] at HT2
    have HLV : Hid (lv.data.toList = Lib.itoa ((localBody (k : Int)).length : Int)) := Lib.hid (by rw [HLN.out, itoa_nat, hlv])
    have HTX := Lib.hid (reply_text (k : Int) cl)
    rw [← HLL.out, ← HLV.out] at HTX
    have g1 : decide ((k : Int) < 100) = false := by simp; omega
    have g2 : decide (599 < (k : Int)) = false := by simp; omega
    have hk1 : ¬ (k : Int) < 100 := by omega
    have hk2 : ¬ 599 < (k : Int) := by omega
    rw [HLB.out]
    have HL := Lib.hid hL
    clear h HR hil hrl ha hr hL hLz hil2 hlv HLV HLN HLL HLB
    rw [Int.natCast_add, Int.natCast_one] at HT2
    have HBZ := Lib.hid hLz'
    go_enter Tryd.func42, Tryd.ntmps42
    go_upto_region 4 with (first
      | (go_at_call 82; go_must (refine (HT.out _).mono ?_; rintro _ w1 ⟨rfl, hb1⟩))
      | (go_at_call 83; go_must (refine (HRS.out _).mono ?_; rintro _ w2 ⟨rfl, hb2⟩))
      | fail)
    rw [← HL.out]
    have hz1 := hb1.size
    have HB2 := Lib.hid (hb1.trans (hb2.mono hz1))
    clear hb1 hb2 HT HRS
    have HE : Hid (∀ X Y : ByteArray, X.data.toList = textP (localH (k : Int) cl).hi → Y.data.toList = L.data.toList ++ [10] → (.tuple #[.string X, .string Y] : Value) = .tuple #[.string ⟨(textP (localH (k : Int) cl).hi).toArray⟩, .string ⟨(L.data.toList ++ [10]).toArray⟩]) := Lib.hid (fun X Y h1 h2 => by rw [byte_ext.2 h1, byte_ext.2 h2])
    cases cl
    · go_wp2_with (first
        | (go_at_call 82; go_must (refine (HT2.out _).mono ?_; rintro _ w3 ⟨rfl, hb3⟩))
        | fail)
      go_ret2
      refine ⟨congrArg _ (HE.out _ _ ?_ ?_), HB2.out.trans (hb3.mono HB2.out.size)⟩
      · rw [HTX.out]; simp [tA]
      · simp
    · go_wp2_with (first
        | (go_at_call 82; go_must (refine (HT2.out _).mono ?_; rintro _ w3 ⟨rfl, hb3⟩))
        | fail)
      go_ret2
      refine ⟨congrArg _ (HE.out _ _ ?_ ?_), HB2.out.trans (hb3.mono HB2.out.size)⟩
      · rw [HTX.out]; simp [tA, tC]
      · simp
  · have HR : Hid (replyP st cl = ([], [])) := Lib.hid (by unfold replyP; rw [if_neg h])
    rw [HR.out]
    by_cases h1 : st < 100
    · have g1 : decide (st < 100) = true := by simpa using h1
      clear h
      go_enter Tryd.func42, Tryd.ntmps42
      go_wp2
      go_ret2
      exact ⟨rfl, Below.refl _ _⟩
    · have g1 : decide (st < 100) = false := by simpa using h1
      have g2 : decide (599 < st) = true := by simp; omega
      clear h
      go_enter Tryd.func42, Tryd.ntmps42
      go_wp2
      go_ret2
      exact ⟨rfl, Below.refl _ _⟩

set_option maxHeartbeats 4000000 in
set_option maxRecDepth 100000 in
theorem vreplies_any (st : Int) (cl : Bool) (w : World) (hsh : w.ShapedOpen Tryd.prog) (ht : Tab w) (hst : isInt st) :
    Calls Tryd.prog 7 #[.int .i64 st, .bool cl] w fun e w' => e = .returned (.bool true) ∧ Below w.heap.size w w' := by
  have HS0 := Lib.hid hsh
  have HT0 := Lib.hid ht
  have HP := Lib.hid (fun W => pLocal_any st cl W)
  have HL := Lib.hid (fun W h1 h2 => wLocal_any st cl W h1 h2 hst)
  have HB := Lib.hid (fun W h1 h2 => wBare_any st cl W h1 h2 hst)
  have hs := reply_small st cl
  generalize replyP st cl = RP at HP HL HB hs
  obtain ⟨hd, bd⟩ := RP
  dsimp only at HP HL HB hs
  obtain ⟨h1, h2⟩ := hs
  obtain ⟨a, ha⟩ : ∃ a : ByteArray, a = ⟨hd.toArray⟩ := ⟨_, rfl⟩
  obtain ⟨b, hb⟩ : ∃ b : ByteArray, b = ⟨bd.toArray⟩ := ⟨_, rfl⟩
  have haz : a.size ≤ 16384 := by rw [ha]; exact h1
  have hbz : b.size ≤ 64 := by rw [hb]; exact h2
  rw [← ha, ← hb] at HP
  obtain ⟨X, hX⟩ : ∃ X, X = hd ++ bd := ⟨_, rfl⟩
  rw [← hX] at HL
  have HAB : Hid ((⟨X.toArray⟩ : ByteArray) = a ++ b) := Lib.hid (by rw [hX, ha, hb]; exact (byte_ext.2 (by simp)).symm)
  have HA : Hid ((⟨hd.toArray⟩ : ByteArray) = a) := Lib.hid ha.symm
  clear hsh ht hst h1 h2 ha hb hX
  go_enter Tryd.func7, Tryd.ntmps7
  go_wp2_with (first
    | (go_at_call 42; go_must (refine (HP.out _).mono ?_; rintro _ w1 ⟨rfl, hb1⟩; have HB1 := Lib.hid hb1; clear hb1))
    | (go_at_call 43; go_must (refine (HL.out _ (shaped_below HS0.out HB1.out) (HT0.out.below HB1.out)).mono ?_; rintro _ w2 ⟨v2, rfl, hrow2, hb2⟩; have HB2 := Lib.hid (HB1.out.trans (hb2.mono HB1.out.size)); obtain ⟨A2, c2, rfl, _, _, hA2, rd2⟩ := hrow2.form; have hcv2 := conv_str (P := Tryd.prog) 32 9 5 Tryd.underlying32 Tryd.underlying5 Tryd.underlying9 (c := c2) rd2 (fun e => (hA2 e).1); rw [HAB.out] at hcv2; clear hrow2 rd2 hA2 hb2))
    | (go_at_call 44; go_must (refine (HB.out _ (shaped_below HS0.out HB2.out) (HT0.out.below HB2.out)).mono ?_; rintro _ w3 ⟨v3, rfl, hrow3, hb3⟩; have HB3 := Lib.hid (HB2.out.trans (hb3.mono HB2.out.size)); obtain ⟨A3, c3, rfl, _, _, hA3, rd3⟩ := hrow3.form; have hcv3 := conv_str (P := Tryd.prog) 32 9 5 Tryd.underlying32 Tryd.underlying5 Tryd.underlying9 (c := c3) rd3 (fun e => (hA3 e).1); rw [HA.out] at hcv3; clear hrow3 rd3 hA3 hb3))
    | fail)
  go_ret
  exact ⟨rfl, HB3.out⟩
end Go.Proofs.YtabecgdaiakgiaaDoor
