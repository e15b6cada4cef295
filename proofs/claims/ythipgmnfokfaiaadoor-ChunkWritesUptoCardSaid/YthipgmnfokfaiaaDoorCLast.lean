/- chunk's Last. Conditions: sizes, the world's shape. -/
import Derived.Test.YthipgmnfokfaiaaDoorCReads
import Derived.Test.YthipgmnfokfaiaaDoorQWrite
namespace Go.Proofs.YthipgmnfokfaiaaDoor
open Go.RowKit

/-- fields, as the plain law has them -/
def upF (fs : List Fl) : List (Bs × Bs) := fs.map fun f => (f.1.data.toList, f.2.data.toList)
theorem flB_upF (fs : List Fl) : flB (upF fs) = fs := by
  unfold flB upF
  rw [List.map_map]
  conv => rhs; rw [← List.map_id fs]
  refine List.map_congr_left fun f _ => ?_
  rfl
theorem upF_flB (gs : List (Bs × Bs)) : upF (flB gs) = gs := by
  unfold flB upF
  rw [List.map_map]
  conv => rhs; rw [← List.map_id gs]
  refine List.map_congr_left fun f _ => ?_
  rfl
theorem linesF_app (a b : List (Bs × Bs)) : Chunk.linesF (a ++ b) = Chunk.linesF a ++ Chunk.linesF b := by
  induction a with
  | nil => rfl
  | cons x a ih => simp [Chunk.linesF, ih]
theorem linesF_take (fs : List Fl) (k : Nat) (h : k < fs.length) : Chunk.linesF (upF (fs.take (k + 1))) = Chunk.linesF (upF (fs.take k)) ++ (((fs[k].1.data.toList ++ [58, 32]) ++ fs[k].2.data.toList) ++ [13, 10]) := by
  rw [List.take_succ_eq_append_getElem h]
  unfold upF
  rw [List.map_append, linesF_app]
  simp [Chunk.linesF, Chunk.lineF]
theorem app_data (a b : ByteArray) : (a ++ b).data.toList = a.data.toList ++ b.data.toList := by simp [ByteArray.data_append]
/-- how long fields are -/
def fSize (fs : List Fl) : Nat := (fs.map fun f => f.1.size + f.2.size + 4).sum
theorem linesF_len (fs : List Fl) : (Chunk.linesF (upF fs)).length = fSize fs := by
  induction fs with
  | nil => rfl
  | cons f fs ih =>
    have h1 := size_data f.1
    have h2 := size_data f.2
    have e : upF (f :: fs) = (f.1.data.toList, f.2.data.toList) :: upF fs := rfl
    rw [e]
    simp only [Chunk.linesF, Chunk.lineF, List.length_append, List.length_cons, List.length_nil, ih, fSize, List.map_cons, List.sum_cons]
    omega
theorem fSize_take (fs : List Fl) (k : Nat) : fSize (fs.take k) ≤ fSize fs := by
  have e : fSize fs = fSize (fs.take k) + fSize (fs.drop k) := by
    unfold fSize
    rw [← List.sum_append, ← List.map_append, List.take_append_drop]
  omega
theorem fSize_get (fs : List Fl) (k : Nat) (h : k < fs.length) : fSize (fs.take k) + (fs[k].1.size + fs[k].2.size + 4) ≤ fSize fs := by
  have := fSize_take fs (k + 1)
  have e : fSize (fs.take (k + 1)) = fSize (fs.take k) + (fs[k].1.size + fs[k].2.size + 4) := by
    unfold fSize
    rw [List.take_succ_eq_append_getElem h, List.map_append, List.sum_append]; simp
  omega
/-- what Last's own reading says of the end that was written -/
theorem decP_last_ok (fs : List (Bs × Bs)) (h : Chunk.okFs fs 0 0 = true) : decP (Chunk.lastB fs) = ([], fs, (Chunk.lastB fs).length, 0) := by
  rw [decP_read, Chunk.readOf_last fs h]; rfl
theorem decP_last_no (fs : List (Bs × Bs)) (h : Chunk.okFs fs 0 0 = false) : (decP (Chunk.lastB fs)).2.2.2 ≠ 0 ∨ (decP (Chunk.lastB fs)).2.1 ≠ fs := by
  have hn := Chunk.readOf_last_no fs h
  rw [decP_read]
  generalize Chunk.readOf (Chunk.lastB fs) = r at hn
  cases hw : r.wrong
  · cases hd : r.done
    · left; simp
    · right; simpa using hn hd
  · left; simp

def LastPost (w : World) (r : Bs × Nat) (e : Ending) (w' : World) : Prop :=
  ∃ v, e = .returned (.tuple #[v, .int .i64 r.2]) ∧ RowB w' w.heap.size v r.1 ∧ Below w.heap.size w w'
theorem decP_few (l : Bs) : (decP l).2.1.length ≤ 64 := by
  unfold decP
  by_cases h2 : (Chunk.feed {} l 0 []).2.2.2 = 2
  · rw [if_pos h2]; exact Nat.zero_le _
  · rw [if_neg h2]
    by_cases h1 : (Chunk.feed {} l 0 []).2.2.2 = 1
    · rw [if_pos h1]; exact (Chunk.feed_ok l {} 0 Chunk.Ok.init h2).trailers
    · rw [if_neg h1]; exact Nat.zero_le _

set_option maxHeartbeats 4000000 in
set_option maxRecDepth 100000 in
theorem clast_any (A : Option Addr) (n c : Nat) (fs : List Fl) (w : World) (hsh : w.ShapedOpen Tryd.prog) (hrd : Rd w w.heap.size 2 A n (fieldsV fs)) (hn : n ≤ 16777216) (hf : fSize fs ≤ 67108864) :
    Calls Tryd.prog 49 #[.slice A n c] w (LastPost w (Chunk.lastP (upF fs))) := by
  have hlen : fs.length = n := by have := hrd.1; rw [fieldsV_len] at this; omega
  have HS := Lib.hid hsh
  have HRD := Lib.hid hrd
  obtain ⟨w1, hcv, hrow1, hb1⟩ := conv_lit w [48, 13, 10] [.int .u8 48, .int .u8 13, .int .u8 10] 3
  have HB1 := Lib.hid hb1
  have HR1 := Lib.hid hrow1
  have hz1 := hb1.size
  clear hsh hrow1 hb1
  go_enter Tryd.func49, Tryd.ntmps49
  go_wp2
  go_loopw [4, 15] (fun vb i wr => ∃ k : Nat, k ≤ n ∧ i = .int .i64 k ∧ RowB wr w.heap.size vb ([48, 13, 10] ++ Chunk.linesF (upF (fs.take k))) ∧ Below w.heap.size w wr) (fun _ i _ => n - (intOf i).toNat)
  case atStart => exact ⟨0, Nat.zero_le _, rfl, by simpa [upF, Chunk.linesF] using HR1.out, HB1.out⟩
  case round =>
    obtain ⟨k, hk, rfl, hrow, hb⟩ := hrel
    have hsk := fSize_take fs k
    have hkl := linesF_len (fs.take k)
    have HR := Lib.hid hrow
    have HB := Lib.hid hb
    have hzw := hb.size
    clear hrow hb
    by_cases hlt : k < n
    · obtain ⟨g, o, rfl, hg, hcell⟩ := hrd.2 (by omega)
      obtain ⟨G1, G2⟩ := fieldsV_get fs k (by omega)
      have hsg := fSize_get fs k (by omega)
      have HTK := Lib.hid (linesF_take fs k (by omega))
      have r1 : World.rangeAt wr g (o + k * 2) [.string fs[k].1, .string fs[k].2] := by
        intro j v hj
        match j, hj with
        | 0, hj => cases hj; exact (HB.out.cell (p := ⟨g, o + k * 2, none⟩) hg).trans (hcell _ _ G1)
        | 1, hj => cases hj; rw [Nat.add_assoc]; exact (HB.out.cell (p := ⟨g, o + (k * 2 + 1), none⟩) hg).trans (hcell _ _ G2)
      clear hcell G1 G2
      generalize fs[k].1 = f1 at *
      generalize fs[k].2 = f2 at *
      generalize Chunk.linesF (upF (fs.take k)) = pk at *
      have s1 := size_data f1
      have s2 := size_data f2
      go_wp2_with (first
        | (refine wpList_load_mid rfl 53 (.tmp 17) rfl g (o + k * 2) rfl _ _ r1 Tryd.underlying53 rfl (by kernel_rfl) ?_)
        | (refine wpList_put rfl 53 (.tmp 6) (.tmp 18) rfl wr.heap.size rfl (Var.new wr 53 [.string ⟨#[]⟩, .string ⟨#[]⟩]) [.string f1, .string f2] rfl rfl (by kernel_rfl) (by simp [Value.oneCell']) ?_; intro w2 hv2 hg2 hs2; have x0 := hv2.cell (j := 0) rfl; have x1 := hv2.cell (j := 1) rfl)
        | (at_builtin; go_must (refine wpList_appB (L := [48, 13, 10] ++ pk) rfl (.tmp 19) (.tmp 26) 9 rfl w.heap.size rfl (RowB.laid HR.out hg2) rfl (SrcB.str _ _) (by simp only [app_data, List.length_append, List.length_cons, List.length_nil]; omega) (by simp at hs2; omega) ?_); go_must (intro v3 w3 hrow3 hbb3 hg3 _))
        | fail)
      have hb3 : Below w.heap.size w w3 := (Below.laid HB.out hzw hg2).trans hbb3
      have HR3 := Lib.hid hrow3
      clear hrow3 hbb3 hg3 hg2 hs2 hv2 x0 x1
      go_roundw
      case rel => exact ⟨k + 1, by omega, by go_num, by have := HR3.out; simp only [app_data] at this; rw [HTK.out]; simpa only [List.append_assoc] using this, hb3⟩
      case measure => simp [intOf]; omega
    · have e1 : fs.take k = fs := List.take_of_length_le (by omega)
      rw [e1] at HR hkl hsk
      have HLB : Hid (Chunk.lastB (upF fs) = ([48, 13, 10] ++ Chunk.linesF (upF fs)) ++ [13, 10]) := Lib.hid (by unfold Chunk.lastB; rfl)
      have hlb : (Chunk.lastB (upF fs)).length ≤ 68000000 := by have := Chunk.lastB_len (upF fs); omega
      go_upto_region 8 with (first
        | (at_builtin; go_must (refine wpList_appB (L := [48, 13, 10] ++ Chunk.linesF (upF fs)) (M := [13, 10]) rfl (.tmp 29) (.tmp 30) 35 rfl w.heap.size rfl (HR.out.alloc _) rfl (SrcB.built [13, 10] [.int .u8 13, .int .u8 10] rfl) (by simp only [List.length_append, List.length_cons, List.length_nil]; omega) (by simp; omega) ?_); go_must (intro v4 w4 hrow4 hbb4 hg4 _; rw [← HLB.out] at hrow4))
        | fail)
      have hb4 : Below w.heap.size w w4 := (HB.out.alloc hzw _).trans hbb4
      have hz4 := hb4.size
      obtain ⟨A4, c4, rfl, hc4, _, hA4, hr4⟩ := hrow4.form
      have HD := Lib.hid (decode_any A4 (Chunk.lastB (upF fs)).length c4 (Chunk.lastB (upF fs)) w4 (shaped_below HS.out hb4) (by omega) hc4 (fun e => (hA4 e).1) hr4)
      have HOK := Lib.hid (decP_last_ok (upF fs))
      have HNO := Lib.hid (decP_last_no (upF fs))
      have hfew := decP_few (Chunk.lastB (upF fs))
      have HLP : Hid (Chunk.lastP (upF fs) = if Chunk.okFs (upF fs) 0 0 = true then (Chunk.lastB (upF fs), 0) else ([], 2)) := Lib.hid rfl
      generalize decP (Chunk.lastB (upF fs)) = r at HD HOK HNO hfew
      generalize Chunk.lastB (upF fs) = L at hrow4 HD HOK HLP hr4 hc4 hA4 hlb ⊢
      obtain ⟨rb, rt, rn, re⟩ := r
      unfold DecPost at HD
      simp only at HD HNO hfew
      have HB4 := Lib.hid hb4
      have HR4 := Lib.hid hrow4
      clear hr4 hrow4 hb4 hbb4 hg4 HR HB HLB
      go_upto_region 9 with (first
        | (go_at_call 36; go_must (refine HD.out.mono ?_; rintro _ w5 ⟨vo5, vt5, rfl, hro5, hrt5, _, hb5⟩))
        | fail)
      have hz5 := hb5.size
      obtain ⟨A5, c5, rfl, _, _, _, hr5⟩ := hrt5.form
      have HB5 := Lib.hid (HB4.out.trans (hb5.mono hz4))
      have HR5 := Lib.hid (HR4.out.below_all hb5)
      have hrd5 := (HRD.out.below HB5.out).more HB5.out.size
      have HEQ := Lib.hid (hEqual_gen A5 A rt.length n c5 c (flB rt) fs w5 hr5 hrd5 (by omega) hn)
      clear hro5 hrt5 hb5 hr5 hrd5
      by_cases hok : Chunk.okFs (upF fs) 0 0 = true
      · have h1 := HOK.out hok
        simp only [Prod.mk.injEq] at h1
        obtain ⟨rfl, rfl, rfl, rfl⟩ := h1
        have HEQ2 : Hid (Calls Tryd.prog 77 #[.slice A5 (upF fs).length c5, .slice A n c] w5 fun e w' => e = .returned (.bool true) ∧ Below w5.heap.size w5 w') := Lib.hid (by
          have := HEQ.out
          rw [flB_upF, decide_eq_true rfl] at this
          exact this)
        have HPP : Hid (Chunk.lastP (upF fs) = (L, 0)) := Lib.hid (by rw [HLP.out, if_pos hok])
        clear HOK HNO HEQ HLP hok
        go_wp2_with (first
          | (go_at_call 77; go_must (refine HEQ2.out.mono ?_; rintro _ w6 ⟨rfl, hb6⟩))
          | fail)
        refine bodyPost_ret (results_tmp2 rfl _ _ _) rfl ?_
        rw [HPP.out]
        exact ⟨_, rfl, HR5.out.below_all hb6, HB5.out.trans (hb6.mono HB5.out.size)⟩
      · have HPP : Hid (Chunk.lastP (upF fs) = ([], 2)) := Lib.hid (by rw [HLP.out, if_neg hok])
        have hno := HNO.out (by simpa using hok)
        clear HOK HNO HLP hok
        by_cases hre : re = 0
        · subst hre
          have hne : rt ≠ upF fs := by simpa using hno
          have HEQ2 : Hid (Calls Tryd.prog 77 #[.slice A5 rt.length c5, .slice A n c] w5 fun e w' => e = .returned (.bool false) ∧ Below w5.heap.size w5 w') := Lib.hid (by
            have := HEQ.out
            rw [decide_eq_false (fun e => hne (by rw [← e, upF_flB]))] at this
            exact this)
          clear hno hne HEQ
          by_cases hrn : rn = L.length
          · subst hrn
            go_wp2_with (first
              | (go_at_call 77; go_must (refine HEQ2.out.mono ?_; rintro _ w6 ⟨rfl, hb6⟩))
              | fail)
            refine bodyPost_ret (results_tmp2 rfl _ _ _) rfl ?_
            rw [HPP.out]
            exact ⟨_, rfl, RowB.nil _ _, HB5.out.trans (hb6.mono HB5.out.size)⟩
          · have hrn' : ((rn : Int) != (L.length : Int)) = true := by simp; omega
            clear hrn
            go_wp2
            refine bodyPost_ret (results_tmp2 rfl _ _ _) rfl ?_
            rw [HPP.out]
            exact ⟨_, rfl, RowB.nil _ _, HB5.out⟩
        · have hre' : ((re : Int) != 0) = true := by simp; omega
          clear hre hno
          go_wp2
          refine bodyPost_ret (results_tmp2 rfl _ _ _) rfl ?_
          rw [HPP.out]
          exact ⟨_, rfl, RowB.nil _ _, HB5.out⟩
end Go.Proofs.YthipgmnfokfaiaaDoor
