/- slices.Clone, Grow (of nil), Concat at bytes, and what changes of a file do. Conditions: sizes. -/
import Derived.Test.YthgeppdoonbkpaaDskC
import Derived.Lib.AppendZeros
import Derived.Lib.LazyBuf
namespace Go.Proofs.Ythgeppdoonbkpaa
open Go.RowKit
set_option maxHeartbeats 1000000 in
set_option maxRecDepth 100000 in
theorem dcloneB_any (A : Option Addr) (n c : Nat) (l : Bs) (w : World) (hA : A = none → n = 0 ∧ c = 0) (hrd : Rd w w.heap.size 1 A n (bytesV l)) (hn : n ≤ 100000000) :
    Calls Try.prog 33 #[.slice A n c] w fun e w' => ∃ v, e = .returned v ∧ RowB w' w.heap.size v l ∧ Below w.heap.size w w' := by
  have hl : l.length = n := by have := hrd.1; rw [bytesV_len] at this; omega
  have hq := fun (W : World) (a : Option Addr) (l c : Nat) => Go.run_eql_slice_nil (P := Try.prog) W 22 5 a l c Try.underlying22
  cases A with
  | none =>
    obtain ⟨rfl, rfl⟩ := hA rfl
    obtain rfl : l = [] := List.length_eq_zero_iff.1 hl
    clear hrd hA
    go_enter Try.func33, Try.ntmps33
    go_wp2
    go_ret
    exact ⟨_, rfl, RowB.nil _ _, Below.refl _ _⟩
  | some a =>
    have HS := Lib.hid (SrcB.slice (c := c) (hrd.keeps (((Below.refl w.heap.size w).alloc (Nat.le_refl _) (.cells #[] 5)))) (fun e => by cases e))
    have HL := Lib.hid hl
    clear hrd hA hl
    go_enter Try.func33, Try.ntmps33
    go_wp2_with (first
      | (at_builtin; (refine wpList_appB (v := .slice (some ⟨w.heap.size, 0, none⟩) 0 0) (L := []) (M := l) rfl (.tmp 5) (.tmp 6) 22 rfl w.heap.size rfl (empty_row w _ 1) rfl HS.out (by rw [HL.out]; simp; omega) (by simp) ?_); intro v3 w3 hrow3 hb3 hg3 ho3; rw [List.nil_append] at hrow3)
      | fail)
    go_ret
    exact ⟨v3, rfl, hrow3, ((Below.refl _ _).alloc (Nat.le_refl _) _).trans hb3⟩
theorem grown_row (W : World) (n k : Nat) (z : Value) (hz : z.cells.size = 1) (t : TypeId) (base : Nat) (hb : base ≤ W.heap.size) (hm : n + k ≤ maxLen) :
    Row (W.alloc (.cells (Builtin.zeroCells z.cells n ++ Builtin.zeroCells z.cells k) t)) base 1 (.slice (some ⟨W.heap.size, 0, none⟩) 0 (n + k)) 0 [] :=
  ⟨by simp, .inr ⟨W.heap.size, 0, n + k, _, t, (0, 0), rfl, hb, heap_alloc_new W _, Nat.zero_le _, hm, by simp [size_zeroCells, hz], by intro j _ _; simp, by simp⟩⟩
set_option maxHeartbeats 1000000 in
set_option maxRecDepth 100000 in
/-- slices.Grow of nil -/
theorem dgrow_nil (n : Nat) (w : World) (hn : n ≤ 100000000) :
    Calls Try.prog 56 #[.slice none 0 0, .int .i64 (n : Int)] w fun e w' => ∃ v, e = .returned v ∧ RowB w' w.heap.size v [] ∧ Below w.heap.size w w' := by
  obtain ⟨j0, hj0, jz0, jz1, jz2⟩ := info_parts infoByte
  by_cases h0 : n = 0
  · subst h0
    go_enter Try.func56, Try.ntmps56
    go_wp2
    go_ret
    exact ⟨_, rfl, RowB.nil _ _, Below.refl _ _⟩
  · have k1 : (0 : Int) < (n : Int) := by omega
    have k2 : ¬ (n : Int) < 0 := by omega
    have hrun := fun ty => Lib.run_append_nil_zeros (P := Try.prog) w 22 3 ty 5 j0 (.int .u8 0) .i64 .i64 Try.underlying22 Try.underlying3 hj0 jz0 n (by omega) (by omega) (by omega) (by rw [jz2]; omega)
    have HRUN := Lib.hid hrun
    clear hrun
    go_enter Try.func56, Try.ntmps56
    go_wp2_with (first
      | (at_builtin; (refine Lib.wpList_append_run _ rfl _ _ _ _ rfl _ _ rfl rfl _ _ (HRUN.out _) ?_))
      | fail)
    go_ret
    have hge := grownCap_ge w n 0 5
    have hcm : grownCap w n 0 5 ≤ maxLen := grownCap_le_maxLen w n 0 5 (by simp only [maxLen]; omega)
    have hr := grown_row w n (grownCap w n 0 5 - n) (.int .u8 0) rfl 5 w.heap.size (Nat.le_refl _) (by omega)
    rw [show n + (grownCap w n 0 5 - n) = grownCap w n 0 5 by omega] at hr
    exact ⟨_, rfl, hr, ((Below.refl w.heap.size w).alloc (Nat.le_refl _) _).drew⟩
/-- slices of bytes, one behind the other in memory -/
structure PcC (w : World) (A : Option Addr) (n : Nat) (ps : List Bs) : Prop where
  len : ps.length = n
  get : ∀ k (hk : k < ps.length), ∃ g o a c, A = some ⟨g, o, none⟩ ∧ g < w.heap.size ∧ w.cell? ⟨g, o + k, none⟩ = some (.slice a ps[k].length c) ∧ (a = none → ps[k].length = 0) ∧ Rd w w.heap.size 1 a ps[k].length (bytesV ps[k])
def sumC (ps : List Bs) : Nat := (ps.map List.length).sum
theorem sumC_take (ps : List Bs) (k : Nat) (hk : k < ps.length) : sumC (ps.take (k + 1)) = sumC (ps.take k) + ps[k].length := by
  unfold sumC
  rw [List.take_succ_eq_append_getElem hk, List.map_append, List.sum_append]; simp
theorem sumC_le (ps : List Bs) (k : Nat) : sumC (ps.take k) ≤ sumC ps := by
  unfold sumC
  have h : (ps.map List.length).sum = ((ps.take k).map List.length).sum + ((ps.drop k).map List.length).sum := by
    rw [← List.sum_append, ← List.map_append, List.take_append_drop]
  omega
theorem flat_take (ps : List Bs) (k : Nat) (hk : k < ps.length) : (ps.take (k + 1)).flatten = (ps.take k).flatten ++ ps[k] := by
  rw [List.take_succ_eq_append_getElem hk, List.flatten_append]; simp
theorem flat_len (ps : List Bs) : ps.flatten.length = sumC ps := by unfold sumC; rw [List.length_flatten]
set_option maxHeartbeats 1000000 in
set_option maxRecDepth 100000 in
theorem dconcat_any (A : Option Addr) (n c : Nat) (ps : List Bs) (w : World) (hp : PcC w A n ps) (hn : n ≤ 1000) (hs : sumC ps ≤ 100000000) :
    Calls Try.prog 36 #[.slice A n c] w fun e w' => ∃ v, e = .returned v ∧ RowB w' w.heap.size v ps.flatten ∧ Below w.heap.size w w' := by
  have HP := Lib.hid hp
  have HS := Lib.hid hs
  clear hp hs
  go_enter Try.func36, Try.ntmps36
  go_wp2
  go_loopw [3, 11] (fun ss kk wr => ∃ k : Nat, k ≤ n ∧ kk = .int .i64 k ∧ ss = .int .i64 (sumC (ps.take k) : Nat) ∧ Below w.heap.size w wr) (fun _ kk _ => n - (intOf kk).toNat)
  case atStart => exact ⟨0, Nat.zero_le _, rfl, rfl, Below.refl _ _⟩
  case round =>
    obtain ⟨k, hk, rfl, rfl, hb⟩ := hrel
    have HB := Lib.hid hb
    by_cases hlt : k < n
    · have hkp : k < ps.length := by rw [HP.out.len]; exact hlt
      obtain ⟨g, o, a, c2, rfl, hg, hc, _, _⟩ := HP.out.get k hkp
      have c1 := (hb.cell (p := ⟨g, o + k, none⟩) hg).trans hc
      have ht := sumC_take ps k hkp
      have hl := sumC_le ps (k + 1)
      have hs := HS.out
      obtain ⟨s0, hs0⟩ : ∃ s0, s0 = sumC (ps.take k) := ⟨_, rfl⟩
      rw [← hs0] at ht ⊢
      have HT := Lib.hid ht
      generalize ps[k].length = m at *
      have hm : m ≤ 100000000 := by omega
      have hs1 : s0 ≤ 100000000 := by omega
      have hneg : ¬ (s0 : Int) + (m : Int) < 0 := by omega
      clear hb hc ht hl hs hs0
      go_wp2
      go_roundw
      case rel => exact ⟨k + 1, by omega, by go_num, by rw [HT.out]; go_num, HB.out⟩
      case measure => simp [intOf]; omega
    · obtain rfl : k = n := by omega
      have e : sumC (ps.take k) = sumC ps := by rw [List.take_of_length_le (by rw [HP.out.len]; exact Nat.le_refl _)]
      rw [e]
      obtain ⟨s0, hs0⟩ : ∃ s0, s0 = sumC ps := ⟨_, rfl⟩
      have hsz : s0 ≤ 100000000 := by rw [hs0]; exact HS.out
      rw [← hs0]
      have hend : ¬ (k : Int) < (k : Int) := by omega
      have HG := Lib.hid (dgrow_nil s0 wr hsz)
      have HSZ := Lib.hid hs0
      obtain ⟨wo, rfl⟩ : ∃ wo : World, wo = wr := ⟨_, rfl⟩
      clear hb e hs0
      go_upto_region 10 with (first
        | (go_at_call 56; go_must (refine HG.out.mono ?_; rintro _ w1 ⟨v1, rfl, hr1, hb1⟩; obtain ⟨A1, c1, rfl, _, _, _, _⟩ := RowB.form hr1))
        | fail)
      have HR1 := Lib.hid (Row.mono hr1 HB.out.size : RowB w1 w.heap.size (.slice A1 ([] : Bs).length c1) [])
      have HB1 := Lib.hid (HB.out.trans (hb1.mono HB.out.size))
      clear hr1 hb1
      go_wp2
      go_loopw [6, 27] (fun vv kk wx => ∃ (j : Nat) (v : Value), j ≤ k ∧ kk = .int .i64 j ∧ vv = v ∧ RowB wx w.heap.size v (ps.take j).flatten ∧ Below w.heap.size w wx) (fun _ kk _ => k - (intOf kk).toNat)
      case atStart => exact ⟨0, _, Nat.zero_le _, rfl, rfl, HR1.out, HB1.out⟩
      case round =>
        obtain ⟨j, v, hj, rfl, rfl, hr, hb⟩ := hrel
        have HR := Lib.hid hr
        have HBJ := Lib.hid hb
        by_cases hlt : j < k
        · have hjp : j < ps.length := by rw [HP.out.len]; exact hlt
          obtain ⟨g, o, a, c2, rfl, hg, hc, ha, hrd⟩ := HP.out.get j hjp
          have c3 := (hb.cell (p := ⟨g, o + j, none⟩) hg).trans hc
          have hfl := flat_take ps j hjp
          have HSRC := Lib.hid (SrcB.slice (c := c2) (hrd.keeps hb) ha)
          have hbd : (ps.take j).flatten.length + ps[j].length ≤ 134217728 := by
            rw [flat_len, ← sumC_take ps j hjp]
            have := sumC_le ps (j + 1)
            have := HS.out
            omega
          have HBD := Lib.hid hbd
          have HFL := Lib.hid hfl
          have hzw := hb.size
          obtain ⟨A2, c4, rfl, _, _, _, _⟩ := RowB.form hr
          generalize ps[j] = p at *
          obtain ⟨q, hq⟩ : ∃ q, q = (ps.take j).flatten := ⟨_, rfl⟩
          rw [← hq] at HBD HFL HR
          obtain ⟨nq, hnq⟩ : ∃ nq, nq = q.length := ⟨_, rfl⟩
          rw [← hq, ← hnq]
          rw [← hnq] at HR
          obtain ⟨np, hnp⟩ : ∃ np, np = p.length := ⟨_, rfl⟩
          rw [← hnp] at c3 HSRC
          clear hr hb hc ha hrd hfl hbd hq hnq hnp hjp
          go_wp2_with (first
            | (at_builtin; (refine wpList_appB (v := .slice A2 nq c4) (L := q) (M := p) rfl (.tmp 31) (.tmp 32) 22 rfl w.heap.size rfl HR.out rfl HSRC.out HBD.out hzw ?_); intro v3 w3 hrow3 hb3 hg3 ho3)
            | fail)
          go_roundw
          case rel => exact ⟨j + 1, v3, by omega, by go_num, rfl, by rw [HFL.out]; exact hrow3, HBJ.out.trans hb3⟩
          case measure => simp [intOf]; omega
        · obtain rfl : j = k := by omega
          have e : (ps.take j).flatten = ps.flatten := by rw [List.take_of_length_le (by rw [HP.out.len]; exact Nat.le_refl _)]
          rw [e] at HR
          have hend2 : ¬ (j : Int) < (j : Int) := by omega
          clear hr hb e
          go_wp2
          go_ret
          exact ⟨_, rfl, HR.out, HBJ.out⟩
set_option maxHeartbeats 1000000 in
/-- what a cut does -/
theorem dcutC_any (A : Option Addr) (n c : Nat) (l : Bs) (w : World) (hA : A = none → n = 0 ∧ c = 0) (hrd : Rd w w.heap.size 1 A n (bytesV l)) (hnc : n ≤ c) (hn : n ≤ 100000000) (bx k : Nat) (hbx : w.cell? ⟨bx, 0, none⟩ = some (.int .i64 (k : Int))) (hk : k ≤ n) (m : Int) :
    Calls Try.prog 46 #[.slice A n c, .int .i64 m, .pointer (some ⟨bx, 0, none⟩)] w fun e w' => ∃ v, e = .returned v ∧ RowB w' w.heap.size v (l.take k) ∧ Below w.heap.size w w' := by
  have hl : l.length = n := by have := hrd.1; rw [bytesV_len] at this; omega
  have hrk : Rd w w.heap.size 1 A k (bytesV (l.take k)) := by
    refine ⟨by rw [bytesV_len, List.length_take]; omega, fun h0 => ?_⟩
    obtain ⟨g, o, e, hg, hc⟩ := hrd.2 (by omega)
    refine ⟨g, o, e, hg, fun j u hu => hc j u ?_⟩
    rw [← bytesV_take] at hu
    have hj : j < k := by
      have := (List.getElem?_eq_some_iff.1 hu).1
      rw [List.length_take] at this
      omega
    rw [List.getElem?_take_of_lt hj] at hu
    exact hu
  have HC := Lib.hid (dcloneB_any A k c (l.take k) w (fun e => by have := hA e; omega) hrk (by omega))
  have hkc : (k : Int) ≤ (c : Int) := by omega
  clear hrd hrk hl hA
  go_enter Try.func46, Try.ntmps46
  go_wp2_with (first
    | (go_at_call 33; go_must (refine HC.out.mono ?_; rintro _ w1 ⟨v, rfl, hr1, hb1⟩))
    | fail)
  go_ret
  exact ⟨v, rfl, hr1, hb1⟩
end Go.Proofs.Ythgeppdoonbkpaa
