/- the reference's Same, head.same: of whatever heads. Conditions: sizes. -/
import Derived.Test.YtklmpadcfioefaaGreatDoorMB
import Derived.Test.YtklmpadcfioefaaGreatDoorMA
import Derived.Laws.StructEq
namespace Go.Proofs.YtklmpadcfioefaaGreatDoor
open Go.RowKit

theorem toList_inj {a b : ByteArray} (h : a.toList = b.toList) : a = b := by
  rw [ByteArray.toList_eq, ByteArray.toList_eq] at h
  cases a with | mk x => cases b with | mk y => simp at h; rw [h]
/-- are two heads the same? -/
def eqH (rq rq' : Bool) (m m' t t' : ByteArray) (st st' : Int) (rs rs' : ByteArray) (mn mn' : Int) (fs fs' : List Fl) : Bool :=
  decide (rq = rq' ∧ m = m' ∧ t = t' ∧ st = st' ∧ rs = rs' ∧ mn = mn' ∧ fs = fs')
theorem eqH_no {rq rq' : Bool} {m m' t t' : ByteArray} {st st' : Int} {rs rs' : ByteArray} {mn mn' : Int} {fs fs' : List Fl} (h : rq = rq' → m.toList = m'.toList → t.toList = t'.toList → st = st' → rs.toList = rs'.toList → mn = mn' → fs = fs' → False) :
    eqH rq rq' m m' t t' st st' rs rs' mn mn' fs fs' = false := by
  unfold eqH
  rw [decide_eq_false_iff_not]
  rintro ⟨rfl, rfl, rfl, rfl, rfl, rfl, rfl⟩
  exact h rfl rfl rfl rfl rfl rfl rfl
theorem fl_take {fs fs' : List Fl} {k : Nat} (h : fs.take k = fs'.take k) (h1 : k < fs.length) (h2 : k < fs'.length) (he : fs[k] = fs'[k]) : fs.take (k + 1) = fs'.take (k + 1) := by
  rw [List.take_succ_eq_append_getElem h1, List.take_succ_eq_append_getElem h2, h, he]

theorem run_eqField (w : World) (d : Nat) (xa xb ya yb : ByteArray) : (Op.equalIn (d + 2) 89 (.agg #[.string xa, .string xb]) (.agg #[.string ya, .string yb])).run Tryz.prog w = .ok (xa.toList == ya.toList && xb.toList == yb.toList) w := by
  have u3 := Tryz.underlying9
  have a3 := Tryz.isAgg9
  have z3 := Tryz.sizeOf9
  have hS : Tryz.prog.underlying 89 = some (.struct (Tryz.prog.fieldsOf 89)) := by kernel_rfl
  have hp : Tryz.prog.stoodInHeld 89 = false := by kernel_rfl
  rw [show d + 2 = d + 1 + 1 from rfl, run_equalIn_agg w (d + 1) 89 _ _ hS hp]
  simp only [Program.fieldsOf, Tryz.underlying89]
  go_simp
  by_cases h1 : xa.toList = ya.toList <;> by_cases h2 : xb.toList = yb.toList <;> simp [h1, h2]
theorem guardField : Tryz.prog.eqGuardType Tryz.prog.depth 89 = false := by kernel_rfl
theorem run_neqField (w : World) (xa xb ya yb : ByteArray) : (binOp .neq 89 (.agg #[.string xa, .string xb]) (.agg #[.string ya, .string yb])).run Tryz.prog w = .ok (.bool (!(xa.toList == ya.toList && xb.toList == yb.toList))) w := by
  rw [run_neq_struct, show (10000 : Nat) = 9998 + 2 from rfl, run_eqField w 9998]; rfl

/-! ### head.same -/
set_option maxHeartbeats 2000000 in
set_option maxRecDepth 100000 in
theorem hEqual_gen (A A' : Option Addr) (n n' c c' : Nat) (fs fs' : List Fl) (w : World)
    (h1 : Rd w w.heap.size 2 A n (fieldsV fs)) (h2 : Rd w w.heap.size 2 A' n' (fieldsV fs')) (hn : n ≤ 16777216) (hn' : n' ≤ 16777216) :
    Calls Tryz.prog 109 #[.slice A n c, .slice A' n' c'] w fun e w' => e = .returned (.bool (decide (fs = fs'))) ∧ Below w.heap.size w w' := by
  have hlen : fs.length = n := by have := h1.1; rw [fieldsV_len] at this; omega
  have hlen' : fs'.length = n' := by have := h2.1; rw [fieldsV_len] at this; omega
  by_cases hne : n = n'
  · subst hne
    generalize hd : decide (fs = fs') = dv
    have HD := Lib.hid hd
    clear hd
    go_enter Tryz.func109, Tryz.ntmps109
    go_wp2
    go_loopw [13] (fun i wr => ∃ k : Nat, k ≤ n ∧ i = .int .i64 k ∧ fs.take k = fs'.take k ∧ Below w.heap.size w wr) (fun i _ => n - (intOf i).toNat)
    case atStart => exact ⟨0, Nat.zero_le _, rfl, rfl, Below.refl _ _⟩
    case round =>
      obtain ⟨k, hk, rfl, htk, hb⟩ := hrel
      have HTK := Lib.hid htk
      clear htk
      have HB := Lib.hid hb
      by_cases hlt : k < n
      · obtain ⟨g, o, rfl, hg, hcell⟩ := h1.2 (by omega)
        obtain ⟨g', o', rfl, hg', hcell'⟩ := h2.2 (by omega)
        obtain ⟨G1, G2⟩ := fieldsV_get fs k (by omega)
        obtain ⟨G1', G2'⟩ := fieldsV_get fs' k (by omega)
        have old : ∀ (p : Addr), p.block < w.heap.size → ∀ q, (wr.drewN q).cell? p = w.cell? p := fun p hp q => hb.cell (p := p) hp
        have r1 : ∀ q, World.rangeAt (wr.drewN q) g (o + k * 2) [.string fs[k].1, .string fs[k].2] := by
          intro q j v hj
          match j, hj with
          | 0, hj => cases hj; exact (old _ hg q).trans (hcell _ _ G1)
          | 1, hj => cases hj; rw [Nat.add_assoc]; exact (old _ hg q).trans (hcell _ _ G2)
        have r2 : ∀ q, World.rangeAt (wr.drewN q) g' (o' + k * 2) [.string fs'[k].1, .string fs'[k].2] := by
          intro q j v hj
          match j, hj with
          | 0, hj => cases hj; exact (old _ hg' q).trans (hcell' _ _ G1')
          | 1, hj => cases hj; rw [Nat.add_assoc]; exact (old _ hg' q).trans (hcell' _ _ G2')
        clear hcell hcell' G1 G2 G1' G2' old hb
        have HNX : Hid (fs[k].1 = fs'[k].1 → fs[k].2 = fs'[k].2 → fs.take (k + 1) = fs'.take (k + 1)) := Lib.hid (fun a b => fl_take HTK.out (by omega) (by omega) (Prod.ext a b))
        have HDF : Hid (¬ (fs[k].1 = fs'[k].1 ∧ fs[k].2 = fs'[k].2) → dv = false) := Lib.hid (fun h => by
          rw [← HD.out, decide_eq_false_iff_not]
          intro e
          subst e
          exact h ⟨rfl, rfl⟩)
        generalize fs[k].1 = xa at *
        generalize fs[k].2 = xb at *
        generalize fs'[k].1 = ya at *
        generalize fs'[k].2 = yb at *
        by_cases heq : xa = ya ∧ xb = yb
        · obtain ⟨rfl, rfl⟩ := heq
          have HX := Lib.hid (HNX.out rfl rfl)
          go_wp2
          refine wp_region_quiet_lit (by kernel_rfl) (by kernel_rfl) ?_
          repeat (first
            | (refine wpQuiet_load_mid rfl 89 (.tmp 18) rfl g (o + k * 2) rfl _ _ (by rintro _ ⟨q, rfl⟩; exact r1 q) Tryz.underlying89 rfl (by kernel_rfl) ?_)
            | (refine wpQuiet_load_mid rfl 89 (.tmp 22) rfl g' (o' + k * 2) rfl _ _ (by rintro _ ⟨q, rfl⟩; exact r2 q) Tryz.underlying89 rfl (by kernel_rfl) ?_)
            | go_big_quiet_step (fail)
            | quiet_step (fail))
          refine wpQuiet_nil ?_
          rintro _ ⟨nq, rfl⟩
          go_wp2
          go_roundw
          case rel => exact ⟨k + 1, by omega, by go_num, HX.out, below_drewN HB.out _⟩
          case measure => simp [intOf]; omega
        · have hneq : ∀ W, (binOp .neq 89 (.agg #[.string xa, .string xb]) (.agg #[.string ya, .string yb])).run Tryz.prog W = .ok (.bool true) W := fun W => by
            rw [run_neqField]
            by_cases h1 : xa.toList = ya.toList <;> by_cases h2 : xb.toList = yb.toList <;> simp [h1, h2]
            exact heq ⟨toList_inj h1, toList_inj h2⟩
          have HF := Lib.hid (HDF.out heq)
          clear heq
          have hgd := guardField
          go_wp2
          refine wp_region_quiet_lit (by kernel_rfl) (by kernel_rfl) ?_
          repeat (first
            | (refine wpQuiet_load_mid rfl 89 (.tmp 18) rfl g (o + k * 2) rfl _ _ (by rintro _ ⟨q, rfl⟩; exact r1 q) Tryz.underlying89 rfl (by kernel_rfl) ?_)
            | (refine wpQuiet_load_mid rfl 89 (.tmp 22) rfl g' (o' + k * 2) rfl _ _ (by rintro _ ⟨q, rfl⟩; exact r2 q) Tryz.underlying89 rfl (by kernel_rfl) ?_)
            | go_big_quiet_step (fail)
            | quiet_step (fail))
          refine wpQuiet_nil ?_
          rintro _ ⟨nq, rfl⟩
          go_wp2
          go_ret
          exact ⟨by rw [HF.out]; rfl, below_drewN HB.out _⟩
      · have HF : Hid (dv = true) := Lib.hid (by
          rw [← HD.out, decide_eq_true_eq]
          have := HTK.out
          rwa [List.take_of_length_le (by omega), List.take_of_length_le (by omega)] at this)
        go_wp2
        go_ret
        exact ⟨by rw [HF.out]; rfl, HB.out⟩
  · have HF : Hid (decide (fs = fs') = false) := Lib.hid (by rw [decide_eq_false_iff_not]; intro e; subst e; omega)
    rw [HF.out]
    have hne' : ((n : Int) != (n' : Int)) = true := by simpa using fun e : (n : Int) = (n' : Int) => hne (by omega)
    go_enter Tryz.func109, Tryz.ntmps109
    go_wp2
    go_ret
    exact ⟨rfl, Below.refl _ _⟩

set_option maxHeartbeats 2000000 in
set_option maxRecDepth 100000 in
theorem hSame_gen (rq rq' : Bool) (m m' t t' : ByteArray) (st st' : Int) (rs rs' : ByteArray) (mn mn' : Int) (A A' : Option Addr) (n n' c c' : Nat) (fs fs' : List Fl) (w : World)
    (h1 : Rd w w.heap.size 2 A n (fieldsV fs)) (h2 : Rd w w.heap.size 2 A' n' (fieldsV fs')) (hn : n ≤ 16777216) (hn' : n' ≤ 16777216) :
    Calls Tryz.prog 65 #[headV rq m t st rs mn (.slice A n c), headV rq' m' t' st' rs' mn' (.slice A' n' c')] w fun e w' => e = .returned (.bool (eqH rq rq' m m' t t' st st' rs rs' mn mn' fs fs')) ∧ Below w.heap.size w w' := by
  generalize hd : eqH rq rq' m m' t t' st st' rs rs' mn mn' fs fs' = dv
  have HNO : Hid ((rq = rq' → m.toList = m'.toList → t.toList = t'.toList → st = st' → rs.toList = rs'.toList → mn = mn' → False) → dv = false) := Lib.hid (fun h => by rw [← hd]; exact eqH_no fun a b c d e f _ => h a b c d e f)
  have HYES : Hid (rq = rq' → m.toList = m'.toList → t.toList = t'.toList → st = st' → rs.toList = rs'.toList → mn = mn' → decide (fs = fs') = dv) := Lib.hid (fun a b c d e f => by
    rw [← hd]
    unfold eqH
    rw [Bool.eq_iff_iff, decide_eq_true_eq, decide_eq_true_eq]
    exact ⟨fun g => ⟨a, toList_inj b, toList_inj c, d, toList_inj e, f, g⟩, fun g => g.2.2.2.2.2.2⟩)
  clear hd
  have hr1 := ((h1.alloc (Nat.le_refl _) (.cells #[.bool rq, .string m, .string t, .int .i64 st, .string rs, .int .i64 mn, .slice A n c] 52)).alloc (by simp) (.cells #[.bool rq', .string m', .string t', .int .i64 st', .string rs', .int .i64 mn', .slice A' n' c'] 52)).more (B' := w.heap.size + 1 + 1) (by omega)
  have hr2 := ((h2.alloc (Nat.le_refl _) (.cells #[.bool rq, .string m, .string t, .int .i64 st, .string rs, .int .i64 mn, .slice A n c] 52)).alloc (by simp) (.cells #[.bool rq', .string m', .string t', .int .i64 st', .string rs', .int .i64 mn', .slice A' n' c'] 52)).more (B' := w.heap.size + 1 + 1) (by omega)
  have hz : (((w.alloc (.cells #[.bool rq, .string m, .string t, .int .i64 st, .string rs, .int .i64 mn, .slice A n c] 52)).alloc (.cells #[.bool rq', .string m', .string t', .int .i64 st', .string rs', .int .i64 mn', .slice A' n' c'] 52))).heap.size = w.heap.size + 1 + 1 := by simp
  rw [← hz] at hr1 hr2
  have HC := Lib.hid (hEqual_gen A A' n n' c c' fs fs' _ hr1 hr2 hn hn')
  clear hr1 hr2 hz
  unfold headV
  go_enter Tryz.func65, Tryz.ntmps65
  go_wp2_with (go_at_call 109; go_must (obtain rfl : rq = rq' := ‹_›; obtain rfl : st = st' := ‹_›; obtain rfl : mn = mn' := ‹_›; refine HC.out.mono ?_; rintro _ w1 ⟨rfl, hb1⟩; rw [HYES.out rfl ‹_› ‹_› rfl ‹_› rfl]))
  all_goals first
    | (go_ret; exact ⟨rfl, ((Below.refl _ w).alloc (Nat.le_refl _) _ |>.alloc (by simp) _).trans (hb1.mono (by simp; omega))⟩)
    | (go_ret; refine ⟨by rw [HNO.out (fun a b c d e f => by first | (exact absurd a ‹_›) | (exact absurd b ‹_›) | (exact absurd c ‹_›) | (exact absurd d ‹_›) | (exact absurd e ‹_›) | (exact absurd f ‹_›))]; rfl, ((Below.refl _ w).alloc (Nat.le_refl _) _ |>.alloc (by simp) _)⟩)
end Go.Proofs.YtklmpadcfioefaaGreatDoor
