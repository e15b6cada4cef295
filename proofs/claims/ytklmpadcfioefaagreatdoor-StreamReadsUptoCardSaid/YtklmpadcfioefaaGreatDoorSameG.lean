/- the reference's Same, head.same: of whatever heads. Conditions: sizes. -/
import Derived.Test.YtklmpadcfioefaaGreatDoorMB
import Derived.Test.YtklmpadcfioefaaGreatDoorMA
import Derived.Laws.StructEq
namespace Go.Proofs.YtklmpadcfioefaaGreatDoor
open Go.RowKit

theorem toList_inj {a b : ByteArray} (h : a.toList = b.toList) : a = b := by
  rw [ByteArray.toList_eq, ByteArray.toList_eq] at h
  cases a with | mk x => cases b with | mk y => simp at h; rw [h]
/-- are two heads the same? -/
def eqH (rq rq' : Bool) (m m' t t' : ByteArray) (st st' : Int) (rs rs' : ByteArray) (mn mn' : Int) (fs fs' : List Fl) : Bool :=
  decide (rq = rq' ∧ m = m' ∧ t = t' ∧ st = st' ∧ rs = rs' ∧ mn = mn' ∧ fs = fs')
theorem fl_take {fs fs' : List Fl} {k : Nat} (h : fs.take k = fs'.take k) (h1 : k < fs.length) (h2 : k < fs'.length) (he : fs[k] = fs'[k]) : fs.take (k + 1) = fs'.take (k + 1) := by
  rw [List.take_succ_eq_append_getElem h1, List.take_succ_eq_append_getElem h2, h, he]

theorem run_eqField (w : World) (d : Nat) (xa xb ya yb : ByteArray) : (Op.equalIn (d + 2) 89 (.agg #[.string xa, .string xb]) (.agg #[.string ya, .string yb])).run Tryz.prog w = .ok (xa.toList == ya.toList && xb.toList == yb.toList) w := by
  have u3 := Tryz.underlying9
  have a3 := Tryz.isAgg9
  have z3 := Tryz.sizeOf9
  have hS : Tryz.prog.underlying 89 = some (.struct (Tryz.prog.fieldsOf 89)) := by kernel_rfl
  have hp : Tryz.prog.stoodInHeld 89 = false := by kernel_rfl
  rw [show d + 2 = d + 1 + 1 from rfl, run_equalIn_agg w (d + 1) 89 _ _ hS hp]
  simp only [Program.fieldsOf, Tryz.underlying89]
  go_simp
  by_cases h1 : xa.toList = ya.toList <;> by_cases h2 : xb.toList = yb.toList <;> simp [h1, h2]
theorem guardField : Tryz.prog.eqGuardType Tryz.prog.depth 89 = false := by kernel_rfl
theorem run_neqField (w : World) (xa xb ya yb : ByteArray) : (binOp .neq 89 (.agg #[.string xa, .string xb]) (.agg #[.string ya, .string yb])).run Tryz.prog w = .ok (.bool (!(xa.toList == ya.toList && xb.toList == yb.toList))) w := by
  rw [run_neq_struct, show (10000 : Nat) = 9998 + 2 from rfl, run_eqField w 9998]; rfl

set_option maxHeartbeats 2000000 in
set_option maxRecDepth 100000 in
theorem rSame_gen (rq rq' : Bool) (m m' t t' : ByteArray) (st st' : Int) (rs rs' : ByteArray) (mn mn' : Int) (A A' : Option Addr) (n n' c c' : Nat) (fs fs' : List Fl) (w : World)
    (h1 : Rd w w.heap.size 2 A n (fieldsV fs)) (h2 : Rd w w.heap.size 2 A' n' (fieldsV fs')) (hn : n ≤ 16777216) (hn' : n' ≤ 16777216) :
    Calls Tryz.prog 21 #[headV rq m t st rs mn (.slice A n c), headV rq' m' t' st' rs' mn' (.slice A' n' c')] w fun e w' => e = .returned (.bool (eqH rq rq' m m' t t' st st' rs rs' mn mn' fs fs')) ∧ Below w.heap.size w w' := by
  have hlen : fs.length = n := by have := h1.1; rw [fieldsV_len] at this; omega
  have hlen' : fs'.length = n' := by have := h2.1; rw [fieldsV_len] at this; omega
  by_cases hall : rq = rq' ∧ m = m' ∧ t = t' ∧ st = st' ∧ rs = rs' ∧ mn = mn' ∧ fs = fs'
  · obtain ⟨rfl, rfl, rfl, rfl, rfl, rfl, rfl⟩ := hall
    obtain rfl : n = n' := by omega
    have e : eqH rq rq m m t t st st rs rs mn mn fs fs = true := by unfold eqH; simp
    rw [e]
    exact rSame_any rq m t st rs mn A A' n c c' fs w h1 h2 hn
  · have HNO : Hid (eqH rq rq' m m' t t' st st' rs rs' mn mn' fs fs' = false) := Lib.hid (by unfold eqH; rw [decide_eq_false_iff_not]; exact hall)
    rw [HNO.out]
    by_cases hsix : rq = rq' ∧ m = m' ∧ t = t' ∧ st = st' ∧ rs = rs' ∧ mn = mn' ∧ n = n'
    · obtain ⟨rfl, rfl, rfl, rfl, rfl, rfl, rfl⟩ := hsix
      have HNE : Hid (fs ≠ fs') := Lib.hid (fun e => hall ⟨rfl, rfl, rfl, rfl, rfl, rfl, e⟩)
      clear hall
      unfold headV
      go_enter Tryz.func21, Tryz.ntmps21
      go_wp2
      go_loopw [5] (fun i wr => ∃ k : Nat, k ≤ n ∧ i = .int .i64 k ∧ fs.take k = fs'.take k ∧ Below (w.heap.size + 2) ((w.alloc (.cells #[.bool rq, .string m, .string t, .int .i64 st, .string rs, .int .i64 mn, .slice A n c] 52)).alloc (.cells #[.bool rq, .string m, .string t, .int .i64 st, .string rs, .int .i64 mn, .slice A' n c'] 52)) wr) (fun i _ => n - (intOf i).toNat)
      case atStart => exact ⟨0, Nat.zero_le _, rfl, rfl, Below.refl _ _⟩
      case round =>
        obtain ⟨k, hk, rfl, htk, hb⟩ := hrel
        have HTK := Lib.hid htk
        clear htk
        have hb1 : ∀ q, (wr.drewN q).cell? ⟨w.heap.size, 6, none⟩ = some (.slice A n c) := fun q => (hb.cell (p := ⟨w.heap.size, 6, none⟩) (by show w.heap.size < _; omega)).trans (World.cell?_alloc2_first _ _ _ _)
        have hb2 : ∀ q, (wr.drewN q).cell? ⟨w.heap.size + 1, 6, none⟩ = some (.slice A' n c') := fun q => (hb.cell (p := ⟨w.heap.size + 1, 6, none⟩) (by show w.heap.size + 1 < _; omega)).trans (World.cell?_alloc2_new _ _ _ _)
        have e1 : wr.cell? ⟨w.heap.size, 6, none⟩ = some (.slice A n c) := hb1 0
        have e2 : wr.cell? ⟨w.heap.size + 1, 6, none⟩ = some (.slice A' n c') := hb2 0
        have HB := Lib.hid hb
        by_cases hlt : k < n
        · obtain ⟨g, o, rfl, hg, hcell⟩ := h1.2 (by omega)
          obtain ⟨g', o', rfl, hg', hcell'⟩ := h2.2 (by omega)
          obtain ⟨G1, G2⟩ := fieldsV_get fs k (by omega)
          obtain ⟨G1', G2'⟩ := fieldsV_get fs' k (by omega)
          have old : ∀ (p : Addr), p.block < w.heap.size → ∀ q, (wr.drewN q).cell? p = w.cell? p := fun p hp q =>
            (hb.cell (p := p) (by omega)).trans ((World.cell?_alloc_lt _ _ _ (by simp; omega)).trans (World.cell?_alloc_lt _ _ _ hp))
          have r1 : ∀ q, World.rangeAt (wr.drewN q) g (o + k * 2) [.string fs[k].1, .string fs[k].2] := by
            intro q j v hj
            match j, hj with
            | 0, hj => cases hj; exact (old _ hg q).trans (hcell _ _ G1)
            | 1, hj => cases hj; rw [Nat.add_assoc]; exact (old _ hg q).trans (hcell _ _ G2)
          have r2 : ∀ q, World.rangeAt (wr.drewN q) g' (o' + k * 2) [.string fs'[k].1, .string fs'[k].2] := by
            intro q j v hj
            match j, hj with
            | 0, hj => cases hj; exact (old _ hg' q).trans (hcell' _ _ G1')
            | 1, hj => cases hj; rw [Nat.add_assoc]; exact (old _ hg' q).trans (hcell' _ _ G2')
          clear hcell hcell' G1 G2 G1' G2' old
          have HNX : Hid (fs[k].1 = fs'[k].1 → fs[k].2 = fs'[k].2 → fs.take (k + 1) = fs'.take (k + 1)) := Lib.hid (fun a b => fl_take HTK.out (by omega) (by omega) (Prod.ext a b))
          generalize fs[k].1 = xa at *
          generalize fs[k].2 = xb at *
          generalize fs'[k].1 = ya at *
          generalize fs'[k].2 = yb at *
          by_cases heq : xa = ya ∧ xb = yb
          · obtain ⟨rfl, rfl⟩ := heq
            have HX := Lib.hid (HNX.out rfl rfl)
            go_wp2
            refine wp_region_quiet_lit (by kernel_rfl) (by kernel_rfl) ?_
            repeat (first
              | (refine wpQuiet_load_mid rfl 89 (.tmp 65) rfl g (o + k * 2) rfl _ _ (by rintro _ ⟨q, rfl⟩; exact r1 q) Tryz.underlying89 rfl (by kernel_rfl) ?_)
              | (refine wpQuiet_load_mid rfl 89 (.tmp 70) rfl g' (o' + k * 2) rfl _ _ (by rintro _ ⟨q, rfl⟩; exact r2 q) Tryz.underlying89 rfl (by kernel_rfl) ?_)
              | go_big_quiet_step (fail)
              | quiet_step (fail))
            refine wpQuiet_nil ?_
            rintro _ ⟨nq, rfl⟩
            go_wp2
            go_roundw
            case rel => exact ⟨k + 1, by omega, by go_num, HX.out, below_drewN HB.out _⟩
            case measure => simp [intOf]; omega
          · have hneq : ∀ W, (binOp .neq 89 (.agg #[.string xa, .string xb]) (.agg #[.string ya, .string yb])).run Tryz.prog W = .ok (.bool true) W := fun W => by
              rw [run_neqField]
              by_cases h1 : xa.toList = ya.toList <;> by_cases h2 : xb.toList = yb.toList <;> simp [h1, h2]
              exact heq ⟨toList_inj h1, toList_inj h2⟩
            clear heq
            have hgd := guardField
            go_wp2
            refine wp_region_quiet_lit (by kernel_rfl) (by kernel_rfl) ?_
            repeat (first
              | (refine wpQuiet_load_mid rfl 89 (.tmp 65) rfl g (o + k * 2) rfl _ _ (by rintro _ ⟨q, rfl⟩; exact r1 q) Tryz.underlying89 rfl (by kernel_rfl) ?_)
              | (refine wpQuiet_load_mid rfl 89 (.tmp 70) rfl g' (o' + k * 2) rfl _ _ (by rintro _ ⟨q, rfl⟩; exact r2 q) Tryz.underlying89 rfl (by kernel_rfl) ?_)
              | go_big_quiet_step (fail)
              | quiet_step (fail))
            refine wpQuiet_nil ?_
            rintro _ ⟨nq, rfl⟩
            go_wp2
            go_ret
            exact ⟨rfl, ((Below.refl _ w).alloc (Nat.le_refl _) _ |>.alloc (by simp) _).trans ((below_drewN HB.out _).mono (by omega))⟩
        · exact absurd (by have := HTK.out; rwa [List.take_of_length_le (by omega), List.take_of_length_le (by omega)] at this) HNE.out
    · have HSIX : Hid (rq = rq' → m.toList = m'.toList → t.toList = t'.toList → st = st' → rs.toList = rs'.toList → mn = mn' → n = n' → False) := Lib.hid (fun a b c d e f g => hsix ⟨a, toList_inj b, toList_inj c, d, toList_inj e, f, g⟩)
      clear hall hsix
      unfold headV
      go_enter Tryz.func21, Tryz.ntmps21
      go_wp2
      all_goals first
        | (have hq0 := ‹((n : Int) != (n' : Int)) = false›; exfalso; exact HSIX.out (by assumption) (by assumption) (by assumption) (by assumption) (by assumption) (by assumption) (by simp at hq0; omega))
        | (go_ret; exact ⟨rfl, ((Below.refl _ w).alloc (Nat.le_refl _) _ |>.alloc (by simp) _)⟩)

/-! ### head.same -/
end Go.Proofs.YtklmpadcfioefaaGreatDoor
