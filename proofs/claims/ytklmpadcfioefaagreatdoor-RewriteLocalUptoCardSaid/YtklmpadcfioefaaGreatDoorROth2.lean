/- rewrite's others. Conditions: sizes, the library's variables. -/
import Derived.Test.YtklmpadcfioefaaGreatDoorRDel
namespace Go.Proofs.YtklmpadcfioefaaGreatDoor
open Go.RowKit

theorem mine_host (rq : Bool) (fs : List Fl) (y : Bool) (hy : y = (ownK fs bHost || rq)) (k : Bs) : (if k = (ByteArray.mk #[104, 111, 115, 116]).data.toList then y else ownK fs k) = mineK rq fs k := by
  have e : (ByteArray.mk #[104, 111, 115, 116]).data.toList = bHost := rfl
  rw [e]
  unfold mineK
  by_cases h : k = bHost
  · subst h; rw [if_pos rfl, hy]; simp
  · rw [if_neg h]
    have : (k == bHost) = false := by simpa using h
    rw [this]; simp
theorem keep_others (rq : Bool) (fs : List Fl) : keepF (mineK rq fs) fs = othersP rq fs := rfl

set_option maxHeartbeats 2000000 in
set_option maxRecDepth 100000 in
theorem wothers_any (rq : Bool) (mt t : ByteArray) (st : Int) (rs : ByteArray) (mn : Int) (A : Option Addr) (n c : Nat) (fs : List Fl) (w : World) (hsh : w.ShapedOpen Tryz.prog) (hA : A = none → n = 0 ∧ c = 0) (hrd : Rd w w.heap.size 2 A n (fieldsV fs))
    (hn : n ≤ 1048576) (hfs : ∀ f ∈ fs, f.1.size ≤ 16777216) (hvs : total (vals fs sConn) ≤ 8388608) :
    Calls Tryz.prog 71 #[headV rq mt t st rs mn (.slice A n c)] w fun e w' => ∃ v, e = .returned v ∧ Row w' w.heap.size 2 v (othersP rq fs).length (fieldsV (othersP rq fs)) ∧ Below w.heap.size w w' := by
  have B1 : Below w.heap.size w (w.alloc (.cells #[.bool rq, .string mt, .string t, .int .i64 st, .string rs, .int .i64 mn, .slice A n c] 52)) := (Below.refl _ _).alloc (Nat.le_refl _) _
  have R1 := (hrd.below B1).more B1.size
  have HV1 := Lib.hid (Var.new w 52 [.bool rq, .string mt, .string t, .int .i64 st, .string rs, .int .i64 mn, .slice A n c])
  have HB1 := Lib.hid B1
  have HR0 := Lib.hid hrd
  have HO := Lib.hid (wown_any rq mt t st rs mn A n c fs _ (shaped_below hsh B1) R1 hn hfs hvs)
  have HMH : Hid (∀ y, y = (ownK fs bHost || rq) → ∀ k, (if k = (ByteArray.mk #[104, 111, 115, 116]).data.toList then y else ownK fs k) = mineK rq fs k) := Lib.hid (mine_host rq fs)
  rw [← keep_others]
  unfold OwnPost headV at HO
  generalize ownK fs = S at HO HMH
  unfold headV
  clear hrd B1 R1 hsh hvs
  cases hx : S bHost
  · cases rq
    · go_enter Tryz.func71, Tryz.ntmps71
      go_upto_region 3 with (first
        | (refine wpList_load_mid rfl 52 (.tmp 1) rfl w.heap.size 0 rfl [.bool false, .string mt, .string t, .int .i64 st, .string rs, .int .i64 mn, .slice A n c] _ HV1.out.range Tryz.underlying52 rfl (by kernel_rfl) ?_)
        | (go_at_call 116; go_must (refine HO.out.mono ?_; rintro _ w2 ⟨b, k, rfl, hbl, hk, hm, hb2⟩; have hgt := (hm.alloc (.cells #[.map (some b)] 157)).run_get ⟨#[104, 111, 115, 116]⟩ (by decide); rw [show S (ByteArray.mk #[104, 111, 115, 116]).data.toList = false from hx] at hgt; obtain ⟨w3, hpt, hm3, hg3⟩ := (hm.alloc (.cells #[.map (some b)] 157)).run_put (by unfold maxLen; omega) ⟨#[104, 111, 115, 116]⟩ (by decide) false; have v0 := ((HV1.out.below_all hb2).alloc (.cells #[.map (some b)] 157)).cell (j := 0) rfl; have hz2 := hb2.size))
        | fail)
      have HM3 := Lib.hid (hm3.ext (HMH.out false (by rw [hx]; rfl)))
      have hbk := hm.lt
      have hbl1 : w.heap.size + 1 ≤ b := by have := heap_alloc_size w (.cells #[.bool false, .string mt, .string t, .int .i64 st, .string rs, .int .i64 mn, .slice A n c] 52); omega
      have hz21 : w.heap.size + 1 ≤ w2.heap.size := by have := heap_alloc_size w (.cells #[.bool false, .string mt, .string t, .int .i64 st, .string rs, .int .i64 mn, .slice A n c] 52); omega
      have Q3 := Lib.hid ((Var.new w2 157 [.map (some b)]).grown hg3 (by simp; omega))
      have V3 := Lib.hid (((HV1.out.below_all hb2).alloc (.cells #[.map (some b)] 157)).grown hg3 (by simp; omega))
      have B3 := Lib.hid (((HB1.out.trans (hb2.mono HB1.out.size)).alloc (by have := HB1.out.size; omega) (.cells #[.map (some b)] 157)).grown hg3 (by simp; have := HB1.out.size; omega) (fun x hx => by injection hx with hx; omega))
      have R3 := Lib.hid ((HR0.out.below B3.out).more B3.out.size)
      have v6 := V3.out.cell (j := 6) rfl
      have hz3 : w2.heap.size + 1 ≤ w3.heap.size := by (have := hg3.size; simpa using this)
      have hbz := hbl
      clear hgt hpt hm hm3 hg3 hb2 v0
      go_wp2_with (first
        | (go_at_call 118; go_must (refine (wclone_any A n c fs _ hA R3.out (by omega)).mono ?_; rintro _ w4 ⟨v4, rfl, hrow4, hb4⟩; have hr4 := hrow4; obtain ⟨A4, c4, rfl, _, _, _, _⟩ := hrow4.form; have hk4 := hr4.lt))
        | (go_at_call 117; go_must (refine (delF_any A4 n c4 w3.heap.size fs w2.heap.size b (k + 1) (mineK false fs) _ (Q3.out.below_all hb4) (HM3.out.below_all hb4) hr4 (fun g hg => ⟨by have := (hk4 g hg).1; omega, by have := (hk4 g hg).1; omega⟩) (by omega) hfs).mono ?_; rintro _ w5 ⟨rfl, hr5, hg5⟩))
        | fail)
      have HR5 := Lib.hid hr5
      have B5 := Lib.hid ((B3.out.trans (hb4.mono B3.out.size)).grown hg5 (by have := B3.out.size; have := hb4.size; omega) (fun x hx => by have := (hk4 x hx).1; have := B3.out.size; omega))
      clear hrow4 hr4 hb4 hk4 hr5 hg5 v6
      go_ret
      refine ⟨_, rfl, ?_, B5.out⟩
      exact HR5.out.mono B3.out.size
    · go_enter Tryz.func71, Tryz.ntmps71
      go_upto_region 3 with (first
        | (refine wpList_load_mid rfl 52 (.tmp 1) rfl w.heap.size 0 rfl [.bool true, .string mt, .string t, .int .i64 st, .string rs, .int .i64 mn, .slice A n c] _ HV1.out.range Tryz.underlying52 rfl (by kernel_rfl) ?_)
        | (go_at_call 116; go_must (refine HO.out.mono ?_; rintro _ w2 ⟨b, k, rfl, hbl, hk, hm, hb2⟩; have hgt := (hm.alloc (.cells #[.map (some b)] 157)).run_get ⟨#[104, 111, 115, 116]⟩ (by decide); rw [show S (ByteArray.mk #[104, 111, 115, 116]).data.toList = false from hx] at hgt; obtain ⟨w3, hpt, hm3, hg3⟩ := (hm.alloc (.cells #[.map (some b)] 157)).run_put (by unfold maxLen; omega) ⟨#[104, 111, 115, 116]⟩ (by decide) true; have v0 := ((HV1.out.below_all hb2).alloc (.cells #[.map (some b)] 157)).cell (j := 0) rfl; have hz2 := hb2.size))
        | fail)
      have HM3 := Lib.hid (hm3.ext (HMH.out true (by rw [hx]; rfl)))
      have hbk := hm.lt
      have hbl1 : w.heap.size + 1 ≤ b := by have := heap_alloc_size w (.cells #[.bool true, .string mt, .string t, .int .i64 st, .string rs, .int .i64 mn, .slice A n c] 52); omega
      have hz21 : w.heap.size + 1 ≤ w2.heap.size := by have := heap_alloc_size w (.cells #[.bool true, .string mt, .string t, .int .i64 st, .string rs, .int .i64 mn, .slice A n c] 52); omega
      have Q3 := Lib.hid ((Var.new w2 157 [.map (some b)]).grown hg3 (by simp; omega))
      have V3 := Lib.hid (((HV1.out.below_all hb2).alloc (.cells #[.map (some b)] 157)).grown hg3 (by simp; omega))
      have B3 := Lib.hid (((HB1.out.trans (hb2.mono HB1.out.size)).alloc (by have := HB1.out.size; omega) (.cells #[.map (some b)] 157)).grown hg3 (by simp; have := HB1.out.size; omega) (fun x hx => by injection hx with hx; omega))
      have R3 := Lib.hid ((HR0.out.below B3.out).more B3.out.size)
      have v6 := V3.out.cell (j := 6) rfl
      have hz3 : w2.heap.size + 1 ≤ w3.heap.size := by (have := hg3.size; simpa using this)
      have hbz := hbl
      clear hgt hpt hm hm3 hg3 hb2 v0
      go_wp2_with (first
        | (go_at_call 118; go_must (refine (wclone_any A n c fs _ hA R3.out (by omega)).mono ?_; rintro _ w4 ⟨v4, rfl, hrow4, hb4⟩; have hr4 := hrow4; obtain ⟨A4, c4, rfl, _, _, _, _⟩ := hrow4.form; have hk4 := hr4.lt))
        | (go_at_call 117; go_must (refine (delF_any A4 n c4 w3.heap.size fs w2.heap.size b (k + 1) (mineK true fs) _ (Q3.out.below_all hb4) (HM3.out.below_all hb4) hr4 (fun g hg => ⟨by have := (hk4 g hg).1; omega, by have := (hk4 g hg).1; omega⟩) (by omega) hfs).mono ?_; rintro _ w5 ⟨rfl, hr5, hg5⟩))
        | fail)
      have HR5 := Lib.hid hr5
      have B5 := Lib.hid ((B3.out.trans (hb4.mono B3.out.size)).grown hg5 (by have := B3.out.size; have := hb4.size; omega) (fun x hx => by have := (hk4 x hx).1; have := B3.out.size; omega))
      clear hrow4 hr4 hb4 hk4 hr5 hg5 v6
      go_ret
      refine ⟨_, rfl, ?_, B5.out⟩
      exact HR5.out.mono B3.out.size
  · cases rq
    · go_enter Tryz.func71, Tryz.ntmps71
      go_upto_region 3 with (first
        | (refine wpList_load_mid rfl 52 (.tmp 1) rfl w.heap.size 0 rfl [.bool false, .string mt, .string t, .int .i64 st, .string rs, .int .i64 mn, .slice A n c] _ HV1.out.range Tryz.underlying52 rfl (by kernel_rfl) ?_)
        | (go_at_call 116; go_must (refine HO.out.mono ?_; rintro _ w2 ⟨b, k, rfl, hbl, hk, hm, hb2⟩; have hgt := (hm.alloc (.cells #[.map (some b)] 157)).run_get ⟨#[104, 111, 115, 116]⟩ (by decide); rw [show S (ByteArray.mk #[104, 111, 115, 116]).data.toList = true from hx] at hgt; obtain ⟨w3, hpt, hm3, hg3⟩ := (hm.alloc (.cells #[.map (some b)] 157)).run_put (by unfold maxLen; omega) ⟨#[104, 111, 115, 116]⟩ (by decide) true; have v0 := ((HV1.out.below_all hb2).alloc (.cells #[.map (some b)] 157)).cell (j := 0) rfl; have hz2 := hb2.size))
        | fail)
      have HM3 := Lib.hid (hm3.ext (HMH.out true (by rw [hx]; rfl)))
      have hbk := hm.lt
      have hbl1 : w.heap.size + 1 ≤ b := by have := heap_alloc_size w (.cells #[.bool false, .string mt, .string t, .int .i64 st, .string rs, .int .i64 mn, .slice A n c] 52); omega
      have hz21 : w.heap.size + 1 ≤ w2.heap.size := by have := heap_alloc_size w (.cells #[.bool false, .string mt, .string t, .int .i64 st, .string rs, .int .i64 mn, .slice A n c] 52); omega
      have Q3 := Lib.hid ((Var.new w2 157 [.map (some b)]).grown hg3 (by simp; omega))
      have V3 := Lib.hid (((HV1.out.below_all hb2).alloc (.cells #[.map (some b)] 157)).grown hg3 (by simp; omega))
      have B3 := Lib.hid (((HB1.out.trans (hb2.mono HB1.out.size)).alloc (by have := HB1.out.size; omega) (.cells #[.map (some b)] 157)).grown hg3 (by simp; have := HB1.out.size; omega) (fun x hx => by injection hx with hx; omega))
      have R3 := Lib.hid ((HR0.out.below B3.out).more B3.out.size)
      have v6 := V3.out.cell (j := 6) rfl
      have hz3 : w2.heap.size + 1 ≤ w3.heap.size := by (have := hg3.size; simpa using this)
      have hbz := hbl
      clear hgt hpt hm hm3 hg3 hb2 v0
      go_wp2_with (first
        | (go_at_call 118; go_must (refine (wclone_any A n c fs _ hA R3.out (by omega)).mono ?_; rintro _ w4 ⟨v4, rfl, hrow4, hb4⟩; have hr4 := hrow4; obtain ⟨A4, c4, rfl, _, _, _, _⟩ := hrow4.form; have hk4 := hr4.lt))
        | (go_at_call 117; go_must (refine (delF_any A4 n c4 w3.heap.size fs w2.heap.size b (k + 1) (mineK false fs) _ (Q3.out.below_all hb4) (HM3.out.below_all hb4) hr4 (fun g hg => ⟨by have := (hk4 g hg).1; omega, by have := (hk4 g hg).1; omega⟩) (by omega) hfs).mono ?_; rintro _ w5 ⟨rfl, hr5, hg5⟩))
        | fail)
      have HR5 := Lib.hid hr5
      have B5 := Lib.hid ((B3.out.trans (hb4.mono B3.out.size)).grown hg5 (by have := B3.out.size; have := hb4.size; omega) (fun x hx => by have := (hk4 x hx).1; have := B3.out.size; omega))
      clear hrow4 hr4 hb4 hk4 hr5 hg5 v6
      go_ret
      refine ⟨_, rfl, ?_, B5.out⟩
      exact HR5.out.mono B3.out.size
    · go_enter Tryz.func71, Tryz.ntmps71
      go_upto_region 3 with (first
        | (refine wpList_load_mid rfl 52 (.tmp 1) rfl w.heap.size 0 rfl [.bool true, .string mt, .string t, .int .i64 st, .string rs, .int .i64 mn, .slice A n c] _ HV1.out.range Tryz.underlying52 rfl (by kernel_rfl) ?_)
        | (go_at_call 116; go_must (refine HO.out.mono ?_; rintro _ w2 ⟨b, k, rfl, hbl, hk, hm, hb2⟩; have hgt := (hm.alloc (.cells #[.map (some b)] 157)).run_get ⟨#[104, 111, 115, 116]⟩ (by decide); rw [show S (ByteArray.mk #[104, 111, 115, 116]).data.toList = true from hx] at hgt; obtain ⟨w3, hpt, hm3, hg3⟩ := (hm.alloc (.cells #[.map (some b)] 157)).run_put (by unfold maxLen; omega) ⟨#[104, 111, 115, 116]⟩ (by decide) true; have v0 := ((HV1.out.below_all hb2).alloc (.cells #[.map (some b)] 157)).cell (j := 0) rfl; have hz2 := hb2.size))
        | fail)
      have HM3 := Lib.hid (hm3.ext (HMH.out true (by rw [hx]; rfl)))
      have hbk := hm.lt
      have hbl1 : w.heap.size + 1 ≤ b := by have := heap_alloc_size w (.cells #[.bool true, .string mt, .string t, .int .i64 st, .string rs, .int .i64 mn, .slice A n c] 52); omega
      have hz21 : w.heap.size + 1 ≤ w2.heap.size := by have := heap_alloc_size w (.cells #[.bool true, .string mt, .string t, .int .i64 st, .string rs, .int .i64 mn, .slice A n c] 52); omega
      have Q3 := Lib.hid ((Var.new w2 157 [.map (some b)]).grown hg3 (by simp; omega))
      have V3 := Lib.hid (((HV1.out.below_all hb2).alloc (.cells #[.map (some b)] 157)).grown hg3 (by simp; omega))
      have B3 := Lib.hid (((HB1.out.trans (hb2.mono HB1.out.size)).alloc (by have := HB1.out.size; omega) (.cells #[.map (some b)] 157)).grown hg3 (by simp; have := HB1.out.size; omega) (fun x hx => by injection hx with hx; omega))
      have R3 := Lib.hid ((HR0.out.below B3.out).more B3.out.size)
      have v6 := V3.out.cell (j := 6) rfl
      have hz3 : w2.heap.size + 1 ≤ w3.heap.size := by (have := hg3.size; simpa using this)
      have hbz := hbl
      clear hgt hpt hm hm3 hg3 hb2 v0
      go_wp2_with (first
        | (go_at_call 118; go_must (refine (wclone_any A n c fs _ hA R3.out (by omega)).mono ?_; rintro _ w4 ⟨v4, rfl, hrow4, hb4⟩; have hr4 := hrow4; obtain ⟨A4, c4, rfl, _, _, _, _⟩ := hrow4.form; have hk4 := hr4.lt))
        | (go_at_call 117; go_must (refine (delF_any A4 n c4 w3.heap.size fs w2.heap.size b (k + 1) (mineK true fs) _ (Q3.out.below_all hb4) (HM3.out.below_all hb4) hr4 (fun g hg => ⟨by have := (hk4 g hg).1; omega, by have := (hk4 g hg).1; omega⟩) (by omega) hfs).mono ?_; rintro _ w5 ⟨rfl, hr5, hg5⟩))
        | fail)
      have HR5 := Lib.hid hr5
      have B5 := Lib.hid ((B3.out.trans (hb4.mono B3.out.size)).grown hg5 (by have := B3.out.size; have := hb4.size; omega) (fun x hx => by have := (hk4 x hx).1; have := B3.out.size; omega))
      clear hrow4 hr4 hb4 hk4 hr5 hg5 v6
      go_ret
      refine ⟨_, rfl, ?_, B5.out⟩
      exact HR5.out.mono B3.out.size
end Go.Proofs.YtklmpadcfioefaaGreatDoor
