/- the reference's Parse: a block is read as just what 'parseP' says. Condition: the size. -/
import Derived.Test.YtklmpadcfioefaaGreatDoorParse
import Derived.Test.YtklmpadcfioefaaGreatDoorRFirst2
import Derived.Deep.RegionHeld3
import Derived.IntWalk
namespace Go.Proofs.YtklmpadcfioefaaGreatDoor
open Go.RowKit

theorem rfirst_none (s : ByteArray) (rq : Bool) (w : World) (hs : s.size ≤ 16777216) (h : firstP rq s.data.toList = none) :
    Calls Tryz.prog 96 #[.string s, .bool rq] w fun e w' => (∃ cs : List Value, cs.length = 7 ∧ (∀ u ∈ cs, u.oneCell' = true) ∧ e = .returned (.tuple #[.agg cs.toArray, .bool false])) ∧ Below w.heap.size w w' :=
  (rfirst_any s rq w hs).mono fun e w' h1 => by unfold RFirstPost at h1; rw [h] at h1; exact h1
theorem rfirst_some (s : ByteArray) (rq : Bool) (w : World) (hs : s.size ≤ 16777216) {h : Hd} (hh : firstP rq s.data.toList = some h) :
    Calls Tryz.prog 96 #[.string s, .bool rq] w fun e w' => e = .returned (.tuple #[.agg #[.bool h.rq, .string ⟨h.m.toArray⟩, .string ⟨h.t.toArray⟩, .int .i64 (h.st : Int), .string ⟨h.rs.toArray⟩, .int .i64 (h.mn : Int), .slice none 0 0], .bool true]) ∧ Below w.heap.size w w' :=
  (rfirst_any s rq w hs).mono fun e w' h1 => by unfold RFirstPost at h1; rw [hh] at h1; exact h1
theorem ended_drop (l : Bs) (h : 4 ≤ l.length) : endedP l = decide (l.drop (l.length - 4) = [13, 10, 13, 10]) := by
  rw [endedP, Lib.hasSuffix, Bool.eq_iff_iff, decide_eq_true_eq, List.isSuffixOf_iff_suffix]
  constructor
  · rintro ⟨a, rfl⟩
    simp
  · intro e
    exact ⟨l.take (l.length - 4), by rw [← e, List.take_append_drop]⟩
theorem ended_short (l : Bs) (h : l.length < 4) : endedP l = false := by
  rw [endedP, Lib.hasSuffix, Bool.eq_false_iff]
  intro e
  rw [List.isSuffixOf_iff_suffix] at e
  have := e.length_le
  simp at this
  omega



set_option maxHeartbeats 4000000 in
set_option maxRecDepth 100000 in
theorem rParse_any (A : Option Addr) (n c : Nat) (l : Bs) (rq : Bool) (w : World) (hnc : n ≤ c) (hcm : c ≤ maxLen) (hA : A = none → n = 0 ∧ c = 0) (hrd : Rd w w.heap.size 1 A n (bytesV l)) (hn : n ≤ 16777216) :
    Calls Tryz.prog 61 #[.slice A n c, .bool rq] w (ParsePost w rq l) := by
  have hlen : l.length = n := by have := hrd.1; rw [bytesV_len] at this; omega
  unfold ParsePost
  go_enter Tryz.func61, Tryz.ntmps61
  have hx0 := Var.new w 52 [.bool false, .string ⟨#[]⟩, .string ⟨#[]⟩, .int .i64 0, .string ⟨#[]⟩, .int .i64 0, .slice none 0 0]
  have hb0 : Below w.heap.size w (w.alloc (.cells #[.bool false, .string ⟨#[]⟩, .string ⟨#[]⟩, .int .i64 0, .string ⟨#[]⟩, .int .i64 0, .slice none 0 0] 52)) := (Below.refl _ _).alloc (Nat.le_refl _) _
  have hrd0 := (hrd.alloc (Nat.le_refl _) (.cells #[.bool false, .string ⟨#[]⟩, .string ⟨#[]⟩, .int .i64 0, .string ⟨#[]⟩, .int .i64 0, .slice none 0 0] 52)).more (B' := (w.alloc (.cells #[.bool false, .string ⟨#[]⟩, .string ⟨#[]⟩, .int .i64 0, .string ⟨#[]⟩, .int .i64 0, .slice none 0 0] 52)).heap.size) (by simp)
  go_upto_region 2 with (go_at_call 60; go_must (refine (rLines_any A n c l _ hnc hcm hA hrd0 hn).mono ?_; rintro _ w1 ⟨v1, ps, rfl, hps, hrow, hb1⟩; obtain ⟨A1, c1, rfl, hkc, _, _, hr1⟩ := hrow.form))
  have HX1 := Lib.hid (hx0.below_all hb1)
  have hs0 : (w.alloc (.cells #[.bool false, .string ⟨#[]⟩, .string ⟨#[]⟩, .int .i64 0, .string ⟨#[]⟩, .int .i64 0, .slice none 0 0] 52)).heap.size = w.heap.size + 1 := by simp
  have B1 : Below w.heap.size w w1 := hb0.trans (hb1.mono (by omega))
  have HB1 := Lib.hid B1
  have hrdl := hrd.below B1
  have hz1 := B1.size
  obtain ⟨p0, fs, rfl⟩ : ∃ p0 fs, ps = p0 :: fs := by
    cases ps with
    | nil => exact absurd hps.symm (by simpa using lines_ne l [])
    | cons p0 fs => exact ⟨p0, fs, rfl⟩
  obtain ⟨g, o, rfl, hg, hcell⟩ := hr1.2 (by simp)
  have cp0 : w1.cell? ⟨g, o, none⟩ = some (.string p0) := hcell 0 _ rfl
  have HC : Hid (∀ j (h : j < fs.length), w1.cell? ⟨g, o + (j + 1), none⟩ = some (.string fs[j])) := Lib.hid (fun j h => hcell (j + 1) _ (by simp [strsV, h]))
  have HP := Lib.hid hps
  have hpn : fs.length ≤ n := by
    have := congrArg List.length hps
    have h2 := lines_len l []
    simp at this
    omega
  have hgb : w.heap.size < g := by
    have := (hrow.lt g rfl).1
    omega
  simp only [List.length_cons] at hkc ⊢
  clear hx0 hb0 hrd0 hb1 hcell hps hrow hr1 B1 hs0
  have HQ0 : Hid (parseP l rq = hdB rq l n p0 (bodyB fs)) := Lib.hid (by rw [← hlen]; exact parseP_of HP.out)
  by_cases q0 : 4096 < p0.size
  · have HPP : Hid (parseP l rq = ({}, 221)) := Lib.hid (by rw [HQ0.out, hdB, if_pos q0])
    go_wp2_with (first
      | (refine wpList_put rfl 52 (.tmp 4) (.tmp 22) rfl w.heap.size rfl HX1.out [.bool false, .string ⟨#[]⟩, .string ⟨#[]⟩, .int .i64 0, .string ⟨#[]⟩, .int .i64 0, .slice none 0 0] rfl rfl (by kernel_rfl) (by simp [Value.oneCell']) ?_; intro w9 hv9 hg9 hs9)
      | fail)
    refine bodyPost_ret (results_var rfl _ _ rfl hv9 Tryz.underlying52 rfl (by kernel_rfl)) rfl ⟨.slice none 0 0, ?_, ?_, ?_⟩
    · rw [HPP.out]; rfl
    · rw [HPP.out]; exact Row.nil _ _ _
    · exact Below.grown HB1.out hg9 HB1.out.size (by intro k hk; simp at hk; omega)
  · go_upto_region 4 with (fail)
    go_cut [7] (fun v7 wx => v7 = .bool (endedP l) ∧ w1 = wx)
    case first =>
      by_cases h4 : 4 ≤ n
      · obtain ⟨m, rfl⟩ : ∃ m, n = m + 4 := ⟨n - 4, by omega⟩
        obtain ⟨ga, oa, rfl, _, _⟩ := hrdl.2 (by omega)
        obtain ⟨sd, hsd⟩ : ∃ sd : ByteArray, sd = ⟨(cur l m (m + 4)).toArray⟩ := ⟨_, rfl⟩
        have hcv : (convert 26 9 (.slice (some ⟨ga, oa + m, none⟩) 4 (c - m))).run Tryz.prog w1 = .ok (.string sd) w1 := by
          have h := part_str hrdl m (m + 4) (by omega) (Nat.le_refl _) (by omega) hnc
          rw [← hsd, show m + 4 - m = 4 by omega] at h
          exact h
        have HE : Hid (endedP l = (sd.toList == [13, 10, 13, 10])) := Lib.hid (by
          have e1 : sd.data.toList = l.drop m := by
            rw [hsd]
            show cur l m (m + 4) = _
            rw [cur, List.take_of_length_le (by rw [List.length_drop]; omega)]
          rw [ended_drop l (by omega), ByteArray.toList_eq, e1, hlen, Nat.add_sub_cancel, Bool.eq_iff_iff]
          simp)
        clear hsd
        go_wp2
        all_goals go_meet
        all_goals exact ⟨by (first | (rw [HE.out]; done) | (rw [HE.out]; simp [*])), rfl⟩
      · have HE : Hid (endedP l = false) := Lib.hid (ended_short l (by omega))
        have h4' : ¬ (4 : Int) ≤ (n : Int) := by omega
        go_wp2
        all_goals go_meet
        all_goals exact ⟨by rw [HE.out], rfl⟩
    case rest =>
      obtain ⟨rfl, rfl⟩ := hcut
      obtain ⟨k, hk⟩ : ∃ k, k = fs.length := ⟨_, rfl⟩
      rw [← hk] at hpn hkc ⊢
      have HK := Lib.hid hk
      clear hk
      have HEN : Hid (endedP l = true ↔ twoB fs) := Lib.hid ((ended_iff l).trans (by rw [← HP.out]; exact two_map fs))
      generalize hen : endedP l = en
      have HEN2 := Lib.hid hen
      clear hen
      cases k with
      | zero =>
        have hfs : fs = [] := List.eq_nil_of_length_eq_zero HK.out.symm
        subst hfs
        have hen0 : en = false := by
          cases en with
          | false => rfl
          | true => exact absurd (HEN.out.1 HEN2.out).1 (by simp)
        subst hen0
        have HB0 : Hid (bodyB [] = []) := Lib.hid (by unfold bodyB twoB oneB; simp)
        have HQ : Hid (parseP l rq = hdB rq l n p0 []) := Lib.hid (by rw [HQ0.out, HB0.out])
        have hp0 : p0.size ≤ 16777216 := by omega
        by_cases q1 : 16384 < n
        · have HPP : Hid (parseP l rq = ({}, 222)) := Lib.hid (by rw [HQ.out, hdB, if_neg q0, if_pos (Or.inl q1)])
          by_cases hc1 : c1 = 1
          · subst hc1
            go_wp2_with (first
              | (refine wpList_put rfl 52 (.tmp 4) (.tmp 68) rfl w.heap.size rfl (HX1.out) [.bool false, .string ⟨#[]⟩, .string ⟨#[]⟩, .int .i64 0, .string ⟨#[]⟩, .int .i64 0, .slice none 0 0] rfl rfl (by kernel_rfl) (by simp [Value.oneCell']) ?_; intro w9 hv9 hg9 hs9)
              | fail)
            refine bodyPost_ret (results_var rfl _ _ rfl hv9 Tryz.underlying52 rfl (by kernel_rfl)) rfl ⟨.slice none 0 0, ?_, ?_, ?_⟩
            · rw [HPP.out]; rfl
            · rw [HPP.out]; exact Row.nil _ _ _
            · exact Below.grown (HB1.out) hg9 (HB1.out).size (by intro k hk; simp at hk; omega)
          · have hc1' : ¬ (c1 : Int) = 1 := by omega
            go_wp2_with (first
              | (refine wpList_put rfl 52 (.tmp 4) (.tmp 68) rfl w.heap.size rfl (HX1.out) [.bool false, .string ⟨#[]⟩, .string ⟨#[]⟩, .int .i64 0, .string ⟨#[]⟩, .int .i64 0, .slice none 0 0] rfl rfl (by kernel_rfl) (by simp [Value.oneCell']) ?_; intro w9 hv9 hg9 hs9)
              | fail)
            refine bodyPost_ret (results_var rfl _ _ rfl hv9 Tryz.underlying52 rfl (by kernel_rfl)) rfl ⟨.slice none 0 0, ?_, ?_, ?_⟩
            · rw [HPP.out]; rfl
            · rw [HPP.out]; exact Row.nil _ _ _
            · exact Below.grown (HB1.out) hg9 (HB1.out).size (by intro k hk; simp at hk; omega)
        · have HPP : Hid (parseP l rq = ({}, 220)) := Lib.hid (by
            rw [HQ.out, hdB, if_neg q0, if_neg (by rintro (x | x | x); exact q1 x; exact absurd x (by simp); exact absurd x (by simp [anyLong])), if_pos HEN2.out])
          by_cases hc1 : c1 = 1
          · subst hc1
            go_wp2
            go_loop [9] (fun i => i = .int .i64 0) (fun _ => 0)
            case atStart => rfl
            case round =>
              subst hrel
              cases hfi : firstP rq p0.data.toList with
              | none =>
                have HFI := Lib.hid hfi
                clear hfi
                go_wp2_with (first
                  | (go_at_call 96; go_must (refine (rfirst_none p0 rq _ hp0 HFI.out).mono ?_; rintro _ w3 ⟨⟨cs, hcl, hco, rfl⟩, hb3⟩; have hsz3 := hb3.size; have HCO := Lib.hid hco; clear hco))
                  | (refine wpList_put rfl 52 (.tmp 10) (.tmp 88) rfl w3.heap.size rfl (Var.new w3 52 [.bool false, .string ⟨#[]⟩, .string ⟨#[]⟩, .int .i64 0, .string ⟨#[]⟩, .int .i64 0, .slice none 0 0]) cs rfl hcl (by rw [hcl]; kernel_rfl) HCO.out ?_; intro w4 hv4 hg4 hs4; have hx4 := Lib.hid (((HX1.out.below_all hb3).alloc (.cells #[.bool false, .string ⟨#[]⟩, .string ⟨#[]⟩, .int .i64 0, .string ⟨#[]⟩, .int .i64 0, .slice none 0 0] 52)).grown hg4 (by simp; omega)); have HB4 : Hid (Below w.heap.size w w4) := Lib.hid (Below.grown ((HB1.out.trans (hb3.mono (by omega))).alloc (by omega) _) hg4 (by simp; omega) (by intro k hk; simp at hk; omega)))
                  | (refine wpList_put rfl 52 (.tmp 4) (.tmp 96) rfl w.heap.size rfl (hx4.out) [.bool false, .string ⟨#[]⟩, .string ⟨#[]⟩, .int .i64 0, .string ⟨#[]⟩, .int .i64 0, .slice none 0 0] rfl rfl (by kernel_rfl) (by simp [Value.oneCell']) ?_; intro w9 hv9 hg9 hs9)
                  | fail)
                refine bodyPost_ret (results_var rfl _ _ rfl hv9 Tryz.underlying52 rfl (by kernel_rfl)) rfl ⟨.slice none 0 0, ?_, ?_, ?_⟩
                · rw [HPP.out]; rfl
                · rw [HPP.out]; exact Row.nil _ _ _
                · exact Below.grown (HB4.out) hg9 (HB4.out).size (by intro k hk; simp at hk; omega)
              | some h =>
                have HFI := Lib.hid hfi
                clear hfi
                go_wp2_with (first
                  | (go_at_call 96; go_must (refine (rfirst_some p0 rq _ hp0 HFI.out).mono ?_; rintro _ w3 ⟨rfl, hb3⟩; have hsz3 := hb3.size))
                  | (refine wpList_put rfl 52 (.tmp 10) (.tmp 88) rfl w3.heap.size rfl (Var.new w3 52 [.bool false, .string ⟨#[]⟩, .string ⟨#[]⟩, .int .i64 0, .string ⟨#[]⟩, .int .i64 0, .slice none 0 0]) [.bool h.rq, .string ⟨h.m.toArray⟩, .string ⟨h.t.toArray⟩, .int .i64 (h.st : Int), .string ⟨h.rs.toArray⟩, .int .i64 (h.mn : Int), .slice none 0 0] rfl rfl (by kernel_rfl) (by simp [Value.oneCell']) ?_; intro w4 hv4 hg4 hs4; have hx4 := Lib.hid (((HX1.out.below_all hb3).alloc (.cells #[.bool false, .string ⟨#[]⟩, .string ⟨#[]⟩, .int .i64 0, .string ⟨#[]⟩, .int .i64 0, .slice none 0 0] 52)).grown hg4 (by simp; omega)); have HB4 : Hid (Below w.heap.size w w4) := Lib.hid (Below.grown ((HB1.out.trans (hb3.mono (by omega))).alloc (by omega) _) hg4 (by simp; omega) (by intro k hk; simp at hk; omega)))
                  | (refine wpList_put rfl 52 (.tmp 4) (.tmp 96) rfl w.heap.size rfl (hx4.out) [.bool false, .string ⟨#[]⟩, .string ⟨#[]⟩, .int .i64 0, .string ⟨#[]⟩, .int .i64 0, .slice none 0 0] rfl rfl (by kernel_rfl) (by simp [Value.oneCell']) ?_; intro w9 hv9 hg9 hs9)
                  | fail)
                refine bodyPost_ret (results_var rfl _ _ rfl hv9 Tryz.underlying52 rfl (by kernel_rfl)) rfl ⟨.slice none 0 0, ?_, ?_, ?_⟩
                · rw [HPP.out]; rfl
                · rw [HPP.out]; exact Row.nil _ _ _
                · exact Below.grown (HB4.out) hg9 (HB4.out).size (by intro k hk; simp at hk; omega)
          · have hc1' : ¬ (c1 : Int) = 1 := by omega
            go_wp2
            go_loop [9] (fun i => i = .int .i64 0) (fun _ => 0)
            case atStart => rfl
            case round =>
              subst hrel
              cases hfi : firstP rq p0.data.toList with
              | none =>
                have HFI := Lib.hid hfi
                clear hfi
                go_wp2_with (first
                  | (go_at_call 96; go_must (refine (rfirst_none p0 rq _ hp0 HFI.out).mono ?_; rintro _ w3 ⟨⟨cs, hcl, hco, rfl⟩, hb3⟩; have hsz3 := hb3.size; have HCO := Lib.hid hco; clear hco))
                  | (refine wpList_put rfl 52 (.tmp 10) (.tmp 88) rfl w3.heap.size rfl (Var.new w3 52 [.bool false, .string ⟨#[]⟩, .string ⟨#[]⟩, .int .i64 0, .string ⟨#[]⟩, .int .i64 0, .slice none 0 0]) cs rfl hcl (by rw [hcl]; kernel_rfl) HCO.out ?_; intro w4 hv4 hg4 hs4; have hx4 := Lib.hid (((HX1.out.below_all hb3).alloc (.cells #[.bool false, .string ⟨#[]⟩, .string ⟨#[]⟩, .int .i64 0, .string ⟨#[]⟩, .int .i64 0, .slice none 0 0] 52)).grown hg4 (by simp; omega)); have HB4 : Hid (Below w.heap.size w w4) := Lib.hid (Below.grown ((HB1.out.trans (hb3.mono (by omega))).alloc (by omega) _) hg4 (by simp; omega) (by intro k hk; simp at hk; omega)))
                  | (refine wpList_put rfl 52 (.tmp 4) (.tmp 96) rfl w.heap.size rfl (hx4.out) [.bool false, .string ⟨#[]⟩, .string ⟨#[]⟩, .int .i64 0, .string ⟨#[]⟩, .int .i64 0, .slice none 0 0] rfl rfl (by kernel_rfl) (by simp [Value.oneCell']) ?_; intro w9 hv9 hg9 hs9)
                  | fail)
                refine bodyPost_ret (results_var rfl _ _ rfl hv9 Tryz.underlying52 rfl (by kernel_rfl)) rfl ⟨.slice none 0 0, ?_, ?_, ?_⟩
                · rw [HPP.out]; rfl
                · rw [HPP.out]; exact Row.nil _ _ _
                · exact Below.grown (HB4.out) hg9 (HB4.out).size (by intro k hk; simp at hk; omega)
              | some h =>
                have HFI := Lib.hid hfi
                clear hfi
                go_wp2_with (first
                  | (go_at_call 96; go_must (refine (rfirst_some p0 rq _ hp0 HFI.out).mono ?_; rintro _ w3 ⟨rfl, hb3⟩; have hsz3 := hb3.size))
                  | (refine wpList_put rfl 52 (.tmp 10) (.tmp 88) rfl w3.heap.size rfl (Var.new w3 52 [.bool false, .string ⟨#[]⟩, .string ⟨#[]⟩, .int .i64 0, .string ⟨#[]⟩, .int .i64 0, .slice none 0 0]) [.bool h.rq, .string ⟨h.m.toArray⟩, .string ⟨h.t.toArray⟩, .int .i64 (h.st : Int), .string ⟨h.rs.toArray⟩, .int .i64 (h.mn : Int), .slice none 0 0] rfl rfl (by kernel_rfl) (by simp [Value.oneCell']) ?_; intro w4 hv4 hg4 hs4; have hx4 := Lib.hid (((HX1.out.below_all hb3).alloc (.cells #[.bool false, .string ⟨#[]⟩, .string ⟨#[]⟩, .int .i64 0, .string ⟨#[]⟩, .int .i64 0, .slice none 0 0] 52)).grown hg4 (by simp; omega)); have HB4 : Hid (Below w.heap.size w w4) := Lib.hid (Below.grown ((HB1.out.trans (hb3.mono (by omega))).alloc (by omega) _) hg4 (by simp; omega) (by intro k hk; simp at hk; omega)))
                  | (refine wpList_put rfl 52 (.tmp 4) (.tmp 96) rfl w.heap.size rfl (hx4.out) [.bool false, .string ⟨#[]⟩, .string ⟨#[]⟩, .int .i64 0, .string ⟨#[]⟩, .int .i64 0, .slice none 0 0] rfl rfl (by kernel_rfl) (by simp [Value.oneCell']) ?_; intro w9 hv9 hg9 hs9)
                  | fail)
                refine bodyPost_ret (results_var rfl _ _ rfl hv9 Tryz.underlying52 rfl (by kernel_rfl)) rfl ⟨.slice none 0 0, ?_, ?_, ?_⟩
                · rw [HPP.out]; rfl
                · rw [HPP.out]; exact Row.nil _ _ _
                · exact Below.grown (HB4.out) hg9 (HB4.out).size (by intro k hk; simp at hk; omega)
      | succ m =>
        go_upto_if 37 with (fail)
        go_cut [8] (fun v8 wx => w1 = wx ∧ ∃ c7, v8 = .slice (some ⟨g, o + 1, none⟩) (bodyB fs).length c7)
        case first =>
          have hk := HK.out
          cases en
          rotate_left
          · have h2 : twoB fs := HEN.out.1 HEN2.out
            have HL : Hid ((bodyB fs).length = m + 1 - 2) := Lib.hid (by unfold bodyB; rw [if_pos h2, List.length_take]; omega)
            have h2' : 2 ≤ m + 1 := by rw [hk]; exact h2.1
            clear hk h2
            cases m with
            | zero => omega
            | succ m =>
              go_wp2
              all_goals go_meet
              all_goals exact ⟨rfl, _, by rw [HL.out] <;> rfl⟩
          · have h2 : ¬ twoB fs := fun x => by have h3 := HEN.out.2 x; rw [HEN2.out] at h3; cases h3
            have c2 := HC.out m (by omega)
            have g2 : w1.cell? ⟨g, o + 1 + m, none⟩ = some (.string (fs[m]'(by omega))) := by rw [show o + 1 + m = o + (m + 1) by omega]; exact c2
            clear c2
            by_cases h1 : fs[m]'(by omega) = ⟨#[]⟩
            · have HL : Hid ((bodyB fs).length = m) := Lib.hid (by
                unfold bodyB
                rw [if_neg h2, if_pos (show oneB fs from ⟨by omega, by rw [← hk, show m + 1 - 1 = m by omega, List.getElem?_eq_getElem (by omega), h1]⟩), List.length_take]
                omega)
              rw [h1] at g2
              clear hk h2 h1
              go_wp2
              all_goals go_meet
              all_goals exact ⟨rfl, _, by rw [HL.out] <;> rfl⟩
            · have HL : Hid ((bodyB fs).length = m + 1) := Lib.hid (by
                unfold bodyB
                rw [if_neg h2, if_neg (show ¬ oneB fs from fun x => h1 (by
                  have := x.2
                  rw [← hk, show m + 1 - 1 = m by omega, List.getElem?_eq_getElem (by omega), Option.some.injEq] at this
                  exact this))]
                omega)
              have he : ((fs[m]'(by omega)).toList == []) = false := by rw [empty_iff]; simpa using h1
              generalize fs[m]'(by omega) = s1 at g2 he
              clear hk h2 h1
              go_wp2
              all_goals go_meet
              all_goals exact ⟨rfl, _, by rw [HL.out] <;> rfl⟩
        case rest =>
          obtain ⟨rfl, c7, rfl⟩ := hcut
          have HQ : Hid (parseP l rq = hdB rq l n p0 (bodyB fs)) := HQ0
          obtain ⟨kb, hkb, hbe⟩ := bodyB_pre fs
          have hbl : (bodyB fs).length ≤ m + 1 := by rw [hbe, List.length_take]; have := HK.out; omega
          have HBC : Hid (∀ j (h : j < (bodyB fs).length), w1.cell? ⟨g, o + 1 + j, none⟩ = some (.string (bodyB fs)[j])) := Lib.hid (fun j h => by
            have hj : j < fs.length := by rw [hbe, List.length_take] at h; omega
            have := HC.out j hj
            rw [show o + 1 + j = o + (j + 1) by omega, this]
            simp only [hbe, List.getElem_take])
          clear hkb hbe HQ0
          generalize bodyB fs = body at *
          by_cases q1 : 16384 < n
          · have HPP : Hid (parseP l rq = ({}, 222)) := Lib.hid (by rw [HQ.out, hdB, if_neg q0, if_pos (Or.inl q1)])
            go_wp2_with (first
              | (refine wpList_put rfl 52 (.tmp 4) (.tmp 68) rfl w.heap.size rfl (HX1.out) [.bool false, .string ⟨#[]⟩, .string ⟨#[]⟩, .int .i64 0, .string ⟨#[]⟩, .int .i64 0, .slice none 0 0] rfl rfl (by kernel_rfl) (by simp [Value.oneCell']) ?_; intro w9 hv9 hg9 hs9)
              | fail)
            refine bodyPost_ret (results_var rfl _ _ rfl hv9 Tryz.underlying52 rfl (by kernel_rfl)) rfl ⟨.slice none 0 0, ?_, ?_, ?_⟩
            · rw [HPP.out]; rfl
            · rw [HPP.out]; exact Row.nil _ _ _
            · exact Below.grown (HB1.out) hg9 (HB1.out).size (by intro k hk; simp at hk; omega)
          · by_cases q2 : 64 < body.length
            · have HPP : Hid (parseP l rq = ({}, 222)) := Lib.hid (by rw [HQ.out, hdB, if_neg q0, if_pos (Or.inr (Or.inl q2))])
              go_wp2_with (first
                | (refine wpList_put rfl 52 (.tmp 4) (.tmp 68) rfl w.heap.size rfl (HX1.out) [.bool false, .string ⟨#[]⟩, .string ⟨#[]⟩, .int .i64 0, .string ⟨#[]⟩, .int .i64 0, .slice none 0 0] rfl rfl (by kernel_rfl) (by simp [Value.oneCell']) ?_; intro w9 hv9 hg9 hs9)
                | fail)
              refine bodyPost_ret (results_var rfl _ _ rfl hv9 Tryz.underlying52 rfl (by kernel_rfl)) rfl ⟨.slice none 0 0, ?_, ?_, ?_⟩
              · rw [HPP.out]; rfl
              · rw [HPP.out]; exact Row.nil _ _ _
              · exact Below.grown (HB1.out) hg9 (HB1.out).size (by intro k hk; simp at hk; omega)
            · have HQL : Hid (∀ q (hq : q < body.length), 4096 < body[q].size → parseP l rq = ({}, 222)) := Lib.hid (fun q hq h => by
                rw [HQ.out, hdB, if_neg q0, if_pos (Or.inr (Or.inr (show anyLong body = true from List.any_eq_true.2 ⟨_, List.getElem_mem hq, by simpa using h⟩)))])
              go_wp2
              go_loop [9] (fun i => ∃ j : Nat, j ≤ body.length ∧ i = .int .i64 j ∧ (∀ q (hq : q < body.length), q < j → ¬ 4096 < body[q].size)) (fun i => body.length - (intOf i).toNat)
              case atStart => exact ⟨0, Nat.zero_le _, rfl, fun q hq h => absurd h (by omega)⟩
              case round =>
                obtain ⟨j, hj, rfl, hall⟩ := hrel
                have HA := Lib.hid hall
                clear hall
                by_cases hlt : j < body.length
                · have cj := HBC.out j hlt
                  by_cases hl : 4096 < body[j].size
                  · have HPP : Hid (parseP l rq = ({}, 222)) := Lib.hid (HQL.out j hlt hl)
                    go_wp2_with (first
                      | (refine wpList_put rfl 52 (.tmp 4) (.tmp 81) rfl w.heap.size rfl (HX1.out) [.bool false, .string ⟨#[]⟩, .string ⟨#[]⟩, .int .i64 0, .string ⟨#[]⟩, .int .i64 0, .slice none 0 0] rfl rfl (by kernel_rfl) (by simp [Value.oneCell']) ?_; intro w9 hv9 hg9 hs9)
                      | fail)
                    refine bodyPost_ret (results_var rfl _ _ rfl hv9 Tryz.underlying52 rfl (by kernel_rfl)) rfl ⟨.slice none 0 0, ?_, ?_, ?_⟩
                    · rw [HPP.out]; rfl
                    · rw [HPP.out]; exact Row.nil _ _ _
                    · exact Below.grown (HB1.out) hg9 (HB1.out).size (by intro k hk; simp at hk; omega)
                  · have HN : Hid (∀ q (hq : q < body.length), q < j + 1 → ¬ 4096 < body[q].size) := Lib.hid (fun q hq h => by
                      by_cases e : q = j
                      · subst e; exact hl
                      · exact HA.out q hq (by omega))
                    go_wp2
                    go_round
                    case rel => exact ⟨j + 1, by omega, by go_num, HN.out⟩
                    case measure => simp [intOf]; omega
                · have hnl : anyLong body = false := by
                    unfold anyLong
                    rw [List.any_eq_false]
                    intro s hs
                    obtain ⟨q, hq, rfl⟩ := List.getElem_of_mem hs
                    simpa using HA.out q hq (by omega)
                  have hno : ¬ (16384 < n ∨ 64 < body.length ∨ anyLong body = true) := by rintro (x | x | x); exact q1 x; exact q2 x; rw [hnl] at x; cases x
                  have HNL : Hid (∀ j (hj : j < body.length), body[j].size ≤ 4096) := Lib.hid (notLong hnl)
                  have hp0 : p0.size ≤ 16777216 := by omega
                  cases hfi : firstP rq p0.data.toList with
                  | none =>
                    have HPP : Hid (parseP l rq = ({}, 220)) := Lib.hid (by
                      rw [HQ.out, hdB, if_neg q0, if_neg hno]
                      by_cases he : endedP l = false
                      · rw [if_pos he]
                      · rw [if_neg he, hfi])
                    have HFI := Lib.hid hfi
                    clear hnl hno hfi
                    cases en
                    all_goals
                      go_wp2_with (first
                        | (go_at_call 96; go_must (refine (rfirst_none p0 rq _ hp0 HFI.out).mono ?_; rintro _ w3 ⟨⟨cs, hcl, hco, rfl⟩, hb3⟩; have hsz3 := hb3.size; have HCO := Lib.hid hco; clear hco))
                        | (refine wpList_put rfl 52 (.tmp 10) (.tmp 88) rfl w3.heap.size rfl (Var.new w3 52 [.bool false, .string ⟨#[]⟩, .string ⟨#[]⟩, .int .i64 0, .string ⟨#[]⟩, .int .i64 0, .slice none 0 0]) cs rfl hcl (by rw [hcl]; kernel_rfl) HCO.out ?_; intro w4 hv4 hg4 hs4; have hx4 := Lib.hid (((HX1.out.below_all hb3).alloc (.cells #[.bool false, .string ⟨#[]⟩, .string ⟨#[]⟩, .int .i64 0, .string ⟨#[]⟩, .int .i64 0, .slice none 0 0] 52)).grown hg4 (by simp; omega)); have HB4 : Hid (Below w.heap.size w w4) := Lib.hid (Below.grown ((HB1.out.trans (hb3.mono (by omega))).alloc (by omega) _) hg4 (by simp; omega) (by intro k hk; simp at hk; omega)))
                        | (refine wpList_put rfl 52 (.tmp 4) (.tmp 96) rfl w.heap.size rfl (hx4.out) [.bool false, .string ⟨#[]⟩, .string ⟨#[]⟩, .int .i64 0, .string ⟨#[]⟩, .int .i64 0, .slice none 0 0] rfl rfl (by kernel_rfl) (by simp [Value.oneCell']) ?_; intro w9 hv9 hg9 hs9)
                        | fail)
                      refine bodyPost_ret (results_var rfl _ _ rfl hv9 Tryz.underlying52 rfl (by kernel_rfl)) rfl ⟨.slice none 0 0, ?_, ?_, ?_⟩
                      · rw [HPP.out]; rfl
                      · rw [HPP.out]; exact Row.nil _ _ _
                      · exact Below.grown (HB4.out) hg9 (HB4.out).size (by intro k hk; simp at hk; omega)
                  | some h =>
                    cases en
                    · have HPP : Hid (parseP l rq = ({}, 220)) := Lib.hid (by rw [HQ.out, hdB, if_neg q0, if_neg hno, if_pos HEN2.out])
                      have HFI := Lib.hid hfi
                      clear hnl hno hfi
                      go_wp2_with (first
                        | (go_at_call 96; go_must (refine (rfirst_some p0 rq _ hp0 HFI.out).mono ?_; rintro _ w3 ⟨rfl, hb3⟩; have hsz3 := hb3.size))
                        | (refine wpList_put rfl 52 (.tmp 10) (.tmp 88) rfl w3.heap.size rfl (Var.new w3 52 [.bool false, .string ⟨#[]⟩, .string ⟨#[]⟩, .int .i64 0, .string ⟨#[]⟩, .int .i64 0, .slice none 0 0]) [.bool h.rq, .string ⟨h.m.toArray⟩, .string ⟨h.t.toArray⟩, .int .i64 (h.st : Int), .string ⟨h.rs.toArray⟩, .int .i64 (h.mn : Int), .slice none 0 0] rfl rfl (by kernel_rfl) (by simp [Value.oneCell']) ?_; intro w4 hv4 hg4 hs4; have hx4 := Lib.hid (((HX1.out.below_all hb3).alloc (.cells #[.bool false, .string ⟨#[]⟩, .string ⟨#[]⟩, .int .i64 0, .string ⟨#[]⟩, .int .i64 0, .slice none 0 0] 52)).grown hg4 (by simp; omega)); have HB4 : Hid (Below w.heap.size w w4) := Lib.hid (Below.grown ((HB1.out.trans (hb3.mono (by omega))).alloc (by omega) _) hg4 (by simp; omega) (by intro k hk; simp at hk; omega)))
                        | (refine wpList_put rfl 52 (.tmp 4) (.tmp 96) rfl w.heap.size rfl (hx4.out) [.bool false, .string ⟨#[]⟩, .string ⟨#[]⟩, .int .i64 0, .string ⟨#[]⟩, .int .i64 0, .slice none 0 0] rfl rfl (by kernel_rfl) (by simp [Value.oneCell']) ?_; intro w9 hv9 hg9 hs9)
                        | fail)
                      refine bodyPost_ret (results_var rfl _ _ rfl hv9 Tryz.underlying52 rfl (by kernel_rfl)) rfl ⟨.slice none 0 0, ?_, ?_, ?_⟩
                      · rw [HPP.out]; rfl
                      · rw [HPP.out]; exact Row.nil _ _ _
                      · exact Below.grown (HB4.out) hg9 (HB4.out).size (by intro k hk; simp at hk; omega)
                    · have HFI := Lib.hid hfi
                      have HQ2 : Hid (parseP l rq = if ∀ s ∈ body, (fieldP s.data.toList).isSome = true then ({ h with fs := (body.map (·.data.toList)).filterMap fieldP }, 0) else ({}, 220)) := Lib.hid (by
                        have he : ¬ endedP l = false := by rw [HEN2.out]; simp
                        rw [HQ.out, hdB, if_neg q0, if_neg hno, if_neg he, hfi])
                      clear hnl hno hfi
                      obtain ⟨j0, hj0, jz0, jz1, jz2⟩ := info_parts infoField
                      go_wp2_with (first
                        | (go_at_call 96; go_must (refine (rfirst_some p0 rq _ hp0 HFI.out).mono ?_; rintro _ w3 ⟨rfl, hb3⟩; have hsz3 := hb3.size))
                        | (refine wpList_put rfl 52 (.tmp 10) (.tmp 88) rfl w3.heap.size rfl (Var.new w3 52 [.bool false, .string ⟨#[]⟩, .string ⟨#[]⟩, .int .i64 0, .string ⟨#[]⟩, .int .i64 0, .slice none 0 0]) [.bool h.rq, .string ⟨h.m.toArray⟩, .string ⟨h.t.toArray⟩, .int .i64 (h.st : Int), .string ⟨h.rs.toArray⟩, .int .i64 (h.mn : Int), .slice none 0 0] rfl rfl (by kernel_rfl) (by simp [Value.oneCell']) ?_; intro w4 hv4 hg4 hs4; have hx4 := Lib.hid (((HX1.out.below_all hb3).alloc (.cells #[.bool false, .string ⟨#[]⟩, .string ⟨#[]⟩, .int .i64 0, .string ⟨#[]⟩, .int .i64 0, .slice none 0 0] 52)).grown hg4 (by simp; omega)); have HB4 : Hid (Below w.heap.size w w4) := Lib.hid (Below.grown ((HB1.out.trans (hb3.mono (by omega))).alloc (by omega) _) hg4 (by simp; omega) (by intro k hk; simp at hk; omega)); have HB14 : Hid (Below w1.heap.size w1 w4) := Lib.hid (Below.grown (hb3.alloc (by omega) _) hg4 (by simp; omega) (by intro k hk; simp at hk; omega)))
                        | fail)
                      have HBC4 : Hid (∀ j (hj : j < body.length), w4.cell? ⟨g, o + 1 + j, none⟩ = some (.string body[j])) := Lib.hid (fun j hj => (HB14.out.cell (by show g < _; omega)).trans (HBC.out j hj))
                      have hs4' : w4.heap.size = w3.heap.size + 1 := by simpa using hs4
                      have HV4 := Lib.hid hv4
                      have hg3 : g < w3.heap.size := by omega
                      clear hg4 hs4 hv4 cp0
                      go_loopw [12] (fun i wr => ∃ (j : Nat) (v : Value), j ≤ body.length ∧ i = .int .i64 j ∧ (∀ q (hq : q < body.length), q < j → (fieldP body[q].data.toList).isSome = true) ∧ Var wr w3.heap.size 52 [.bool h.rq, .string ⟨h.m.toArray⟩, .string ⟨h.t.toArray⟩, .int .i64 (h.st : Int), .string ⟨h.rs.toArray⟩, .int .i64 (h.mn : Int), v] ∧
                        Row wr (w3.heap.size + 1) 2 v (parts body j).length (fieldsV (flB (parts body j))) ∧ Below w3.heap.size w4 wr ∧ w3.heap.size + 1 ≤ wr.heap.size) (fun i _ => body.length - (intOf i).toNat)
                      case atStart => exact ⟨0, .slice none 0 0, Nat.zero_le _, rfl, (fun q hq h0 => absurd h0 (by omega)), HV4.out, Row.nil _ _ _, Below.refl _ _, by omega⟩
                      case round =>
                        obtain ⟨j, v, hj, rfl, hall, hv, hrow, hb, hszr⟩ := hrel
                        have HA := Lib.hid hall
                        have HV := Lib.hid hv
                        have HR := Lib.hid hrow
                        have HB := Lib.hid hb
                        have HX : Hid (Var wr w.heap.size 52 [.bool false, .string ⟨#[]⟩, .string ⟨#[]⟩, .int .i64 0, .string ⟨#[]⟩, .int .i64 0, .slice none 0 0]) := Lib.hid (hx4.out.below hb (by omega))
                        have HBW : Hid (Below w.heap.size w wr) := Lib.hid (HB4.out.trans (hb.mono (by omega)))
                        clear hall hv hrow hb
                        by_cases hlt : j < body.length
                        · have cj : wr.cell? ⟨g, o + 1 + j, none⟩ = some (.string body[j]) := (HB.out.cell (by show g < _; omega)).trans (HBC4.out j hlt)
                          have hsj := HNL.out j hlt
                          have HST := Lib.hid (parts_step body j hlt)
                          have HNO : Hid (fieldP body[j].data.toList = none → parseP l rq = ({}, 220)) := Lib.hid (fun e => by
                            rw [HQ2.out]
                            exact if_neg fun x => by have := x _ (List.getElem_mem hlt); rw [e] at this; cases this)
                          have HA2 : Hid ((fieldP body[j].data.toList).isSome = true → ∀ q (hq : q < body.length), q < j + 1 → (fieldP body[q].data.toList).isSome = true) := Lib.hid (fun h1 q hq h2 => by
                            by_cases e : q = j
                            · subst e; exact h1
                            · exact HA.out q hq (by omega))
                          generalize body[j] = s at cj hsj HST HNO HA2
                          cases hc : cutAt 58 s.data.toList with
                          | none =>
                            have HPP : Hid (parseP l rq = ({}, 220)) := Lib.hid (HNO.out (by rw [fieldP, hc]))
                            have HC1 := Lib.hid hc
                            clear hc
                            go_wp2_with (first
                              | (go_at_call 97; go_must (refine (rplace_no s 58 _ (by omega) HC1.out).mono ?_; rintro _ _ ⟨rfl, rfl⟩))
                              | (refine wpList_put rfl 52 (.tmp 4) (.tmp 110) rfl w.heap.size rfl (HX.out) [.bool false, .string ⟨#[]⟩, .string ⟨#[]⟩, .int .i64 0, .string ⟨#[]⟩, .int .i64 0, .slice none 0 0] rfl rfl (by kernel_rfl) (by simp [Value.oneCell']) ?_; intro w9 hv9 hg9 hs9)
                              | fail)
                            refine bodyPost_ret (results_var rfl _ _ rfl hv9 Tryz.underlying52 rfl (by kernel_rfl)) rfl ⟨.slice none 0 0, ?_, ?_, ?_⟩
                            · rw [HPP.out]; rfl
                            · rw [HPP.out]; exact Row.nil _ _ _
                            · exact Below.grown (HBW.out) hg9 (HBW.out).size (by intro k hk; simp at hk; omega)
                          | some p =>
                            obtain ⟨nm, vv⟩ := p
                            obtain ⟨sn, hsn⟩ : ∃ sn : ByteArray, sn.data.toList = nm := ⟨⟨nm.toArray⟩, rfl⟩
                            obtain ⟨sv, hsv⟩ : ∃ sv : ByteArray, sv.data.toList = vv := ⟨⟨vv.toArray⟩, rfl⟩
                            obtain ⟨tv, htv⟩ : ∃ tv : ByteArray, tv = ⟨(trim sv.data.toList).toArray⟩ := ⟨_, rfl⟩
                            subst hsn hsv
                            obtain ⟨z1, z2, z3⟩ := ext_some hc
                            have E1 := Lib.hid z1
                            have E2 := Lib.hid z2
                            have HC1 := Lib.hid hc
                            have HTV := Lib.hid htv
                            have htl : tv.size ≤ 16777216 := by rw [htv]; show (trim sv.data.toList).length ≤ _; have := trim_le sv.data.toList; rw [size_data] at this; omega
                            have HFD : Hid (fieldP s.data.toList = if token sn.data.toList = true ∧ allText tv.data.toList = true then some (sn.data.toList, tv.data.toList) else none) := Lib.hid (by rw [fieldP, hc, htv]; rfl)
                            clear hc z1 z2 htv
                            go_upto_region 26 with (go_at_call 97; go_must (refine (rplace_some s 58 _ (by omega) HC1.out).mono ?_; rintro _ _ ⟨rfl, rfl⟩))
                            go_cut [14] (fun v14 wx => v14 = .pointer (some ⟨wr.heap.size, 0, none⟩) ∧ Var wx wr.heap.size 89 [.string sn, .string tv] ∧ Below wr.heap.size wr wx ∧ wr.heap.size < wx.heap.size)
                            case first =>
                              have HTR : Hid (∀ W : World, Calls Tryz.prog 98 #[.string (s.extract (sn.size + 1) s.size)] W fun e w' => e = .returned (.string tv) ∧ W = w') := Lib.hid (fun W => by
                                rw [E2.out, HTV.out]
                                exact rtrim_any sv W (by omega))
                              have ca : ∀ o' : Obj, (wr.alloc o').cell? ⟨g, o + 1 + j, none⟩ = some (.string s) := fun o' => (World.cell?_alloc_lt _ _ _ (by show g < _; omega)).trans cj
                              have cq : ∀ q, (wr.drewN q).cell? ⟨g, o + 1 + j, none⟩ = some (.string s) := fun q => cj
                              have caq : ∀ q (o' : Obj), ((wr.drewN q).alloc o').cell? ⟨g, o + 1 + j, none⟩ = some (.string s) := fun q o' => (World.cell?_alloc_lt _ _ _ (by show g < wr.heap.size; omega)).trans cj
                              have i1 : (j : Int) < (body.length : Int) := by omega
                              have i2 : (0 : Int) ≤ (j : Int) := by omega
                              have i3 : (0 : Int) ≤ (sn.size : Int) := by omega
                              have i4 : (sn.size : Int) ≤ (s.size : Int) := by omega
                              have i5 : (sn.size : Int) + 1 ≤ (s.size : Int) := by omega
                              have i6 : (0 : Int) ≤ (sn.size : Int) + 1 := by omega
                              have Z3 := Lib.hid z3
                              have i7 : ((sn.size : Int) + 1).toNat = sn.size + 1 := by omega
                              have i8 : IntKind.i64.wrap ((sn.size : Int) + 1) = (sn.size : Int) + 1 := IntWalk.i64_in _ (by omega)
                              clear z3
                              go_region_held3 (fun w' => w'.cell? ⟨g, o + 1 + j, none⟩ = some (.string s)) (first | exact cj | exact ca _ | exact cq _ | exact caq _ _ | go_keep) (first | (go_at_call 98; refine (HTR.out _).mono ?_; rintro e w' ⟨rfl, rfl⟩))
                              go_wp2
                              all_goals go_meet
                              all_goals exact ⟨rfl, by (try rw [E1.out]); exact (Var.new wr 89 [.string sn, .string tv]).drew, ((Below.refl _ _).alloc (Nat.le_refl _) _).drew, by simp⟩
                            case rest =>
                              obtain ⟨rfl, hvx, hbx, hszx⟩ := hcut
                              have VX := Lib.hid hvx
                              have BX := Lib.hid hbx
                              have x0 := hvx.cell (j := 0) rfl
                              have x1 := hvx.cell (j := 1) rfl
                              have XX := Lib.hid (HX.out.below_all hbx)
                              have BWX : Hid (Below w.heap.size w wc) := Lib.hid (HBW.out.trans (hbx.mono HBW.out.size))
                              clear hvx hbx
                              by_cases ht : token sn.data.toList = true
                              · by_cases hw : allText tv.data.toList = true
                                · have HT := Lib.hid ht
                                  have HW := Lib.hid hw
                                  have HF : Hid (fieldP s.data.toList = some (sn.data.toList, tv.data.toList)) := Lib.hid (by rw [HFD.out]; exact if_pos ⟨ht, hw⟩)
                                  have hpl := parts_len body j
                                  generalize hpp : parts body j = pj at HR HST hpl
                                  have VY := Lib.hid (HV.out.below_all BX.out)
                                  have RY := Lib.hid (HR.out.below_all BX.out)
                                  have BY : Hid (Below w3.heap.size w4 wc) := Lib.hid (HB.out.trans (BX.out.mono (by omega)))
                                  have y6 := VY.out.cell (j := 6) rfl
                                  clear ht hw hpp
                                  go_wp2_with (first
                                    | (go_at_call 99; go_must (refine (rToken_any sn _ (by omega)).mono ?_; rintro _ _ ⟨rfl, rfl⟩; rw [HT.out]))
                                    | (go_at_call 100; go_must (refine (rtext_any tv _ (by omega)).mono ?_; rintro _ _ ⟨rfl, rfl⟩; rw [HW.out]))
                                    | (refine wpList_load_mid rfl 89 (.tmp 14) rfl wr.heap.size 0 rfl [.string sn, .string tv] _ VX.out.range Tryz.underlying89 rfl (by kernel_rfl) ?_)
                                    | (at_builtin; go_must (refine wpList_app _ rfl (.tmp 138) (.tmp 140) 50 50 rfl (w3.heap.size + 1) 89 j0 (.agg #[.string ⟨#[]⟩, .string ⟨#[]⟩]) 2 32 Tryz.underlying50 hj0 jz0 jz1 jz2 rfl v pj.length (fieldsV (flB pj)) rfl (RY.out.alloc _) _ 1 [.string sn, .string tv] rfl (Src.built [.string sn, .string tv] 89 Tryz.underlying50 rfl (by intro u hu; simp at hu; rcases hu with rfl | rfl <;> rfl)) (by omega) (by omega) (by omega) (by simp; omega) ?_); intro v6 w6 hrow6 hg6 _; obtain ⟨A6, c6, rfl, _, _, _, _⟩ := hrow6.form; have y2 := (VY.out.alloc (.cells #[.string sn, .string tv] 89)).grown hg6 (fun e => by have := (RY.out.lt _ e).1; omega); have y2c := y2.cell (j := 6) rfl; have y2f := y2.frozen 6; have HB6 : Hid (Below w3.heap.size w4 w6) := Lib.hid (Below.app (BY.out.alloc (by omega) _) (RY.out.alloc _) hg6 (by omega) (by simp; omega)); have hsz6 : w3.heap.size + 1 ≤ w6.heap.size := (by have := hg6.size; simp at this; omega))
                                    | fail)
                                  have hrz := hrow6.setCell (p := ⟨w3.heap.size, 6, none⟩) (fun e => by have := (hrow6.lt _ e).1; simp at this; omega) (.slice A6 (pj.length + 1) c6)
                                  have hvz := y2.set 6 (.slice A6 (pj.length + 1) c6)
                                  go_roundw
                                  case rel => exact ⟨j + 1, _, by omega, by go_num, HA2.out (by rw [HF.out]; rfl), hvz, (by
                                    rw [HST.out, HF.out]
                                    have e : pj ++ (some (sn.data.toList, tv.data.toList)).toList = pj ++ [(sn.data.toList, tv.data.toList)] := rfl
                                    rw [e, flB_snoc, List.length_append, byte_eta, byte_eta]
                                    exact hrz), HB6.out.setCell (Nat.le_refl _) _, by simpa using hsz6⟩
                                  case measure => simp [intOf]; omega
                                · have HPP : Hid (parseP l rq = ({}, 220)) := Lib.hid (HNO.out (by rw [HFD.out]; exact if_neg fun x => hw x.2))
                                  have HT := Lib.hid ht
                                  have HW : Hid (allText tv.data.toList = false) := Lib.hid (by simpa using hw)
                                  clear ht hw
                                  go_wp2_with (first
                                    | (go_at_call 99; go_must (refine (rToken_any sn _ (by omega)).mono ?_; rintro _ _ ⟨rfl, rfl⟩; rw [HT.out]))
                                    | (go_at_call 100; go_must (refine (rtext_any tv _ (by omega)).mono ?_; rintro _ _ ⟨rfl, rfl⟩; rw [HW.out]))
                                    | (refine wpList_put rfl 52 (.tmp 4) (.tmp 136) rfl w.heap.size rfl (XX.out) [.bool false, .string ⟨#[]⟩, .string ⟨#[]⟩, .int .i64 0, .string ⟨#[]⟩, .int .i64 0, .slice none 0 0] rfl rfl (by kernel_rfl) (by simp [Value.oneCell']) ?_; intro w9 hv9 hg9 hs9)
                                    | fail)
                                  refine bodyPost_ret (results_var rfl _ _ rfl hv9 Tryz.underlying52 rfl (by kernel_rfl)) rfl ⟨.slice none 0 0, ?_, ?_, ?_⟩
                                  · rw [HPP.out]; rfl
                                  · rw [HPP.out]; exact Row.nil _ _ _
                                  · exact Below.grown (BWX.out) hg9 (BWX.out).size (by intro k hk; simp at hk; omega)
                              · have HPP : Hid (parseP l rq = ({}, 220)) := Lib.hid (HNO.out (by rw [HFD.out]; exact if_neg fun x => ht x.1))
                                have HT : Hid (token sn.data.toList = false) := Lib.hid (by simpa using ht)
                                clear ht
                                go_wp2_with (first
                                  | (go_at_call 99; go_must (refine (rToken_any sn _ (by omega)).mono ?_; rintro _ _ ⟨rfl, rfl⟩; rw [HT.out]))
                                  | (refine wpList_put rfl 52 (.tmp 4) (.tmp 136) rfl w.heap.size rfl (XX.out) [.bool false, .string ⟨#[]⟩, .string ⟨#[]⟩, .int .i64 0, .string ⟨#[]⟩, .int .i64 0, .slice none 0 0] rfl rfl (by kernel_rfl) (by simp [Value.oneCell']) ?_; intro w9 hv9 hg9 hs9)
                                  | fail)
                                refine bodyPost_ret (results_var rfl _ _ rfl hv9 Tryz.underlying52 rfl (by kernel_rfl)) rfl ⟨.slice none 0 0, ?_, ?_, ?_⟩
                                · rw [HPP.out]; rfl
                                · rw [HPP.out]; exact Row.nil _ _ _
                                · exact Below.grown (BWX.out) hg9 (BWX.out).size (by intro k hk; simp at hk; omega)
                        · have hjb : j = body.length := by omega
                          have HPP : Hid (parseP l rq = ({ h with fs := parts body j }, 0)) := Lib.hid (by
                            rw [HQ2.out, if_pos (fun s hs => by obtain ⟨q, hq, rfl⟩ := List.getElem_of_mem hs; exact HA.out q hq (by omega))]
                            rw [parts, List.take_of_length_le (by omega)])
                          generalize parts body j = pj at HPP HR
                          go_wp2_with (first
                            | (refine wpList_load_mid rfl 52 (.tmp 10) rfl w3.heap.size 0 rfl [.bool h.rq, .string ⟨h.m.toArray⟩, .string ⟨h.t.toArray⟩, .int .i64 (h.st : Int), .string ⟨h.rs.toArray⟩, .int .i64 (h.mn : Int), v] _ HV.out.range Tryz.underlying52 rfl (by kernel_rfl) ?_)
                            | (refine wpList_put rfl 52 (.tmp 4) (.tmp 143) rfl w.heap.size rfl HX.out [.bool h.rq, .string ⟨h.m.toArray⟩, .string ⟨h.t.toArray⟩, .int .i64 (h.st : Int), .string ⟨h.rs.toArray⟩, .int .i64 (h.mn : Int), v] rfl rfl (by kernel_rfl) (by have := HR.out.form; obtain ⟨_, _, rfl, _⟩ := this; simp [Value.oneCell']) ?_; intro w9 hv9 hg9 hs9)
                            | fail)
                          refine bodyPost_ret (results_var rfl _ _ rfl hv9 Tryz.underlying52 rfl (by kernel_rfl)) rfl ⟨v, ?_, ?_, ?_⟩
                          · rw [HPP.out]; rfl
                          · rw [HPP.out]
                            exact (HR.out.kept hg9 (by cases hv : v.ownBlock with
                              | none => exact Or.inl rfl
                              | some k => exact Or.inr (fun e => by have := (HR.out.lt k hv).1; injection e with e; omega))).mono (by omega)
                          · exact Below.grown HBW.out hg9 HBW.out.size (by intro k hk; simp at hk; omega)
end Go.Proofs.YtklmpadcfioefaaGreatDoor
