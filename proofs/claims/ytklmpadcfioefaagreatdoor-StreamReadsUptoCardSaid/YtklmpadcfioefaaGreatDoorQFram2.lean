/- the reference's Framing, whole. Conditions: sizes. -/
import Derived.Test.YtklmpadcfioefaaGreatDoorQFram
namespace Go.Proofs.YtklmpadcfioefaaGreatDoor
open Go.RowKit
set_option maxHeartbeats 8000000 in
set_option maxRecDepth 100000 in
theorem qframing_any (rq : Bool) (m t : ByteArray) (st : Int) (rs : ByteArray) (mn : Int) (A : Option Addr) (n c : Nat) (fs : List Fl) (mth : ByteArray) (w : World) (hrd : Rd w w.heap.size 2 A n (fieldsV fs))
    (hn : n ≤ 16777216) (hfs : ∀ f ∈ fs, f.1.size ≤ 16777216) (hfz : flSize fs ≤ 16777216) :
    Calls Tryz.prog 62 #[headV rq m t st rs mn (.slice A n c), .string mth] w fun e w' => e = .returned (framV (framingP rq (decide (mth = ⟨#[72, 69, 65, 68]⟩)) st mn fs)) ∧ Below w.heap.size w w' := by
  by_cases h1 : rq = true ∧ hostedP mn fs = false
  · rw [framing_host h1]
    obtain ⟨rfl, hh⟩ := h1
    have B1 : Below w.heap.size w (w.alloc (.cells #[.bool true, .string m, .string t, .int .i64 st, .string rs, .int .i64 mn, .slice A n c] 52)) := (Below.refl _ _).alloc (Nat.le_refl _) _
    have r1 := (hrd.below B1).more B1.size
    have hV1 := Var.new w 52 [.bool true, .string m, .string t, .int .i64 st, .string rs, .int .i64 mn, .slice A n c]
    obtain ⟨w1, hw1⟩ : ∃ w1 : World, w1 = w.alloc (.cells #[.bool true, .string m, .string t, .int .i64 st, .string rs, .int .i64 mn, .slice A n c] 52) := ⟨_, rfl⟩
    have hV1' : Var w1 w.heap.size 52 [.bool true, .string m, .string t, .int .i64 st, .string rs, .int .i64 mn, .slice A n c] := by rw [hw1]; exact hV1
    rw [← hw1] at B1 r1
    have HV1 := Lib.hid hV1'
    have HVH := rValues_any true m t st rs mn A n c fs lHost w1 r1 hn (by decide) hfs
    rw [(qvals_low fs).1] at HVH
    have hHH : hostedP mn fs = hostedL mn (vals fs sHost) := rfl
    rw [hHH] at hh
    have hth := vals_total fs sHost
    have hmh := fun v (h : v ∈ vals fs sHost) => vals_mem (name := sHost) h
    have hHz : ∀ v ∈ vals fs sHost, v.size ≤ 16777216 := fun v hv => by have := hmh v hv; omega
    generalize vals fs sHost = H at *
    have HHZ := Lib.hid hHz
    have HVV := Lib.hid HVH
    have HB1 := Lib.hid B1
    have hrg := HV1.out.range
    unfold headV at HVV ⊢
    clear hrd hfs hV1 hV1' HVH hHH hth hmh hHz r1
    go_enter Tryz.func62, Tryz.ntmps62
    go_upto_region 1 with (fail)
    rw [← hw1]
    have q0 := HV1.out.cell (j := 0) rfl
    clear hw1 B1
    go_upto_region 3 with (first
      | (refine wpList_load_mid rfl 52 (.tmp 2) rfl w.heap.size 0 rfl [.bool true, .string m, .string t, .int .i64 st, .string rs, .int .i64 mn, .slice A n c] _ hrg Tryz.underlying52 rfl (by kernel_rfl) ?_)
      | (go_at_call 101; go_must (refine HVV.out.mono ?_; rintro _ w2 ⟨v2, rfl, hrow2, hb2⟩; obtain ⟨A2, c2, rfl, _, _, _, rdH⟩ := hrow2.form; have HB2 := Lib.hid hb2; have HRH := Lib.hid rdH; clear hrow2 rdH hb2))
      | fail)
    have q5 := (HV1.out.below_all HB2.out).cell (j := 5) rfl
    have HBF := Lib.hid (HB1.out.trans (HB2.out.mono HB1.out.size))
    cases H with
    | nil =>
      have hm1 : mn = 1 := by
        by_cases e : mn = 1
        · exact e
        · have h : (!(decide (mn = 1))) = false := hh
          rw [decide_eq_false e] at h
          cases h
      subst hm1
      clear hh
      go_wp2
      go_ret3
      exact ⟨rfl, HBF.out⟩
    | cons v r =>
      cases r with
      | nil =>
        have hrh := HRH.out
        obtain ⟨g6, o6, rfl, _, hc6⟩ := hrh.2 (by simp)
        have c6 := hc6 0 (.string v) rfl
        rw [Nat.add_zero] at c6
        clear hrh hc6
        have h : (v.data.toList.isEmpty || (authP v.data.toList).isSome) = false := hh
        rw [Bool.or_eq_false_iff] at h
        obtain ⟨ha, hb⟩ := h
        have hv0 : v ≠ ⟨#[]⟩ := by
          intro e
          rw [e] at ha
          cases ha
        have b6 := toList_ne hv0
        have HAU := Lib.hid (fun W => qauth_any v W (HHZ.out v (by simp)))
        unfold authV at HAU
        rw [hb] at HAU
        clear ha hb hv0 hh
        go_wp2_with (first
          | (go_at_call 102; go_must (refine (HAU.out _).mono ?_; rintro _ w3 ⟨rfl, hb3⟩))
          | fail)
        go_ret3
        exact ⟨rfl, HBF.out.trans (hb3.mono HBF.out.size)⟩
      | cons v2 r =>
        obtain ⟨nY, hnY⟩ : ∃ nY, nY = (v :: v2 :: r).length := ⟨_, rfl⟩
        have hl2 : (1 : Int) < (nY : Int) := by rw [hnY]; simp; omega
        rw [← hnY]
        clear hnY hh
        go_wp2
        go_ret3
        exact ⟨rfl, HBF.out⟩
  by_cases h2 : rq = false ∧ (100 ≤ st ∧ st ≤ 199 ∨ st = 204 ∨ st = 304 ∨ decide (mth = ⟨#[72, 69, 65, 68]⟩) = true)
  · rw [framing_none h2]
    obtain ⟨rfl, h3⟩ := h2
    have B1 : Below w.heap.size w (w.alloc (.cells #[.bool false, .string m, .string t, .int .i64 st, .string rs, .int .i64 mn, .slice A n c] 52)) := (Below.refl _ _).alloc (Nat.le_refl _) _
    have HB1 := Lib.hid B1
    unfold headV
    clear B1 hrd hfs h1
    by_cases k1 : 100 ≤ st ∧ st ≤ 199
    · obtain ⟨g1, g2⟩ := k1
      clear h3
      (go_enter Tryz.func62, Tryz.ntmps62
       go_wp2
       go_ret3
       exact ⟨rfl, HB1.out⟩)
    · have k2 : st = 204 ∨ st = 304 ∨ decide (mth = ⟨#[72, 69, 65, 68]⟩) = true := by rcases h3 with h | h; exact absurd h k1; exact h
      clear h3
      by_cases k3 : st = 204
      · subst k3
        clear k1 k2
        (go_enter Tryz.func62, Tryz.ntmps62
         go_wp2
         go_ret3
         exact ⟨rfl, HB1.out⟩)
      · by_cases k4 : st = 304
        · subst k4
          clear k1 k2 k3
          (go_enter Tryz.func62, Tryz.ntmps62
           go_wp2
           go_ret3
           exact ⟨rfl, HB1.out⟩)
        · have k5 : mth = ⟨#[72, 69, 65, 68]⟩ := by
            rcases k2 with h | h | h
            · exact absurd h k3
            · exact absurd h k4
            · exact of_decide_eq_true h
          subst k5
          have b3 : (st == 204) = false := by simpa using k3
          have b4 : (st == 304) = false := by simpa using k4
          clear k2 k3 k4
          by_cases g1 : 100 ≤ st
          · have g5 : decide (st ≤ 199) = false := by simp; omega
            clear k1
            (go_enter Tryz.func62, Tryz.ntmps62
             go_wp2
             go_ret3
             exact ⟨rfl, HB1.out⟩)
          · clear k1
            (go_enter Tryz.func62, Tryz.ntmps62
             go_wp2
             go_ret3
             exact ⟨rfl, HB1.out⟩)
  rw [framing_rest h1 h2]
  exact qframing_rest rq m t st rs mn A n c fs mth w hrd hn hfs hfz h1 h2
end Go.Proofs.YtklmpadcfioefaaGreatDoor
