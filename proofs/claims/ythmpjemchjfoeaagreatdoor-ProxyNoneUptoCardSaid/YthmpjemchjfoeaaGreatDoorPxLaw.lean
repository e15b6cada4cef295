/- The law ProxyNone, walked. No condition. -/
import Derived.Test.YthmpjemchjfoeaaGreatDoorPxAns
namespace Go.Proofs.YthmpjemchjfoeaaGreatDoor
open Go.RowKit
set_option maxHeartbeats 2000000 in
set_option maxRecDepth 100000 in
theorem proxyNone_any (seed most wait limit k : Int) (A : Option Addr) (n c : Nat) (w : World) : Calls Tryz.prog 8 #[.int .u64 seed, .int .i64 most, .int .i64 wait, .int .i64 limit, .int .i64 k, .slice A n c] w fun e w' => e = .returned (.bool true) ∧ Below w.heap.size w w' := by
  have H1 := Lib.hid (fun W => xHold none 0 0 k W)
  have H2 := Lib.hid (fun A n c W => xWords A n c W)
  have H3 := Lib.hid (fun W => xAccept k W)
  have H4 := Lib.hid (fun W => xRead k A n c W)
  have H5 := Lib.hid (fun W => xEnded k W)
  have H6 := Lib.hid (fun W => xLost k W)
  have H7 := Lib.hid (fun W => xDialled k k W)
  have H8 := Lib.hid (fun W => xRefused k W)
  have H9 := Lib.hid (fun W => xTick k W)
  have H10 := Lib.hid (fun W => xLog W)
  have H11 := Lib.hid (fun W => xConns W)
  go_enter Tryz.func8, Tryz.ntmps8
  go_upto_region 6 with (first
    | (go_at_call 13; go_must (refine (H1.out _).mono ?_; rintro _ w1 ⟨rfl, b1⟩))
    | (go_at_call 28; go_must (refine (H2.out _ _ _ _).mono ?_; rintro _ w2 ⟨rfl, b2⟩))
    | (go_at_call 14; go_must (refine (H3.out _).mono ?_; rintro _ w3 ⟨rfl, b3⟩))
    | (go_at_call 15; go_must (refine (H4.out _).mono ?_; rintro _ w4 ⟨rfl, b4⟩))
    | (go_at_call 29; go_must (refine (H5.out _).mono ?_; rintro _ w5 ⟨rfl, b5⟩))
    | (go_at_call 30; go_must (refine (H6.out _).mono ?_; rintro _ w6 ⟨rfl, b6⟩))
    | (go_at_call 16; go_must (refine (H7.out _).mono ?_; rintro _ w7 ⟨rfl, b7⟩))
    | (go_at_call 31; go_must (refine (H8.out _).mono ?_; rintro _ w8 ⟨rfl, b8⟩))
    | (go_at_call 19; go_must (refine (H9.out _).mono ?_; rintro _ w9 ⟨rfl, b9⟩))
    | (go_at_call 17; go_must (refine (H10.out _).mono ?_; rintro _ w10 ⟨rfl, b10⟩))
    | (go_at_call 24; go_must (refine (H11.out _).mono ?_; rintro _ w11 ⟨rfl, b11⟩))
    | fail)
  have hch : Chg (fun _ => False) w w11 := (((((((((((Chg.of_below b1).alloc _).then_below b2).then_below b3).then_below b4).then_below b5).then_below b6).then_below b7).then_below b8).then_below b9).then_below b10).then_below b11
  have HCH := Lib.hid hch
  clear hch b1 b2 b3 b4 b5 b6 b7 b8 b9 b10 b11 H1 H2 H3 H4 H5 H6 H7 H8 H9 H10 H11
  by_cases hok : 1 ≤ most ∧ most ≤ 64 ∧ 0 ≤ wait ∧ 1 ≤ limit
  · have HN := Lib.hid (qNew seed most wait limit w11 hok)
    obtain ⟨h1, h2, h3, h4⟩ := hok
    go_upto_region 12 with (first
      | (go_at_call 11; go_must (refine HN.out.mono ?_; rintro _ w12 ⟨pb, xb, yb, rfl, p12, hpb, b12⟩))
      | fail)
    have HD := Lib.hid (qDial p12)
    have HC12 := Lib.hid (HCH.out.then_below b12)
    have hpw : w.heap.size ≤ pb := Nat.le_trans HCH.out.size hpb
    clear p12 b12 hpb
    go_upto_region 13 with (first
      | (go_at_call 16; go_must (refine HD.out.mono ?_; rintro _ w13 ⟨v, rfl, p13, r13, c13⟩))
      | fail)
    obtain ⟨A13, c1, rfl, _, _, _, hrd⟩ := Row.form r13
    obtain ⟨g, o, rfl, hg, hcell⟩ := hrd.2 (by omega)
    have y0 : w13.cell? ⟨g, o, none⟩ = some (.int .i64 3) := hcell 0 _ rfl
    have y1 := hcell 1 (.int .i64 7) rfl
    have HC13 := Lib.hid (show Chg (fun x => x = pb) w w13 from (HC12.out.more (fun _ _ e => e.elim)).trans c13 (fun _ _ e => e))
    have K1 := Lib.hid (qRead A n c p13 k)
    have HP13 := Lib.hid p13
    clear hrd hcell r13 c13 p13
    go_wp2_with (first
      | (go_at_call 15; go_must (refine K1.out.mono ?_; rintro _ w14 ⟨rfl, b14⟩; have p14 := Lib.hid (HP13.out.below b14); have K2 := Lib.hid (qEnded p14.out k); have HC14 := Lib.hid (HC13.out.then_below b14); have y0 := (b14.cell (p := ⟨g, o, none⟩) hg).trans y0; have y1 := (b14.cell (p := ⟨g, o + 1, none⟩) hg).trans y1; have hg := Nat.lt_of_lt_of_le hg b14.size; clear b14))
      | (go_at_call 29; go_must (refine K2.out.mono ?_; rintro _ w15 ⟨rfl, b15⟩; have p15 := Lib.hid (p14.out.below b15); have K3 := Lib.hid (qRefused p15.out k); have K4 := Lib.hid (qDialNo p15.out); have K5 := Lib.hid (qAcceptNo p15.out); have K6 := Lib.hid (qConns p15.out); have HC15 := Lib.hid (HC14.out.then_below b15); have y0 := (b15.cell (p := ⟨g, o, none⟩) hg).trans y0; have y1 := (b15.cell (p := ⟨g, o + 1, none⟩) hg).trans y1; have hg := Nat.lt_of_lt_of_le hg b15.size; clear b15))
      | (go_at_call 31; go_must (refine K3.out.mono ?_; rintro _ wx ⟨rfl, hx⟩; obtain rfl := hx.symm))
      | (go_at_call 16; go_must (refine K4.out.mono ?_; rintro _ wx ⟨rfl, hx⟩; obtain rfl := hx.symm))
      | (go_at_call 14; go_must (refine K5.out.mono ?_; rintro _ wx ⟨rfl, hx⟩; obtain rfl := hx.symm))
      | (go_at_call 24; go_must (refine K6.out.mono ?_; rintro _ w16 ⟨rfl, b16⟩))
      | fail)
    go_ret
    exact ⟨rfl, (HC15.out.then_below b16).below (Nat.le_refl _) (fun k e => by rw [e]; exact hpw)⟩
  · have HN := Lib.hid (qNot seed most wait limit w11 hok)
    go_upto_region 7 with (first
      | (go_at_call 11; go_must (refine HN.out.mono ?_; rintro _ w12 ⟨rfl, b12⟩))
      | fail)
    have HB := Lib.hid ((HCH.out.then_below b12).below (Nat.le_refl _) (fun k e => e.elim))
    clear b12 HCH HN
    by_cases h1 : most < 1
    · clear hok
      have h1' : ¬ 1 ≤ most := by omega
      go_wp2
      go_ret
      exact ⟨rfl, HB.out⟩
    have h1' : 1 ≤ most := by omega
    by_cases h2 : 64 < most
    · clear hok
      have h2' : ¬ most ≤ 64 := by omega
      go_wp2
      go_ret
      exact ⟨rfl, HB.out⟩
    have h2' : most ≤ 64 := by omega
    by_cases h3 : wait < 0
    · clear hok
      have h3' : ¬ 0 ≤ wait := by omega
      go_wp2
      go_ret
      exact ⟨rfl, HB.out⟩
    have h3' : 0 ≤ wait := by omega
    have h4 : limit < 1 := by omega
    have h4' : ¬ 1 ≤ limit := by omega
    clear hok
    go_wp2
    go_ret
    exact ⟨rfl, HB.out⟩
end Go.Proofs.YthmpjemchjfoeaaGreatDoor
