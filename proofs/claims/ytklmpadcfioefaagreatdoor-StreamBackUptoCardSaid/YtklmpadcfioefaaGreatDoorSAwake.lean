/- law 24's awake (printed by gen_sawake.py). Condition: the world's shape. -/
import Derived.Test.YtklmpadcfioefaaGreatDoorSRest
import Derived.Lib.SlBytesConst
namespace Go.Proofs.YtklmpadcfioefaaGreatDoor
open Go.RowKit

namespace Strm
def aw1 : Bs := [80, 79, 83, 84, 32, 47, 32, 72, 84, 84, 80, 47, 49, 46, 49, 13, 10, 72, 111, 115, 116, 58, 32, 97, 13, 10, 67, 111, 110, 116, 101, 110, 116, 45, 76, 101, 110, 103, 116, 104, 58, 32, 51, 13, 10, 13, 10, 97, 98, 99]
def aw2 : Bs := [71, 69, 84, 32, 47, 32, 72, 84, 84, 80, 47, 49, 46, 49, 13, 10, 13, 10]
def awH : Hd := { rq := true, m := [80, 79, 83, 84], t := [47], mn := 1, fs := [([72, 111, 115, 116], [97]), ([67, 111, 110, 116, 101, 110, 116, 45, 76, 101, 110, 103, 116, 104], [51])] }
set_option maxRecDepth 1000000 in
theorem aw_call1 : callS { rq := true } aw1 = ([.head awH 1 3], 47, { rq := true, ph := 2, left := 3, fr := 1, win := true }, 0) := by kernel_rfl
theorem aw_call2 : callS { rq := true, ph := 2, left := 3, fr := 1, win := true } [97, 98, 99] = ([.body [97, 98, 99]], 3, { rq := true, ph := 1, left := 0, fr := 1, win := true, due := true }, 0) := by kernel_rfl
theorem aw_call3 : callS { rq := true, ph := 1, left := 0, fr := 1, win := true, due := true } [] = ([.fin], 0, { rq := true, fr := 1 }, 0) := by kernel_rfl
set_option maxRecDepth 1000000 in
theorem aw_call4 : (callS { rq := true } aw2).1 = [] ∧ (callS { rq := true } aw2).2.2.2 = 240 := ⟨by kernel_rfl, by kernel_rfl⟩
theorem aw_feeds1 : Feeds { rq := true } aw1 { rq := true, fr := 1 } [.head awH 1 3, .body [97, 98, 99], .fin] 0 := by
  have h4 := Feeds.stop ({ rq := true, fr := 1 } : S) rfl
  have h3 := Feeds.go { rq := true, ph := 1, left := 0, fr := 1, win := true, due := true } [] _ _ _ (fun e => by cases e.2) (by rw [aw_call3]) (by rw [aw_call3]; exact h4)
  rw [aw_call3] at h3
  have h2 := Feeds.go { rq := true, ph := 2, left := 3, fr := 1, win := true } [97, 98, 99] _ _ _ (fun e => by cases e.1) (by rw [aw_call2]) (by rw [aw_call2]; exact h3)
  rw [aw_call2] at h2
  have h1 := Feeds.go { rq := true } aw1 _ _ _ (fun e => by cases e.1) (by rw [aw_call1]) (by rw [aw_call1]; exact h2)
  rw [aw_call1] at h1
  exact h1
theorem aw_feeds2 : ∃ u, Feeds { rq := true } aw2 u [] 240 := by
  obtain ⟨h1, h2⟩ := aw_call4
  have h := Feeds.err { rq := true } aw2 (fun e => by cases e.1) (by rw [h2]; decide)
  rw [h1, h2] at h
  exact ⟨_, h⟩
end Strm
theorem three_of {α β : Type} {f : α → β} {L : List α} {a b c : β} (h : L.map f = [a, b, c]) : ∃ x y z, L = [x, y, z] ∧ f x = a ∧ f y = b ∧ f z = c := by
  rcases L with _ | ⟨x, _ | ⟨y, _ | ⟨z, _ | ⟨_, _⟩⟩⟩⟩ <;> simp at h
  exact ⟨x, y, z, rfl, h.1, h.2.1, h.2.2⟩
set_option maxHeartbeats 4000000 in
set_option maxRecDepth 1000000 in
theorem sawake_any (w : World) (hsh : w.ShapedOpen Tryz.prog) : Calls Tryz.prog 18 #[] w fun e w' => e = .returned (.bool true) ∧ Below w.heap.size w w' := by
  have HS := Lib.hid hsh
  clear hsh
  go_enter Tryz.func18, Tryz.ntmps18
  go_upto_region 2 with (first
    | (go_at_call 6; go_must (refine (snew_any _ true).mono ?_; rintro _ w1 ⟨rfl, hm1, hb1, hz1⟩))
    | fail)
  have kc := Lib.run_convert_bytes_const (P := Tryz.prog) w1 26 5 #[.int .u8 80, .int .u8 79, .int .u8 83, .int .u8 84, .int .u8 32, .int .u8 47, .int .u8 32, .int .u8 72, .int .u8 84, .int .u8 84, .int .u8 80, .int .u8 47, .int .u8 49, .int .u8 46, .int .u8 49, .int .u8 13, .int .u8 10, .int .u8 72, .int .u8 111, .int .u8 115, .int .u8 116, .int .u8 58, .int .u8 32, .int .u8 97, .int .u8 13, .int .u8 10, .int .u8 67, .int .u8 111, .int .u8 110, .int .u8 116, .int .u8 101, .int .u8 110, .int .u8 116, .int .u8 45, .int .u8 76, .int .u8 101, .int .u8 110, .int .u8 103, .int .u8 116, .int .u8 104, .int .u8 58, .int .u8 32, .int .u8 51, .int .u8 13, .int .u8 10, .int .u8 13, .int .u8 10, .int .u8 97, .int .u8 98, .int .u8 99] 50 50 Tryz.underlying26 Tryz.underlying5
  have hba : Below w1.heap.size w1 (w1.alloc (.cells #[.int .u8 80, .int .u8 79, .int .u8 83, .int .u8 84, .int .u8 32, .int .u8 47, .int .u8 32, .int .u8 72, .int .u8 84, .int .u8 84, .int .u8 80, .int .u8 47, .int .u8 49, .int .u8 46, .int .u8 49, .int .u8 13, .int .u8 10, .int .u8 72, .int .u8 111, .int .u8 115, .int .u8 116, .int .u8 58, .int .u8 32, .int .u8 97, .int .u8 13, .int .u8 10, .int .u8 67, .int .u8 111, .int .u8 110, .int .u8 116, .int .u8 101, .int .u8 110, .int .u8 116, .int .u8 45, .int .u8 76, .int .u8 101, .int .u8 110, .int .u8 103, .int .u8 116, .int .u8 104, .int .u8 58, .int .u8 32, .int .u8 51, .int .u8 13, .int .u8 10, .int .u8 13, .int .u8 10, .int .u8 97, .int .u8 98, .int .u8 99] 5 (50, 51))) := (Below.refl _ _).alloc (Nat.le_refl _) _
  have ea1 : (bytesV Strm.aw1).toArray = #[.int .u8 80, .int .u8 79, .int .u8 83, .int .u8 84, .int .u8 32, .int .u8 47, .int .u8 32, .int .u8 72, .int .u8 84, .int .u8 84, .int .u8 80, .int .u8 47, .int .u8 49, .int .u8 46, .int .u8 49, .int .u8 13, .int .u8 10, .int .u8 72, .int .u8 111, .int .u8 115, .int .u8 116, .int .u8 58, .int .u8 32, .int .u8 97, .int .u8 13, .int .u8 10, .int .u8 67, .int .u8 111, .int .u8 110, .int .u8 116, .int .u8 101, .int .u8 110, .int .u8 116, .int .u8 45, .int .u8 76, .int .u8 101, .int .u8 110, .int .u8 103, .int .u8 116, .int .u8 104, .int .u8 58, .int .u8 32, .int .u8 51, .int .u8 13, .int .u8 10, .int .u8 13, .int .u8 10, .int .u8 97, .int .u8 98, .int .u8 99] := by kernel_rfl
  have hr1 := rd_const w1 5 (50, 51) Strm.aw1
  rw [ea1, show Strm.aw1.length = 50 from by kernel_rfl] at hr1
  have ea2 : (bytesV Strm.aw2).toArray = #[.int .u8 71, .int .u8 69, .int .u8 84, .int .u8 32, .int .u8 47, .int .u8 32, .int .u8 72, .int .u8 84, .int .u8 84, .int .u8 80, .int .u8 47, .int .u8 49, .int .u8 46, .int .u8 49, .int .u8 13, .int .u8 10, .int .u8 13, .int .u8 10] := by kernel_rfl
  have hr2 : ∀ W : World, Rd (W.alloc (.cells #[.int .u8 71, .int .u8 69, .int .u8 84, .int .u8 32, .int .u8 47, .int .u8 32, .int .u8 72, .int .u8 84, .int .u8 84, .int .u8 80, .int .u8 47, .int .u8 49, .int .u8 46, .int .u8 49, .int .u8 13, .int .u8 10, .int .u8 13, .int .u8 10] 5 (18, 19))) (W.alloc (.cells #[.int .u8 71, .int .u8 69, .int .u8 84, .int .u8 32, .int .u8 47, .int .u8 32, .int .u8 72, .int .u8 84, .int .u8 84, .int .u8 80, .int .u8 47, .int .u8 49, .int .u8 46, .int .u8 49, .int .u8 13, .int .u8 10, .int .u8 13, .int .u8 10] 5 (18, 19))).heap.size 1 (some ⟨W.heap.size, 0, none⟩) 18 (bytesV Strm.aw2) := fun W => by
    have h := rd_const W 5 (18, 19) Strm.aw2
    rw [ea2, show Strm.aw2.length = 18 from by kernel_rfl] at h
    exact h
  have HR2 := Lib.hid hr2
  have hl1 : ∀ o : Obj, (w1.alloc o).heap.size = w1.heap.size + 1 := fun o => by simp
  have HF := sfeed_any (T := 0) (Shp.below (Shp.below (Shp.of HS.out) hb1) hba) (hm1.below hba) (Strm.Inv.init true) rfl rfl (some ⟨w1.heap.size, 0, none⟩) 50 50 Strm.aw1 (by decide) (by decide) (Nat.le_refl _) (fun e => by cases e) hr1 (fun _ g o e f => by
    injection e with e
    injection e with e _ _
    have := new_foot f
    omega)
  unfold FeedsPost at HF
  have HFD := Lib.hid HF
  have HM1 := Lib.hid hm1
  have HB1 := Lib.hid (hb1.trans (hba.mono hb1.size))
  have HZ1 := Lib.hid hz1
  clear HF hm1 hb1 hz1 hba hr1 hr2 ea1 ea2 hl1
  go_upto_region 3 with (first
    | (go_at_call 9; go_must (refine HFD.out.mono ?_; rintro _ w2 ⟨v, L, u, V', r, q, rfl, hre⟩; have HRE := Lib.hid hre; clear hre))
    | fail)
  obtain ⟨hfd, ho, hm2, ha1, ha2, hc2, hf2, ha3⟩ := HRE.out
  clear ha1 ha2 ha3
  obtain ⟨_, hL, hr⟩ := hfd.det Strm.aw_feeds1
  subst hr
  have hb2 : Below w.heap.size w w2 := Below.chg HB1.out hc2 HB1.out.size (fun k hk => by have := new_foot hk; omega)
  obtain ⟨e0, e1, e2, rfl, x0, x1, x2⟩ := three_of hL
  obtain ⟨Av, cv, rfl, _, _, _, _⟩ := ho.row.form
  obtain ⟨gv, ov, ev, _, _, hcl, _⟩ := ho.row.own (show (0 : Nat) < 3 by decide)
  subst ev
  have hdr := (ho.el e1 (by simp)).d
  obtain ⟨Ad, cd, hdv, _, _, hAd, hrd⟩ := Row.form hdr
  rw [x1] at hrd hdv hAd
  have c0 : w2.cell? ⟨gv, ov, none⟩ = some (.int .i64 1) := by have := hcl 0 (.int .i64 (eKind e0.x)) rfl; rw [x0] at this; exact this
  have c9 : w2.cell? ⟨gv, ov + 9, none⟩ = some (.int .i64 3) := by have := hcl 9 (.int .i64 (eLn e0.x : Int)) rfl; rw [x0] at this; exact this
  have c11 : w2.cell? ⟨gv, ov + 11, none⟩ = some (.int .i64 2) := by have := hcl 11 (.int .i64 (eKind e1.x)) rfl; rw [x1] at this; exact this
  have c21 : w2.cell? ⟨gv, ov + 21, none⟩ = some (.slice Ad 3 cd) := by have := hcl 21 e1.dv rfl; rw [hdv] at this; exact this
  have c22 : w2.cell? ⟨gv, ov + 22, none⟩ = some (.int .i64 3) := by have := hcl 22 (.int .i64 (eKind e2.x)) rfl; rw [x2] at this; exact this
  have hgl : gv < w2.heap.size := (ho.row.lt gv rfl).2
  have HB2 := Lib.hid hb2
  have HRD := Lib.hid hrd
  have HAD := Lib.hid hAd
  clear hcl hdr hc2 hf2 hm2 ho hfd x0 x1 x2 hdv hrd hAd kc HM1 HFD HRE
  have hgo : ∀ w3, Below w2.heap.size w2 w3 → (∀ j v, w2.cell? ⟨gv, ov + j, none⟩ = some v → w3.cell? ⟨gv, ov + j, none⟩ = some v) := fun w3 hb j v hv => (hb.cell (p := ⟨gv, ov + j, none⟩) hgl).trans hv
  have HGO := Lib.hid hgo
  have HC0 := Lib.hid (And.intro c0 (And.intro c9 (And.intro c11 (And.intro c21 c22))))
  clear hgo c0 c9 c11 c21 c22
  go_wp2_with (first
    | (go_at_call 6; go_must (refine (snew_any _ true).mono ?_; rintro _ w3 ⟨rfl, hm3, hb3, hz3⟩; have HM3 := Lib.hid hm3; have HB3 := Lib.hid hb3; have HZ3 := Lib.hid hz3; clear hm3 hb3 hz3; have kc2 := Lib.run_convert_bytes_const (P := Tryz.prog) w3 26 5 #[.int .u8 71, .int .u8 69, .int .u8 84, .int .u8 32, .int .u8 47, .int .u8 32, .int .u8 72, .int .u8 84, .int .u8 84, .int .u8 80, .int .u8 47, .int .u8 49, .int .u8 46, .int .u8 49, .int .u8 13, .int .u8 10, .int .u8 13, .int .u8 10] 18 18 Tryz.underlying26 Tryz.underlying5))
    | (go_at_call 9; go_must (refine (sfeed_any (T := 0) (Shp.below (Shp.below (Shp.of (shaped_below HS.out HB2.out)) HB3.out) ((Below.refl _ _).alloc (Nat.le_refl _) _)) (HM3.out.below ((Below.refl _ _).alloc (Nat.le_refl _) _)) (Strm.Inv.init true) rfl rfl (some ⟨w3.heap.size, 0, none⟩) 18 18 Strm.aw2 (by decide) (by decide) (Nat.le_refl _) (fun e => by cases e) (HR2.out w3) (fun _ g o e f => by injection e with e; injection e with e _ _; have := new_foot f; have := HZ3.out; omega)).mono ?_; rintro _ w4 ⟨v4, L4, u4, V4, r4, q4, rfl, hre4⟩; obtain ⟨hfd4, ha0, ha1, ha2, ha3, hc4, ha4, ha5⟩ := hre4; clear ha0 ha1 ha2 ha3 ha4 ha5); obtain ⟨u5, haw⟩ := Strm.aw_feeds2; obtain ⟨_, _, hr4⟩ := hfd4.det haw; subst hr4; have hb4 : Below w2.heap.size w2 w4 := Below.chg (HB3.out.alloc HB3.out.size _) hc4 (by have := HZ3.out; simp; omega) (fun k hk => by have := new_foot hk; omega); have HB4 := Lib.hid hb4; have k0 := HGO.out w4 hb4 0 _ HC0.out.1; have k9 := HGO.out w4 hb4 9 _ HC0.out.2.1; have k11 := HGO.out w4 hb4 11 _ HC0.out.2.2.1; have k21 := HGO.out w4 hb4 21 _ HC0.out.2.2.2.1; have k22 := HGO.out w4 hb4 22 _ HC0.out.2.2.2.2; rw [Nat.add_zero] at k0; have kcv : (convert 26 9 (.slice Ad 3 cd)).run Tryz.prog w4 = .ok (.string ⟨#[97, 98, 99]⟩) w4 := conv_str (P := Tryz.prog) 26 9 5 Tryz.underlying26 Tryz.underlying5 Tryz.underlying9 ((HRD.out.below hb4).more hb4.size) (fun e => (HAD.out e).1); clear hb4 hc4 hfd4 haw kc2)
    | fail)
  go_ret
  exact ⟨rfl, HB2.out.trans (HB4.out.mono HB2.out.size)⟩
end Go.Proofs.YtklmpadcfioefaaGreatDoor
