/- law 25's awake. Conditions: the world's shape, the library's table. -/
import Derived.Test.YtklmpadcfioefaaGreatDoorMX1
import Derived.Test.YtklmpadcfioefaaGreatDoorRRsp2
import Derived.Test.YtklmpadcfioefaaGreatDoorMX0
import Derived.Test.YtklmpadcfioefaaGreatDoorRKeeps
namespace Go.Proofs.YtklmpadcfioefaaGreatDoor
open Go.RowKit

theorem rd_lit (w : World) (fs : List Fl) (n : Nat) (hn : n = fs.length) (us : List Value) (hu : us = fieldsV fs) : Rd (w.alloc (.cells us.toArray 89)) (w.alloc (.cells us.toArray 89)).heap.size 2 (some ⟨w.heap.size, 0, none⟩) n (fieldsV fs) := by
  subst hn hu
  refine ⟨fieldsV_len _, fun _ => ⟨w.heap.size, 0, rfl, by simp, fun j u hu => ?_⟩⟩
  rw [Nat.zero_add, World.cell?_alloc_mark]
  simpa using hu
set_option maxHeartbeats 8000000 in
set_option maxRecDepth 100000 in
theorem vawake_any (w : World) (hsh : w.ShapedOpen Tryz.prog) (htab : Tab w) : Calls Tryz.prog 22 #[] w fun e w' => e = .returned (.bool true) ∧ Below w.heap.size w w' := by
  have HS0 := Lib.hid hsh
  have HT0 := Lib.hid htab
  have HQ1 : Hid (∀ (W : World), Below w.heap.size w W → ∀ A c, A ≠ none → Rd W W.heap.size 2 A 4 (fieldsV awF1) → Calls Tryz.prog 36 #[.agg #[.bool true, .string ⟨#[71, 69, 84]⟩, .string ⟨#[104, 116, 116, 112, 58, 47, 47, 104, 47, 97]⟩, .int .i64 0, .string ⟨#[]⟩, .int .i64 1, .slice A 4 c], .int .i64 2, .int .i64 0, .string ⟨#[115, 58, 56, 48]⟩] W fun e w' =>
      ∃ A' c', e = .returned (.tuple #[.agg #[.bool true, .string ⟨#[71, 69, 84]⟩, .string ⟨#[47, 97]⟩, .int .i64 0, .string ⟨#[]⟩, .int .i64 1, .slice A' 3 c'], .int .i64 0]) ∧ Rd w' w'.heap.size 2 A' 3 (fieldsV awG1) ∧ Below W.heap.size W w') := Lib.hid (fun W hB A c hA hr => by
    have h := wRequest_any true sGet sUrl 0 ⟨#[]⟩ 1 A 4 c awF1 2 0 sS80 W (shaped_below HS0.out hB) (HT0.out.below hB) (fun e => absurd e hA) hr (by unfold isInt; omega) (by omega) (by decide) (by decide) (by decide) (by decide) (by decide +kernel)
    rw [aw_req] at h
    refine h.mono ?_
    rintro e w' ⟨v, rfl, hrow, hb⟩
    obtain ⟨A', c', rfl, _, _, _, rd⟩ := hrow.form
    exact ⟨A', c', rfl, rd, hb⟩)
  have HQ3 : Hid (∀ (W : World), Below w.heap.size w W → ∀ A c, A ≠ none → Rd W W.heap.size 2 A 4 (fieldsV awF1) → Calls Tryz.prog 36 #[.agg #[.bool true, .string ⟨#[71, 69, 84]⟩, .string ⟨#[104, 116, 116, 112, 58, 47, 47, 104, 47, 97]⟩, .int .i64 0, .string ⟨#[]⟩, .int .i64 1, .slice A 4 c], .int .i64 3, .int .i64 0, .string ⟨#[115]⟩] W fun e w' =>
      ∃ A' c', e = .returned (.tuple #[.agg #[.bool false, .string ⟨#[]⟩, .string ⟨#[]⟩, .int .i64 0, .string ⟨#[]⟩, .int .i64 0, .slice A' 0 c'], .int .i64 2]) ∧ Below W.heap.size W w') := Lib.hid (fun W hB A c hA hr => by
    have h := wRequest_any true sGet sUrl 0 ⟨#[]⟩ 1 A 4 c awF1 3 0 ⟨#[115]⟩ W (shaped_below HS0.out hB) (HT0.out.below hB) (fun e => absurd e hA) hr (by unfold isInt; omega) (by omega) (by decide) (by decide) (by decide) (by decide) (by decide +kernel)
    rw [aw_req3] at h
    refine h.mono ?_
    rintro e w' ⟨v, rfl, hrow, hb⟩
    obtain ⟨A', c', rfl, _, _, _, rd⟩ := hrow.form
    exact ⟨A', c', rfl, hb⟩)
  have HQ2 : Hid (∀ (W : World), Below w.heap.size w W → ∀ A c, A ≠ none → Rd W W.heap.size 2 A 1 (fieldsV awF2) → Calls Tryz.prog 37 #[.agg #[.bool false, .string ⟨#[]⟩, .string ⟨#[]⟩, .int .i64 200, .string ⟨#[]⟩, .int .i64 1, .slice A 1 c], .int .i64 1, .int .i64 3, .bool false, .int .i64 0] W fun e w' =>
      ∃ A' c', e = .returned (.tuple #[.agg #[.bool false, .string ⟨#[]⟩, .string ⟨#[]⟩, .int .i64 200, .string ⟨#[]⟩, .int .i64 1, .slice A' 3 c'], .bool false, .int .i64 0]) ∧ Rd w' w'.heap.size 2 A' 3 (fieldsV awG2) ∧ Below W.heap.size W w') := Lib.hid (fun W hB A c hA hr => by
    have h := wResponse_yes ⟨#[]⟩ ⟨#[]⟩ 200 ⟨#[]⟩ 1 A 1 c awF2 1 3 false 0 W (shaped_below HS0.out hB) (HT0.out.below hB) (fun e => absurd e hA) hr (by unfold isInt; omega) (by unfold isInt; omega) (by omega) (by decide) (by decide) (by decide) (by decide +kernel) (by kernel_rfl)
    rw [aw_rsp] at h
    refine h.mono ?_
    rintro e w' ⟨v, rfl, hrow, hb⟩
    obtain ⟨A', c', rfl, _, _, _, rd⟩ := hrow.form
    exact ⟨A', c', rfl, rd, hb⟩)
  have HKE : Hid (∀ (W : World), Below w.heap.size w W → ∀ A c, Rd W W.heap.size 2 A 3 (fieldsV awG1) → Calls Tryz.prog 26 #[.agg #[.bool true, .string ⟨#[71, 69, 84]⟩, .string ⟨#[47, 97]⟩, .int .i64 0, .string ⟨#[]⟩, .int .i64 1, .slice A 3 c]] W fun e w' => e = .returned (.bool true) ∧ Below W.heap.size W w') := Lib.hid (fun W hB A c hr => by
    have h := wKeeps_any true ⟨#[71, 69, 84]⟩ ⟨#[47, 97]⟩ 0 ⟨#[]⟩ 1 A 3 c awG1 W (shaped_below HS0.out hB) hr (by omega) (by decide) (by decide +kernel)
    rw [aw_keeps] at h
    exact h)
  have B1 : Below w.heap.size w (w.alloc (.cells #[.string ⟨#[72, 111, 115, 116]⟩, .string ⟨#[104]⟩, .string ⟨#[67, 111, 110, 110, 101, 99, 116, 105, 111, 110]⟩, .string ⟨#[88, 45, 65]⟩, .string ⟨#[88, 45, 97]⟩, .string ⟨#[49]⟩, .string ⟨#[65, 99, 99, 101, 112, 116]⟩, .string ⟨#[98]⟩] 89)) := (Below.refl _ _).alloc (Nat.le_refl _) _
  have r1 := rd_lit w awF1 4 rfl [.string ⟨#[72, 111, 115, 116]⟩, .string ⟨#[104]⟩, .string ⟨#[67, 111, 110, 110, 101, 99, 116, 105, 111, 110]⟩, .string ⟨#[88, 45, 65]⟩, .string ⟨#[88, 45, 97]⟩, .string ⟨#[49]⟩, .string ⟨#[65, 99, 99, 101, 112, 116]⟩, .string ⟨#[98]⟩] rfl
  have HR1 := Lib.hid r1
  have HB1 := Lib.hid B1
  clear hsh htab r1 B1
  go_enter Tryz.func22, Tryz.ntmps22
  have z1 := heap_alloc_size w (.cells #[.string ⟨#[72, 111, 115, 116]⟩, .string ⟨#[104]⟩, .string ⟨#[67, 111, 110, 110, 101, 99, 116, 105, 111, 110]⟩, .string ⟨#[88, 45, 65]⟩, .string ⟨#[88, 45, 97]⟩, .string ⟨#[49]⟩, .string ⟨#[65, 99, 99, 101, 112, 116]⟩, .string ⟨#[98]⟩] 89)
  have v2 := Var.new (w.alloc (.cells #[.string ⟨#[72, 111, 115, 116]⟩, .string ⟨#[104]⟩, .string ⟨#[67, 111, 110, 110, 101, 99, 116, 105, 111, 110]⟩, .string ⟨#[88, 45, 65]⟩, .string ⟨#[88, 45, 97]⟩, .string ⟨#[49]⟩, .string ⟨#[65, 99, 99, 101, 112, 116]⟩, .string ⟨#[98]⟩] 89)) 52 [.bool true, .string ⟨#[71, 69, 84]⟩, .string ⟨#[104, 116, 116, 112, 58, 47, 47, 104, 47, 97]⟩, .int .i64 0, .string ⟨#[]⟩, .int .i64 1, .slice (some ⟨w.heap.size, 0, none⟩) 4 4]
  rw [z1] at v2
  have HV2 := Lib.hid v2
  have b12 : Below (w.alloc (.cells #[.string ⟨#[72, 111, 115, 116]⟩, .string ⟨#[104]⟩, .string ⟨#[67, 111, 110, 110, 101, 99, 116, 105, 111, 110]⟩, .string ⟨#[88, 45, 65]⟩, .string ⟨#[88, 45, 97]⟩, .string ⟨#[49]⟩, .string ⟨#[65, 99, 99, 101, 112, 116]⟩, .string ⟨#[98]⟩] 89)).heap.size (w.alloc (.cells #[.string ⟨#[72, 111, 115, 116]⟩, .string ⟨#[104]⟩, .string ⟨#[67, 111, 110, 110, 101, 99, 116, 105, 111, 110]⟩, .string ⟨#[88, 45, 65]⟩, .string ⟨#[88, 45, 97]⟩, .string ⟨#[49]⟩, .string ⟨#[65, 99, 99, 101, 112, 116]⟩, .string ⟨#[98]⟩] 89)) ((w.alloc (.cells #[.string ⟨#[72, 111, 115, 116]⟩, .string ⟨#[104]⟩, .string ⟨#[67, 111, 110, 110, 101, 99, 116, 105, 111, 110]⟩, .string ⟨#[88, 45, 65]⟩, .string ⟨#[88, 45, 97]⟩, .string ⟨#[49]⟩, .string ⟨#[65, 99, 99, 101, 112, 116]⟩, .string ⟨#[98]⟩] 89)).alloc (.cells #[.bool true, .string ⟨#[71, 69, 84]⟩, .string ⟨#[104, 116, 116, 112, 58, 47, 47, 104, 47, 97]⟩, .int .i64 0, .string ⟨#[]⟩, .int .i64 1, .slice (some ⟨w.heap.size, 0, none⟩) 4 4] 52)) := (Below.refl _ _).alloc (Nat.le_refl _) _
  have HR2 := Lib.hid (HR1.out.keeps b12)
  have HB2 := Lib.hid (HB1.out.trans (b12.mono HB1.out.size))
  have z2 := heap_alloc_size (w.alloc (.cells #[.string ⟨#[72, 111, 115, 116]⟩, .string ⟨#[104]⟩, .string ⟨#[67, 111, 110, 110, 101, 99, 116, 105, 111, 110]⟩, .string ⟨#[88, 45, 65]⟩, .string ⟨#[88, 45, 97]⟩, .string ⟨#[49]⟩, .string ⟨#[65, 99, 99, 101, 112, 116]⟩, .string ⟨#[98]⟩] 89)) (.cells #[.bool true, .string ⟨#[71, 69, 84]⟩, .string ⟨#[104, 116, 116, 112, 58, 47, 47, 104, 47, 97]⟩, .int .i64 0, .string ⟨#[]⟩, .int .i64 1, .slice (some ⟨w.heap.size, 0, none⟩) 4 4] 52)
  have HZ2 := Lib.hid (z2.trans (congrArg (· + 1) z1))
  clear z1 v2 b12 z2
  go_upto_region 3 with (first
    | (refine wpList_load_mid rfl 52 (.tmp 1) rfl (w.heap.size + 1) 0 rfl [.bool true, .string ⟨#[71, 69, 84]⟩, .string ⟨#[104, 116, 116, 112, 58, 47, 47, 104, 47, 97]⟩, .int .i64 0, .string ⟨#[]⟩, .int .i64 1, .slice (some ⟨w.heap.size, 0, none⟩) 4 4] _ HV2.out.range Tryz.underlying52 rfl (by kernel_rfl) ?_)
    | (go_at_call 36; go_must (refine (HQ1.out _ HB2.out (some ⟨w.heap.size, 0, none⟩) 4 (by simp) HR2.out).mono ?_; rintro _ w3 ⟨A3, c3, rfl, rd3, hb3⟩))
    | fail)
  have hz3 : w.heap.size + 2 ≤ w3.heap.size := by have := hb3.size; have := HZ2.out; omega
  have B3 := Lib.hid (HB2.out.trans (hb3.mono HB2.out.size))
  have B5 := Lib.hid ((B3.out.alloc B3.out.size (.cells #[.bool true, .string ⟨#[71, 69, 84]⟩, .string ⟨#[47, 97]⟩, .int .i64 0, .string ⟨#[]⟩, .int .i64 1, .slice A3 3 c3] 52)).alloc (by have := heap_alloc_size w3 (.cells #[.bool true, .string ⟨#[71, 69, 84]⟩, .string ⟨#[47, 97]⟩, .int .i64 0, .string ⟨#[]⟩, .int .i64 1, .slice A3 3 c3] 52); omega) (.cells #[.string ⟨#[65]⟩, .string ⟨#[98]⟩] 89))
  have b35 : Below w3.heap.size w3 ((w3.alloc (.cells #[.bool true, .string ⟨#[71, 69, 84]⟩, .string ⟨#[47, 97]⟩, .int .i64 0, .string ⟨#[]⟩, .int .i64 1, .slice A3 3 c3] 52)).alloc (.cells #[.string ⟨#[65]⟩, .string ⟨#[98]⟩] 89)) := ((Below.refl _ _).alloc (Nat.le_refl _) _).alloc (by have := heap_alloc_size w3 (.cells #[.bool true, .string ⟨#[71, 69, 84]⟩, .string ⟨#[47, 97]⟩, .int .i64 0, .string ⟨#[]⟩, .int .i64 1, .slice A3 3 c3] 52); omega) _
  have HV5 := Lib.hid ((HV2.out.below_all hb3).below_all b35)
  have HR5 := Lib.hid ((HR2.out.keeps hb3).keeps b35)
  have HG5 := Lib.hid (rd3.keeps b35)
  have HU5 := Lib.hid ((Var.new w3 52 [.bool true, .string ⟨#[71, 69, 84]⟩, .string ⟨#[47, 97]⟩, .int .i64 0, .string ⟨#[]⟩, .int .i64 1, .slice A3 3 c3]).alloc (.cells #[.string ⟨#[65]⟩, .string ⟨#[98]⟩] 89))
  have r5 := rd_lit (w3.alloc (.cells #[.bool true, .string ⟨#[71, 69, 84]⟩, .string ⟨#[47, 97]⟩, .int .i64 0, .string ⟨#[]⟩, .int .i64 1, .slice A3 3 c3] 52)) awF2 1 rfl [.string ⟨#[65]⟩, .string ⟨#[98]⟩] rfl
  rw [heap_alloc_size w3] at r5
  have HF5 := Lib.hid r5
  have z5 : ((w3.alloc (.cells #[.bool true, .string ⟨#[71, 69, 84]⟩, .string ⟨#[47, 97]⟩, .int .i64 0, .string ⟨#[]⟩, .int .i64 1, .slice A3 3 c3] 52)).alloc (.cells #[.string ⟨#[65]⟩, .string ⟨#[98]⟩] 89)).heap.size = w3.heap.size + 2 := by rw [heap_alloc_size, heap_alloc_size]
  have HZ5 := Lib.hid z5
  clear hb3 rd3 b35 r5 z5
  go_upto_region 4 with (first
    | (go_at_call 37; go_must (refine (HQ2.out _ B5.out (some ⟨w3.heap.size + 1, 0, none⟩) 1 (by simp) HF5.out).mono ?_; rintro _ w6 ⟨A6, c6, rfl, rd6, hb6⟩))
    | fail)
  have hz6 : w3.heap.size + 2 ≤ w6.heap.size := by have := hb6.size; have := HZ5.out; omega
  have B6 := Lib.hid (B5.out.trans (hb6.mono B5.out.size))
  have b67 : Below w6.heap.size w6 (w6.alloc (.cells #[.bool false, .string ⟨#[]⟩, .string ⟨#[]⟩, .int .i64 200, .string ⟨#[]⟩, .int .i64 1, .slice A6 3 c6] 52)) := (Below.refl _ _).alloc (Nat.le_refl _) _
  have B7 := Lib.hid (B6.out.trans (b67.mono B6.out.size))
  have HV7 := Lib.hid ((HV5.out.below_all hb6).below_all b67)
  have HU7 := Lib.hid ((HU5.out.below_all hb6).below_all b67)
  have HR7 := Lib.hid ((HR5.out.keeps hb6).keeps b67)
  have HG7 := Lib.hid ((HG5.out.keeps hb6).keeps b67)
  have HP7 := Lib.hid (rd6.keeps b67)
  have HT7 := Lib.hid (Var.new w6 52 [.bool false, .string ⟨#[]⟩, .string ⟨#[]⟩, .int .i64 200, .string ⟨#[]⟩, .int .i64 1, .slice A6 3 c6])
  have z7 := heap_alloc_size w6 (.cells #[.bool false, .string ⟨#[]⟩, .string ⟨#[]⟩, .int .i64 200, .string ⟨#[]⟩, .int .i64 1, .slice A6 3 c6] 52)
  have HZ7 := Lib.hid z7
  clear hb6 rd6 b67 z7
  go_upto_region 5 with (first
    | (refine wpList_load_mid rfl 52 (.tmp 1) rfl (w.heap.size + 1) 0 rfl [.bool true, .string ⟨#[71, 69, 84]⟩, .string ⟨#[104, 116, 116, 112, 58, 47, 47, 104, 47, 97]⟩, .int .i64 0, .string ⟨#[]⟩, .int .i64 1, .slice (some ⟨w.heap.size, 0, none⟩) 4 4] _ HV7.out.range Tryz.underlying52 rfl (by kernel_rfl) ?_)
    | (go_at_call 36; go_must (refine (HQ3.out _ B7.out (some ⟨w.heap.size, 0, none⟩) 4 (by simp) HR7.out).mono ?_; rintro _ w8 ⟨A8, c8, rfl, hb8⟩))
    | fail)
  have b89 : Below w8.heap.size w8 (w8.alloc (.cells #[.bool false, .string ⟨#[]⟩, .string ⟨#[]⟩, .int .i64 0, .string ⟨#[]⟩, .int .i64 0, .slice A8 0 c8] 52)) := (Below.refl _ _).alloc (Nat.le_refl _) _
  have B8 := B7.out.trans (hb8.mono B7.out.size)
  have HB9 := Lib.hid (B8.trans (b89.mono B8.size))
  have U9 := Lib.hid ((HU7.out.below_all hb8).below_all b89)
  have T9 := Lib.hid ((HT7.out.below_all hb8).below_all b89)
  have G9 := Lib.hid ((HG7.out.keeps hb8).keeps b89)
  have P9 := Lib.hid ((HP7.out.keeps hb8).keeps b89)
  have hz9 : w6.heap.size + 1 ≤ w8.heap.size := by have := hb8.size; have := HZ7.out; omega
  obtain ⟨w9, hw9⟩ : ∃ w9, w9 = w8.alloc (.cells #[.bool false, .string ⟨#[]⟩, .string ⟨#[]⟩, .int .i64 0, .string ⟨#[]⟩, .int .i64 0, .slice A8 0 c8] 52) := ⟨_, rfl⟩
  rw [← hw9] at HB9 U9 T9 G9 P9 ⊢
  clear hw9 b89 B8 hb8
  have u2 := U9.out.cell (j := 2) rfl
  have u6 := U9.out.cell (j := 6) rfl
  have BA := Lib.hid ((Below.refl w9.heap.size w9).alloc (Nat.le_refl _) (.cells #[.string ⟨#[72, 111, 115, 116]⟩, .string ⟨#[115, 58, 56, 48]⟩, .string ⟨#[65, 99, 99, 101, 112, 116]⟩, .string ⟨#[98]⟩, .string ⟨#[84, 114, 97, 110, 115, 102, 101, 114, 45, 69, 110, 99, 111, 100, 105, 110, 103]⟩, .string ⟨#[99, 104, 117, 110, 107, 101, 100]⟩] 89))
  have GA := Lib.hid (G9.out.keeps BA.out)
  have LA := Lib.hid (rd_lit w9 awG1 3 rfl [.string ⟨#[72, 111, 115, 116]⟩, .string ⟨#[115, 58, 56, 48]⟩, .string ⟨#[65, 99, 99, 101, 112, 116]⟩, .string ⟨#[98]⟩, .string ⟨#[84, 114, 97, 110, 115, 102, 101, 114, 45, 69, 110, 99, 111, 100, 105, 110, 103]⟩, .string ⟨#[99, 104, 117, 110, 107, 101, 100]⟩] rfl)
  have HFA := Lib.hid (vfields_any A3 (some ⟨w9.heap.size, 0, none⟩) 3 c3 3 awG1 _ GA.out LA.out (by omega))
  go_wp2_with (first
    | (go_at_call 38; have hbb' := hbb; go_must (refine HFC.out.mono ?_; rintro _ wd ⟨rfl, hbd⟩))
    | (go_at_call 38; go_must (refine HFA.out.mono ?_; rintro _ wb ⟨rfl, hbb⟩; have T6 := ((T9.out.below_all BA.out).below_all hbb).cell (j := 6) rfl; have BC := Lib.hid ((Below.refl wb.heap.size wb).alloc (Nat.le_refl _) (.cells #[.string ⟨#[65]⟩, .string ⟨#[98]⟩, .string ⟨#[67, 111, 110, 116, 101, 110, 116, 45, 76, 101, 110, 103, 116, 104]⟩, .string ⟨#[51]⟩, .string ⟨#[67, 111, 110, 110, 101, 99, 116, 105, 111, 110]⟩, .string ⟨#[107, 101, 101, 112, 45, 97, 108, 105, 118, 101]⟩] 89)); have HFC := Lib.hid (vfields_any A6 (some ⟨wb.heap.size, 0, none⟩) 3 c6 3 awG2 _ (((P9.out.keeps BA.out).keeps hbb).keeps BC.out) (rd_lit wb awG2 3 rfl [.string ⟨#[65]⟩, .string ⟨#[98]⟩, .string ⟨#[67, 111, 110, 116, 101, 110, 116, 45, 76, 101, 110, 103, 116, 104]⟩, .string ⟨#[51]⟩, .string ⟨#[67, 111, 110, 110, 101, 99, 116, 105, 111, 110]⟩, .string ⟨#[107, 101, 101, 112, 45, 97, 108, 105, 118, 101]⟩] rfl) (by omega)); have UD := Lib.hid (((U9.out.below_all BA.out).below_all hbb).below_all BC.out); have GD := Lib.hid ((GA.out.keeps hbb).keeps BC.out)))
    | (refine wpList_load_mid_g (by rfl) 52 (.tmp 2) rfl w3.heap.size 0 rfl [.bool true, .string ⟨#[71, 69, 84]⟩, .string ⟨#[47, 97]⟩, .int .i64 0, .string ⟨#[]⟩, .int .i64 1, .slice A3 3 c3] _ (UD.out.below_all hbd).range Tryz.underlying52 rfl (by kernel_rfl) ?_)
    | (go_at_call 26; go_must (refine (HKE.out _ (((((HB9.out.trans (BA.out.mono HB9.out.size)).trans (hbb.mono (by have := HB9.out.size; have := BA.out.size; omega))).trans (BC.out.mono (by have := HB9.out.size; have := BA.out.size; have := hbb.size; omega)))).trans (hbd.mono (by have := HB9.out.size; have := BA.out.size; have := hbb.size; have := BC.out.size; omega))) A3 c3 (GD.out.keeps hbd)).mono ?_; rintro _ we ⟨rfl, hbe⟩))
    | fail)
  have s9 := HB9.out.size
  have sA := BA.out.size
  have sB := hbb.size
  have sC := BC.out.size
  have sD := hbd.size
  go_ret
  exact ⟨rfl, ((((HB9.out.trans (BA.out.mono s9)).trans (hbb.mono (by omega))).trans (BC.out.mono (by omega))).trans (hbd.mono (by omega))).trans (hbe.mono (by omega))⟩
end Go.Proofs.YtklmpadcfioefaaGreatDoor
