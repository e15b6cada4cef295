/- law 23's awake. Conditions: the world's shape, the library's table. -/
import Derived.Test.YtabecgdaiakgiaaDoorCLast
import Derived.Test.YtabecgdaiakgiaaDoorCFeeds
import Derived.Laws.StructEq
namespace Go.Proofs.YtabecgdaiakgiaaDoor
open Go.RowKit

def aw1 : Bs := [48, 51, 59, 97, 61, 98, 13, 10, 97, 98, 99, 13, 10, 48, 59, 122, 13, 10, 84, 58, 32, 32, 49, 32, 13, 10, 13, 10, 120]
def aw2 : Bs := [51, 13, 10, 97, 98, 99, 100]
def aw3 : Bs := [51, 13, 10, 97, 98]
theorem aw1_dec : decP aw1 = ([97, 98, 99], [([84], [49])], 28, 0) := by decide +kernel
theorem aw3_dec : decP aw3 = ([], [], 0, 10) := by decide +kernel
theorem aw2_feed : (Chunk.feed {} aw2 0 []).2 = ([97, 98, 99], 6, 2) := by decide +kernel
theorem aw_write : Chunk.writeC [97, 98, 99] = [51, 13, 10, 97, 98, 99, 13, 10] := by decide +kernel
theorem run_eqlField (w : World) (xa xb : ByteArray) : (binOp .eql 48 (.agg #[.string xa, .string xb]) (.agg #[.string xa, .string xb])).run Tryd.prog w = .ok (.bool true) w := by
  rw [run_eql_struct, show (10000 : Nat) = 9998 + 2 from rfl, run_eqField w 9998]; simp
theorem lit_rd {w : World} {base c n : Nat} {A : Option Addr} {L : Bs} (h : RowB w base (.slice A n c) L) : Rd w w.heap.size 1 A n (bytesV L) := by
  obtain ⟨A', c', e, _, _, _, hr⟩ := h.form
  injection e with e1 e2 e3
  subst e1 e2 e3
  exact hr
set_option maxHeartbeats 4000000 in
set_option maxRecDepth 100000 in
theorem mawake_any (w : World) (hsh : w.ShapedOpen Tryd.prog) (ht : Tz w) : Calls Tryd.prog 21 #[] w fun e w' => e = .returned (.bool true) ∧ Below w.heap.size w w' := by
  have HS := Lib.hid hsh
  have HT := Lib.hid ht
  have h5 := ht.lt
  clear hsh ht
  obtain ⟨w1, hcv1, hrow1, hb1⟩ := conv_lit w aw1 [.int .u8 48, .int .u8 51, .int .u8 59, .int .u8 97, .int .u8 61, .int .u8 98, .int .u8 13, .int .u8 10, .int .u8 97, .int .u8 98, .int .u8 99, .int .u8 13, .int .u8 10, .int .u8 48, .int .u8 59, .int .u8 122, .int .u8 13, .int .u8 10, .int .u8 84, .int .u8 58, .int .u8 32, .int .u8 32, .int .u8 49, .int .u8 32, .int .u8 13, .int .u8 10, .int .u8 13, .int .u8 10, .int .u8 120] 29
  have hr1 := lit_rd hrow1
  have HD1 := decode_any (some ⟨w.heap.size, 0, none⟩) 29 29 aw1 w1 (shaped_below HS.out hb1) (by omega) (Nat.le_refl _) (fun e => by cases e) hr1
  rw [aw1_dec] at HD1
  have HD1 := Lib.hid HD1
  have HB1 := Lib.hid hb1
  have hz1 := hb1.size
  unfold DecPost at HD1
  simp only at HD1
  clear hrow1 hb1 hr1
  go_enter Tryd.func21, Tryd.ntmps21
  go_upto_region 2 with (first
    | (go_at_call 22; go_must (refine HD1.out.mono ?_; rintro _ w2 ⟨vo2, vt2, rfl, hro2, hrt2, hap2, hb2⟩))
    | fail)
  have hz2 := hb2.size
  have HB2 := Lib.hid (HB1.out.trans (hb2.mono hz1))
  have RO2 := Lib.hid hro2
  have RT2 := Lib.hid hrt2
  clear hcv1 hro2 hrt2 hap2 hb2 HD1
  obtain ⟨w3, hcv3, hrow3, hb3⟩ := conv_lit (w2.alloc (.cells #[.int .i64 0, .int .i64 0, .slice none 0 0, .int .i64 0, .int .i64 0, .int .i64 0, .int .i64 0, .slice none 0 0] 41)) aw2 [.int .u8 51, .int .u8 13, .int .u8 10, .int .u8 97, .int .u8 98, .int .u8 99, .int .u8 100] 7
  have hb20 : Below w2.heap.size w2 (w2.alloc (.cells #[.int .i64 0, .int .i64 0, .slice none 0 0, .int .i64 0, .int .i64 0, .int .i64 0, .int .i64 0, .slice none 0 0] 41)) := (Below.refl _ _).alloc (Nat.le_refl _) _
  have hr3 := lit_rd hrow3
  have hz20 : (w2.alloc (.cells #[.int .i64 0, .int .i64 0, .slice none 0 0, .int .i64 0, .int .i64 0, .int .i64 0, .int .i64 0, .slice none 0 0] 41)).heap.size = w2.heap.size + 1 := by simp
  have hb23 : Below w2.heap.size w2 w3 := hb20.trans (hb3.mono (by omega))
  have HF3 := feedA_any (T := 0) (some ⟨w2.heap.size + 1, 0, none⟩) 7 7 aw2 (w := w3) (base := w2.heap.size) (b := w2.heap.size) (s := {}) (vl := .slice none 0 0) (vt := .slice none 0 0) ⟨w2, shaped_below HS.out HB2.out, Nat.le_refl _, hb23⟩ ((rdr_new w2).below hb3) Chunk.Good.init (by omega) (by omega) (Nat.le_refl _) (fun e => by cases e) (by rw [hz20] at hr3; exact hr3) (fun _ g o e hf => by
    injection e with e
    injection e with e1 _ _
    subst e1
    rcases hf with x | x | x
    · omega
    · simp [Value.ownBlock] at x
    · simp [Value.ownBlock] at x)
  obtain ⟨s', hs'⟩ : ∃ s', Chunk.feedA {} aw2 = (s', [97, 98, 99], 6, 2) := ⟨(Chunk.feed {} aw2 0 []).1, by
    have e : Chunk.feedA {} aw2 = Chunk.feed {} aw2 0 [] := rfl
    rw [e, ← aw2_feed]⟩
  rw [hs'] at HF3
  unfold FeedPost at HF3
  simp only [decide_false, if_true, show ((2 : Nat) = 1) = False by simp] at HF3
  have HF3 := Lib.hid HF3
  have HB3 := Lib.hid hb23
  have hz3 := hb23.size
  rw [hz20] at hcv3
  clear hrow3 hb3 hb20 hr3 hz20 hb23 hs'
  go_upto_region 3 with (first
    | (go_at_call 23; go_must (refine HF3.out.mono ?_; rintro _ w4 ⟨vo4, rfl, hro4, vl4, vt4, hr4, hch4, _, _, _⟩))
    | fail)
  have hz4 := hch4.size
  have HB4 : Hid (Below w2.heap.size w2 w4) := Lib.hid (Below.chg HB3.out hch4 (by omega) (fun k hf => by
    rcases hf with x | x | x
    · omega
    · simp [Value.ownBlock] at x
    · simp [Value.ownBlock] at x))
  clear hcv3 hro4 hr4 hch4 HF3
  obtain ⟨w5, hcv5, hrow5, hb5⟩ := conv_lit w4 aw3 [.int .u8 51, .int .u8 13, .int .u8 10, .int .u8 97, .int .u8 98] 5
  have hr5 := lit_rd hrow5
  have HB5 : Hid (Below w2.heap.size w2 w5) := Lib.hid (HB4.out.trans (hb5.mono (by have := HB4.out.size; omega)))
  have HD5 := decode_any (some ⟨w4.heap.size, 0, none⟩) 5 5 aw3 w5 (shaped_below HS.out (HB2.out.trans (HB5.out.mono HB2.out.size))) (by omega) (Nat.le_refl _) (fun e => by cases e) hr5
  rw [aw3_dec] at HD5
  unfold DecPost at HD5
  simp only at HD5
  have HD5 := Lib.hid HD5
  have hz5 := hb5.size
  clear hrow5 hb5 hr5
  go_upto_region 4 with (first
    | (go_at_call 22; go_must (refine HD5.out.mono ?_; rintro _ w6 ⟨vo6, vt6, rfl, hro6, hrt6, hap6, hb6⟩))
    | fail)
  have hz6 := hb6.size
  have HB6 : Hid (Below w2.heap.size w2 w6) := Lib.hid (HB5.out.trans (hb6.mono (by have := HB5.out.size; omega)))
  clear hcv5 hro6 hrt6 hap6 hb6 HD5
  have RO6 := RO2.out.below_all HB6.out
  have RT6 := RT2.out.below_all HB6.out
  obtain ⟨Ao, co, rfl, _, _, _, _⟩ := RO6.form
  obtain ⟨At, ct, rfl, _, _, _, _⟩ := RT6.form
  have v1 : (convert 32 9 (.slice Ao 3 co)).run Tryd.prog w6 = .ok (.string ⟨#[97, 98, 99]⟩) w6 := conv_row RO6
  obtain ⟨g, o, rfl, _, hg, hcell, _⟩ := Row.own RT6 (by decide)
  have r1 : World.rangeAt w6 g o [.string ⟨#[84]⟩, .string ⟨#[49]⟩] := by
    intro j v hj
    match j, hj with
    | 0, hj => cases hj; exact hcell 0 _ rfl
    | 1, hj => cases hj; exact hcell 1 _ rfl
  obtain ⟨w7, hcv7, hrow7, hb7⟩ := conv_lit w6 [97, 98, 99] [.int .u8 97, .int .u8 98, .int .u8 99] 3
  have hr7 := lit_rd hrow7
  have HB7 : Hid (Below w2.heap.size w2 w7) := Lib.hid (HB6.out.trans (hb7.mono (by have := HB6.out.size; omega)))
  have HW7 := cwrite_any (some ⟨w6.heap.size, 0, none⟩) 3 3 [97, 98, 99] w7 (HT.out.below (HB2.out.trans (HB7.out.mono HB2.out.size)) h5) (fun e => by cases e) hr7 (by omega)
  rw [aw_write] at HW7
  have HW7 := Lib.hid HW7
  have heq := run_eqlField
  have hz7 := hb7.size
  clear RO6 RT6 hcell hrow7 hb7 hr7
  go_wp2_with (first
    | (refine wpList_load_mid_g (by rfl) 48 (.tmp 57) rfl g o rfl [.string ⟨#[84]⟩, .string ⟨#[49]⟩] _ r1 Tryd.underlying48 rfl (by kernel_rfl) ?_)
    | (go_at_call 24; go_must (refine HW7.out.mono ?_; rintro _ w8 ⟨v8, rfl, hrow8, hb8⟩; obtain ⟨A8, c8, rfl, _, _, _, _⟩ := RowB.form hrow8; have v2 : (convert 32 9 (.slice A8 8 c8)).run Tryd.prog w8 = .ok (.string ⟨#[51, 13, 10, 97, 98, 99, 13, 10]⟩) w8 := conv_row hrow8))
    | fail)
  go_ret
  exact ⟨rfl, HB2.out.trans ((HB7.out.trans (hb8.mono (by have := HB7.out.size; omega))).mono HB2.out.size)⟩
end Go.Proofs.YtabecgdaiakgiaaDoor
