/- A sidecar's own replies: Local, Bare, the reference's Local; the law RewriteReplies. Conditions: sizes, the library's variables. -/
import Derived.Test.YtklmpadcfioefaaGreatDoorRLoc2
namespace Go.Proofs.YtklmpadcfioefaaGreatDoor
open Go.RowKit

theorem reply_small (st : Int) (cl : Bool) : (replyP st cl).1.length ≤ 16384 ∧ (replyP st cl).2.length ≤ 64 := by
  unfold replyP
  by_cases h : 100 ≤ st ∧ st ≤ 599
  · rw [if_pos h]
    refine ⟨(write_back (local_in st cl h.1 h.2)).2.2.2, ?_⟩
    show (bodyOf (Lib.itoa st) (reasonP st)).length ≤ 64
    have h1 := reason_size st
    have h2 := itoa_len (n := st) (by unfold isInt; omega)
    simp [bodyOf]; omega
  · rw [if_neg h]; exact ⟨by simp, by simp⟩
theorem wLocal_any (st : Int) (cl : Bool) (w : World) (hsh : w.ShapedOpen Tryz.prog) (ht : Tab w) (hst : isInt st) :
    Calls Tryz.prog 23 #[.int .i64 st, .bool cl] w fun e w' => ∃ v, e = .returned v ∧ RowB w' w.heap.size v ((replyP st cl).1 ++ (replyP st cl).2) ∧ Below w.heap.size w w' := by
  have HL := Lib.hid (wlocal_any st cl w hsh ht hst)
  have hs := reply_small st cl
  unfold LocPost at HL
  obtain ⟨RP, hRP⟩ : ∃ RP, RP = replyP st cl := ⟨_, rfl⟩
  rw [← hRP] at HL hs ⊢
  clear hRP
  obtain ⟨hd, bd⟩ := RP
  dsimp only at HL hs ⊢
  obtain ⟨h1, h2⟩ := hs
  obtain ⟨B, hB⟩ : ∃ B : ByteArray, B = ⟨bd.toArray⟩ := ⟨_, rfl⟩
  have HB : Hid (bd = B.data.toList) := Lib.hid (by rw [hB])
  rw [← hB] at HL
  have h3 : B.data.toList.length ≤ 64 := by rw [← HB.out]; exact h2
  rw [HB.out]
  clear hB HB h2
  go_enter Tryz.func23, Tryz.ntmps23
  go_wp2_with (first
    | (go_at_call 39; go_must (refine HL.out.mono ?_; rintro _ w1 ⟨v1, rfl, hrow1, hb1⟩))
    | (at_builtin; go_must (refine wpList_appB rfl (.tmp 13) (.tmp 14) 9 rfl w.heap.size rfl hrow1 rfl (SrcB.str _ B) (by omega) hb1.size ?_); intro v2 w2 hrow2 hb2 hg2 _)
    | fail)
  go_ret
  exact ⟨v2, rfl, hrow2, hb1.trans hb2⟩
theorem wBare_any (st : Int) (cl : Bool) (w : World) (hsh : w.ShapedOpen Tryz.prog) (ht : Tab w) (hst : isInt st) :
    Calls Tryz.prog 24 #[.int .i64 st, .bool cl] w fun e w' => ∃ v, e = .returned v ∧ RowB w' w.heap.size v (replyP st cl).1 ∧ Below w.heap.size w w' := by
  have HL := Lib.hid (wlocal_any st cl w hsh ht hst)
  unfold LocPost at HL
  obtain ⟨RP, hRP⟩ : ∃ RP, RP = replyP st cl := ⟨_, rfl⟩
  rw [← hRP] at HL ⊢
  clear hRP
  obtain ⟨hd, bd⟩ := RP
  dsimp only at HL ⊢
  go_enter Tryz.func24, Tryz.ntmps24
  go_wp2_with (first
    | (go_at_call 39; go_must (refine HL.out.mono ?_; rintro _ w1 ⟨v1, rfl, hrow1, hb1⟩))
    | fail)
  go_ret
  exact ⟨v1, rfl, hrow1, hb1⟩

end Go.Proofs.YtklmpadcfioefaaGreatDoor
