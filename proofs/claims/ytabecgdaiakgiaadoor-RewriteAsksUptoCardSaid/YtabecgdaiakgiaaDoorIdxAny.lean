/- strings.IndexAny(s, "/?") at every s. Condition: the size. -/
import Derived.Test.YtabecgdaiakgiaaDoorIdxErr
import Derived.Deep.LoopGhost
import Derived.Lib.OthersKept
namespace Go.Proofs.YtabecgdaiakgiaaDoor
open Go.RowKit

theorem zero118 (w : World) : (zeroValue (Tryd.lays153_ren.t 116)).run Tryd.prog w = .ok (.agg (Array.replicate 256 (.bool false))) w := by kernel_rfl
/-- what IndexRune says of a decoded rune -/
theorem idxRune_any (r : Nat) (h2 : r ≤ 1114111) (w : World) :
    Calls Tryd.prog 93 #[.string ⟨#[47, 63]⟩, .int .i32 (r : Int)] w fun e w' => ∃ i : Int, e = .returned (.int .i64 i) ∧ decide (0 ≤ i) = (decide (r = 47) || decide (r = 63)) ∧ Below w.heap.size w w' := by
  by_cases h1 : r < 128
  · refine (Tryd.strings_IndexRune_ascii ⟨#[47, 63]⟩ (r : Int) w (by omega) (by omega)).mono ?_
    rintro e w' ⟨he, rfl⟩
    refine ⟨_, he, ?_, Below.refl _ _⟩
    have key : ∀ r : Fin 128, decide (0 ≤ Lib.indexByte (ByteArray.mk #[47, 63]).data.toList ((r.val : Int).toNat.toUInt8)) = (decide (r.val = 47) || decide (r.val = 63)) := by decide +kernel
    exact key ⟨r, h1⟩
  · have hz : (decide (r = 47) || decide (r = 63)) = false := by simp; omega
    rw [hz]
    by_cases he : r = 65533
    · subst he
      refine (idxRune_err w).mono ?_
      rintro e w' ⟨he, hb⟩
      exact ⟨-1, he, rfl, hb⟩
    · refine (idxRune_far r (by omega) h2 he w).mono ?_
      rintro e w' ⟨he, hb⟩
      exact ⟨-1, he, rfl, hb⟩

theorem data_at {s : ByteArray} {i : Nat} {b : UInt8} (h : s.data.toList[i]? = some b) : i < s.size := by
  have := (List.getElem?_eq_some_iff.1 h).1
  rw [← Lib.size_eq] at this; exact this

set_option maxHeartbeats 2000000 in
set_option maxRecDepth 100000 in
theorem idxAny_any (s : ByteArray) (w : World) (hs : s.size ≤ 16777216) :
    Calls Tryd.prog 57 #[.string s, .string ⟨#[47, 63]⟩] w fun e w' => e = .returned (.int .i64 (Lib.indexAny s.data.toList [47, 63])) ∧ Below w.heap.size w w' := by
  by_cases h8 : 8 < s.size
  · refine (Tryd.strings_IndexAny_long zero118 s ⟨#[47, 63]⟩ w (by decide) h8 (by omega) (by decide) (by intro j b hj; match j, hj with | 0, hj => cases hj; decide | 1, hj => cases hj; decide)).mono ?_
    rintro e w' ⟨he, rfl⟩
    exact ⟨he, ((Below.refl _ _).alloc (Nat.le_refl _) _).alloc (by simp) _⟩
  · have h8z : decide ((8 : Int) < (s.size : Int)) = false := decide_eq_false (by omega)
    go_enter Tryd.func57, Tryd.ntmps57
    go_wp2_with (go_at_call 94; refine (Tryd.strings_shouldUseASCIISet _ _).mono ?_; rintro e w' ⟨rfl, hw⟩; rw [hw, h8z])
    go_loopg [9, 10] s.size (fun gf _ _ wx => ∃ pos : Nat, wx.heap[w.heap.size]? = some (.stringIter s pos) ∧ Below w.heap.size w wx ∧ Lib.NoAny s.data.toList [47, 63] pos ∧ s.size ≤ pos + gf)
    case atStart => exact ⟨0, World.iter_heap w s 0, (Below.refl _ w).alloc (Nat.le_refl _) _, Lib.NoAny.zero _ _, by omega⟩
    case round =>
      obtain ⟨pos, hit, hbw, hno, hfu⟩ := hrel
      have HN := Lib.hid hno
      clear hno
      by_cases hps : pos < s.size
      · obtain ⟨g', rfl⟩ : ∃ g', gk = g' + 1 := ⟨gk - 1, by omega⟩
        have hnx : ∀ ty, (Instr.next (.pointer (some ⟨w.heap.size, 0, none⟩)) true ty).run Tryd.prog wr = _ := fun ty => Lib.run_next_any_at wr w.heap.size s pos ty hit hps
        have hwd := Lib.width_pos s pos
        have hp := dec_parts s pos hps
        have hrl := Lib.rune_le s pos
        obtain ⟨R, hR⟩ : ∃ R, (Utf8.decode s pos).1 = R := ⟨_, rfl⟩
        obtain ⟨K, hK⟩ : ∃ K, (Utf8.decode s pos).2 = K := ⟨_, rfl⟩
        rw [hR, hK] at hnx
        rw [hK] at hwd
        rw [hR] at hrl
        have hit2 := Lib.iterAt_heap wr w.heap.size s pos (pos + K) hit
        have hbw2 := Lib.below_iterAt hbw (k := w.heap.size) (Nat.le_refl _) s (pos + K)
        obtain ⟨W, hWd⟩ : ∃ W, wr.iterAt w.heap.size s (pos + K) = W := ⟨_, rfl⟩
        rw [hWd] at hnx hit2 hbw2
        have hltW : w.heap.size < W.heap.size := (Array.getElem?_eq_some_iff.1 hit2).1
        have hhit : Hid ((decide (R = 47) || decide (R = 63)) = true → Lib.indexAny s.data.toList [47, 63] = (pos : Int)) := Lib.hid (fun h => by
          rcases hp with ⟨b, h0, hb, e⟩ | ⟨h1, _⟩
          · have eR : R = b.toNat := by rw [← hR, e]
            refine Lib.indexAny_hit HN.out h0 ?_
            have : b.toNat = 47 ∨ b.toNat = 63 := by rw [← eR]; simpa using h
            rcases this with h | h
            · have : b = 47 := UInt8.toNat_inj.1 h
              subst this; rfl
            · have : b = 63 := UInt8.toNat_inj.1 h
              subst this; rfl
          · rw [hR] at h1
            simp at h
            omega)
        have hnext : Hid ((decide (R = 47) || decide (R = 63)) = false → Lib.NoAny s.data.toList [47, 63] (pos + K)) := Lib.hid (fun h => by
          rcases hp with ⟨b, h0, hb, e⟩ | ⟨h1, _, h3⟩
          · have eR : R = b.toNat := by rw [← hR, e]
            have eK : K = 1 := by rw [← hK, e]
            rw [eK]
            refine HN.out.succ h0 ?_
            simp only [Bool.or_eq_false_iff, decide_eq_false_iff_not] at h
            rw [eR] at h
            have h47 : b ≠ 47 := fun e => h.1 (by subst e; rfl)
            have h63 : b ≠ 63 := fun e => h.2 (by subst e; rfl)
            simp [h47, h63]
          · intro j b hj hb
            by_cases hjp : j < pos
            · exact HN.out j b hjp hb
            · have hb2 := h3 (j - pos) b (by rw [hK]; omega) (by rw [show pos + (j - pos) = j by omega]; exact hb)
              have h47 : b ≠ 47 := fun e => by subst e; exact absurd hb2 (by decide)
              have h63 : b ≠ 63 := fun e => by subst e; exact absurd hb2 (by decide)
              simp [h47, h63])
        have cS := idxRune_any R hrl W
        clear hp hbw hit hWd
        cases hsp : (decide (R = 47) || decide (R = 63)) <;> rw [hsp] at cS hhit hnext <;> clear hsp
        · have HN2 := Lib.hid (hnext.out rfl)
          go_wp2_with (go_at_call 93; refine cS.mono ?_; rintro e W' ⟨i, rfl, hi, hbc⟩; have hi2 : ¬ (0 ≤ i) := of_decide_eq_false hi)
          go_roundg g'
          case measure => omega
          case rel => exact ⟨pos + K, (hbc.block _ hltW).trans hit2, hbw2.trans (hbc.mono hbw2.size), HN2.out, by omega⟩
        · have HH := Lib.hid (hhit.out rfl)
          go_wp2_with (go_at_call 93; refine cS.mono ?_; rintro e W' ⟨i, rfl, hi, hbc⟩; have hi2 : 0 ≤ i := of_decide_eq_true hi)
          go_ret
          exact ⟨by rw [HH.out]; rfl, hbw2.trans (hbc.mono hbw2.size)⟩
      · have hnx : ∀ ty, (Instr.next (.pointer (some ⟨w.heap.size, 0, none⟩)) true ty).run Tryd.prog wr = _ := fun ty => Lib.run_next_end_at wr w.heap.size s pos ty hit hps
        have HE : Hid (Lib.indexAny s.data.toList [47, 63] = -1) := Lib.hid (Lib.indexAny_none (fun j b hj hb => HN.out j b (by have := data_at hb; omega) hb))
        go_wp2
        go_ret
        exact ⟨by rw [HE.out]; rfl, hbw⟩
end Go.Proofs.YtabecgdaiakgiaaDoor
