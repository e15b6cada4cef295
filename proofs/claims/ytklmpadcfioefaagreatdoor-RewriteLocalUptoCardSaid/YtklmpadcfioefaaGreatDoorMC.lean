/- Decoded runes against bytes: where a test is on ASCII bytes alone, a walk by runes finds what a walk by bytes finds. No program in sight. No condition. | the reference's Path. Conditions: sizes. | strings.IndexRune in "/?" of a rune beyond ASCII. No condition. | strings.IndexRune in "/?" of the rune that stands for an error. No condition. | strings.IndexAny(s, "/?") at every s. Condition: the size. | rewrite.Path. Conditions: sizes. -/
import Derived.Test.YtklmpadcfioefaaGreatDoorMA
import Derived.Lib.MapLaws
import Derived.Shelf.GgClosure.StringsIndexFunc
import Derived.Test.YtklmpadcfioefaaGreatDoorMB
import Derived.Test.YtklmpadcfioefaaGreatDoorShelf
import Derived.Deep.LoopGhost
import Derived.Lib.OthersKept
namespace Go.Proofs.YtklmpadcfioefaaGreatDoor

theorem getD_of {l : Bs} {i : Nat} {b : UInt8} (h : l[i]? = some b) : (l.getD i 0).toNat = b.toNat := by
  simp [List.getD, h]
/-- a byte decodes as itself; else the rune is beyond ASCII, and so are all its bytes -/
theorem dec_parts (s : ByteArray) (pos : Nat) (h : pos < s.size) :
    (∃ b, s.data.toList[pos]? = some b ∧ b.toNat < 128 ∧ Utf8.decode s pos = (b.toNat, 1)) ∨
    (128 ≤ (Utf8.decode s pos).1 ∧ 1 ≤ (Utf8.decode s pos).2 ∧ ∀ j b, j < (Utf8.decode s pos).2 → s.data.toList[pos + j]? = some b → 128 ≤ b.toNat) := by
  have hl : pos < s.data.toList.length := by rw [← Lib.size_eq]; exact h
  have h0 : s.data.toList[pos]? = some s.data.toList[pos] := List.getElem?_eq_getElem hl
  rw [Lib.decode_N]
  by_cases hb : s.data.toList[pos].toNat < 128
  · refine .inl ⟨_, h0, hb, ?_⟩
    have e := getD_of h0
    unfold Lib.decodeN
    rw [if_pos (by rw [e]; exact hb), e]
  · refine .inr ?_
    have e := getD_of h0
    have key : ∀ j b, s.data.toList[pos + j]? = some b → (s.data.toList.getD (pos + j) 0).toNat = b.toNat := fun j b hb => getD_of hb
    rcases Lib.decodeN_shape (s.data.toList.length - pos) (s.data.toList.getD pos 0).toNat (s.data.toList.getD (pos + 1) 0).toNat (s.data.toList.getD (pos + 2) 0).toNat (s.data.toList.getD (pos + 3) 0).toNat with x | x | x | x | x
    · omega
    · rw [x.2.2.2.2]
      refine ⟨by omega, by omega, fun j b hj hb => ?_⟩
      have k := key j b hb
      match j, hj with
      | 0, _ => rw [Nat.add_zero] at k; omega
      | 1, _ => omega
      | j + 2, hj => exact absurd hj (by show ¬ (j + 2 < 2); omega)
    · rw [x.2.2.2.2.2.2]
      refine ⟨by omega, by omega, fun j b hj hb => ?_⟩
      have k := key j b hb
      match j, hj with
      | 0, _ => rw [Nat.add_zero] at k; omega
      | 1, _ => omega
      | 2, _ => omega
      | j + 3, hj => exact absurd hj (by show ¬ (j + 3 < 3); omega)
    · rw [x.2.2.2.2.2.2.2]
      refine ⟨by omega, by omega, fun j b hj hb => ?_⟩
      have k := key j b hb
      match j, hj with
      | 0, _ => rw [Nat.add_zero] at k; omega
      | 1, _ => omega
      | 2, _ => omega
      | 3, _ => omega
      | j + 4, hj => exact absurd hj (by show ¬ (j + 4 < 4); omega)
    · rw [x]
      refine ⟨by omega, by omega, fun j b hj hb => ?_⟩
      have k := key j b hb
      match j, hj with
      | 0, _ => rw [Nat.add_zero] at k; omega
      | j + 1, hj => exact absurd hj (by show ¬ (j + 1 < 1); omega)

def unseen (x : Nat) : Bool := decide (x < 33) || decide (126 < x)
theorem isSeen_un (c : UInt8) : isSeen c = !(unseen c.toNat) := by
  unfold isSeen unseen
  simp only [UInt8.le_iff_toNat_le]
  have e1 : (33 : UInt8).toNat = 33 := rfl
  have e2 : (126 : UInt8).toNat = 126 := rfl
  rw [e1, e2, Bool.eq_iff_iff]
  simp
theorem idx_unseen (s : ByteArray) : ∀ (f pos : Nat), s.size ≤ pos + f → (Lib.idxFuncFrom unseen true s f pos = -1 ↔ ∀ c ∈ s.data.toList.drop pos, isSeen c = true)
  | 0, pos, h => by
    have e : s.data.toList.drop pos = [] := List.drop_eq_nil_of_le (by rw [← Lib.size_eq]; omega)
    rw [e]
    simp [Lib.idxFuncFrom]
  | f + 1, pos, h => by
    by_cases hp : pos < s.size
    · have hl : pos < s.data.toList.length := by rw [← Lib.size_eq]; exact hp
      unfold Lib.idxFuncFrom
      rw [if_pos hp]
      rcases dec_parts s pos hp with ⟨b, h0, hb, e⟩ | ⟨h1, h2, h3⟩
      · have ih := idx_unseen s f (pos + 1) (by omega)
        have ed : s.data.toList.drop pos = b :: s.data.toList.drop (pos + 1) := by
          rw [List.drop_eq_getElem_cons hl]
          congr 1
          rw [List.getElem?_eq_getElem hl] at h0
          exact Option.some.inj h0
        rw [e, ed]
        simp only
        by_cases hu : unseen b.toNat = true
        · rw [if_pos hu]
          constructor
          · intro x; omega
          · intro x
            have := x b (by simp)
            rw [isSeen_un, hu] at this
            cases this
        · rw [if_neg hu, ih]
          have hs : isSeen b = true := by rw [isSeen_un]; simpa using hu
          simp [hs]
      · have hu : unseen (Utf8.decode s pos).1 = true := by unfold unseen; simp; omega
        rw [if_pos hu]
        constructor
        · intro x; omega
        · intro x
          have h0 : s.data.toList[pos + 0]? = some s.data.toList[pos] := List.getElem?_eq_getElem hl
          have hb := h3 0 _ (by omega) h0
          have := x s.data.toList[pos] (by rw [List.drop_eq_getElem_cons hl]; simp)
          generalize s.data.toList[pos] = b at this hb
          rw [isSeen_un] at this
          unfold unseen at this
          simp at this
          omega
    · have e : s.data.toList.drop pos = [] := List.drop_eq_nil_of_le (by rw [← Lib.size_eq]; omega)
      rw [e, Lib.idxFuncFrom_end _ _ _ _ _ hp]
      simp
/-- strings.ContainsFunc with 'outside of ! .. ~' is 'not all are seen' -/
theorem contains_unseen (s : ByteArray) : decide (0 ≤ Lib.idxFunc unseen true s) = !(s.data.toList.all isSeen) := by
  have h := idx_unseen s s.size 0 (by omega)
  have hr := Lib.idxFuncFrom_range unseen true s s.size 0
  rw [List.drop_zero] at h
  unfold Lib.idxFunc
  rw [Bool.eq_iff_iff, decide_eq_true_eq, Bool.not_eq_true', ← Bool.not_eq_true, List.all_eq_true, ← h]
  omega
end Go.Proofs.YtklmpadcfioefaaGreatDoor

namespace Go.Proofs.YtklmpadcfioefaaGreatDoor
open Go.RowKit

theorem str_get {t : ByteArray} {i : Nat} (h : i < t.size) : t.data.toList[i]? = some t[i] := Lib.data_getElem? t i h
theorem extract7 (t : ByteArray) (k : Nat) : (t.extract k t.size).data.toList = t.data.toList.drop k := by
  rw [Lib.extract_data, List.take_of_length_le]
  rw [List.length_drop, ← Lib.size_eq]
  omega
theorem extract_pre (t : ByteArray) (k : Nat) : (t.extract 0 k).data.toList = t.data.toList.take k := by
  rw [Lib.extract_data]; simp
def pathV (p : Option Bs) : Value := .tuple #[.string ⟨(p.getD []).toArray⟩, .bool p.isSome]
theorem path_no8 {l : Bs} (h1 : l ≠ [42]) (h2 : l.head? ≠ some 47) (h3 : l.length < 8 ∨ fold (l.take 7) ≠ bHttp ∨ l[7]? = some 47 ∨ l[7]? = some 63) : pathP l = none := by
  unfold pathP
  rw [if_neg (by rintro (h | h); exact h1 h; exact h2 h), if_pos h3]
theorem path_cut {l : Bs} (h1 : l ≠ [42]) (h2 : l.head? ≠ some 47) (h3 : ¬ (l.length < 8 ∨ fold (l.take 7) ≠ bHttp ∨ l[7]? = some 47 ∨ l[7]? = some 63)) : pathP l = some (cutP (l.drop 7)) := by
  unfold pathP
  rw [if_neg (by rintro (h | h); exact h1 h; exact h2 h), if_neg h3]
theorem path_slash {l : Bs} (h : l.head? = some 47) : pathP l = some l := by
  unfold pathP
  rw [if_pos (Or.inr h)]
theorem str_mk {t : ByteArray} {l : Bs} (h : t.data.toList = l) : t = ⟨l.toArray⟩ := byte_ext.2 h
theorem data_app (a b : ByteArray) : (a ++ b).data.toList = a.data.toList ++ b.data.toList := by simp
end Go.Proofs.YtklmpadcfioefaaGreatDoor

namespace Go.Proofs.YtklmpadcfioefaaGreatDoor
open Go.RowKit

theorem enc_far (r : Nat) (h : 128 ≤ r) : (∃ x y : UInt8, 128 ≤ y.toNat ∧ Utf8.encode (r : Int) = ⟨#[x, y]⟩) ∨ (∃ x y z : UInt8, Utf8.encode (r : Int) = ⟨#[x, y, z]⟩) ∨ (∃ x y z u : UInt8, Utf8.encode (r : Int) = ⟨#[x, y, z, u]⟩) := by
  have hc : 128 ≤ (if Utf8.valid (r : Int) = true then (r : Int).toNat else Utf8.runeError) := by
    split
    · simpa using h
    · decide
  unfold Utf8.encode
  simp only
  generalize (if Utf8.valid (r : Int) = true then (r : Int).toNat else Utf8.runeError) = c at hc
  rw [if_neg (by omega)]
  split
  · exact .inl ⟨_, _, by simp; omega, rfl⟩
  · split
    · exact .inr (.inl ⟨_, _, _, rfl⟩)
    · exact .inr (.inr ⟨_, _, _, _, rfl⟩)

set_option maxHeartbeats 2000000 in
set_option maxRecDepth 1000000 in
theorem idxRune_far (r : Nat) (h1 : 128 ≤ r) (h2 : r ≤ 1114111) (he : r ≠ 65533) (w : World) :
    Calls Tryz.prog 143 #[.string ⟨#[47, 63]⟩, .int .i32 (r : Int)] w fun e w' => e = .returned (.int .i64 (-1)) ∧ Below w.heap.size w w' := by
  have q1 : ¬ ((r : Int) < 128) := by omega
  have q2 : ((r : Int) == 65533) = false := by simpa using fun h => he (by omega)
  have HV := Lib.hid (fun W => Tryz.utf8_ValidRune (r : Int) W)
  cases hb : Lib.validRune (r : Int) with
  | false =>
    rw [hb] at HV
    clear hb
    go_enter Tryz.func143, Tryz.ntmps143
    go_wp2_with (first
      | (go_at_call 164; (refine (HV.out _).mono ?_; rintro _ w1 ⟨rfl, rfl⟩))
      | fail)
    go_ret
    exact ⟨rfl, Below.refl _ _⟩
  | true =>
    rw [hb] at HV
    clear hb
    rcases enc_far r h1 with ⟨x, y, hy, hE⟩ | ⟨x, y, z, hE⟩ | ⟨x, y, z, u, hE⟩
    · have h63 : ((63 : Int) == (y.toNat : Int)) = false := by simp; omega
      have h63' : ((63 : Int) != (y.toNat : Int)) = true := by simp; omega
      have hi2 : ∀ W, (Instr.index 9 (.string ⟨#[47, 63]⟩) (.int .i64 1)).run Tryz.prog W = .ok (.int .u8 63) W := fun _ => by kernel_rfl
      go_enter Tryz.func143, Tryz.ntmps143
      go_upto_region 1 with (first
        | (go_at_call 164; (refine (HV.out _).mono ?_; rintro _ w1 ⟨rfl, rfl⟩))
        | fail)
      refine wp_scope_straight ?_
      go_wp2
      refine wp_loop_rounds 1 ?_
      rw [rounds_succ]
      go_wp2
      have HI := Lib.hid (fun W => Tryz.strings_IndexByte ⟨#[]⟩ (y.toNat : Int) W)
      have hsl : ∀ W, (Instr.slice 9 (.string ⟨#[47, 63]⟩) (some (.int .i64 (IntKind.i64.wrap 2))) none none).run Tryz.prog W = .ok (.string ⟨#[]⟩) W := fun _ => by kernel_rfl
      have hix : ∀ W, (Instr.index 9 (.string ⟨#[x, y]⟩) (.int .i64 1)).run Tryz.prog W = .ok (.int .u8 (y.toNat : Int)) W := fun _ => by kernel_rfl
      refine wp_scope_straight ?_
      go_wp2
      go_quiet (fail)
      go_wp2
      have hw2 : IntKind.i64.wrap 2 = 2 := by decide
      go_quiet ((go_at_call 87; refine (Tryz.strings_IndexByte _ _ _).mono ?_; rintro _ _ ⟨rfl, rfl⟩; exact ⟨rfl, _, rfl⟩))
      have hz : ∀ c, Lib.indexByte ByteArray.empty.data.toList c = -1 := fun _ => rfl
      go_wp2
      simp only [Exit.noGoto_ret, Exit.inBlock, Exit.then]
      go_ret
      exact ⟨rfl, below_drewN (Below.refl _ _) _⟩
    · go_enter Tryz.func143, Tryz.ntmps143
      go_upto_region 1 with (first
        | (go_at_call 164; (refine (HV.out _).mono ?_; rintro _ w1 ⟨rfl, rfl⟩))
        | fail)
      refine wp_scope_straight ?_
      go_wp2
      refine wp_loop_rounds 1 ?_
      rw [rounds_succ]
      go_wp2
      rw [Exit.noGoto_ret]
      go_ret
      exact ⟨rfl, Below.refl _ _⟩
    · go_enter Tryz.func143, Tryz.ntmps143
      go_upto_region 1 with (first
        | (go_at_call 164; (refine (HV.out _).mono ?_; rintro _ w1 ⟨rfl, rfl⟩))
        | fail)
      refine wp_scope_straight ?_
      go_wp2
      refine wp_loop_rounds 1 ?_
      rw [rounds_succ]
      go_wp2
      rw [Exit.noGoto_ret]
      go_ret
      exact ⟨rfl, Below.refl _ _⟩
end Go.Proofs.YtklmpadcfioefaaGreatDoor

namespace Go.Proofs.YtklmpadcfioefaaGreatDoor
open Go.RowKit

theorem dec0 : Utf8.decode ⟨#[47, 63]⟩ 0 = (47, 1) := by decide +kernel
theorem dec1 : Utf8.decode ⟨#[47, 63]⟩ 1 = (63, 1) := by decide +kernel
set_option maxHeartbeats 2000000 in
set_option maxRecDepth 1000000 in
theorem idxRune_err (w : World) :
    Calls Tryz.prog 143 #[.string ⟨#[47, 63]⟩, .int .i32 65533] w fun e w' => e = .returned (.int .i64 (-1)) ∧ Below w.heap.size w w' := by
  go_enter Tryz.func143, Tryz.ntmps143
  go_wp2
  go_loopg [5, 6] 2 (fun gf _ _ wx => ∃ pos : Nat, pos + gf = 2 ∧ wx.heap[w.heap.size]? = some (.stringIter ⟨#[47, 63]⟩ pos) ∧ Below w.heap.size w wx)
  case atStart => exact ⟨0, rfl, World.iter_heap w _ 0, (Below.refl _ w).alloc (Nat.le_refl _) _⟩
  case round =>
    obtain ⟨pos, hp, hit, hbw⟩ := hrel
    cases gk with
    | zero =>
      obtain rfl : pos = 2 := by omega
      have hnx : ∀ ty, (Instr.next (.pointer (some ⟨w.heap.size, 0, none⟩)) true ty).run Tryz.prog wr = _ := fun ty => Lib.run_next_end_at wr w.heap.size ⟨#[47, 63]⟩ 2 ty hit (by decide)
      go_wp2
      go_ret
      exact ⟨rfl, hbw⟩
    | succ g =>
      have hd : ∃ R : Nat, (R = 47 ∨ R = 63) ∧ Utf8.decode ⟨#[47, 63]⟩ pos = (R, 1) := by
        rcases (show pos = 0 ∨ pos = 1 by omega) with rfl | rfl
        · exact ⟨47, .inl rfl, dec0⟩
        · exact ⟨63, .inr rfl, dec1⟩
      obtain ⟨R, hR, hd⟩ := hd
      have hnx : ∀ ty, (Instr.next (.pointer (some ⟨w.heap.size, 0, none⟩)) true ty).run Tryz.prog wr = _ := fun ty => Lib.run_next_any_at wr w.heap.size ⟨#[47, 63]⟩ pos ty hit (by show pos < 2; omega)
      rw [hd] at hnx
      have hit2 := Lib.iterAt_heap wr w.heap.size ⟨#[47, 63]⟩ pos (pos + 1) hit
      have hbw2 := Lib.below_iterAt hbw (k := w.heap.size) (Nat.le_refl _) ⟨#[47, 63]⟩ (pos + 1)
      obtain ⟨W, hWd⟩ : ∃ W, wr.iterAt w.heap.size ⟨#[47, 63]⟩ (pos + 1) = W := ⟨_, rfl⟩
      simp only [hWd] at hnx hit2 hbw2
      clear hit hbw hWd hd
      rcases hR with rfl | rfl
      · go_wp2
        go_roundg g
        case measure => omega
        case rel => exact ⟨pos + 1, by omega, hit2, hbw2⟩
      · go_wp2
        go_roundg g
        case measure => omega
        case rel => exact ⟨pos + 1, by omega, hit2, hbw2⟩
end Go.Proofs.YtklmpadcfioefaaGreatDoor

namespace Go.Proofs.YtklmpadcfioefaaGreatDoor
open Go.RowKit

theorem zero118 (w : World) : (zeroValue (Tryz.lays153_ren.t 116)).run Tryz.prog w = .ok (.agg (Array.replicate 256 (.bool false))) w := by kernel_rfl
/-- what IndexRune says of a decoded rune -/
theorem idxRune_any (r : Nat) (h2 : r ≤ 1114111) (w : World) :
    Calls Tryz.prog 143 #[.string ⟨#[47, 63]⟩, .int .i32 (r : Int)] w fun e w' => ∃ i : Int, e = .returned (.int .i64 i) ∧ decide (0 ≤ i) = (decide (r = 47) || decide (r = 63)) ∧ Below w.heap.size w w' := by
  by_cases h1 : r < 128
  · refine (Tryz.strings_IndexRune_ascii ⟨#[47, 63]⟩ (r : Int) w (by omega) (by omega)).mono ?_
    rintro e w' ⟨he, rfl⟩
    refine ⟨_, he, ?_, Below.refl _ _⟩
    have key : ∀ r : Fin 128, decide (0 ≤ Lib.indexByte (ByteArray.mk #[47, 63]).data.toList ((r.val : Int).toNat.toUInt8)) = (decide (r.val = 47) || decide (r.val = 63)) := by decide +kernel
    exact key ⟨r, h1⟩
  · have hz : (decide (r = 47) || decide (r = 63)) = false := by simp; omega
    rw [hz]
    by_cases he : r = 65533
    · subst he
      refine (idxRune_err w).mono ?_
      rintro e w' ⟨he, hb⟩
      exact ⟨-1, he, rfl, hb⟩
    · refine (idxRune_far r (by omega) h2 he w).mono ?_
      rintro e w' ⟨he, hb⟩
      exact ⟨-1, he, rfl, hb⟩

theorem data_at {s : ByteArray} {i : Nat} {b : UInt8} (h : s.data.toList[i]? = some b) : i < s.size := by
  have := (List.getElem?_eq_some_iff.1 h).1
  rw [← Lib.size_eq] at this; exact this

set_option maxHeartbeats 2000000 in
set_option maxRecDepth 100000 in
theorem idxAny_any (s : ByteArray) (w : World) (hs : s.size ≤ 16777216) :
    Calls Tryz.prog 113 #[.string s, .string ⟨#[47, 63]⟩] w fun e w' => e = .returned (.int .i64 (Lib.indexAny s.data.toList [47, 63])) ∧ Below w.heap.size w w' := by
  by_cases h8 : 8 < s.size
  · refine (Tryz.strings_IndexAny_long zero118 s ⟨#[47, 63]⟩ w (by decide) h8 (by omega) (by decide) (by intro j b hj; match j, hj with | 0, hj => cases hj; decide | 1, hj => cases hj; decide)).mono ?_
    rintro e w' ⟨he, rfl⟩
    exact ⟨he, ((Below.refl _ _).alloc (Nat.le_refl _) _).alloc (by simp) _⟩
  · have h8z : decide ((8 : Int) < (s.size : Int)) = false := decide_eq_false (by omega)
    go_enter Tryz.func113, Tryz.ntmps113
    go_wp2_with (go_at_call 144; refine (Tryz.strings_shouldUseASCIISet _ _).mono ?_; rintro e w' ⟨rfl, hw⟩; rw [hw, h8z])
    go_loopg [9, 10] s.size (fun gf _ _ wx => ∃ pos : Nat, wx.heap[w.heap.size]? = some (.stringIter s pos) ∧ Below w.heap.size w wx ∧ Lib.NoAny s.data.toList [47, 63] pos ∧ s.size ≤ pos + gf)
    case atStart => exact ⟨0, World.iter_heap w s 0, (Below.refl _ w).alloc (Nat.le_refl _) _, Lib.NoAny.zero _ _, by omega⟩
    case round =>
      obtain ⟨pos, hit, hbw, hno, hfu⟩ := hrel
      have HN := Lib.hid hno
      clear hno
      by_cases hps : pos < s.size
      · obtain ⟨g', rfl⟩ : ∃ g', gk = g' + 1 := ⟨gk - 1, by omega⟩
        have hnx : ∀ ty, (Instr.next (.pointer (some ⟨w.heap.size, 0, none⟩)) true ty).run Tryz.prog wr = _ := fun ty => Lib.run_next_any_at wr w.heap.size s pos ty hit hps
        have hwd := Lib.width_pos s pos
        have hp := dec_parts s pos hps
        have hrl := Lib.rune_le s pos
        obtain ⟨R, hR⟩ : ∃ R, (Utf8.decode s pos).1 = R := ⟨_, rfl⟩
        obtain ⟨K, hK⟩ : ∃ K, (Utf8.decode s pos).2 = K := ⟨_, rfl⟩
        rw [hR, hK] at hnx
        rw [hK] at hwd
        rw [hR] at hrl
        have hit2 := Lib.iterAt_heap wr w.heap.size s pos (pos + K) hit
        have hbw2 := Lib.below_iterAt hbw (k := w.heap.size) (Nat.le_refl _) s (pos + K)
        obtain ⟨W, hWd⟩ : ∃ W, wr.iterAt w.heap.size s (pos + K) = W := ⟨_, rfl⟩
        rw [hWd] at hnx hit2 hbw2
        have hltW : w.heap.size < W.heap.size := (Array.getElem?_eq_some_iff.1 hit2).1
        have hhit : Hid ((decide (R = 47) || decide (R = 63)) = true → Lib.indexAny s.data.toList [47, 63] = (pos : Int)) := Lib.hid (fun h => by
          rcases hp with ⟨b, h0, hb, e⟩ | ⟨h1, _⟩
          · have eR : R = b.toNat := by rw [← hR, e]
            refine Lib.indexAny_hit HN.out h0 ?_
            have : b.toNat = 47 ∨ b.toNat = 63 := by rw [← eR]; simpa using h
            rcases this with h | h
            · have : b = 47 := UInt8.toNat_inj.1 h
              subst this; rfl
            · have : b = 63 := UInt8.toNat_inj.1 h
              subst this; rfl
          · rw [hR] at h1
            simp at h
            omega)
        have hnext : Hid ((decide (R = 47) || decide (R = 63)) = false → Lib.NoAny s.data.toList [47, 63] (pos + K)) := Lib.hid (fun h => by
          rcases hp with ⟨b, h0, hb, e⟩ | ⟨h1, _, h3⟩
          · have eR : R = b.toNat := by rw [← hR, e]
            have eK : K = 1 := by rw [← hK, e]
            rw [eK]
            refine HN.out.succ h0 ?_
            simp only [Bool.or_eq_false_iff, decide_eq_false_iff_not] at h
            rw [eR] at h
            have h47 : b ≠ 47 := fun e => h.1 (by subst e; rfl)
            have h63 : b ≠ 63 := fun e => h.2 (by subst e; rfl)
            simp [h47, h63]
          · intro j b hj hb
            by_cases hjp : j < pos
            · exact HN.out j b hjp hb
            · have hb2 := h3 (j - pos) b (by rw [hK]; omega) (by rw [show pos + (j - pos) = j by omega]; exact hb)
              have h47 : b ≠ 47 := fun e => by subst e; exact absurd hb2 (by decide)
              have h63 : b ≠ 63 := fun e => by subst e; exact absurd hb2 (by decide)
              simp [h47, h63])
        have cS := idxRune_any R hrl W
        clear hp hbw hit hWd
        cases hsp : (decide (R = 47) || decide (R = 63)) <;> rw [hsp] at cS hhit hnext <;> clear hsp
        · have HN2 := Lib.hid (hnext.out rfl)
          go_wp2_with (go_at_call 143; refine cS.mono ?_; rintro e W' ⟨i, rfl, hi, hbc⟩; have hi2 : ¬ (0 ≤ i) := of_decide_eq_false hi)
          go_roundg g'
          case measure => omega
          case rel => exact ⟨pos + K, (hbc.block _ hltW).trans hit2, hbw2.trans (hbc.mono hbw2.size), HN2.out, by omega⟩
        · have HH := Lib.hid (hhit.out rfl)
          go_wp2_with (go_at_call 143; refine cS.mono ?_; rintro e W' ⟨i, rfl, hi, hbc⟩; have hi2 : 0 ≤ i := of_decide_eq_true hi)
          go_ret
          exact ⟨by rw [HH.out]; rfl, hbw2.trans (hbc.mono hbw2.size)⟩
      · have hnx : ∀ ty, (Instr.next (.pointer (some ⟨w.heap.size, 0, none⟩)) true ty).run Tryz.prog wr = _ := fun ty => Lib.run_next_end_at wr w.heap.size s pos ty hit hps
        have HE : Hid (Lib.indexAny s.data.toList [47, 63] = -1) := Lib.hid (Lib.indexAny_none (fun j b hj hb => HN.out j b (by have := data_at hb; omega) hb))
        go_wp2
        go_ret
        exact ⟨by rw [HE.out]; rfl, hbw⟩
end Go.Proofs.YtklmpadcfioefaaGreatDoor

namespace Go.Proofs.YtklmpadcfioefaaGreatDoor
open Go.RowKit

theorem cutP_none : ∀ {l : Bs}, Lib.indexAny l [47, 63] = -1 → cutP l = [47]
  | [], _ => rfl
  | b :: l, h => by
    unfold Lib.indexAny at h
    split at h
    · cases h
    · rename_i hb
      have h47 : b ≠ 47 := fun e => hb (by subst e; rfl)
      have h63 : b ≠ 63 := fun e => hb (by subst e; rfl)
      split at h
      · rename_i hi
        rw [cutP, if_neg h47, if_neg h63]
        exact cutP_none (by simpa using hi)
      · have := Lib.indexAny_ge [47, 63] l
        omega
theorem cutP_some : ∀ {l : Bs} {i : Nat}, Lib.indexAny l [47, 63] = (i : Int) → ∃ b, l[i]? = some b ∧ ((b = 47 ∧ cutP l = l.drop i) ∨ (b = 63 ∧ cutP l = 47 :: l.drop i))
  | [], i, h => by unfold Lib.indexAny at h; omega
  | b :: l, i, h => by
    unfold Lib.indexAny at h
    split at h
    · rename_i hb
      obtain rfl : i = 0 := by omega
      refine ⟨b, rfl, ?_⟩
      have : b = 47 ∨ b = 63 := by simpa using hb
      rcases this with rfl | rfl
      · exact .inl ⟨rfl, by rw [cutP, if_pos rfl]; rfl⟩
      · exact .inr ⟨rfl, by rw [cutP, if_neg (by decide), if_pos rfl]; rfl⟩
    · rename_i hb
      have h47 : b ≠ 47 := fun e => hb (by subst e; rfl)
      have h63 : b ≠ 63 := fun e => hb (by subst e; rfl)
      split at h
      · omega
      · have hg := Lib.indexAny_ge [47, 63] l
        rename_i hi
        have hi' : Lib.indexAny l [47, 63] ≠ -1 := by simpa using hi
        obtain ⟨j, hj⟩ : ∃ j : Nat, Lib.indexAny l [47, 63] = (j : Int) := ⟨(Lib.indexAny l [47, 63]).toNat, by omega⟩
        obtain rfl : i = j + 1 := by omega
        obtain ⟨c, h1, h2⟩ := cutP_some hj
        refine ⟨c, by simpa using h1, ?_⟩
        rw [cutP, if_neg h47, if_neg h63]
        simpa using h2
theorem cutP_zero {l : Bs} (h : Lib.indexAny l [47, 63] = 0) : l[0]? = some 47 ∨ l[0]? = some 63 := by
  obtain ⟨b, h1, h2⟩ := cutP_some (i := 0) (by simpa using h)
  rcases h2 with ⟨rfl, _⟩ | ⟨rfl, _⟩
  · exact .inl h1
  · exact .inr h1
theorem idx_pos {l : Bs} (h : Lib.indexAny l [47, 63] ≠ 0) : l[0]? ≠ some 47 ∧ l[0]? ≠ some 63 := by
  cases l with
  | nil => simp
  | cons b l =>
    unfold Lib.indexAny at h
    split at h
    · exact absurd rfl h
    · rename_i hb
      exact ⟨fun e => hb (by cases e; rfl), fun e => hb (by cases e; rfl)⟩

theorem hasPre_head {l : Bs} : Lib.hasPrefix l [47] = true ↔ l.head? = some 47 := by
  unfold Lib.hasPrefix
  cases l with
  | nil => simp
  | cons b l =>
    show (47 == b && List.isPrefixOf [] l) = true ↔ some b = some 47
    rw [show List.isPrefixOf ([] : Bs) l = true from by cases l <;> rfl, Bool.and_true, beq_iff_eq, Option.some.injEq]
    exact eq_comm

set_option maxHeartbeats 4000000 in
set_option maxRecDepth 100000 in
theorem wPath_any (t : ByteArray) (w : World) (hs : t.size ≤ 16777216) :
    Calls Tryz.prog 69 #[.string t] w fun e w' => e = .returned (pathV (pathP t.data.toList)) ∧ Below w.heap.size w w' := by
  have hhp := fun W => Tryz.strings_HasPrefix t ⟨#[47]⟩ W
  cases hP : Lib.hasPrefix t.data.toList [47] with
  | true =>
    rw [show (ByteArray.mk #[47]).data.toList = [47] from rfl, hP] at hhp
    have HHP := Lib.hid hhp
    have HE := Lib.hid (path_slash (l := t.data.toList) (hasPre_head.1 hP))
    clear hhp hP
    go_enter Tryz.func69, Tryz.ntmps69
    go_wp2_with (first
      | (go_at_call 112; go_must (refine (HHP.out _).mono ?_; rintro _ w0 ⟨rfl, rfl⟩))
      | fail)
    go_ret2
    exact ⟨by rw [HE.out]; rfl, Below.refl _ _⟩
  | false =>
    rw [show (ByteArray.mk #[47]).data.toList = [47] from rfl, hP] at hhp
    have HHP := Lib.hid hhp
    have hh : t.data.toList.head? ≠ some 47 := fun e => by rw [hasPre_head.2 e] at hP; cases hP
    clear hhp hP
    by_cases hx : t = ⟨#[42]⟩
    · subst hx
      go_enter Tryz.func69, Tryz.ntmps69
      go_wp2_with (first
        | (go_at_call 112; go_must (refine (HHP.out _).mono ?_; rintro _ w0 ⟨rfl, rfl⟩))
        | fail)
      go_ret2
      exact ⟨rfl, Below.refl _ _⟩
    · have b0 := toList_ne (l := [42]) hx
      have hx' : t.data.toList ≠ [42] := fun e => hx (byte_ext.2 e)
      by_cases h8 : t.size < 8
      · have h8d : decide ((t.size : Int) ≤ 7) = true := by simp; omega
        (have HE := Lib.hid (path_no8 hx' hh (.inl (by rw [← Lib.size_eq]; exact h8)))
         clear hx' hh
         try clear hno
         go_enter Tryz.func69, Tryz.ntmps69
         go_wp2_with (first
           | (go_at_call 112; go_must (refine (HHP.out _).mono ?_; rintro _ w0 ⟨rfl, rfl⟩))
           | (go_at_call 52; go_must (refine (HF.out _).mono ?_; rintro _ w1 ⟨rfl, hb1⟩))
           | (go_at_call 113; go_must (refine (HIA.out _).mono ?_; rintro _ w2 ⟨rfl, hb2⟩))
           | fail)
         go_ret2
         exact ⟨by rw [HE.out]; rfl, Below.refl _ _⟩)
      · have hF := fun W => hFold_any (t.extract 0 7) W (by rw [ByteArray.size_extract]; omega)
        rw [extract_pre] at hF
        obtain ⟨F, hFe⟩ : ∃ F : ByteArray, F = ⟨(fold (t.data.toList.take 7)).toArray⟩ := ⟨_, rfl⟩
        rw [← hFe] at hF
        have hFd : F.data.toList = fold (t.data.toList.take 7) := by rw [hFe]
        have HF := Lib.hid hF
        have h7 : 7 < t.size := by omega
        have h8d : decide ((t.size : Int) ≤ 7) = false := by simp; omega
        by_cases hfe : F = ⟨#[104, 116, 116, 112, 58, 47, 47]⟩
        · have hIA := fun W => idxAny_any (t.extract 7 t.size) W (by rw [ByteArray.size_extract]; omega)
          rw [extract7] at hIA
          have hR := extract7 t 7
          have hRz : (t.extract 7 t.size).size = t.size - 7 := by rw [ByteArray.size_extract]; omega
          have h0 : (t.data.toList.drop 7)[0]? = t.data.toList[7]? := by simp
          subst hfe
          obtain ⟨I, hI⟩ : ∃ I, I = Lib.indexAny (t.data.toList.drop 7) [47, 63] := ⟨_, rfl⟩
          rw [← hI] at hIA
          have HIA := Lib.hid hIA
          by_cases hI0 : I = 0
          · subst hI0
            have hno : t.data.toList[7]? = some 47 ∨ t.data.toList[7]? = some 63 := by rw [← h0]; exact cutP_zero hI.symm
            clear hF hFe hFd hIA hR hRz h0 hI
            (have HE := Lib.hid (path_no8 hx' hh (.inr (.inr hno)))
             clear hx' hh
             try clear hno
             go_enter Tryz.func69, Tryz.ntmps69
             go_wp2_with (first
               | (go_at_call 112; go_must (refine (HHP.out _).mono ?_; rintro _ w0 ⟨rfl, rfl⟩))
               | (go_at_call 52; go_must (refine (HF.out _).mono ?_; rintro _ w1 ⟨rfl, hb1⟩))
               | (go_at_call 113; go_must (refine (HIA.out _).mono ?_; rintro _ w2 ⟨rfl, hb2⟩))
               | fail)
             go_ret2
             exact ⟨by rw [HE.out]; rfl, hb1.trans (hb2.mono hb1.size)⟩)
          · have hnn := idx_pos (l := t.data.toList.drop 7) (by rw [← hI]; exact hI0)
            rw [h0] at hnn
            have HE := Lib.hid (path_cut hx' hh (by
              rintro (h | h | h | h)
              · rw [← Lib.size_eq] at h; exact h8 h
              · rw [← hFd] at h; exact h rfl
              · exact hnn.1 h
              · exact hnn.2 h))
            have hge := Lib.indexAny_ge [47, 63] (t.data.toList.drop 7)
            rw [← hI] at hge
            clear hnn h0
            by_cases hIn : I = -1
            · subst hIn
              have HC := Lib.hid (cutP_none hI.symm)
              clear hIA hR hRz hI hge hI0
              (clear hF hFe hFd hx' hh
               go_enter Tryz.func69, Tryz.ntmps69
               go_wp2_with (first
                 | (go_at_call 112; go_must (refine (HHP.out _).mono ?_; rintro _ w0 ⟨rfl, rfl⟩))
                 | (go_at_call 52; go_must (refine (HF.out _).mono ?_; rintro _ w1 ⟨rfl, hb1⟩))
                 | (go_at_call 113; go_must (refine (HIA.out _).mono ?_; rintro _ w2 ⟨rfl, hb2⟩))
                 | fail)
               go_ret2
               refine ⟨?_, hb1.trans (hb2.mono hb1.size)⟩
               rw [HE.out])
              rw [HC.out]
              rfl
            · obtain ⟨i, rfl⟩ : ∃ i : Nat, I = (i : Int) := ⟨I.toNat, by omega⟩
              obtain ⟨b, hb0, hbb⟩ := cutP_some hI.symm
              have hil : i < (t.data.toList.drop 7).length := (List.getElem?_eq_some_iff.1 hb0).1
              rw [← hR] at hb0 hil
              rw [← Lib.size_eq] at hil
              have hbg : (t.extract 7 t.size)[i] = b := by have := str_get hil; rw [hb0] at this; exact (Option.some.inj this).symm
              have hi0 : ¬ i = 0 := by omega
              have hex : ((t.extract 7 t.size).extract i (t.extract 7 t.size).size).data.toList = (t.data.toList.drop 7).drop i := by rw [extract7, hR]
              obtain ⟨R, hRR⟩ : ∃ R, t.extract 7 t.size = R := ⟨_, rfl⟩
              simp only [hRR] at HIA hil hbg hex hRz
              have hRle : R.size ≤ 16777216 := by omega
              have hilI : (i : Int) < (R.size : Int) := by omega
              rcases hbb with ⟨rfl, hc⟩ | ⟨rfl, hc⟩
              · have q7 : ((R[i].toNat : Int) == 63) = false := by rw [hbg]; rfl
                have HC := Lib.hid hc
                have HX := Lib.hid hex
                clear hIA hR hRz hI hge hI0 hIn hc hex hb0 hbg
                (clear hF hFe hFd hx' hh
                 go_enter Tryz.func69, Tryz.ntmps69
                 go_wp2_with (first
                   | (go_at_call 112; go_must (refine (HHP.out _).mono ?_; rintro _ w0 ⟨rfl, rfl⟩))
                   | (go_at_call 52; go_must (refine (HF.out _).mono ?_; rintro _ w1 ⟨rfl, hb1⟩))
                   | (go_at_call 113; go_must (refine (HIA.out _).mono ?_; rintro _ w2 ⟨rfl, hb2⟩))
                   | fail)
                 go_ret2
                 refine ⟨?_, hb1.trans (hb2.mono hb1.size)⟩
                 rw [HE.out])
                rw [HC.out]
                exact congrArg (fun s => Ending.returned (.tuple #[.string s, .bool true])) (str_mk HX.out)
              · have q7 : ((R[i].toNat : Int) == 63) = true := by rw [hbg]; rfl
                have HC := Lib.hid hc
                have HX := Lib.hid hex
                clear hIA hR hRz hI hge hI0 hIn hc hex hb0 hbg
                (clear hF hFe hFd hx' hh
                 go_enter Tryz.func69, Tryz.ntmps69
                 go_wp2_with (first
                   | (go_at_call 112; go_must (refine (HHP.out _).mono ?_; rintro _ w0 ⟨rfl, rfl⟩))
                   | (go_at_call 52; go_must (refine (HF.out _).mono ?_; rintro _ w1 ⟨rfl, hb1⟩))
                   | (go_at_call 113; go_must (refine (HIA.out _).mono ?_; rintro _ w2 ⟨rfl, hb2⟩))
                   | fail)
                 go_ret2
                 refine ⟨?_, hb1.trans (hb2.mono hb1.size)⟩
                 rw [HE.out])
                rw [HC.out]
                exact congrArg (fun s => Ending.returned (.tuple #[.string s, .bool true])) (str_mk (by rw [data_app, HX.out]; rfl))
        · have hne := toList_ne (l := [104, 116, 116, 112, 58, 47, 47]) hfe
          have hno : fold (t.data.toList.take 7) ≠ bHttp := by rw [← hFd]; exact fun e => hfe (byte_ext.2 e)
          clear hF hFe hFd
          have HIA : Hid (∀ W : World, True) := Lib.hid fun _ => trivial
          (have HE := Lib.hid (path_no8 hx' hh (.inr (.inl hno)))
           clear hx' hh
           try clear hno
           go_enter Tryz.func69, Tryz.ntmps69
           go_wp2_with (first
             | (go_at_call 112; go_must (refine (HHP.out _).mono ?_; rintro _ w0 ⟨rfl, rfl⟩))
             | (go_at_call 52; go_must (refine (HF.out _).mono ?_; rintro _ w1 ⟨rfl, hb1⟩))
             | (go_at_call 113; go_must (refine (HIA.out _).mono ?_; rintro _ w2 ⟨rfl, hb2⟩))
             | fail)
           go_ret2
           exact ⟨by rw [HE.out]; rfl, hb1⟩)
end Go.Proofs.YtklmpadcfioefaaGreatDoor
