/- head.minor, head.Parse's closure, slices.ContainsFunc with it, strings.Cut at a byte; the reference's minor. Conditions: sizes. -/
import Derived.Test.YtabecgdaiakgiaaDoorSmall
namespace Go.Proofs.YtabecgdaiakgiaaDoor
open Go.RowKit

theorem index_place (c : UInt8) : ∀ l : Bs, Lib.index l [c] = placeP c l
  | [] => by simp [Lib.index, placeP, cutAt]
  | x :: l => by
    have ih := index_place c l
    have hp : ([c] : Bs).isPrefixOf (x :: l) = (c == x) := by simp [List.isPrefixOf]
    have e : Lib.index (x :: l) [c] = if (c == x) = true then 0 else if Lib.index l [c] == -1 then -1 else Lib.index l [c] + 1 := by rw [Lib.index, hp]
    rw [e, placeP, cutAt]
    by_cases h : x = c
    · subst h; simp
    · have h' : (c == x) = false := by simpa using fun e => h e.symm
      rw [h', ih, if_neg (by simp), if_neg h, placeP]
      cases hc : cutAt c l with
      | none => simp
      | some p =>
        simp only [Option.map_some]
        rw [if_neg (by simp)]
        simp
theorem cut_at (c : UInt8) (l : Bs) : Lib.cut l [c] = match cutAt c l with | none => (l, [], false) | some (a, b) => (a, b, true) := by
  have e := index_place c l
  unfold Lib.cut
  rw [e, placeP]
  cases hc : cutAt c l with
  | none => simp
  | some p =>
    obtain ⟨a, b⟩ := p
    obtain ⟨e1, _⟩ := cutAt_some.1 hc
    subst e1
    simp

theorem cut_any (s : ByteArray) (c : UInt8) (w : World) (h : w.ShapedOpen Tryd.prog) (hs : s.size ≤ 16777216) :
    Calls Tryd.prog 74 #[.string s, .string ⟨#[c]⟩] w fun e w' => (match cutAt c s.data.toList with
      | none => e = .returned (.tuple #[.string s, .string ⟨#[]⟩, .bool false])
      | some (a, b) => e = .returned (.tuple #[.string ⟨a.toArray⟩, .string ⟨b.toArray⟩, .bool true])) ∧ ∃ q, w' = w.drewN q :=
  (Tryd.strings_Cut_shaped s ⟨#[c]⟩ w h (by omega)).mono fun e w' ⟨he, hw⟩ => by
    have hc := cut_at c s.data.toList
    refine ⟨?_, hw⟩
    have e0 : ({ data := #[c] } : ByteArray).data.toList = [c] := rfl
    rw [e0, hc] at he
    cases hk : cutAt c s.data.toList with
    | none => rw [hk] at he; simpa using he
    | some p => rw [hk] at he; simpa using he
theorem cut_none (s : ByteArray) (c : UInt8) (w : World) (h : w.ShapedOpen Tryd.prog) (hs : s.size ≤ 16777216) (hc : cutAt c s.data.toList = none) :
    Calls Tryd.prog 74 #[.string s, .string ⟨#[c]⟩] w fun e w' => e = .returned (.tuple #[.string s, .string ⟨#[]⟩, .bool false]) ∧ ∃ q, w' = w.drewN q :=
  (cut_any s c w h hs).mono fun e w' ⟨h1, h2⟩ => by rw [hc] at h1; exact ⟨h1, h2⟩
theorem cut_some (s : ByteArray) (c : UInt8) (w : World) (h : w.ShapedOpen Tryd.prog) (hs : s.size ≤ 16777216) {a b : Bs} (hc : cutAt c s.data.toList = some (a, b)) :
    Calls Tryd.prog 74 #[.string s, .string ⟨#[c]⟩] w fun e w' => e = .returned (.tuple #[.string ⟨a.toArray⟩, .string ⟨b.toArray⟩, .bool true]) ∧ ∃ q, w' = w.drewN q :=
  (cut_any s c w h hs).mono fun e w' ⟨h1, h2⟩ => by rw [hc] at h1; exact ⟨h1, h2⟩

theorem toList_ne {s : ByteArray} {l : List UInt8} (h : ¬ s = ⟨l.toArray⟩) : (s.toList == l) = false := by
  have h2 : s.data.toList ≠ l := fun e => h (by cases s with | mk d => simp at e; subst e; simp)
  rw [ByteArray.toList_eq]; simpa using h2
theorem byte_ext {s : ByteArray} {l : List UInt8} : s = ⟨l.toArray⟩ ↔ s.data.toList = l := by
  constructor
  · intro h; rw [h]
  · intro h
    cases s with
    | mk d => simp at h; subst h; simp

def minorI (l : Bs) : Int := match minorP l with | some k => k | none => -1

theorem hminor_any (s : ByteArray) (w : World) : Calls Tryd.prog 106 #[.string s] w fun e w' => e = .returned (.tuple #[.int .i64 (((minorP s.data.toList).getD 0 : Nat) : Int), .bool (minorP s.data.toList).isSome]) ∧ w = w' := by
  by_cases h0 : s = ⟨#[72, 84, 84, 80, 47, 49, 46, 48]⟩
  · subst h0
    go_enter Tryd.func106, Tryd.ntmps106
    go_wp2
    go_ret2
    exact ⟨rfl, rfl⟩
  · by_cases h1 : s = ⟨#[72, 84, 84, 80, 47, 49, 46, 49]⟩
    · subst h1
      go_enter Tryd.func106, Tryd.ntmps106
      go_wp2
      go_ret2
      exact ⟨rfl, rfl⟩
    · have HM : Hid (minorP s.data.toList = none) := Lib.hid (by
        unfold minorP
        rw [if_neg (fun e => h0 (byte_ext.2 e)), if_neg (fun e => h1 (byte_ext.2 e))])
      have b0 := toList_ne (l := [72, 84, 84, 80, 47, 49, 46, 48]) h0
      have b1 := toList_ne (l := [72, 84, 84, 80, 47, 49, 46, 49]) h1
      go_enter Tryd.func106, Tryd.ntmps106
      go_wp2
      go_ret2
      exact ⟨by rw [HM.out]; rfl, rfl⟩

theorem hParse1_any (s : ByteArray) (w : World) : Calls Tryd.prog 71 #[.string s] w fun e w' => e = .returned (.bool (decide (4096 < s.size))) ∧ w = w' := by
  by_cases h : 4096 < s.size
  · go_enter Tryd.func71, Tryd.ntmps71
    go_wp2
    go_ret
    exact ⟨by simp [h] <;> omega, rfl⟩
  · go_enter Tryd.func71, Tryd.ntmps71
    go_wp2
    go_ret
    exact ⟨by simp [h] <;> omega, rfl⟩

def anyLong (vs : List ByteArray) : Bool := vs.any fun s => decide (4096 < s.size)

set_option maxHeartbeats 1000000 in
set_option maxRecDepth 100000 in
theorem idxLong_any (A : Option Addr) (n c : Nat) (vs : List ByteArray) (w : World) (hrd : Rd w w.heap.size 1 A n (strsV vs)) (hn : n ≤ 16777217) :
    Calls Tryd.prog 98 #[.slice A n c, .func (.func 71) #[] #[]] w fun e w' => ∃ i : Int, e = .returned (.int .i64 i) ∧ anyLong vs = decide (0 ≤ i) ∧ Below w.heap.size w w' := by
  have hlen : vs.length = n := by have := hrd.1; rw [strsV_len] at this; omega
  go_enter Tryd.func98, Tryd.ntmps98
  go_wp2
  go_loopw [8] (fun i wr => ∃ k : Nat, k ≤ n ∧ i = .int .i64 k ∧ (∀ j (h : j < vs.length), j < k → ¬ 4096 < vs[j].size) ∧ Below w.heap.size w wr) (fun i _ => n - (intOf i).toNat)
  case atStart => exact ⟨0, Nat.zero_le _, rfl, (fun j h hj => absurd hj (by omega)), Below.refl _ _⟩
  case round =>
    obtain ⟨k, hk, rfl, hall, hb⟩ := hrel
    have HA := Lib.hid hall
    clear hall
    by_cases hlt : k < n
    · obtain ⟨g, o, rfl, hg, hcell⟩ := hrd.2 (by omega)
      have c1 := (hb.cell (p := ⟨g, o + k, none⟩) hg).trans (hcell _ _ (strs_get (l := vs) (j := k) (by omega)))
      clear hcell
      by_cases hl : 4096 < vs[k].size
      · have HL : Hid (anyLong vs = true) := Lib.hid (List.any_eq_true.2 ⟨vs[k], List.getElem_mem _, by simpa using hl⟩)
        have hd : decide (4096 < vs[k].size) = true := by simpa using hl
        go_wp2_with (go_at_call 71; go_must (refine (hParse1_any vs[k] _).mono ?_; rintro _ _ ⟨rfl, rfl⟩; rw [hd]))
        go_ret
        exact ⟨_, rfl, by rw [HL.out]; simp, hb⟩
      · have hd : decide (4096 < vs[k].size) = false := by simpa using hl
        have HN : Hid (∀ j (h : j < vs.length), j < k + 1 → ¬ 4096 < vs[j].size) := Lib.hid (fun j h hj => by
          by_cases e : j = k
          · subst e; exact hl
          · exact HA.out j h (by omega))
        go_wp2_with (go_at_call 71; go_must (refine (hParse1_any vs[k] _).mono ?_; rintro _ _ ⟨rfl, rfl⟩; rw [hd]))
        go_roundw
        case rel => exact ⟨k + 1, by omega, by go_num, HN.out, hb⟩
        case measure => simp [intOf]; omega
    · have HL : Hid (anyLong vs = false) := Lib.hid (by
        unfold anyLong
        rw [List.any_eq_false]
        intro s hs
        obtain ⟨j, hj, rfl⟩ := List.getElem_of_mem hs
        simpa using HA.out j hj (by omega))
      go_wp2
      go_ret
      exact ⟨_, rfl, by rw [HL.out]; simp, hb⟩

theorem hasLong_any (A : Option Addr) (n c : Nat) (vs : List ByteArray) (w : World) (hrd : Rd w w.heap.size 1 A n (strsV vs)) (hn : n ≤ 16777217) :
    Calls Tryd.prog 63 #[.slice A n c, .func (.func 71) #[] #[]] w fun e w' => e = .returned (.bool (anyLong vs)) ∧ Below w.heap.size w w' := by
  go_enter Tryd.func63, Tryd.ntmps63
  go_wp2_with (go_at_call 98; go_must (refine (idxLong_any A n c vs _ hrd hn).mono ?_; rintro _ w1 ⟨i, rfl, hi, hb⟩))
  go_ret
  exact ⟨by rw [hi]; simp, hb⟩
end Go.Proofs.YtabecgdaiakgiaaDoor
