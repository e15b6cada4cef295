/- the laws' own small functions: lent, kept, ints, stay, round. Conditions: sizes. -/
import Derived.Test.YthgeppdoonbkpaaDskL
namespace Go.Proofs.Ythgeppdoonbkpaa
open Go.RowKit
set_option maxHeartbeats 1000000 in
set_option maxRecDepth 100000 in
theorem dlent_any (A : Option Addr) (n c : Nat) (l : Bs) (w : World) (hA : A = none → n = 0) (hrd : Rd w w.heap.size 1 A n (bytesV l)) (hn : n ≤ 100000000) :
    Calls Try.prog 11 #[.slice A n c] w fun e w' => ∃ g o c', e = .returned (.slice (some ⟨g, o, none⟩) n c') ∧ w.heap.size ≤ g ∧ g < w'.heap.size ∧ n + 2 ≤ c' ∧ c' ≤ maxLen ∧ Row w' w.heap.size 1 (.slice (some ⟨g, o, none⟩) (n + 2) c') (n + 2) (bytesV (l ++ [201, 202])) ∧ Below w.heap.size w w' := by
  obtain ⟨j0, hj0, jz0, jz1, jz2⟩ := info_parts infoByte
  go_enter Try.func11, Try.ntmps11
  go_wp2_with (first
    | (at_builtin; (refine wpList_app _ rfl (.tmp 4) (.tmp 5) 22 22 rfl w.heap.size 5 j0 (.int .u8 0) 1 1 Try.underlying22 hj0 jz0 jz1 jz2 rfl (.slice none 0 0) 0 [] rfl (Row.nil _ _ _) _ n (bytesV l) rfl (Src.slice Try.underlying22 hrd hA (bytesV_one l)) (by omega) (by omega) (by omega) (by omega) ?_); intro v2 w2 hrow2 hg2 _; rw [List.nil_append, Nat.zero_add] at hrow2; have hb2 : Below w.heap.size w w2 := Below.app (Below.refl _ _) (Row.nil w w.heap.size 1) hg2 (Nat.le_refl _) (Nat.le_refl _); have hsz2 := hb2.size)
    | (at_builtin; (refine wpList_app _ rfl (.tmp 6) (.tmp 7) 22 22 rfl w.heap.size 5 j0 (.int .u8 0) 1 1 Try.underlying22 hj0 jz0 jz1 jz2 rfl v2 n (bytesV l) rfl (hrow2.alloc _) _ 2 [.int .u8 201, .int .u8 202] rfl (Src.built [.int .u8 201, .int .u8 202] 5 Try.underlying22 rfl (by intro u hu; simp at hu; rcases hu with rfl | rfl <;> rfl)) (by omega) (by omega) (by omega) (by simp <;> omega) ?_); intro v3 w3 hrow3 hg3 _; obtain ⟨A3, c3, rfl, hc3, hm3, _, hf3⟩ := hrow3.form; obtain ⟨g3, o3, rfl, _, _⟩ := hrow3.own (by omega); have hb3 : Below w.heap.size w w3 := Below.app (hb2.alloc hsz2 _) (hrow2.alloc _) hg3 (Nat.le_refl _) (by simp <;> omega)))
  go_ret
  have hgl := hrow3.lt g3 rfl
  refine ⟨g3, o3, c3, rfl, hgl.1, hgl.2, hc3, hm3, ?_, hb3⟩
  rw [bytesV_append]
  exact hrow3

set_option maxHeartbeats 1000000 in
set_option maxRecDepth 100000 in
theorem dkept_any (g o n c : Nat) (A : Option Addr) (c' : Nat) (l : Bs) (w : World) (hnc : n + 2 ≤ c) (h1 : Rd w w.heap.size 1 (some ⟨g, o, none⟩) (n + 2) (bytesV (l ++ [201, 202]))) (h2 : Rd w w.heap.size 1 A n (bytesV l)) (hA : A = none → n = 0) (hn : n ≤ 100000000) :
    Calls Try.prog 49 #[.slice (some ⟨g, o, none⟩) n c, .slice A n c'] w fun e w' => e = .returned (.bool true) ∧ w = w' := by
  have hlen : l.length = n := by have := h2.1; rw [bytesV_len] at this; omega
  have h3 := h1.pre (k := n) (by omega)
  have e0 : (l ++ [201, 202]).take n = l := by rw [← hlen]; exact List.take_left
  rw [Nat.mul_one, bytesV_take, e0] at h3
  obtain ⟨g', o', e, hg, hcell⟩ := h1.2 (by omega)
  injection e with e
  injection e with e1 e2 _
  subst e1 e2
  have k1 := hcell n (.int .u8 201) (by rw [bytesV_append, List.getElem?_append_right (by rw [bytesV_len]; omega), bytesV_len, hlen, Nat.sub_self]; rfl)
  have k2 := hcell (n + 1) (.int .u8 202) (by rw [bytesV_append, List.getElem?_append_right (by rw [bytesV_len]; omega), bytesV_len, hlen, show n + 1 - n = 1 by omega]; rfl)
  have v1 := conv_str (P := Try.prog) 22 9 5 Try.underlying22 Try.underlying5 Try.underlying9 (c := c) h3 (fun e => by cases e)
  have v2 := conv_str (P := Try.prog) 22 9 5 Try.underlying22 Try.underlying5 Try.underlying9 (c := c') h2 hA
  clear hcell h1 e0
  go_enter Try.func49, Try.ntmps49
  go_wp2
  go_ret
  exact ⟨rfl, rfl⟩


set_option maxHeartbeats 1000000 in
set_option maxRecDepth 100000 in
theorem dints_any (A : Option Addr) (n c : Nat) (l : List Int) (w : World) (hA : A = none → n = 0) (hrd : Rd w w.heap.size 1 A n (intsV l)) (hn : n ≤ 100000000) :
    Calls Try.prog 15 #[.slice A n c] w fun e w' => ∃ g o c', e = .returned (.slice (some ⟨g, o, none⟩) n c') ∧ w.heap.size ≤ g ∧ g < w'.heap.size ∧ n + 1 ≤ c' ∧ c' ≤ maxLen ∧ Row w' w.heap.size 1 (.slice (some ⟨g, o, none⟩) (n + 1) c') (n + 1) (intsV (l ++ [-77])) ∧ Below w.heap.size w w' := by
  obtain ⟨j0, hj0, jz0, jz1, jz2⟩ := info_parts infoInt
  go_enter Try.func15, Try.ntmps15
  go_wp2_with (first
    | (at_builtin; (refine wpList_app _ rfl (.tmp 4) (.tmp 5) 23 23 rfl w.heap.size 3 j0 (.int .i64 0) 1 8 Try.underlying23 hj0 jz0 jz1 jz2 rfl (.slice none 0 0) 0 [] rfl (Row.nil _ _ _) _ n (intsV l) rfl (Src.slice Try.underlying23 hrd hA (by intro u hu; unfold intsV at hu; obtain ⟨x, _, rfl⟩ := List.mem_map.1 hu; rfl)) (by omega) (by omega) (by omega) (by omega) ?_); intro v2 w2 hrow2 hg2 _; rw [List.nil_append, Nat.zero_add] at hrow2; have hb2 : Below w.heap.size w w2 := Below.app (Below.refl _ _) (Row.nil w w.heap.size 1) hg2 (Nat.le_refl _) (Nat.le_refl _); have hsz2 := hb2.size)
    | (at_builtin; (refine wpList_app _ rfl (.tmp 6) (.tmp 7) 23 23 rfl w.heap.size 3 j0 (.int .i64 0) 1 8 Try.underlying23 hj0 jz0 jz1 jz2 rfl v2 n (intsV l) rfl (hrow2.alloc _) _ 1 [.int .i64 (-77)] rfl (Src.built [.int .i64 (-77)] 3 Try.underlying23 rfl (by intro u hu; simp at hu; rcases hu with rfl; rfl)) (by omega) (by omega) (by omega) (by simp <;> omega) ?_); intro v3 w3 hrow3 hg3 _; obtain ⟨A3, c3, rfl, hc3, hm3, _, hf3⟩ := hrow3.form; obtain ⟨g3, o3, rfl, _, _⟩ := hrow3.own (by omega); have hb3 : Below w.heap.size w w3 := Below.app (hb2.alloc hsz2 _) (hrow2.alloc _) hg3 (Nat.le_refl _) (by simp <;> omega)))
  go_ret
  have hgl := hrow3.lt g3 rfl
  refine ⟨g3, o3, c3, rfl, hgl.1, hgl.2, hc3, hm3, ?_, hb3⟩
  have e : intsV (l ++ [-77]) = intsV l ++ [.int .i64 (-77)] := by unfold intsV; rw [List.map_append]; rfl
  rw [e]
  exact hrow3
set_option maxHeartbeats 1000000 in
/-- a place among n -/
theorem dround_any (x : Int) (n : Nat) (w : World) (hn : 1 ≤ n) (hn2 : n ≤ 1000000000) :
    Calls Try.prog 16 #[.int .i64 x, .int .i64 (n : Int)] w fun e w' => e = .returned (.int .i64 (((x % (n : Int)).toNat : Nat) : Int)) ∧ w = w' := by
  have hp : 0 < (n : Int) := by omega
  have h1 := Int.emod_nonneg x (show (n : Int) ≠ 0 by omega)
  have hlt := Int.emod_lt_of_pos x hp
  have h2 := Int.tmod_lt_of_pos x hp
  have h3 := Int.lt_tmod_of_pos x hp
  have h4 := Int.tmod_add_mul_tdiv x (n : Int)
  have h5 : x % (n : Int) = (x.tmod (n : Int)) % (n : Int) := by
    conv => lhs; rw [← h4]
    rw [Int.add_mul_emod_self_left]
  obtain ⟨y, hy⟩ : ∃ y, y = x.tmod (n : Int) := ⟨_, rfl⟩
  rw [← hy] at h2 h3 h5
  have HY : Hid (y = x.tmod (n : Int)) := Lib.hid hy
  have e : (((x % (n : Int)).toNat : Nat) : Int) = if y < 0 then y + (n : Int) else y := by
    have : ((x % (n : Int)).toNat : Int) = x % (n : Int) := by omega
    rw [this, h5]
    split
    · rw [← Int.add_emod_right, Int.emod_eq_of_lt (by omega) (by omega)]
    · rw [Int.emod_eq_of_lt (by omega) (by omega)]
  rw [e]
  have hz : ((n : Int) == 0) = false := by rw [beq_eq_false_iff_ne]; omega
  have hz2 : ¬ (n : Int) = 0 := by omega
  have hty : x.tmod (n : Int) = y := hy.symm
  clear hy h4 h5 e h1 hlt
  by_cases h0 : y < 0
  · rw [if_pos h0]
    go_enter Try.func16, Try.ntmps16
    go_wp2
    go_ret
    exact ⟨rfl, rfl⟩
  · rw [if_neg h0]
    go_enter Try.func16, Try.ntmps16
    go_wp2
    go_ret
    exact ⟨rfl, rfl⟩
end Go.Proofs.Ythgeppdoonbkpaa
