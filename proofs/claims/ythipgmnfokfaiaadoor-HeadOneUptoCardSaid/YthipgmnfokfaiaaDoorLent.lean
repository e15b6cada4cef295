/- the law's lent, same, kept, num. Conditions: sizes. -/
import Derived.Test.YthipgmnfokfaiaaDoorParse
import Derived.Test.YthipgmnfokfaiaaDoorSmug
import Derived.Laws.MakeOwn
namespace Go.Proofs.YthipgmnfokfaiaaDoor
open Go.RowKit

set_option maxHeartbeats 1000000 in
set_option maxRecDepth 100000 in
theorem lent_any (A : Option Addr) (n c : Nat) (l : Bs) (w : World) (hA : A = none → n = 0) (hrd : Rd w w.heap.size 1 A n (bytesV l)) (hn : n ≤ 16777216) :
    Calls Tryd.prog 38 #[.slice A n c] w fun e w' => ∃ g o c', e = .returned (.slice (some ⟨g, o, none⟩) n c') ∧ Row w' w.heap.size 1 (.slice (some ⟨g, o, none⟩) (n + 2) c') (n + 2) (bytesV (l ++ [201, 202])) ∧ Below w.heap.size w w' := by
  obtain ⟨j0, hj0, jz0, jz1, jz2⟩ := info_parts infoU8
  obtain ⟨w1, hmk, hown, hg1⟩ := run_make_own (P := Tryd.prog) w w.heap.size 35 5 j0 (.int .u8 0) 1 Tryd.underlying35 hj0 jz0 jz1 .i64 .i64 (n + 2) (by rw [jz2]; omega) (by simp only [maxLen]; omega) (Nat.le_refl _)
  rw [show (((n + 2 : Nat)) : Int) = (n : Int) + 2 by omega] at hmk
  have hrow1 := Row.of_own hown
  have hb1 : Below w.heap.size w w1 := (Below.refl _ _).grown hg1 (Nat.le_refl _) (by simp)
  have hrd1 := (hrd.below hb1).more hb1.size
  have hsz1 := hb1.size
  clear hown hg1 hrd
  go_enter Tryd.func38, Tryd.ntmps38
  go_wp2_with (first
    | (at_builtin; (refine wpList_app _ rfl (.tmp 8) (.tmp 9) 35 35 rfl w.heap.size 5 j0 (.int .u8 0) 1 1 Tryd.underlying35 hj0 jz0 jz1 jz2 rfl (.slice (some ⟨w.heap.size, 0, none⟩) 0 (n + 2)) 0 [] rfl hrow1 _ n (bytesV l) rfl (Src.slice Tryd.underlying35 hrd1 hA (bytesV_one l)) (by omega) (by omega) (by omega) (by omega) ?_); intro v2 w2 hrow2 hg2 _; rw [List.nil_append, Nat.zero_add] at hrow2; have hb2 : Below w.heap.size w w2 := Below.app hb1 hrow1 hg2 (Nat.le_refl _) hsz1; have hsz2 := hb2.size)
    | (at_builtin; (refine wpList_app _ rfl (.tmp 11) (.tmp 12) 35 35 rfl w.heap.size 5 j0 (.int .u8 0) 1 1 Tryd.underlying35 hj0 jz0 jz1 jz2 rfl v2 n (bytesV l) rfl (hrow2.alloc _) _ 2 [.int .u8 201, .int .u8 202] rfl (Src.built [.int .u8 201, .int .u8 202] 5 Tryd.underlying35 rfl (by intro u hu; simp at hu; rcases hu with rfl | rfl <;> rfl)) (by omega) (by omega) (by omega) (by simp <;> omega) ?_); intro v3 w3 hrow3 hg3 _; obtain ⟨A3, c3, rfl, hc3, _, _, hf3⟩ := hrow3.form; obtain ⟨g3, o3, rfl, _, _⟩ := hrow3.own (by omega); have hb3 : Below w.heap.size w w3 := Below.app (hb2.alloc hsz2 _) (hrow2.alloc _) hg3 (Nat.le_refl _) (by simp <;> omega)))
  go_ret
  refine ⟨g3, o3, c3, rfl, ?_, hb3⟩
  rw [bytesV_append]
  exact hrow3

set_option maxHeartbeats 1000000 in
set_option maxRecDepth 100000 in
theorem same_any (A A' : Option Addr) (n c c' : Nat) (l : Bs) (w : World) (h1 : Rd w w.heap.size 1 A n (bytesV l)) (h2 : Rd w w.heap.size 1 A' n (bytesV l)) (hn : n ≤ 16777216) :
    Calls Tryd.prog 56 #[.slice A n c, .slice A' n c'] w fun e w' => e = .returned (.bool true) ∧ Below w.heap.size w w' := by
  have hlen : l.length = n := by have := h1.1; rw [bytesV_len] at this; omega
  go_enter Tryd.func56, Tryd.ntmps56
  go_wp2
  go_loopw [5] (fun i wr => ∃ k : Nat, k ≤ n ∧ i = .int .i64 k ∧ Below w.heap.size w wr) (fun i _ => n - (intOf i).toNat)
  case atStart => exact ⟨0, Nat.zero_le _, rfl, Below.refl _ _⟩
  case round =>
    obtain ⟨k, hk, rfl, hb⟩ := hrel
    by_cases hlt : k < n
    · obtain ⟨g, o, rfl, hg, hcell⟩ := h1.2 (by omega)
      obtain ⟨g', o', rfl, hg', hcell'⟩ := h2.2 (by omega)
      have hx := bytesV_get (l := l) (j := k) (by omega)
      have c1 : ∀ q, (wr.drewN q).cell? ⟨g, o + k, none⟩ = some (.int .u8 (l[k]'(by omega)).toNat) := fun q => (hb.cell (p := ⟨g, o + k, none⟩) hg).trans (hcell _ _ hx)
      have c2 : ∀ q, (wr.drewN q).cell? ⟨g', o' + k, none⟩ = some (.int .u8 (l[k]'(by omega)).toNat) := fun q => (hb.cell (p := ⟨g', o' + k, none⟩) hg').trans (hcell' _ _ hx)
      have d1 := c1 0
      have d2 := c2 0
      clear hcell hcell' hx
      go_wp2
      go_quiet (fail)
      go_wp2
      go_roundw
      case rel => exact ⟨k + 1, by omega, by go_num, below_drewN hb _⟩
      case measure => simp [intOf]; omega
    · go_wp2
      go_ret
      exact ⟨rfl, hb⟩

set_option maxHeartbeats 1000000 in
set_option maxRecDepth 100000 in
theorem kept_any (g o n c : Nat) (A : Option Addr) (c' : Nat) (l : Bs) (w : World) (hnc : n + 2 ≤ c) (h1 : Rd w w.heap.size 1 (some ⟨g, o, none⟩) (n + 2) (bytesV (l ++ [201, 202]))) (h2 : Rd w w.heap.size 1 A n (bytesV l)) (hn : n ≤ 16777216) :
    Calls Tryd.prog 40 #[.slice (some ⟨g, o, none⟩) n c, .slice A n c'] w fun e w' => e = .returned (.bool true) ∧ Below w.heap.size w w' := by
  have hlen : l.length = n := by have := h2.1; rw [bytesV_len] at this; omega
  have h3 := h1.pre (k := n) (by omega)
  have e0 : (l ++ [201, 202]).take n = l := by rw [← hlen]; exact List.take_left
  rw [Nat.mul_one, bytesV_take, e0] at h3
  obtain ⟨g', o', e, hg, hcell⟩ := h1.2 (by omega)
  injection e with e
  injection e with e1 e2 _
  subst e1 e2
  have k1 := hcell n (.int .u8 201) (by rw [bytesV_append, List.getElem?_append_right (by rw [bytesV_len]; omega), bytesV_len, hlen, Nat.sub_self]; rfl)
  have k2 := hcell (n + 1) (.int .u8 202) (by rw [bytesV_append, List.getElem?_append_right (by rw [bytesV_len]; omega), bytesV_len, hlen, show n + 1 - n = 1 by omega]; rfl)
  clear hcell h1
  go_enter Tryd.func40, Tryd.ntmps40
  go_wp2_with (go_at_call 56; go_must (refine (same_any (some ⟨g, o, none⟩) A n c c' l _ h3 h2 hn).mono ?_; rintro _ w1 ⟨rfl, hb1⟩; have k3 := (hb1.cell (p := ⟨g, o + n, none⟩) hg).trans k1; have k4 := (hb1.cell (p := ⟨g, o + (n + 1), none⟩) hg).trans k2))
  go_ret
  exact ⟨rfl, hb1⟩

theorem num_any (i : Int) (w : World) : Calls Tryd.prog 42 #[.int .i64 i] w fun e w' => e = .returned (.int .i64 i) ∧ w = w' := by
  go_enter Tryd.func42, Tryd.ntmps42
  go_wp2
  go_ret
  exact ⟨rfl, rfl⟩
end Go.Proofs.YthipgmnfokfaiaaDoor
