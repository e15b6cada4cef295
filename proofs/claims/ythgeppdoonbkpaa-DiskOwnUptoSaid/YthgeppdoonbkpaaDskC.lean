/- the disk's ready, and the closure that takes choice after choice. Conditions: sizes. -/
import Derived.Test.YthgeppdoonbkpaaDskF
namespace Go.Proofs.Ythgeppdoonbkpaa
open Go.RowKit
theorem dready_any {w : World} {db : Nat} {down : Bool} (hc : w.cell? ⟨db, 5, none⟩ = some (.bool down)) (A : Option Addr) (n c : Nat) (l : List Bs) (hrd : Rd w w.heap.size 1 A n (namesV l)) (hn : n ≤ 16777216) (hz : ∀ x ∈ l, x.length ≤ 1000000000000) :
    Calls Try.prog 29 #[.pointer (some ⟨db, 0, none⟩), .slice A n c] w fun e w' => e = .returned (.int .i64 ((if down = true then 32 else if Dsk.allMay l = true then 0 else 2 : Nat) : Int)) ∧ Below w.heap.size w w' := by
  have HI := Lib.hid (dcontains_any A n c l w hrd hn hz)
  clear hrd hz
  generalize Dsk.allMay l = b at *
  go_enter Try.func29, Try.ntmps29
  cases down with
  | true =>
    go_wp2
    go_ret
    exact ⟨rfl, Below.refl _ _⟩
  | false =>
    go_upto_if 13 with (first
      | (go_at_call 52; go_must (refine HI.out.mono ?_; rintro _ w1 ⟨rfl, hb1⟩))
      | fail)
    cases b with
    | true =>
      go_wp2
      go_ret
      exact ⟨rfl, hb1⟩
    | false =>
      go_wp2
      go_ret
      exact ⟨rfl, hb1⟩
theorem nready (A : Option Addr) (n c : Nat) (w : World) : Calls Try.prog 29 #[.pointer none, .slice A n c] w fun e w' => e = .returned (.int .i64 1) ∧ w' = w := by
  go_enter Try.func29, Try.ntmps29
  go_wp2
  go_ret
  exact ⟨rfl, rfl⟩
def intsV (l : List Int) : List Value := l.map fun x => .int .i64 x
/-- a closure's box of choices -/
structure Box (P : Nat → Prop) (w : World) (bx : Nat) (cs : List Int) : Prop where
  get : ∃ A c, Var w bx 23 [.slice A cs.length c] ∧ Rd w w.heap.size 1 A cs.length (intsV cs) ∧ cs.length ≤ c ∧ ∀ g o, A = some ⟨g, o, none⟩ → 0 < cs.length → g ≠ bx ∧ P g
theorem Box.keep {P : Nat → Prop} {w w' : World} {bx : Nat} {cs : List Int} (h : Box P w bx cs) (hb : w'.heap[bx]? = w.heap[bx]?) (hs : w.heap.size ≤ w'.heap.size) (hp : ∀ g, g < w.heap.size → P g → w'.heap[g]? = w.heap[g]?) : Box P w' bx cs := by
  obtain ⟨A, c, hv, hr, hc, hn⟩ := h.get
  refine ⟨A, c, hb.trans hv, ⟨hr.1, fun h0 => ?_⟩, hc, hn⟩
  obtain ⟨g, o, e, hg, hcell⟩ := hr.2 h0
  exact ⟨g, o, e, by omega, fun j u hu => (World.cell?_of_block (w := w) (a := ⟨g, o + j, none⟩) (hp g hg (hn g o e h0).2)).trans (hcell j u hu)⟩
theorem choice_cons (x : Int) (r : List Int) (n : Nat) : (Dsk.choice (x :: r) n).1 = (if x.tmod ((n : Int) + 1) < 0 then x.tmod ((n : Int) + 1) + ((n : Int) + 1) else x.tmod ((n : Int) + 1)).toNat ∧ (Dsk.choice (x :: r) n).2 = r ∧ 0 ≤ (if x.tmod ((n : Int) + 1) < 0 then x.tmod ((n : Int) + 1) + ((n : Int) + 1) else x.tmod ((n : Int) + 1)) := by
  have hp : 0 < (n : Int) + 1 := by omega
  have h1 := Int.emod_nonneg x (show (n : Int) + 1 ≠ 0 by omega)
  have h2 := Int.tmod_lt_of_pos x hp
  have h3 := Int.lt_tmod_of_pos x hp
  have h4 := Int.tmod_add_mul_tdiv x ((n : Int) + 1)
  have h5 : x % ((n : Int) + 1) = (x.tmod ((n : Int) + 1)) % ((n : Int) + 1) := by
    conv => lhs; rw [← h4]
    rw [Int.add_mul_emod_self_left]
  have e : (if x.tmod ((n : Int) + 1) < 0 then x.tmod ((n : Int) + 1) + ((n : Int) + 1) else x.tmod ((n : Int) + 1)) = x % ((n : Int) + 1) := by
    rw [h5]
    split
    · rw [← Int.add_emod_right, Int.emod_eq_of_lt (by omega) (by omega)]
    · rw [Int.emod_eq_of_lt (by omega) (by omega)]
  unfold Dsk.choice
  dsimp only
  exact ⟨by rw [e], rfl, by rw [e]; exact h1⟩

theorem box_next {P : Nat → Prop} {w : World} {bx g o c : Nat} {x : Int} {r : List Int} (hv : Var w bx 23 [.slice (some ⟨g, o, none⟩) (r.length + 1) c]) (hrd : Rd w w.heap.size 1 (some ⟨g, o, none⟩) (r.length + 1) (intsV (x :: r))) (hne : g ≠ bx ∧ P g) (hc : r.length + 1 ≤ c) (A' : Option Addr) (hA : r.length = 0 ∨ A' = some ⟨g, o + 1, none⟩) :
    Box P (w.setCell ⟨bx, 0, none⟩ (.slice A' r.length (c - 1))) bx r := by
  refine ⟨A', c - 1, hv.set 0 _, ⟨?_, fun h0 => ?_⟩, by omega, fun g' o' e h0 => ?_⟩
  · unfold intsV; rw [List.length_map]; omega
  · rcases hA with e | e
    · omega
    · obtain ⟨g', o', e2, hg, hcell⟩ := hrd.2 (by omega)
      injection e2 with e2
      injection e2 with e3 e4 _
      subst e3 e4
      refine ⟨g, o + 1, e, by simp; exact hg, fun j u hu => ?_⟩
      rw [World.cell?_setCell_other _ _ _ _ (by simp)]
      rw [Nat.add_assoc, Nat.add_comm 1 j]
      exact hcell (j + 1) u (by unfold intsV at hu ⊢; rw [List.map_cons, List.getElem?_cons_succ]; exact hu)
  · rcases hA with e2 | e2
    · omega
    · rw [e2] at e
      injection e with e
      injection e with e _ _
      rw [← e]; exact hne
set_option maxHeartbeats 1000000 in
set_option maxRecDepth 100000 in
theorem dchoose_any {P : Nat → Prop} {w : World} {bx : Nat} {cs : List Int} (h : Box P w bx cs) (n : Nat) (hn : n ≤ 16777216) (hl : cs.length ≤ 16777216) :
    Calls Try.prog 42 #[.int .i64 (n : Int), .pointer (some ⟨bx, 0, none⟩)] w fun e w' => e = .returned (.int .i64 ((Dsk.choice cs n).1 : Nat)) ∧ Box P w' bx (Dsk.choice cs n).2 ∧ Chg (fun k => k = bx) w w' := by
  obtain ⟨A, c, hv, hrd, hc, hne⟩ := h.get
  have e0 := hv.cell (j := 0) rfl
  have q0 := hv.frozen 0
  have HBX := Lib.hid h
  cases cs with
  | nil =>
    have HCH : Hid (Dsk.choice [] n = (0, [])) := Lib.hid rfl
    clear h hrd hc hne hl hv
    go_enter Try.func42, Try.ntmps42
    go_wp2
    go_ret
    rw [HCH.out]
    exact ⟨rfl, HBX.out, Chg.refl _ _⟩
  | cons x r =>
    rw [List.length_cons] at hl hc e0 hv hrd hne
    obtain ⟨g, o, rfl, hg, hcell⟩ := hrd.2 (by omega)
    have e1 := hcell 0 (.int .i64 x) rfl
    have hgb := hne g o rfl (by omega)
    have hgb1 := hgb.1
    obtain ⟨k1, k2, k3⟩ := choice_cons x r n
    have hmt := Int.tmod_lt_of_pos x (show 0 < (n : Int) + 1 by omega)
    have hmu := Int.lt_tmod_of_pos x (show 0 < (n : Int) + 1 by omega)
    obtain ⟨nr, hnr⟩ : ∃ nr, nr = r.length := ⟨_, rfl⟩
    have HNX := Lib.hid (fun A' hA => box_next (x := x) hv hrd hgb hc A' hA)
    rw [← hnr] at HNX e0 hc hl
    have HK1 := Lib.hid k1
    have HK2 := Lib.hid k2
    have HK3 := Lib.hid k3
    rw [Nat.add_zero] at e1
    have hp : ((n : Int) + 1 == 0) = false := by rw [beq_eq_false_iff_ne]; omega
    have hp2 : ¬ (n : Int) + 1 = 0 := by omega
    have hch : Chg (fun k => k = bx) w (w.setCell ⟨bx, 0, none⟩ (.slice (some ⟨g, o + 1, none⟩) nr (c - 1))) := (show Chg (fun k => k = bx) w w from Chg.refl _ _).setCell (p := ⟨bx, 0, none⟩) (fun _ => rfl) _
    clear h hrd hne hv hcell k1 k2 k3 hnr hch
    go_enter Try.func42, Try.ntmps42
    go_upto_region 4 with (fail)
    obtain ⟨y, hy⟩ : ∃ y, y = x.tmod ((n : Int) + 1) := ⟨_, rfl⟩
    rw [← hy] at hmt hmu HK1 HK3 ⊢
    clear hy
    go_cut [] (fun wx => ∃ A' : Option Addr, (nr = 0 ∨ A' = some ⟨g, o + 1, none⟩) ∧ wx = w.setCell ⟨bx, 0, none⟩ (.slice A' nr (c - 1)))
    case first =>
      by_cases hc1 : c = 1
      · subst hc1
        obtain rfl : nr = 0 := by omega
        go_wp2
        go_meet
        exact ⟨_, by simp, rfl⟩
      · go_wp2
        go_meet
        exact ⟨_, .inr rfl, rfl⟩
    case rest =>
    obtain ⟨A', hA', rfl⟩ := hcut
    have HB := Lib.hid (HNX.out A' hA')
    have hcg : Chg (fun k => k = bx) w (w.setCell ⟨bx, 0, none⟩ (.slice A' nr (c - 1))) := (show Chg (fun k => k = bx) w w from Chg.refl _ _).setCell (p := ⟨bx, 0, none⟩) (fun _ => rfl) _
    have HCG := Lib.hid hcg
    clear hA' hcg e1 e0
    by_cases hy0 : y < 0
    · have hr : ((if y < 0 then y + ((n : Int) + 1) else y).toNat : Int) = y + ((n : Int) + 1) := by rw [if_pos hy0]; omega
      have HRV := Lib.hid hr
      clear hr
      go_wp2
      go_ret
      rw [HK2.out]
      exact ⟨by rw [HK1.out, HRV.out]; rfl, HB.out, HCG.out⟩
    · have hr : ((if y < 0 then y + ((n : Int) + 1) else y).toNat : Int) = y := by rw [if_neg hy0]; omega
      have HRV := Lib.hid hr
      clear hr
      go_wp2
      go_ret
      rw [HK2.out]
      exact ⟨by rw [HK1.out, HRV.out]; rfl, HB.out, HCG.out⟩
end Go.Proofs.Ythgeppdoonbkpaa
