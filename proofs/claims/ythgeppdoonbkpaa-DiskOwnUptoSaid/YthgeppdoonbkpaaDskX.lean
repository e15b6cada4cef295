/- how many bytes all files have. Conditions: sizes. -/
import Derived.Test.YthgeppdoonbkpaaDskV
import Derived.RangeFuncNested
import Derived.RangeFuncBound
import Derived.RangeFuncCalls
import Derived.Shelf.RegionOpen
namespace Go.Proofs.Ythgeppdoonbkpaa
open Go.RowKit Go.Maps Go.WideMaps Go.Sort Go.Shelf
@[go_sem] theorem dsemAt_some (l : Nat) (ρ : Operand → Value) (o : Oper) (h : ∀ c, o.op ≠ .defer c) : Oper.semAt (some l) ρ o = execOp ρ o := Oper.semAt_some l ρ o h
theorem dvalues_stops (F : Fence) (n : Nat) (h7 : F.fn 62) (hro : F.round = none) (hn : 1 ≤ n) (Bm b nn : Nat) (Fb : Nat → Nat) (L : Dsk.Dir) (hr : Dsk.Rise L) (w : World) (hBm : Bm < w.heap.size)
    (hm : w.cell? ⟨Bm, 0, none⟩ = some (.map (some b))) (hown : Dirm w b nn Fb L) :
    SeqStops F n Try.prog 62 #[.pointer (some ⟨Bm, 0, none⟩)] (fun x : {p : Bs × Nat // p ∈ L} => Value.pointer (some ⟨Fb x.1.2, 0, none⟩)) (fun xs => (xs.map (·.1)).Perm L) (fun _ => True) L.length w := fun l J Jx W hW hJ _ hY h0 => by
  have hown' : Dirm W b nn Fb L := hown.chg (S := fun _ => False) (Chg.of_below hW) id
  exact dvalues1S_in F n h7 hro hn l Bm b nn Fb L hr J Jx hY W hJ ((hW.cell (p := ⟨Bm, 0, none⟩) hBm).trans hm) hown' h0
def sumF (s : Dsk.St) {L : Dsk.Dir} (pre : List {p : Bs × Nat // p ∈ L}) : Nat := (pre.map (fun x => (Dsk.fil s x.1.2).now.length)).sum
theorem sumF_snoc (s : Dsk.St) {L : Dsk.Dir} (pre : List {p : Bs × Nat // p ∈ L}) (x : {p : Bs × Nat // p ∈ L}) : sumF s (pre ++ [x]) = sumF s pre + (Dsk.fil s x.1.2).now.length := by unfold sumF; rw [List.map_append, List.sum_append]; simp
theorem sumF_held (s : Dsk.St) (pre : List {p : Bs × Nat // p ∈ Dsk.dn s}) (h : (pre.map (·.1)).Perm (Dsk.dn s)) : sumF s pre = Dsk.held s := by
  unfold sumF Dsk.held
  have := (h.map (fun p => (Dsk.fil s p.2).now.length)).sum_nat
  rw [List.map_map] at this
  exact this
set_option maxRecDepth 100000 in
set_option maxHeartbeats 2000000 in
theorem dheld_any {w : World} {db : Nat} {Fb : Nat → Nat} {ρ : Roles} {s : Dsk.St} {T : Nat} (hm : Mem w db Fb ρ s T) (hT : T ≤ 100000) :
    Calls Try.prog 32 #[.pointer (some ⟨db, 0, none⟩)] w fun e w' => e = .returned (.int .i64 (Dsk.held s : Nat)) ∧ Below w.heap.size w w' := by
  refine (callsIn_wide (n := 6)).1 ?_
  obtain ⟨nb, nn, e2, hd, hnn⟩ := hm.nowm
  have hlen : (Dsk.dn s).length ≤ 100000 := by have := World.ownsMap.size_le hd; rw [Dsk.mapD_size] at this; omega
  have HM := Lib.hid hm
  have HD := Lib.hid hd
  have HRI := Lib.hid hm.fit.dn_rise
  have hgood := fun (x : {p : Bs × Nat // p ∈ Dsk.dn s}) => (hm.fit.good x.1.2 (Dsk.dn_reach x.2)).now_len
  have HSM : Hid (∀ pre : List {p : Bs × Nat // p ∈ Dsk.dn s}, sumF s pre ≤ pre.length * 1048576) := Lib.hid (fun pre => by
    induction pre with
    | nil => exact Nat.zero_le _
    | cons x pre ih =>
      have : sumF s (x :: pre) = (Dsk.fil s x.1.2).now.length + sumF s pre := by unfold sumF; rw [List.map_cons, List.sum_cons]
      rw [this, List.length_cons]
      have := hgood x
      omega)
  have HGO := Lib.hid hgood
  have hdb : db < w.heap.size := hm.lt db _ hm.disk
  have hfV : Fence.wide.fn 55 := trivial
  have cV : ∀ W, CallsIn Fence.wide 5 Try.prog 55 #[.map (some nb)] W fun e w' => e = .returned (.func (.func 62) #[] #[.pointer (some ⟨W.heap.size, 0, none⟩)]) ∧ w' = W.alloc (.cells #[.map (some nb)] 61) := fun W => callsIn_wide.2 (dvalues_any (some nb) W)
  clear hm hd hgood
  refine callsIn_of_wp_marks Try.func32 rfl trivial ?_ rfl
  simp only [Try.ntmps32, List.size_toArray, List.length_cons, List.length_nil, Nat.reduceAdd, Nat.reduceSub, Array.replicate_succ, Array.replicate_zero, List.push_toArray, List.append_toArray, List.nil_append, List.cons_append]
  gi_wp2_with (first
    | (gi_at_call 55; refine (cV _).mono ?_; rintro e w' ⟨rfl, rfl⟩)
    | fail)
  have hB0 : Below w.heap.size w ((w.alloc (.cells #[.int .i64 0] 3)).alloc (.cells #[.map (some nb)] 61)) := ((Below.refl _ w).alloc (Nat.le_refl _) _).alloc (by simp) _
  refine wpIn_rangeFunc_ownF rfl (by omega) (gf := 62) (lb := #[.pointer (some ⟨w.heap.size + 1, 0, none⟩)]) rfl trivial (enters_of Try.func62 (by kernel_rfl) rfl)
    (dvalues_stops Fence.wide (6 - 1) trivial rfl (by omega) (w.heap.size + 1) nb nn Fb (Dsk.dn s) HRI.out _ (by simp) (by simp) (HD.out.chg (S := fun _ => False) (Chg.of_below hB0) id)) walksK_t walksK_b (Below.refl _ _) (fun _ => rfl)
    (fun pre W => (W.cell? ⟨w.heap.size, 0, none⟩ = some (.int .i64 (sumF s pre : Nat)) ∧ W.frozen? ⟨w.heap.size, 0, none⟩ = false) ∧ Below w.heap.size w W)
    (fun _ _ _ => False)
    (OwnFrom.and (Own.from (fun s A B row hs hg hr => ⟨cell_kept hs.1 hg hr, (frozen_kept hs.1 hg hr).trans hs.2⟩) _) (ownFrom_below (Nat.le_refl _) (by simp; omega)))
    (fun _ _ _ _ _ hs _ _ => hs)
    ⟨⟨by simp [sumF], by simp⟩, hB0⟩
    (fun x => { tmps := #[.pointer (some ⟨db, 0, none⟩), undef, .int .i64 0, .pointer (some ⟨w.heap.size, 0, none⟩), .pointer (some ⟨Fb x.1.2, 0, none⟩), .pointer (some ⟨db, 0, none⟩), .pointer (some ⟨db, 0, none⟩), .pointer (some ⟨db, 2, none⟩), .map (some nb), .func (.func 62) #[] #[.pointer (some ⟨w.heap.size + 1, 0, none⟩)], .pointer (some ⟨Fb x.1.2, 0, none⟩), undef, undef, undef, undef, undef, undef, undef, undef], defers := [] }) ?assign ?body ?done ?stop
  case assign =>
    intro l x W K hK
    gi_wp2_with (rw [Oper.semAt_eq _ _ _ (fun c h => by cases h)]; go_simp; try go_bits)
    exact hK
  case body =>
    rintro l pre x W ⟨⟨hc, hf⟩, hB⟩ hlt
    have hmw := HM.out.below hB
    obtain ⟨v0, v1, v2, hv, _, h1, _⟩ := (hmw.file x.1.2 (Dsk.dn_reach x.2)).get
    obtain ⟨A1, c1, e⟩ := h1.slice
    subst e
    have e1 := hv.cell (j := 1) rfl
    have hs1 := HSM.out pre
    have hg1 := HGO.out x
    have HSN := Lib.hid (sumF_snoc s pre x)
    have HBB := Lib.hid hB
    obtain ⟨S, hS⟩ : ∃ S, S = sumF s pre := ⟨_, rfl⟩
    obtain ⟨m, hm⟩ : ∃ m, m = (Dsk.fil s x.1.2).now.length := ⟨_, rfl⟩
    rw [← hS] at hc hs1 HSN
    rw [← hm] at e1 hg1 HSN
    have hS2 : S ≤ 10000000000000 := by omega
    clear hS hm hv h1 hmw hB hlt hs1
    have hmx : Try.prog.follows .mixedOrders = true := by kernel_rfl
    gi_wp2
    gi_region_with_o (fail)
    all_goals gi_wp2
    all_goals (try go_bits)
    all_goals
      refine ⟨(KeepsOthers.setCell _ _ _).trans (KeepsOthers.drew _), ?_, ⟨?_, ?_⟩, (HBB.out.setCell (p := ⟨w.heap.size, 0, none⟩) (Nat.le_refl _) _).drew⟩
      · exact ((KeepsOthers.setCell _ _ _).trans (KeepsOthers.drew _)).walks
      · rw [HSN.out]; exact World.cell?_setCell_same' _ _ _ (by rw [hc]; rfl)
      · rw [frozen_drew_own, World.frozen?_setCell]; exact hf
  case done =>
    rintro D ys W hD hperm ⟨⟨hc, _⟩, hB⟩ hK
    gi_wp2
    refine ⟨by simp, .inl ⟨_, _, rfl, run_takeDeferred hK, ?_⟩⟩
    exact ⟨_, results_tmp rfl _ _ _, by rw [sumF_held s ys hperm]; rfl, hB.trans (belowK_b (w := w) (Nat.le_refl _) W D _ _ (by simp at hD; omega) hK rfl rfl)⟩
  case stop =>
    rintro D c pre W _ _ h _
    exact h.elim
end Go.Proofs.Ythgeppdoonbkpaa
