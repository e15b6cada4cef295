/- how many bytes all files have: a range over maps.Values. Conditions: sizes. -/
import Derived.Test.YthgeppdoonbkpaaDskO
import Derived.RangeFuncFrom
import Derived.RangeFuncMany
import Derived.RangeFuncLeaves
import Derived.Sort.MapsRangeIn
import Derived.Sort.KeysCollected
import Derived.OwnWalkIn
import Derived.TacticsInMore
import Derived.RegionIn
import Derived.LoopNIn
import Derived.LoopIn
import Derived.Shelf.Abstract
namespace Go.Proofs.Ythgeppdoonbkpaa
open Go.RowKit Go.Maps Go.WideMaps Go.Sort Go.Shelf
theorem perm_keys {L ps : Dsk.Dir} (hr : Dsk.Rise L) (hk : (ps.map (·.1)).Perm (L.map (·.1))) (hm : ∀ p ∈ ps, p ∈ L) : ps.Perm L := by
  have hnL : (L.map (·.1)).Nodup := by
    unfold Dsk.Rise at hr
    unfold List.Nodup
    rw [List.pairwise_map]
    exact hr.imp (fun {a b} h e => by rw [e] at h; exact Dsk.lt_irrefl _ h)
  have hnp : (ps.map (·.1)).Nodup := hk.nodup_iff.2 hnL
  refine (List.perm_ext_iff_of_nodup ((List.pairwise_map.1 hnp).imp (fun h e => h (by rw [e]))) ((List.pairwise_map.1 hnL).imp (fun h e => h (by rw [e])))).2 (fun p => ⟨hm p, fun hp => ?_⟩)
  have h1 : p.1 ∈ ps.map (·.1) := hk.mem_iff.2 (List.mem_map.2 ⟨p, hp, rfl⟩)
  obtain ⟨q, hq, e⟩ := List.mem_map.1 h1
  have e1 := Dsk.mem_get hr (n := q.1) (i := q.2) (hm q hq)
  have e2 := Dsk.mem_get hr (n := p.1) (i := p.2) hp
  have e' : q.1 = p.1 := e
  rw [e', e2] at e1
  injection e1 with e1
  have : q = p := Prod.ext e' e1.symm
  rw [← this]; exact hq
theorem dvalues_any (mb : Option Nat) (W : World) : Calls Try.prog 55 #[.map mb] W fun e w' => e = .returned (.func (.func 62) #[] #[.pointer (some ⟨W.heap.size, 0, none⟩)]) ∧ w' = W.alloc (.cells #[.map mb] 61) := by
  have hmf : ∀ fn first cap w, (Instr.makeFunc fn first cap).run Try.prog w = .ok (.func fn first cap) w := fun _ _ _ _ => rfl
  go_enter Try.func55, Try.ntmps55
  go_wp2
  go_ret
  exact ⟨rfl, rfl⟩
set_option maxRecDepth 100000 in
set_option maxHeartbeats 1000000 in
theorem dvalues1S_in (F : Fence) (n : Nat) (h8 : F.fn 62) (hro : F.round = none) (hn : 1 ≤ n) (l Bm b nn : Nat) (Fb : Nat → Nat) (L : Dsk.Dir) (hr : Dsk.Rise L) (J Jx : List {p : Bs × Nat // p ∈ L} → World → Prop)
    (hY : ∀ pre x W, J pre W → pre.length < L.length → YieldAt F (n - 1) Try.prog l #[.pointer (some ⟨Fb x.1.2, 0, none⟩)] W fun e W' =>
      (e = .returned (.bool true) ∧ J (pre ++ [x]) W' ∧ KeepsWalks W W') ∨ (e = .returned (.bool false) ∧ Jx (pre ++ [x]) W'))
    (W : World) (hJ : AbidesFrom W.heap.size J) (hm : W.cell? ⟨Bm, 0, none⟩ = some (.map (some b))) (hown : Dirm W b nn Fb L) (h0 : J [] W) :
    CallsIn F n Try.prog 62 #[.func (.yield l) #[] #[], .pointer (some ⟨Bm, 0, none⟩)] W fun e W' => (∃ v, e = .returned v) ∧
      ((∃ xs, (xs.map (·.1)).Perm L ∧ J xs W') ∨ (∃ pre, True ∧ Jx pre W')) := by
  have hsz : Maps.size (Dsk.mapD Fb L) = L.length := Dsk.mapD_size Fb L
  refine callsIn_of_wp Try.func62 rfl h8 ?_ hro
  simp only [Try.ntmps62, List.size_toArray, List.length_cons, List.length_nil, Nat.reduceAdd, Nat.reduceSub, Array.replicate_succ, Array.replicate_zero, List.push_toArray, List.append_toArray, List.nil_append, List.cons_append]
  gi_wp2_with (first
    | (gi_at_range; refine wpListIn_range_own _ rfl _ 61 rfl 9 67 dkeyLaw Try.underlying61 _ b nn _ rfl hown ?_; intro w0 hrg0 hg0 hs0)
    | gi_in)
  go_frame
  gi_loopw [4] (fun _ wr => ∃ (left : Lit → Bool) (cnt : Nat) (ps : List {p : Bs × Nat // p ∈ L}), wr.ranges Try.prog 9 fileElem b W.heap.size nn (Dsk.mapD Fb L) left cnt ∧ ps.length + cnt ≤ Maps.size (Dsk.mapD Fb L) ∧ Collected (Dsk.mapD Fb L) left (ps.map (fun q => q.1.1)) ∧ J ps wr)
    (fun _ wr => wr.rangeLeft b W.heap.size)
  case atStart =>
    exact ⟨_, _, [], hrg0, by simp, Collected.start _, hJ [] W w0 none h0 hg0 (fun r e => by cases e)⟩
  case round =>
    obtain ⟨left, cnt, ps, hrg, hcs, hC, hJs⟩ := hrel
    gi_wp2_with (first
      | (gi_at_next; refine wpListIn_next_ranges _ rfl _ rfl 9 dkeyLaw fileElem encStr Value.pointer (fun key kl hk => by obtain ⟨x, hx, _⟩ := Maps.keyOf_str Try.underlying9 hk; exact ⟨x, hx⟩) (fun v y hv => by rcases fileElem_inv hv with ⟨e, _⟩ | ⟨g, e, _⟩ <;> exact ⟨_, e⟩) b W.heap.size nn _ _ _ rfl hrg ?_ ?_)
      | gi_in)
    · intro hc0 hl0
      gi_wp2
      go_end0
      refine ⟨⟨_, rfl⟩, .inl ⟨ps, ?_, hJs⟩⟩
      have hp := hC.perm hown dkeyLaw Try.underlying9 hl0
      rw [keysD] at hp
      exact perm_keys hr (by rw [List.map_map]; exact hp) (fun p hp => by obtain ⟨q, _, e⟩ := List.mem_map.1 hp; rw [← e]; exact q.2)
    · intro x c kl yd yp w2 cnt2 hkey hlk hv hat hrg2 hlt hg2 hs2 hen
      obtain ⟨x', ex, rfl, _⟩ := Maps.keyOf_str Try.underlying9 hkey
      obtain rfl : x = x' := encStr_inj ex
      obtain ⟨i, hi, hc⟩ : ∃ i, Dsk.get L x = some i ∧ c = some ⟨Fb i, 0, none⟩ := by
        have h1 := hat (.lit (.int .i64 (-1)))
        have h2 := hat (.lit (.int .i64 (-2)))
        rw [Dsk.mapD_get] at h1 h2
        cases hg : Dsk.get L x with
        | none =>
          rw [hg] at h1 h2
          dsimp only at h1 h2
          rw [← h1] at h2
          exact absurd h2 (by simp)
        | some i =>
          rw [hg] at h1
          dsimp only at h1
          refine ⟨i, rfl, ?_⟩
          rcases fileElem_inv hv with ⟨e, e2⟩ | ⟨g, e, e2⟩
          · injection e2 with e2 _
            rw [← h1] at e2
            simp at e2
          · injection e2 with e2 _
            rw [← h1] at e2
            simp at e2
            injection e with e
            have e3 : g = Fb i := by omega
            rw [e, e3]
      subst hc
      have hmem := Dsk.get_mem hi
      have hJ2 : J ps w2 := hJ ps wr w2 (some W.heap.size) hJs hg2 (fun r e => by cases e; exact ⟨Nat.le_refl _, hrg.iter_walk⟩)
      obtain ⟨fn, tmps, assign, body, hy, hR⟩ := hY ps ⟨(x, i), hmem⟩ w2 hJ2 (by rw [← hsz]; omega)
      clear hs2
      gi_wp2
      refine hR.mono ?_
      have hC2 : Collected (Dsk.mapD Fb L) (fun z => left z && !z.sameKey (.string x)) ((ps ++ [(⟨(x, i), hmem⟩ : {p : Bs × Nat // p ∈ L})]).map (fun q => q.1.1)) := by simpa using hC.step hlk hat
      rintro e W3 (⟨rfl, hJ3, hk3⟩ | ⟨rfl, hJx3⟩)
      · gi_wp2
        have hrg3 := hrg2.of_walks hk3
        go_roundw
        case rel => exact ⟨_, cnt2, ps ++ [⟨(x, i), hmem⟩], hrg3, by simp; omega, hC2, hJ3⟩
        case measure => rw [hrg3.left_eq, hrg.left_eq]; exact hlt
      · gi_wp2
        refine bodyPost_ret (results_none rfl _ _ _) rfl ?_
        exact ⟨⟨_, rfl⟩, .inr ⟨_, trivial, hJx3⟩⟩
end Go.Proofs.Ythgeppdoonbkpaa
