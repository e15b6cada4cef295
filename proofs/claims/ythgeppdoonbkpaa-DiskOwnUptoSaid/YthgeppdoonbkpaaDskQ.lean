/- a change of a file is done, and is loose. Conditions: sizes. -/
import Derived.Test.YthgeppdoonbkpaaDskP
namespace Go.Proofs.Ythgeppdoonbkpaa
open Go.RowKit Go.Maps Go.WideMaps
section
variable {w : World} {db : Nat} {F : Nat → Nat} {ρ : Roles} {s : Dsk.St} {T : Nat}
theorem Byt.own {w : World} {ρ : Roles} {v : Value} {l : Bs} {base : Nat} (h : RowB w base v l) (hr : ∀ b, v.ownBlock = some b → ρ b = some .data) : Byt w ρ v l := by
  obtain ⟨A, c, e, h1, h2, h3, h4⟩ := RowB.form h
  exact ⟨A, c, e, h1, h3, h4, fun hn g o p ea => hr g (by rw [e, ea]; rfl)⟩
theorem changed_mem {W : World} (hm : Mem w db F ρ s T) {i : Nat} (hd : s.down = false) (hi : Dsk.Reach s i) {c : Dsk.Ch} (hfit : c.fits (Dsk.fil s i).now) {sz fv : Value} (hcv : ChV w ρ c sz fv) {v0 v2 v1' v3 : Value} {zs : List (Value × Value)}
    (hrole : ρ (F i) = some (.file i)) (h0 : Byt w ρ v0 (Dsk.fil s i).las) (hzs : zs.length = (Dsk.fil s i).loo.length) (hz : ∀ (k : Nat) (c : Dsk.Ch) (p : Value × Value), (Dsk.fil s i).loo[k]? = some c → zs[k]? = some p → ChV w ρ c p.1 p.2) (ho : ∀ b, v2.ownBlock = some b → ρ b = some (.chg i))
    (hv : Var W (F i) 71 [v0, v1', v3]) (hb : RowB W w.heap.size v1' (c.all (Dsk.fil s i).now)) (hrow : Row W 0 2 v3 ((Dsk.fil s i).loo ++ [c]).length (zsV (zs ++ [(sz, fv)]))) (hown : ∀ b, v3.ownBlock = some b → v2.ownBlock = some b ∨ (w.heap.size ≤ b ∧ v1'.ownBlock ≠ some b)) (hc : Chg (fun b => b = F i ∨ v2.ownBlock = some b) w W) :
    ∃ ρ', Mem W db F ρ' { s with fs := s.fs.set i ⟨(Dsk.fil s i).las, (Dsk.fil s i).loo ++ [c]⟩ } (T + 1) ∧ Step ρ ρ' Mut w W := by
  obtain ⟨ρ', hρ⟩ : ∃ ρ' : Roles, ρ' = fun b => if b < w.heap.size then ρ b else if b < W.heap.size then some (if v3.ownBlock = some b then .chg i else .data) else none := ⟨_, rfl⟩
  have hold : ∀ b, b < w.heap.size → ρ' b = ρ b := fun b hb => by rw [hρ]; exact if_pos hb
  have hc2 : Chg (On ρ (fun r => r = .file i ∨ r = .chg i)) w W := hc.more (fun b _ h => by
    rcases h with h | h
    · subst h; exact ⟨_, hrole, .inl rfl⟩
    · exact ⟨_, ho b h, .inr rfl⟩)
  have hls : Lies ρ ρ' (fun r => r = .file i ∨ r = .chg i) w W := (show Step ρ ρ' _ w W from ⟨hc2, hold⟩).lies
  have hFi : F i < w.heap.size := hm.lt _ _ hrole
  have nd : ¬ ((Role.data = .file i) ∨ (Role.data = .chg i)) := by rintro (e | e) <;> cases e
  refine ⟨ρ', file_mem hm hi (Dsk.fit_changed hm.fit hd hi hfit) (Nat.le_succ _) hold (fun b r e => ?_) ?_ hc2⟩
  · rw [hρ] at e
    dsimp only at e
    by_cases h1 : b < w.heap.size
    · exact Nat.lt_of_lt_of_le h1 hc.size
    · rw [if_neg h1] at e
      by_cases h2 : b < W.heap.size
      · exact h2
      · rw [if_neg h2] at e; cases e
  · refine ⟨(hold _ hFi).trans hrole, v0, v1', v3, hv, h0.keep hls nd, ?_, zs ++ [(sz, fv)], by rw [List.length_append, List.length_append, hzs]; rfl, hrow, fun b hb' => ?_, fun k x p hk hp => ?_⟩
    · rw [Dsk.Fi.now_snoc]
      refine Byt.own hb (fun b hb' => ?_)
      have hl := Row.lt hb b hb'
      rw [hρ]
      dsimp only
      rw [if_neg (by omega), if_pos hl.2, if_neg (fun h3 => ?_)]
      rcases hown b h3 with h4 | h4
      · have := hm.lt _ _ (ho b h4); omega
      · exact h4.2 hb'
    · rcases hown b hb' with h4 | h4
      · rw [hold b (hm.lt _ _ (ho b h4))]; exact ho b h4
      · rw [hρ]
        dsimp only
        rw [if_neg (by omega), if_pos (hrow.lt b hb').2, if_pos hb']
    · have hkl := (List.getElem?_eq_some_iff.1 hk).1
      rw [List.length_append, List.length_singleton] at hkl
      by_cases hlt : k < (Dsk.fil s i).loo.length
      · rw [List.getElem?_append_left hlt] at hk
        rw [List.getElem?_append_left (by omega)] at hp
        exact (hz k x p hk hp).keep hls nd
      · obtain rfl : k = (Dsk.fil s i).loo.length := by omega
        rw [List.getElem?_append_right (Nat.le_refl _), Nat.sub_self] at hk
        rw [List.getElem?_append_right (by omega), hzs, Nat.sub_self] at hp
        injection hk with hk
        injection hp with hp
        subst hk hp
        exact hcv.keep hls nd
end
end Go.Proofs.Ythgeppdoonbkpaa
