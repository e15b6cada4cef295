/- Plain law behind DiskLasts. No program in sight. No condition. -/
import Derived.Test.YthgeppdoonbkpaaDskBg
namespace Go.Proofs.Ythgeppdoonbkpaa
namespace Dsk
/-- a file that lasts, name and bytes -/
structure Last (s : St) (n b : Bs) : Prop where
  may : may n = true
  get : ∃ i, get s.dl n = some i ∧ fil s i = ⟨b, []⟩
theorem loose_lm {s : St} (hc : Calm s) (h : looseOf s [] = 0) : s.lm = [] := by
  unfold looseOf at h
  split at h
  · exact hc (by assumption)
  · rw [if_pos rfl] at h
    exact List.eq_nil_of_length_eq_zero h
theorem loose_zero {s : St} (h : s.lm = []) : looseOf s [] = 0 := by
  unfold looseOf
  split
  · rfl
  · rw [if_pos rfl, h]; rfl
theorem syncDir_lm {s : St} (hc : Calm s) : (syncDir s).1.lm = [] := by
  unfold syncDir
  split
  · exact hc (by assumption)
  · cases hd : dies s with
    | true =>
      rw [if_pos rfl]
      unfold dies at hd
      unfold done
      split
      · rename_i e; rw [e] at hd; cases hd
      · exact crash_lm hc _
      · rename_i e; rw [e] at hd; cases hd
    | false =>
      rw [if_neg (by decide)]
      unfold dies at hd
      unfold done
      dsimp only
      split
      · rfl
      · rename_i e; rw [e] at hd; cases hd
      · rfl
theorem find_up {s : St} {n : Bs} (h : (find s n).2 = 0) : s.down = false ∧ may n = true ∧ ∃ i, get (dn s) n = some i ∧ find s n = (i, 0) := by
  unfold find at h ⊢
  by_cases hr : ready s [n] ≠ 0
  · rw [if_pos hr] at h; exact absurd h hr
  · rw [if_neg hr] at h ⊢
    have hr2 : ready s [n] = 0 := by omega
    unfold ready at hr2
    split at hr2
    · omega
    · rename_i hd
      split at hr2
      · rename_i hm
        refine ⟨by cases hx : s.down <;> simp_all, by simpa [allMay] using hm, ?_⟩
        split at h
        · omega
        · rename_i i hi
          exact ⟨i, hi, rfl⟩
      · omega
theorem last_of_read {s : St} (hl : s.lm = []) {n : Bs} (hr : (read s n).2 = 0) (h0 : looseOf s n = 0) : Last s n (read s n).1 := by
  have hf : (find s n).2 = 0 := by
    unfold read at hr
    split at hr
    · rename_i h; exact absurd hr h
    · rename_i h; omega
  obtain ⟨hu, hm, i, hg, hfi⟩ := find_up hf
  have hdn : dn s = s.dl := by unfold dn; rw [hl]; rfl
  have hne : n ≠ [] := by
    intro e
    rw [e] at hm
    simp [Dsk.may] at hm
  unfold looseOf at h0
  rw [if_neg (by rw [hu]; decide), if_neg hne, hg] at h0
  have hloo := List.eq_nil_of_length_eq_zero h0
  refine ⟨hm, i, by rw [← hdn]; exact hg, ?_⟩
  unfold read
  rw [if_neg (by omega), hfi]
  dsimp only
  cases hx : fil s i with
  | mk las loo =>
    rw [hx] at hloo
    dsimp only at hloo
    subst hloo
    rfl
theorem last_crash {s : St} (hl : s.lm = []) {n b : Bs} (h : Last s n b) (cs : List Int) : Last (up (crash s cs)) n b := by
  obtain ⟨i, hg, hf⟩ := h.get
  obtain ⟨_, h2, h3⟩ := crash_lasts hl hg hf cs
  exact ⟨h.may, i, h2, h3⟩
theorem last_read {s : St} (hl : s.lm = []) (hu : s.down = false) {n b : Bs} (h : Last s n b) : read s n = (b, 0) ∧ looseOf s n = 0 := by
  obtain ⟨i, hg, hf⟩ := h.get
  have hdn : dn s = s.dl := by unfold dn; rw [hl]; rfl
  have hne : n ≠ [] := by
    intro e
    have hm := h.may
    rw [e] at hm
    simp [Dsk.may] at hm
  have hfi : find s n = (i, 0) := by
    unfold find
    rw [ready_one hu h.may, hdn, hg]
    rfl
  constructor
  · unfold read
    rw [hfi]
    dsimp only
    rw [if_neg (by decide), hf]
    rfl
  · unfold looseOf
    rw [if_neg (by rw [hu]; decide), if_neg hne, hdn, hg]
    show (fil s i).loo.length = 0
    rw [hf]
    rfl
theorem told_len {s : St} (hl : s.lm = []) (hd : ∀ p ∈ s.dl, p.1.length ≤ 64) {n : Bs} (h : n ∈ told s) : n.length ≤ 64 := by
  unfold told at h
  split at h
  · cases h
  · obtain ⟨p, hp, rfl⟩ := List.mem_map.1 h
    have hdn : dn s = s.dl := by unfold dn; rw [hl]; rfl
    rw [hdn] at hp
    exact hd p hp
end Dsk
end Go.Proofs.Ythgeppdoonbkpaa
