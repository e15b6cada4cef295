/- Plain law behind DiskPlaces: a file that is written under another name, synced and renamed is there whole, or not at all. No program in sight. No condition. -/
import Derived.Test.YthgeppdoonbkpaaMB
namespace Go.Proofs.Ythgeppdoonbkpaa
namespace Dsk
def nF : Bs := [102]
def nG : Bs := [103]
theorem ltFG : nF < nG := by decide
theorem fg : nF ≠ nG := by decide
theorem mayF : may nF = true := by decide
theorem mayG : may nG = true := by decide
/-- so much of the new file is written; nothing was renamed, and nothing failed -/
structure Work (Old New : Bs) (s : St) (at_ : Nat) : Prop where
  dl : s.dl = [(nF, 0)]
  lm : s.lm = [⟨[], nG, some 1⟩]
  f0 : fil s 0 = ⟨Old, []⟩
  f1 : (fil s 1).now = New.take at_
  len : s.fs.length = 2
  up : s.down = false
  room : s.room = 65536
/-- it failed -/
structure Dead (Old New : Bs) (s : St) (whole : Prop) : Prop where
  down : s.down = true
  lm : s.lm = []
  get : ∃ i b, get s.dl nF = some i ∧ fil s i = ⟨b, []⟩ ∧ (b = Old ∨ b = New ∧ whole)
theorem names_mk {s : St} (hd : s.dl = [(nF, 0)]) (hl : s.lm = [⟨[], nG, some 1⟩]) (k : Nat) : get (names s k) nF = some 0 := by
  unfold names
  rw [hd, hl]
  cases k with
  | zero => rfl
  | succ k => rw [List.take_succ_cons, List.take_nil]; rfl
theorem dn_mk {s : St} (hd : s.dl = [(nF, 0)]) (hl : s.lm = [⟨[], nG, some 1⟩]) : dn s = [(nF, 0), (nG, 1)] := by
  unfold dn
  rw [hd, hl]
  rfl
theorem crash_work {Old New : Bs} {s : St} {a : Nat} (h : Work Old New s a) (cs : List Int) (whole : Prop) : Dead Old New (crash s cs) whole := by
  unfold crash
  rw [if_neg (by rw [h.up]; decide)]
  exact ⟨rfl, rfl, 0, Old, names_mk h.dl h.lm _, crashD_keep _ _ _ h.f0, .inl rfl⟩
theorem names_ren {s : St} (hd : s.dl = [(nF, 0)]) (hl : s.lm = [⟨[], nG, some 1⟩, ⟨nG, nF, none⟩]) (k : Nat) : get (names s k) nF = some 0 ∨ get (names s k) nF = some 1 := by
  unfold names
  rw [hd, hl]
  rcases k with _ | _ | k
  · exact .inl rfl
  · exact .inl rfl
  · rw [List.take_succ_cons, List.take_succ_cons, List.take_nil]
    exact .inr rfl
/-- renamed, not yet synced -/
theorem crash_ren {Old New : Bs} {s : St} (hd : s.dl = [(nF, 0)]) (hl : s.lm = [⟨[], nG, some 1⟩, ⟨nG, nF, none⟩]) (h0 : fil s 0 = ⟨Old, []⟩) (h1 : fil s 1 = ⟨New, []⟩) (hu : s.down = false) (cs : List Int) {whole : Prop} (hw : whole) : Dead Old New (crash s cs) whole := by
  unfold crash
  rw [if_neg (by rw [hu]; decide)]
  rcases names_ren hd hl (choice cs s.lm.length).1 with e | e
  · exact ⟨rfl, rfl, 0, Old, e, crashD_keep _ _ _ h0, .inl rfl⟩
  · exact ⟨rfl, rfl, 1, New, e, crashD_keep _ _ _ h1, .inr ⟨rfl, hw⟩⟩
/-- what 'done' makes of a state: it dies by a failure of that state, or it lives, its arm alone being turned -/
theorem done_or (s : St) : (∃ cs, done s = (crash s cs, 32)) ∨ (∃ a, done s = ({ s with arm := a }, 0)) := by
  unfold done
  cases h : s.arm with
  | none => exact .inr ⟨s.arm, rfl⟩
  | some p =>
    obtain ⟨n, cs⟩ := p
    cases n with
    | zero => exact .inl ⟨cs, rfl⟩
    | succ n => exact .inr ⟨some (n, cs), rfl⟩
/-- the file lasts, and nothing is loose -/
structure Base (Old : Bs) (s : St) : Prop where
  dl : s.dl = [(nF, 0)]
  lm : s.lm = []
  fs : s.fs = [⟨Old, []⟩]
  up : s.down = false
  room : s.room = 65536
theorem ready_one {s : St} (hu : s.down = false) {n : Bs} (hn : may n = true) : ready s [n] = 0 := by
  unfold ready
  rw [if_neg (by rw [hu]; decide), if_pos (by simp [allMay, hn])]
theorem ready_two {s : St} (hu : s.down = false) {n m : Bs} (hn : may n = true) (hm : may m = true) : ready s [n, m] = 0 := by
  unfold ready
  rw [if_neg (by rw [hu]; decide), if_pos (by simp [allMay, hn, hm])]
theorem base_create {Old New : Bs} {s : St} (h : Base Old s) (whole : Prop) : ((create s nG).2 = 0 ∧ Work Old New (create s nG).1 0) ∨ ((create s nG).2 = 32 ∧ Dead Old New (create s nG).1 whole) := by
  have e : create s nG = done { s with fs := [⟨Old, []⟩, ⟨[], []⟩], lm := [⟨[], nG, some 1⟩] } := by
    unfold Dsk.create moved
    have hd : dn s = [(nF, 0)] := by unfold dn; rw [h.lm, h.dl]; rfl
    rw [ready_one h.up mayG, if_neg (by decide), hd, if_neg (by decide), if_neg (by decide), h.fs, h.lm]
    rfl
  have hw : ∀ a, Work Old New { s with fs := [⟨Old, []⟩, ⟨[], []⟩], lm := [⟨[], nG, some 1⟩], arm := a } 0 := fun a => ⟨h.dl, rfl, rfl, rfl, rfl, h.up, h.room⟩
  rw [e]
  rcases done_or { s with fs := [⟨Old, []⟩, ⟨[], []⟩], lm := [⟨[], nG, some 1⟩] } with ⟨cs, k⟩ | ⟨a, k⟩
  · rw [k]; exact .inr ⟨rfl, crash_work (hw s.arm) cs whole⟩
  · rw [k]; exact .inl ⟨rfl, hw a⟩
theorem work_find {Old New : Bs} {s : St} {a : Nat} (h : Work Old New s a) : find s nG = (1, 0) := by
  unfold Dsk.find
  rw [ready_one h.up mayG, if_neg (by decide), dn_mk h.dl h.lm]
  rfl
theorem work_write {Old New : Bs} {s : St} {a n : Nat} (h : Work Old New s a) (ha : a + n ≤ New.length) (hO : Old.length ≤ 4096) (hN : New.length ≤ 4096) (whole : Prop) :
    ((write s nG (a : Int) ((New.drop a).take n)).2 = 0 ∧ Work Old New (write s nG (a : Int) ((New.drop a).take n)).1 (a + n)) ∨ ((write s nG (a : Int) ((New.drop a).take n)).2 = 32 ∧ Dead Old New (write s nG (a : Int) ((New.drop a).take n)).1 whole) := by
  have hl : ((fil s 1).now).length = a := by rw [h.f1, List.length_take]; omega
  have hp : ((New.drop a).take n).length = n := by rw [List.length_take, List.length_drop]; omega
  have hh : held s = Old.length + a := by
    unfold held
    rw [dn_mk h.dl h.lm]
    simp only [List.map_cons, List.map_nil, List.sum_cons, List.sum_nil]
    rw [h.f0, hl, Fi.now_nil]
    omega
  have e : write s nG (a : Int) ((New.drop a).take n) = done { s with fs := s.fs.set 1 ⟨(fil s 1).las, (fil s 1).loo ++ [.wr a ((New.drop a).take n)]⟩ } := by
    unfold Dsk.write changed
    rw [(work_find h)]
    dsimp only
    rw [if_neg (by decide), hl, Int.toNat_natCast, hp, hh, h.room, if_neg (by omega), if_neg (by omega), if_neg (by omega)]
  have hnow : (⟨(fil s 1).las, (fil s 1).loo ++ [.wr a ((New.drop a).take n)]⟩ : Fi).now = New.take (a + n) := by
    rw [Fi.now_snoc, show (⟨(fil s 1).las, (fil s 1).loo⟩ : Fi) = fil s 1 from rfl, h.f1]
    unfold Ch.all Ch.does Ch.len over
    dsimp only
    have h1 : (New.take a).take a = New.take a := by rw [List.take_take, Nat.min_self]
    have h3 : (New.take a).drop (a + ((New.drop a).take n).length) = [] := List.drop_of_length_le (by rw [List.length_take]; omega)
    rw [h1, List.take_length, h3, List.append_nil, ← List.take_add]
  have hw : ∀ x, Work Old New { s with fs := s.fs.set 1 ⟨(fil s 1).las, (fil s 1).loo ++ [.wr a ((New.drop a).take n)]⟩, arm := x } (a + n) := fun x => by
    refine ⟨h.dl, h.lm, ?_, ?_, by dsimp only; rw [List.length_set]; exact h.len, h.up, h.room⟩
    · unfold fil
      rw [getD_set, if_neg (fun h => absurd h.1 (by decide))]
      exact h.f0
    · show ((s.fs.set 1 _).getD 1 default).now = _
      rw [getD_set, if_pos ⟨rfl, by rw [h.len]; decide⟩]
      exact hnow
  rw [e]
  rcases done_or { s with fs := s.fs.set 1 ⟨(fil s 1).las, (fil s 1).loo ++ [.wr a ((New.drop a).take n)]⟩ } with ⟨cs, k⟩ | ⟨x, k⟩
  · rw [k]; exact .inr ⟨rfl, crash_work (hw s.arm) cs whole⟩
  · rw [k]; exact .inl ⟨rfl, hw x⟩
/-- all is written and synced -/
structure Syncd (Old New : Bs) (s : St) : Prop where
  w : Work Old New s New.length
  f1 : fil s 1 = ⟨New, []⟩
theorem dies_done {s : St} (h : dies s = true) : ∃ cs, done s = (crash s cs, 32) := by
  unfold dies at h
  unfold done
  split at h
  · rename_i cs e
    rw [e]
    exact ⟨cs, rfl⟩
  · cases h
theorem live_done {s : St} (h : dies s = false) : ∃ a, ∀ t : St, t.arm = s.arm → done t = ({ t with arm := a }, 0) := by
  unfold dies at h
  split at h
  · cases h
  · rename_i hn
    cases e : s.arm with
    | none => exact ⟨none, fun t ht => by unfold done; rw [ht]; dsimp only; rw [← ht]⟩
    | some p =>
      obtain ⟨n, cs⟩ := p
      cases n with
      | zero => exact absurd e (hn cs)
      | succ n => exact ⟨some (n, cs), fun t ht => by unfold done; rw [ht]⟩
theorem work_sync {Old New : Bs} {s : St} (h : Work Old New s New.length) (whole : Prop) : ((sync s nG).2 = 0 ∧ Syncd Old New (sync s nG).1) ∨ ((sync s nG).2 = 32 ∧ Dead Old New (sync s nG).1 whole) := by
  unfold Dsk.sync
  rw [(work_find h), if_neg (show ¬ ((1, 0) : Nat × Nat).2 ≠ 0 by decide)]
  cases hd : dies s with
  | true =>
    rw [if_pos rfl]
    obtain ⟨cs, k⟩ := dies_done hd
    rw [k]
    exact .inr ⟨rfl, crash_work h cs whole⟩
  | false =>
    rw [if_neg (by decide)]
    obtain ⟨a, k⟩ := live_done hd
    dsimp only
    rw [k { s with fs := s.fs.set 1 ⟨(fil s 1).now, []⟩ } rfl]
    have hn : (fil s 1).now = New := by rw [h.f1, List.take_length]
    have h1 : ∀ x, fil { s with fs := s.fs.set 1 ⟨(fil s 1).now, []⟩, arm := x } 1 = ⟨New, []⟩ := fun x => by
      show (s.fs.set 1 _).getD 1 default = _
      rw [getD_set, if_pos ⟨rfl, by rw [h.len]; decide⟩, hn]
    refine .inl ⟨rfl, ⟨h.dl, h.lm, ?_, ?_, by dsimp only; rw [List.length_set]; exact h.len, h.up, h.room⟩, h1 a⟩
    · show (s.fs.set 1 _).getD 0 default = _
      rw [getD_set, if_neg (fun h => absurd h.1 (by decide))]
      exact h.f0
    · rw [h1 a, List.take_length]; rfl
/-- renamed -/
structure Ren (Old New : Bs) (s : St) : Prop where
  dl : s.dl = [(nF, 0)]
  lm : s.lm = [⟨[], nG, some 1⟩, ⟨nG, nF, none⟩]
  f0 : fil s 0 = ⟨Old, []⟩
  f1 : fil s 1 = ⟨New, []⟩
  up : s.down = false
theorem syncd_rename {Old New : Bs} {s : St} (h : Syncd Old New s) {whole : Prop} (hw : whole) : ((rename s nG nF).2 = 0 ∧ Ren Old New (rename s nG nF).1) ∨ ((rename s nG nF).2 = 32 ∧ Dead Old New (rename s nG nF).1 whole) := by
  have e : rename s nG nF = done { s with lm := [⟨[], nG, some 1⟩, ⟨nG, nF, none⟩] } := by
    unfold Dsk.rename moved
    rw [ready_two h.w.up mayF mayG, if_neg (by decide), dn_mk h.w.dl h.w.lm, if_neg (by decide), h.w.lm]
    rfl
  rw [e]
  rcases done_or { s with lm := [⟨[], nG, some 1⟩, ⟨nG, nF, none⟩] } with ⟨cs, k⟩ | ⟨a, k⟩
  · rw [k]
    exact .inr ⟨rfl, crash_ren (s := { s with lm := [⟨[], nG, some 1⟩, ⟨nG, nF, none⟩] }) h.w.dl rfl h.w.f0 h.f1 h.w.up cs hw⟩
  · rw [k]
    exact .inl ⟨rfl, h.w.dl, rfl, h.w.f0, h.f1, h.w.up⟩
/-- all lasts -/
structure Placed (New : Bs) (s : St) : Prop where
  dl : get s.dl nF = some 1
  lm : s.lm = []
  f1 : fil s 1 = ⟨New, []⟩
  up : s.down = false
theorem ren_syncDir {Old New : Bs} {s : St} (h : Ren Old New s) {whole : Prop} (hw : whole) : ((syncDir s).2 = 0 ∧ Placed New (syncDir s).1) ∨ ((syncDir s).2 = 32 ∧ Dead Old New (syncDir s).1 whole) := by
  unfold Dsk.syncDir
  rw [if_neg (show ¬ s.down = true by rw [h.up]; decide)]
  cases hd : dies s with
  | true =>
    rw [if_pos (show true = true from rfl)]
    obtain ⟨cs, k⟩ := dies_done hd
    rw [k]
    exact .inr ⟨rfl, crash_ren h.dl h.lm h.f0 h.f1 h.up cs hw⟩
  | false =>
    rw [if_neg (by decide)]
    obtain ⟨a, k⟩ := live_done hd
    rw [k { s with dl := dn s, lm := [] } rfl]
    have e : dn s = [(nF, 1)] := by unfold dn; rw [h.dl, h.lm]; rfl
    exact .inl ⟨rfl, by dsimp only; rw [e]; rfl, rfl, h.f1, h.up⟩
theorem placed_crash {New : Bs} {s : St} (h : Placed New s) (cs : List Int) : Dead New New (crash s cs) True := by
  obtain ⟨k1, k2, k3⟩ := crash_lasts h.lm h.dl h.f1 cs
  refine ⟨?_, k1, 1, New, k2, k3, .inl rfl⟩
  unfold Dsk.crash
  rw [if_neg (by rw [h.up]; decide)]
/-- what is read behind it -/
theorem dead_read {Old New : Bs} {s : St} {whole : Prop} (h : Dead Old New s whole) : (read (up s) nF).2 = 0 ∧ ((read (up s) nF).1 = Old ∨ (read (up s) nF).1 = New ∧ whole) := by
  obtain ⟨i, b, h1, h2, h3⟩ := h.get
  have hd : dn (up s) = s.dl := by
    unfold dn up
    dsimp only
    rw [h.lm]
    rfl
  have hf : find (up s) nF = (i, 0) := by
    unfold find
    rw [ready_one rfl mayF, if_neg (by decide), hd, h1]
  have hb : fil (up s) i = ⟨b, []⟩ := h2
  unfold Dsk.read
  rw [hf, if_neg (fun h => h rfl)]
  dsimp only
  rw [hb, Fi.now_nil]
  exact ⟨rfl, h3⟩
end Dsk
end Go.Proofs.Ythgeppdoonbkpaa
