/- a move of the directory, applied to a directory in memory. Conditions: sizes. -/
import Derived.Test.YthgeppdoonbkpaaDskDir
namespace Go.Proofs.Ythgeppdoonbkpaa
open Go.RowKit Go.Maps Go.WideMaps
theorem nonempty_list {s : ByteArray} (h : s.size ≠ 0) : s.toList.isEmpty = false := by
  rw [List.isEmpty_eq_false_iff]
  intro e
  apply h
  rw [← size_data, ← ByteArray.toList_eq, e]
  rfl
set_option maxRecDepth 100000 in
/-- what is made stands in the directory -/
theorem dapply_made {w : World} {b n : Nat} {F : Nat → Nat} {l : Dsk.Dir} (hd : Dirm w b n F l) (hn : n < maxLen) (fr tt : ByteArray) (i : Nat) (hto : tt.size ≤ maxLen) (hne : tt.size ≠ 0) :
    Calls Try.prog 43 #[.agg #[.string fr, .string tt, .pointer (some ⟨F i, 0, none⟩)], .map (some b)] w fun e w' => e = .returned (.tuple #[]) ∧ Dirm w' b (n + 1) F (Dsk.put l tt.data.toList i) ∧ Chg (fun k => k = b) w w' := by
  have hlt := hd.lt
  have HD := Lib.hid (fun o => hd.kept (World.grownBy_alloc w o none) (by simp))
  have hem : tt.toList.isEmpty = false := nonempty_list hne
  have HC := Lib.hid (fun o => (Chg.refl (fun k => k = b) w).then_below ((Below.refl w.heap.size w).alloc (Nat.le_refl _) o))
  clear hd hne
  go_enter Try.func43, Try.ntmps43
  go_wp2_with (first
    | (at_mapUpdate; (refine wpList_dir_put _ rfl _ _ _ rfl b n F l rfl (HD.out _) hn tt i hto rfl rfl ?_); intro w1 hd1 hg1)
    | fail)
  go_end0
  exact ⟨rfl, hd1, (HC.out _).grown hg1 (fun k _ e => by injection e with e; exact e.symm)⟩
theorem dir_get_alloc {w : World} {b n : Nat} {F : Nat → Nat} {l : Dsk.Dir} (hd : Dirm w b n F l) (o : Obj) (s : ByteArray) (hs : s.size ≤ maxLen) {i : Nat} (hg : Dsk.get l s.data.toList = some i) :
    (Instr.lookup 61 (.map (some b)) (.string s) false).run Try.prog (w.alloc o) = .ok (.pointer (some ⟨F i, 0, none⟩)) (w.alloc o) := by
  rw [dir_get (Dirm.kept hd (World.grownBy_alloc w o none) (by simp)) s hs, hg]
set_option maxRecDepth 100000 in
/-- a file is renamed -/
theorem dapply_ren {w : World} {b n : Nat} {F : Nat → Nat} {l : Dsk.Dir} (hd : Dirm w b n F l) (hn : n < maxLen) (fr tt : ByteArray) (i : Nat) (hfr : fr.size ≤ maxLen) (hto : tt.size ≤ maxLen) (hne : tt.size ≠ 0) (hg : Dsk.get l fr.data.toList = some i) :
    Calls Try.prog 43 #[.agg #[.string fr, .string tt, .pointer none], .map (some b)] w fun e w' => e = .returned (.tuple #[]) ∧ Dirm w' b (n + 1) F (Dsk.put (Dsk.del l fr.data.toList) tt.data.toList i) ∧ Chg (fun k => k = b) w w' := by
  have hlt := hd.lt
  have HD := Lib.hid (fun o => hd.kept (World.grownBy_alloc w o none) (by simp))
  have hem : tt.toList.isEmpty = false := nonempty_list hne
  have HC := Lib.hid (fun o => (Chg.refl (fun k => k = b) w).then_below ((Below.refl w.heap.size w).alloc (Nat.le_refl _) o))
  have hlk := fun o => dir_get_alloc hd o fr hfr hg
  clear hd hne hg
  go_enter Try.func43, Try.ntmps43
  go_wp2_with (first
    | (at_delete; (refine wpList_dir_del _ rfl _ _ rfl b n F l rfl (HD.out _) fr hfr rfl ?_); intro w1 hd1 hg1; have k1 : w1.cell? ⟨w.heap.size, 1, none⟩ = some (.string tt) := (World.cell?_of_block (a := ⟨w.heap.size, 1, none⟩) (hg1.block _ (by simp) (by simp; omega))).trans (by simp); have HC1 := Lib.hid ((HC.out _).grown hg1 (fun k _ e => by injection e with e; exact e.symm)); clear hg1)
    | (at_mapUpdate; (refine wpList_dir_put _ rfl _ _ _ rfl b n F _ rfl hd1 hn tt i hto rfl rfl ?_); intro w2 hd2 hg2)
    | fail)
  go_end0
  exact ⟨rfl, hd2, HC1.out.grown hg2 (fun k _ e => by injection e with e; exact e.symm)⟩
set_option maxRecDepth 100000 in
/-- a file is removed -/
theorem dapply_rem {w : World} {b n : Nat} {F : Nat → Nat} {l : Dsk.Dir} (hd : Dirm w b n F l) (fr : ByteArray) (i : Nat) (hfr : fr.size ≤ maxLen) (hg : Dsk.get l fr.data.toList = some i) :
    Calls Try.prog 43 #[.agg #[.string fr, .string ⟨#[]⟩, .pointer none], .map (some b)] w fun e w' => e = .returned (.tuple #[]) ∧ Dirm w' b n F (Dsk.del l fr.data.toList) ∧ Chg (fun k => k = b) w w' := by
  have hlt := hd.lt
  have HD := Lib.hid (fun o => hd.kept (World.grownBy_alloc w o none) (by simp))
  have HC := Lib.hid (fun o => (Chg.refl (fun k => k = b) w).then_below ((Below.refl w.heap.size w).alloc (Nat.le_refl _) o))
  have hlk := fun o => dir_get_alloc hd o fr hfr hg
  clear hd hg
  go_enter Try.func43, Try.ntmps43
  go_wp2_with (first
    | (at_delete; (refine wpList_dir_del _ rfl _ _ rfl b n F l rfl (HD.out _) fr hfr rfl ?_); intro w1 hd1 hg1; have k1 : w1.cell? ⟨w.heap.size, 1, none⟩ = some (.string ⟨#[]⟩) := (World.cell?_of_block (a := ⟨w.heap.size, 1, none⟩) (hg1.block _ (by simp) (by simp; omega))).trans (by simp); have HC1 := Lib.hid ((HC.out _).grown hg1 (fun k _ e => by injection e with e; exact e.symm)); clear hg1)
    | fail)
  go_end0
  exact ⟨rfl, hd1, HC1.out⟩
end Go.Proofs.Ythgeppdoonbkpaa
