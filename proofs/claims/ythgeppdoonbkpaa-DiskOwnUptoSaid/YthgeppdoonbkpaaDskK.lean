/- The names of a directory, sorted; a directory cloned. Conditions: sizes. -/
import Derived.Test.YthgeppdoonbkpaaDskM
import Derived.Test.YthgeppdoonbkpaaIter
import Derived.Shelf.SlMaps.Clone
namespace Go.Proofs.Ythgeppdoonbkpaa
open Go.RowKit Go.Maps Go.WideMaps Go.Sort Go.Shelf
theorem dkeys_any (mb : Option Nat) (W : World) : Calls Try.prog 45 #[.map mb] W fun e w' => e = .returned (.func (.func 60) #[] #[.pointer (some ⟨W.heap.size, 0, none⟩)]) ∧ w' = W.alloc (.cells #[.map mb] 61) :=
  callsIn_wide.1 (AnyZ.keys_in Try.keys45 Fence.wide 5 trivial rfl mb W)
theorem dsorts (m : Nat) : AnyZ.SortsIn Try.prog Try.rensorted44 Fence.wide m :=
  ⟨fun blk off cap ss W hH hblk hsz => callsIn_wide.2 (AnyM.slices_Sort_string Try.sort59 blk off cap ss W hH hblk hsz),
   fun p cap W => callsIn_wide.2 (AnyM.slices_Sort_string_none Try.sort59 p cap W)⟩
theorem keysD (F : Nat → Nat) (l : Dsk.Dir) : strKeys (Dsk.mapD F l) = l.map (·.1) := by
  unfold Dsk.mapD strKeys
  dsimp only
  rw [List.map_map]
  rfl
theorem sort_rise {l : Dsk.Dir} (h : Dsk.Rise l) : (l.map (·.1)).mergeSort (fun x y => decide (x ≤ y)) = l.map (·.1) := by
  apply List.mergeSort_of_pairwise
  unfold Dsk.Rise at h
  rw [List.pairwise_map]
  exact h.imp (fun hlt => decide_eq_true (List.le_of_lt hlt))
set_option maxHeartbeats 1000000 in
theorem dsorted_any {b nn : Nat} {F : Nat → Nat} {l : Dsk.Dir} {w : World} (hown : Dirm w b nn F l) (hr : Dsk.Rise l) (hl : l.length ≤ 1000000) :
    Calls Try.prog 44 #[.func (.func 60) #[] #[.pointer (some ⟨w.heap.size, 0, none⟩)]] (w.alloc (.cells #[.map (some b)] 61)) fun e w' => ∃ v : Value, e = .returned v ∧
      Row w' w.heap.size 1 v l.length (namesV (l.map (·.1))) ∧ (l = [] → v = .slice none 0 0) ∧ Below (w.alloc (.cells #[.map (some b)] 61)).heap.size (w.alloc (.cells #[.map (some b)] 61)) w' := by
  have hbl := hown.lt
  have hsz : Maps.size (Dsk.mapD F l) = l.length := Dsk.mapD_size F l
  have hseq : SeqGives Fence.wide 2 Try.prog 60 #[.pointer (some ⟨w.heap.size, 0, none⟩)] encStr (fun ss => ss.Perm (strKeys (Dsk.mapD F l))) (Maps.size (Dsk.mapD F l)) (w.alloc (.cells #[.map (some b)] 61)) :=
    AnyZ.keys_gives (ρ := Try.renkeys45) { Try.keys45 with } Fence.wide _ trivial rfl (by omega) w.heap.size b nn (Dsk.mapD F l) _ (by simp) (by simp) (by
      obtain ⟨es, clock, hb, Ft, hs, hD⟩ := hown
      exact ⟨es, clock, (Below.heap_alloc _ _ b hbl).trans hb, Ft, hs, hD⟩)
  have h := AnyZ.sorted_in Try.sorted44 Fence.wide 5 trivial trivial trivial trivial rfl (by omega) (dsorts _) (enters_of Try.func59 (by kernel_rfl) rfl) 60 #[.pointer (some ⟨w.heap.size, 0, none⟩)] trivial (enters_of Try.func60 (by kernel_rfl) rfl) _ _ (by rw [hsz]; unfold maxLen; omega) (by rw [hsz]; omega) _ hseq
  change CallsIn _ _ Try.prog 44 _ _ _ at h
  refine (callsIn_wide.1 h).mono ?_
  rintro e w' ⟨v, ss, rfl, hp, hrow, hnil, hb⟩
  rw [keysD] at hp
  have hlen : ss.length = l.length := by rw [hp.length_eq, List.length_map]
  have hms : ss.mergeSort (fun x y => decide (x ≤ y)) = l.map (·.1) := (mergeSort_of_perm hp).trans (sort_rise hr)
  rw [hms, hlen] at hrow
  refine ⟨v, rfl, (Row.of_own hrow).mono (by simp), fun e => hnil.2 ?_, hb⟩
  rw [e] at hp
  exact hp.eq_nil
set_option maxHeartbeats 1000000 in
set_option maxRecDepth 100000 in
theorem dmclone_any {b n : Nat} {F : Nat → Nat} {l : Dsk.Dir} {w : World} (hown : Dirm w b n F l) :
    Calls Try.prog 40 #[.map (some b)] w fun e w' => e = .returned (.map (some w.heap.size)) ∧ Dirm w' w.heap.size n F l ∧ w.heap.size < w'.heap.size ∧ Below w.heap.size w w' := by
  have hlt := hown.lt
  have hq := fun w => run_eql_map_nil_sl (P := Try.prog) w 61 _ _ (some b) Try.underlying61
  obtain ⟨es, clock, hb, Ft, hs, hD⟩ := hown
  have HD : Hid (Dirm (w.alloc (.map es clock)) w.heap.size n F l) := Lib.hid ⟨es, clock, (MapKept.heap_alloc w _).1, Ft, hs, hD⟩
  have HB := Lib.hid hb
  clear hb hs hD
  go_enter Try.func40, Try.ntmps40
  go_wp2
  rw [run_callFunc_extern Try.func57 (by kernel_rfl) (by kernel_rfl) (by kernel_rfl) (e := Extern.MapsClone.clone) (by kernel_rfl), run_maps_clone_sl w 61 HB.out]
  simp only [Result.andThen]
  rw [Oper.upon_value]
  go_wp2
  rw [run_typeAssert_map_sl _ 61 20 _ _ _ Try.underlying61]
  simp only [Result.andThen]
  rw [Oper.upon_value]
  go_wp2
  go_ret
  exact ⟨rfl, HD.out, by simp, (Below.refl _ w).alloc (Nat.le_refl _) _⟩
end Go.Proofs.Ythgeppdoonbkpaa
