/- Fields that came in: how great they are together; the library's table, where the row lists it. No condition. -/
import Derived.Test.YtabecgdaiakgiaaDoorMA
import Derived.Test.YtabecgdaiakgiaaDoorCLast
import Derived.LaidSub
import Derived.Lib.LaidTab
namespace Go.Proofs.YtabecgdaiakgiaaDoor
open Go.ChangeShapes Go.WideShapes Go.ChangeAt Go.RowKit

section
variable {H : Type} {enc : TypeId × Value → H}

theorem open_fieldsS {W : World} {fuel : Nat} {v : Value} {x : DataW H × List MemPlace} (h : DataW.trod enc Tryd.prog W 0 (fun _ => true) true fuel 22 [v] = some x) :
    ∃ (A : Option Addr) (n c : Nat) (fs : List Fl), v = .slice A n c ∧ n ≤ c ∧ (A = none → n = 0) ∧ Rd W W.heap.size 2 A n (fieldsV fs) ∧ n ≤ Rows.uptoBulk x.1 ∧ fSize fs ≤ 2 * Rows.uptoBulk x.1 ∧ (∀ f ∈ fs, f.1.size + f.2.size ≤ Rows.uptoBulk x.1) := by
  rcases Go.Deep.open_slice_pairs Tryd.underlying22 Tryd.underlying48 cellsField rfl rfl cellsStr cellsStr h with ⟨hcs, rfl⟩ | ⟨a, len, cap, m, k, V0, V1, D0, D1, P0, P1, hcs, hb, hl, hm, hmm, rfl, hx⟩
  · injection hcs with e _
    exact ⟨none, 0, 0, [], e, Nat.le_refl _, fun _ => rfl, Rd.nil _ _ _ _, Nat.zero_le _, Nat.zero_le _, fun f hf => by cases hf⟩
  · injection hcs with e _
    have hlm : len ≤ m := by rw [hmm]; split <;> omega
    have each : ∀ i, i < len → W.cell? (a.add (i * 2)) = some (.string (strIn (V0 i))) ∧ W.cell? (a.add (i * 2 + 1)) = some (.string (strIn (V1 i))) ∧ D0 i = .lit (.string (strIn (V0 i)).data.toList) ∧ D1 i = .lit (.string (strIn (V1 i)).data.toList) := by
      intro i hi
      obtain ⟨h1, h2, h3, h4⟩ := hx i (by omega)
      obtain ⟨s, hs, e3, _⟩ := DataW.trod_string Tryd.underlying9 h3
      obtain ⟨s', hs', e4, _⟩ := DataW.trod_string Tryd.underlying9 h4
      injection hs with hs _
      injection hs' with hs' _
      rw [hs] at h1
      rw [hs'] at h2
      simp only [Prod.mk.injEq] at e3 e4
      rw [hs, hs']
      exact ⟨h1, h2, e3.1, e4.1⟩
    have hfl : ((List.range len).map fun i => (strIn (V0 i), strIn (V1 i))).length = len := by simp
    refine ⟨some a, len, cap, (List.range len).map fun i => (strIn (V0 i), strIn (V1 i)), e, hl, (fun e => by cases e), ⟨by rw [fieldsV_len, hfl], fun hn => ?_⟩, ?_, ?_, ?_⟩
    · obtain ⟨g, o, sp⟩ := a
      obtain rfl : sp = none := by simpa [Addr.add] using World.cell?_spot (each 0 hn).1
      refine ⟨g, o, rfl, cell_lt (by have := (each 0 hn).1; rw [Addr.add_lit] at this; exact this), fun j u hu => ?_⟩
      have hj : j < len * 2 := by
        have := (List.getElem?_eq_some_iff.1 hu).1
        rw [fieldsV_len, hfl] at this
        exact this
      obtain ⟨G1, G2⟩ := fieldsV_get ((List.range len).map fun i => (strIn (V0 i), strIn (V1 i))) (j / 2) (by rw [hfl]; omega)
      obtain ⟨c1, c2, _, _⟩ := each (j / 2) (by omega)
      rw [Addr.add_lit] at c1 c2
      simp only [List.getElem_map, List.getElem_range] at G1 G2
      rcases (show j = j / 2 * 2 ∨ j = j / 2 * 2 + 1 by omega) with hj2 | hj2
      · rw [hj2] at hu ⊢
        rw [← hj2] at hu
        rw [hj2, G1] at hu
        rw [← hu]
        exact c1
      · have e2 : (fieldsV ((List.range len).map fun i => (strIn (V0 i), strIn (V1 i))))[j]? = some (.string (strIn (V1 (j / 2)))) := by
          rw [← G2]; congr 1
        rw [e2] at hu
        rw [← hu, show o + j = o + (j / 2 * 2 + 1) by omega]
        exact c2
    · simp only [Rows.uptoBulk]
      have := bulk_len ((List.range len).map fun i => DataW.agg [D0 i, D1 i])
      simp at this
      omega
    · simp only [Rows.uptoBulk]
      have key : ∀ l : List Nat, (∀ i ∈ l, i < len) → fSize (l.map fun i => (strIn (V0 i), strIn (V1 i))) ≤ 2 * Rows.uptoBulkAll (l.map fun i => DataW.agg [D0 i, D1 i]) := by
        intro l
        induction l with
        | nil => intro _; exact Nat.zero_le _
        | cons i l ih =>
          intro hl
          have ih' := ih fun j hj => hl j (by simp [hj])
          obtain ⟨_, _, d0, d1⟩ := each i (hl i (by simp))
          have q0 : (strIn (V0 i)).data.toList.length = (strIn (V0 i)).size := by rw [Array.length_toList]; rfl
          have q1 : (strIn (V1 i)).data.toList.length = (strIn (V1 i)).size := by rw [Array.length_toList]; rfl
          simp only [fSize, List.map_cons, List.sum_cons, Rows.uptoBulkAll, Rows.uptoBulk, d0, d1] at ih' ⊢
          omega
      have h := key (List.range len) fun i hi => List.mem_range.1 hi
      omega
    · intro f hf
      obtain ⟨i, hi, rfl⟩ := List.mem_map.1 hf
      have hi' := List.mem_range.1 hi
      obtain ⟨_, _, d0, d1⟩ := each i hi'
      have hp : DataW.agg [D0 i, D1 i] ∈ (List.range len).map fun i => DataW.agg [D0 i, D1 i] := List.mem_map_of_mem hi
      have := bulk_part hp
      simp only [Rows.uptoBulk, Rows.uptoBulkAll, d0, d1, bulk_str] at this ⊢
      omega

end
def powRow (H : Type) : String × DataW H := ("internal/strconv.uint64pow10", Rows.laid_internal_strconv_uint64pow10)
/-- what the rows that list tables lay -/
def laid5 : List (String × DataW Unit) := [("math/bits.deBruijn32tab", Rows.laid_math_bits_deBruijn32tab), ("math/bits.deBruijn64tab", Rows.laid_math_bits_deBruijn64tab), powRow Unit, ("unicode/utf8.acceptRanges", Rows.laid_unicode_utf8_acceptRanges), ("unicode/utf8.first", Rows.laid_unicode_utf8_first)]
def bruijn : List Int := [0, 1, 56, 2, 57, 49, 28, 3, 61, 58, 42, 50, 38, 29, 17, 4, 62, 47, 59, 36, 45, 43, 51, 22, 53, 39, 33, 30, 24, 18, 12, 5, 63, 55, 48, 27, 60, 41, 37, 16, 46, 35, 44, 21, 52, 32, 23, 11, 54, 26, 40, 15, 34, 20, 31, 10, 25, 14, 19, 9, 13, 8, 7, 6]
theorem tz_of_laid {W : World} (h : laidMetH Tryd.prog laid5 W) : Tz W := by
  have h1 := h.filter (fun x => x.1 == "math/bits.deBruijn64tab")
  have e : laid5.filter (fun x => x.1 == "math/bits.deBruijn64tab") = [("math/bits.deBruijn64tab", Rows.laid_math_bits_deBruijn64tab)] := by kernel_rfl
  rw [e] at h1
  have h2 : laidMet Tryd.prog (("math/bits.deBruijn64tab", Lib.tabData .u8 bruijn) :: []) W := h1
  have h3 := Lib.tabIs_of_head (g := 5) (t := 163) (e := 5) (n := 64) (by kernel_rfl) (by kernel_rfl) Tryd.underlying163 Tryd.underlying5 (by kernel_rfl) (by kernel_rfl) h2
  exact h3.cell (g := 5) (by kernel_rfl) 15 (by decide)
end Go.Proofs.YtabecgdaiakgiaaDoor
