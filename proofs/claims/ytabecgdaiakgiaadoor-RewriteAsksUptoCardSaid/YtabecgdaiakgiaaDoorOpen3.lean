/- A head that came in: how great its fields are together; the library's table of powers, where the row lists it. No condition. -/
import Derived.Test.YtabecgdaiakgiaaDoorOpen2
import Derived.Test.YtabecgdaiakgiaaDoorText
import Derived.LaidSub
import Derived.Lib.LaidTab
namespace Go.Proofs.YtabecgdaiakgiaaDoor
open Go.ChangeShapes Go.WideShapes Go.ChangeAt Go.RowKit

section
variable {H : Type} {enc : TypeId × Value → H}

theorem open_fields2 {W : World} {fuel : Nat} {v : Value} {x : DataW H × List MemPlace} (h : DataW.trod enc Tryd.prog W 0 (fun _ => true) true fuel 22 [v] = some x) :
    ∃ (A : Option Addr) (n c : Nat) (fs : List Fl), v = .slice A n c ∧ n ≤ c ∧ (A = none → n = 0) ∧ Rd W W.heap.size 2 A n (fieldsV fs) ∧ n ≤ Rows.uptoBulk x.1 ∧ flSize fs ≤ 2 * Rows.uptoBulk x.1 ∧ (∀ f ∈ fs, f.1.size + f.2.size ≤ Rows.uptoBulk x.1) := by
  rcases Go.Deep.open_slice_pairs Tryd.underlying22 Tryd.underlying48 cellsField rfl rfl cellsStr cellsStr h with ⟨hcs, rfl⟩ | ⟨a, len, cap, m, k, V0, V1, D0, D1, P0, P1, hcs, hb, hl, hm, hmm, rfl, hx⟩
  · injection hcs with e _
    exact ⟨none, 0, 0, [], e, Nat.le_refl _, fun _ => rfl, Rd.nil _ _ _ _, Nat.zero_le _, Nat.zero_le _, fun f hf => by cases hf⟩
  · injection hcs with e _
    have hlm : len ≤ m := by rw [hmm]; split <;> omega
    have each : ∀ i, i < len → W.cell? (a.add (i * 2)) = some (.string (strIn (V0 i))) ∧ W.cell? (a.add (i * 2 + 1)) = some (.string (strIn (V1 i))) ∧ D0 i = .lit (.string (strIn (V0 i)).data.toList) ∧ D1 i = .lit (.string (strIn (V1 i)).data.toList) := by
      intro i hi
      obtain ⟨h1, h2, h3, h4⟩ := hx i (by omega)
      obtain ⟨s, hs, e3, _⟩ := DataW.trod_string Tryd.underlying9 h3
      obtain ⟨s', hs', e4, _⟩ := DataW.trod_string Tryd.underlying9 h4
      injection hs with hs _
      injection hs' with hs' _
      rw [hs] at h1
      rw [hs'] at h2
      simp only [Prod.mk.injEq] at e3 e4
      rw [hs, hs']
      exact ⟨h1, h2, e3.1, e4.1⟩
    have hfl : ((List.range len).map fun i => (strIn (V0 i), strIn (V1 i))).length = len := by simp
    refine ⟨some a, len, cap, (List.range len).map fun i => (strIn (V0 i), strIn (V1 i)), e, hl, (fun e => by cases e), ⟨by rw [fieldsV_len, hfl], fun hn => ?_⟩, ?_, ?_, ?_⟩
    · obtain ⟨g, o, sp⟩ := a
      obtain rfl : sp = none := by simpa [Addr.add] using World.cell?_spot (each 0 hn).1
      refine ⟨g, o, rfl, cell_lt (by have := (each 0 hn).1; rw [Addr.add_lit] at this; exact this), fun j u hu => ?_⟩
      have hj : j < len * 2 := by
        have := (List.getElem?_eq_some_iff.1 hu).1
        rw [fieldsV_len, hfl] at this
        exact this
      obtain ⟨G1, G2⟩ := fieldsV_get ((List.range len).map fun i => (strIn (V0 i), strIn (V1 i))) (j / 2) (by rw [hfl]; omega)
      obtain ⟨c1, c2, _, _⟩ := each (j / 2) (by omega)
      rw [Addr.add_lit] at c1 c2
      simp only [List.getElem_map, List.getElem_range] at G1 G2
      rcases (show j = j / 2 * 2 ∨ j = j / 2 * 2 + 1 by omega) with hj2 | hj2
      · rw [hj2] at hu ⊢
        rw [← hj2] at hu
        rw [hj2, G1] at hu
        rw [← hu]
        exact c1
      · have e2 : (fieldsV ((List.range len).map fun i => (strIn (V0 i), strIn (V1 i))))[j]? = some (.string (strIn (V1 (j / 2)))) := by
          rw [← G2]; congr 1
        rw [e2] at hu
        rw [← hu, show o + j = o + (j / 2 * 2 + 1) by omega]
        exact c2
    · simp only [Rows.uptoBulk]
      have := bulk_len ((List.range len).map fun i => DataW.agg [D0 i, D1 i])
      simp at this
      omega
    · simp only [Rows.uptoBulk]
      have key : ∀ l : List Nat, (∀ i ∈ l, i < len) → flSize (l.map fun i => (strIn (V0 i), strIn (V1 i))) ≤ 2 * Rows.uptoBulkAll (l.map fun i => DataW.agg [D0 i, D1 i]) := by
        intro l
        induction l with
        | nil => intro _; exact Nat.zero_le _
        | cons i l ih =>
          intro hl
          have ih' := ih fun j hj => hl j (by simp [hj])
          obtain ⟨_, _, d0, d1⟩ := each i (hl i (by simp))
          have q0 : (strIn (V0 i)).data.toList.length = (strIn (V0 i)).size := by rw [Array.length_toList]; rfl
          have q1 : (strIn (V1 i)).data.toList.length = (strIn (V1 i)).size := by rw [Array.length_toList]; rfl
          simp only [flSize, List.map_cons, List.sum_cons, Rows.uptoBulkAll, Rows.uptoBulk, d0, d1] at ih' ⊢
          omega
      have h := key (List.range len) fun i hi => List.mem_range.1 hi
      omega
    · intro f hf
      obtain ⟨i, hi, rfl⟩ := List.mem_map.1 hf
      have hi' := List.mem_range.1 hi
      obtain ⟨_, _, d0, d1⟩ := each i hi'
      have hp : DataW.agg [D0 i, D1 i] ∈ (List.range len).map fun i => DataW.agg [D0 i, D1 i] := List.mem_map_of_mem hi
      have := bulk_part hp
      simp only [Rows.uptoBulk, Rows.uptoBulkAll, d0, d1, bulk_str] at this ⊢
      omega

set_option maxRecDepth 100000 in
theorem open_head2 {W : World} {base : Nat} {v : Value} {d : DataW H} {p : List MemPlace} (hv : Value.okWide Tryd.prog W .any base 24 v) (h : DataW.Trod enc Tryd.prog W 0 (fun _ => true) true 24 v d p) :
    ∃ (rq : Bool) (m t : ByteArray) (st : Int) (rs : ByteArray) (mn : Int) (A : Option Addr) (n c : Nat) (fs : List Fl), v = headV rq m t st rs mn (.slice A n c) ∧ n ≤ c ∧ (A = none → n = 0) ∧ Rd W W.heap.size 2 A n (fieldsV fs) ∧
      (Lit.int .i64 st).wf = true ∧ (Lit.int .i64 mn).wf = true ∧ n ≤ Rows.uptoBulk d ∧ m.size + t.size + rs.size ≤ Rows.uptoBulk d ∧ flSize fs ≤ 2 * Rows.uptoBulk d ∧ (∀ f ∈ fs, f.1.size + f.2.size ≤ Rows.uptoBulk d) := by
  obtain ⟨cs, rfl, hsz⟩ := okWide_struct Tryd.underlying24 hv
  obtain ⟨fuel, hf⟩ := h
  obtain ⟨xs, k, _, hx, hl, hlen, each⟩ := DataW.trod_struct Tryd.underlying24 hf
  rw [cellsHead] at hsz
  obtain ⟨l⟩ := cs
  match l, hsz, xs, hlen with
  | [a0, a1, a2, a3, a4, a5, a6], _, [y0, y1, y2, y3, y4, y5, y6], _ =>
    have e0 := each 0 _ rfl
    have e1 := each 1 _ rfl
    have e2 := each 2 _ rfl
    have e3 := each 3 _ rfl
    have e4 := each 4 _ rfl
    have e5 := each 5 _ rfl
    have e6 := each 6 _ rfl
    simp only [Value.cells, List.getElem?_cons_zero, List.getElem?_cons_succ] at e0 e1 e2 e3 e4 e5 e6
    obtain ⟨b, r0, rfl⟩ := DataW.trod_bool Tryd.underlying4 e0
    obtain ⟨m, r1, rfl, _⟩ := DataW.trod_string Tryd.underlying9 e1
    obtain ⟨t, r2, rfl, _⟩ := DataW.trod_string Tryd.underlying9 e2
    obtain ⟨st, r3, rfl, wst⟩ := DataW.trod_int Tryd.underlying3 e3
    obtain ⟨rs, r4, rfl, _⟩ := DataW.trod_string Tryd.underlying9 e4
    obtain ⟨mn, r5, rfl, wmn⟩ := DataW.trod_int Tryd.underlying3 e5
    obtain ⟨A, n, c, fs, r6, h1, h2, h3, h4, h6, h5⟩ := open_fields2 e6
    injection r0 with r0 _
    injection r1 with r1 _
    injection r2 with r2 _
    injection r3 with r3 _
    injection r4 with r4 _
    injection r5 with r5 _
    subst r0 r1 r2 r3 r4 r5 r6
    simp only [Prod.mk.injEq] at hx
    rw [hx.1]
    simp only [List.map_cons, List.map_nil, Rows.uptoBulk, Rows.uptoBulkAll]
    have q1 : m.data.toList.length = m.size := by rw [Array.length_toList]; rfl
    have q2 : t.data.toList.length = t.size := by rw [Array.length_toList]; rfl
    have q3 : rs.data.toList.length = rs.size := by rw [Array.length_toList]; rfl
    exact ⟨b, m, t, st, rs, mn, A, n, c, fs, rfl, h1, h2, h3, wst, wmn, by omega, by omega, by omega, fun f hf => by have := h5 f hf; omega⟩
end
def powRow (H : Type) : String × DataW H := ("internal/strconv.uint64pow10", Rows.laid_internal_strconv_uint64pow10)
/-- what the rows that list tables lay -/
def laid5 : List (String × DataW Unit) := [("math/bits.deBruijn32tab", Rows.laid_math_bits_deBruijn32tab), ("math/bits.deBruijn64tab", Rows.laid_math_bits_deBruijn64tab), powRow Unit, ("unicode/utf8.acceptRanges", Rows.laid_unicode_utf8_acceptRanges), ("unicode/utf8.first", Rows.laid_unicode_utf8_first)]
theorem tab_of_laid {W : World} (h : laidMetH Tryd.prog laid5 W) : Tab W := by
  have h1 := h.filter (fun x => x.1 == "internal/strconv.uint64pow10")
  have e : laid5.filter (fun x => x.1 == "internal/strconv.uint64pow10") = [powRow Unit] := by kernel_rfl
  rw [e] at h1
  have h2 : laidMet Tryd.prog (("internal/strconv.uint64pow10", Lib.tabData .u64 Lib.pow10Tab) :: []) W := h1
  exact Lib.tabIs_of_head (g := 1) (t := 149) (e := 130) (n := 20) (by kernel_rfl) (by kernel_rfl) Tryd.underlying149 Tryd.underlying130 (by kernel_rfl) (by kernel_rfl) h2
end Go.Proofs.YtabecgdaiakgiaaDoor
