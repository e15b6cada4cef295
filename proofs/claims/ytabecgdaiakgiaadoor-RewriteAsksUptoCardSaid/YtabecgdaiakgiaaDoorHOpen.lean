/- Arguments opened: texts, fields, a head; their sizes out of the second form's bound. No condition. -/
import Derived.Test.YtabecgdaiakgiaaDoorOpen
import Derived.Test.YtabecgdaiakgiaaDoorFields
import Derived.Test.YtabecgdaiakgiaaDoorPieces
import Derived.Test.YtabecgdaiakgiaaDoorRows
import Derived.Deep.SlicePairs
import Derived.SliceStrings
namespace Go.Proofs.YtabecgdaiakgiaaDoor
open Go.ChangeShapes Go.WideShapes Go.ChangeAt Go.RowKit

theorem cellsBool : Tryd.prog.cellsOf 4 = 1 := by kernel_rfl
theorem cellsInt : Tryd.prog.cellsOf 3 = 1 := by kernel_rfl
theorem cellsStr : Tryd.prog.cellsOf 9 = 1 := by kernel_rfl
theorem cellsFields : Tryd.prog.cellsOf 22 = 1 := by kernel_rfl
theorem cellsField : Tryd.prog.cellsOf 48 = 2 := by kernel_rfl
theorem cellsU8 : Tryd.prog.cellsOf 5 = 1 := by kernel_rfl
theorem cellsHead : Tryd.prog.cellsOf 24 = 7 := by kernel_rfl
theorem laidOut : laidOutB Tryd.prog = true := by kernel_rfl
theorem ownGo : ownKnob Tryd.prog.godebug = none := by kernel_rfl

section
variable {H : Type}
theorem bulk_part {d : DataW H} {l : List (DataW H)} (h : d ∈ l) : Rows.uptoBulk d ≤ Rows.uptoBulkAll l := by
  induction l with
  | nil => cases h
  | cons x r ih =>
    simp only [Rows.uptoBulkAll]
    cases List.mem_cons.1 h with
    | inl e => subst e; omega
    | inr e => have := ih e; omega
theorem bulk_one (d : DataW H) : 1 ≤ Rows.uptoBulk d := by
  cases d with
  | lit l => cases l <;> simp [Rows.uptoBulk]
  | nil => simp [Rows.uptoBulk]
  | ptr d => simp [Rows.uptoBulk]
  | slice elems spare => simp [Rows.uptoBulk]
  | agg parts => simp [Rows.uptoBulk]
  | iface t d => simp [Rows.uptoBulk]
  | map entries => simp [Rows.uptoBulk]
  | held h => simp [Rows.uptoBulk]
theorem bulk_len (l : List (DataW H)) : l.length ≤ Rows.uptoBulkAll l := by
  induction l with
  | nil => simp [Rows.uptoBulkAll]
  | cons x r ih => have := bulk_one x; simp only [Rows.uptoBulkAll, List.length_cons]; omega
theorem bulk_str (s : ByteArray) : Rows.uptoBulk (DataW.lit (H := H) (.string s.data.toList)) = s.size + 1 := by
  have e : s.data.toList.length = s.size := by rw [Array.length_toList]; rfl
  simp [Rows.uptoBulk, e]
theorem bulk_strs (l : List ByteArray) : Rows.uptoBulkAll (strs (H := H) l) = total l := by
  induction l with
  | nil => rfl
  | cons s l ih => simp only [strs, total, List.map_cons, Rows.uptoBulkAll, List.sum_cons, bulk_str] at ih ⊢; rw [ih]

variable {enc : TypeId × Value → H}

def strIn (v : Value) : ByteArray := match v with | .string s => s | _ => ⟨#[]⟩

theorem open_fields {W : World} {fuel : Nat} {v : Value} {x : DataW H × List MemPlace} (h : DataW.trod enc Tryd.prog W 0 (fun _ => true) true fuel 22 [v] = some x) :
    ∃ (A : Option Addr) (n c : Nat) (fs : List Fl), v = .slice A n c ∧ n ≤ c ∧ (A = none → n = 0) ∧ Rd W W.heap.size 2 A n (fieldsV fs) ∧ n ≤ Rows.uptoBulk x.1 ∧ (∀ f ∈ fs, f.1.size + f.2.size ≤ Rows.uptoBulk x.1) := by
  rcases Go.Deep.open_slice_pairs Tryd.underlying22 Tryd.underlying48 cellsField rfl rfl cellsStr cellsStr h with ⟨hcs, rfl⟩ | ⟨a, len, cap, m, k, V0, V1, D0, D1, P0, P1, hcs, hb, hl, hm, hmm, rfl, hx⟩
  · injection hcs with e _
    exact ⟨none, 0, 0, [], e, Nat.le_refl _, fun _ => rfl, Rd.nil _ _ _ _, Nat.zero_le _, fun f hf => by cases hf⟩
  · injection hcs with e _
    have hlm : len ≤ m := by rw [hmm]; split <;> omega
    have each : ∀ i, i < len → W.cell? (a.add (i * 2)) = some (.string (strIn (V0 i))) ∧ W.cell? (a.add (i * 2 + 1)) = some (.string (strIn (V1 i))) ∧ D0 i = .lit (.string (strIn (V0 i)).data.toList) ∧ D1 i = .lit (.string (strIn (V1 i)).data.toList) := by
      intro i hi
      obtain ⟨h1, h2, h3, h4⟩ := hx i (by omega)
      obtain ⟨s, hs, e3, _⟩ := DataW.trod_string Tryd.underlying9 h3
      obtain ⟨s', hs', e4, _⟩ := DataW.trod_string Tryd.underlying9 h4
      injection hs with hs _
      injection hs' with hs' _
      rw [hs] at h1
      rw [hs'] at h2
      simp only [Prod.mk.injEq] at e3 e4
      rw [hs, hs']
      exact ⟨h1, h2, e3.1, e4.1⟩
    have hfl : ((List.range len).map fun i => (strIn (V0 i), strIn (V1 i))).length = len := by simp
    refine ⟨some a, len, cap, (List.range len).map fun i => (strIn (V0 i), strIn (V1 i)), e, hl, (fun e => by cases e), ⟨by rw [fieldsV_len, hfl], fun hn => ?_⟩, ?_, ?_⟩
    · obtain ⟨g, o, sp⟩ := a
      obtain rfl : sp = none := by simpa [Addr.add] using World.cell?_spot (each 0 hn).1
      refine ⟨g, o, rfl, cell_lt (by have := (each 0 hn).1; rw [Addr.add_lit] at this; exact this), fun j u hu => ?_⟩
      have hj : j < len * 2 := by
        have := (List.getElem?_eq_some_iff.1 hu).1
        rw [fieldsV_len, hfl] at this
        exact this
      obtain ⟨G1, G2⟩ := fieldsV_get ((List.range len).map fun i => (strIn (V0 i), strIn (V1 i))) (j / 2) (by rw [hfl]; omega)
      obtain ⟨c1, c2, _, _⟩ := each (j / 2) (by omega)
      rw [Addr.add_lit] at c1 c2
      simp only [List.getElem_map, List.getElem_range] at G1 G2
      rcases (show j = j / 2 * 2 ∨ j = j / 2 * 2 + 1 by omega) with hj2 | hj2
      · rw [hj2] at hu ⊢
        rw [← hj2] at hu
        rw [hj2, G1] at hu
        rw [← hu]
        exact c1
      · have e2 : (fieldsV ((List.range len).map fun i => (strIn (V0 i), strIn (V1 i))))[j]? = some (.string (strIn (V1 (j / 2)))) := by
          rw [← G2]; congr 1
        rw [e2] at hu
        rw [← hu, show o + j = o + (j / 2 * 2 + 1) by omega]
        exact c2
    · simp only [Rows.uptoBulk]
      have := bulk_len ((List.range len).map fun i => DataW.agg [D0 i, D1 i])
      simp at this
      omega
    · intro f hf
      obtain ⟨i, hi, rfl⟩ := List.mem_map.1 hf
      have hi' := List.mem_range.1 hi
      obtain ⟨_, _, d0, d1⟩ := each i hi'
      have hp : DataW.agg [D0 i, D1 i] ∈ (List.range len).map fun i => DataW.agg [D0 i, D1 i] := List.mem_map_of_mem hi
      have := bulk_part hp
      simp only [Rows.uptoBulk, Rows.uptoBulkAll, d0, d1, bulk_str] at this ⊢
      omega

theorem open_texts {W : World} {fuel : Nat} {v : Value} {x : DataW H × List MemPlace} (h : DataW.trod enc Tryd.prog W 0 (fun _ => true) true fuel 58 [v] = some x) :
    ∃ (A : Option Addr) (n c : Nat) (vs : List ByteArray), v = .slice A n c ∧ n ≤ c ∧ (A = none → n = 0) ∧ Rd W W.heap.size 1 A n (strsV vs) ∧ n ≤ Rows.uptoBulk x.1 ∧ total vs ≤ Rows.uptoBulk x.1 ∧ (∀ s ∈ vs, s.size ≤ Rows.uptoBulk x.1) := by
  rcases open_strings Tryd.underlying58 Tryd.underlying9 cellsStr h with ⟨hcs, rfl⟩ | ⟨a, len, cap, ss, hcs, hb, hl, hm, hlen, rfl, hc, _⟩
  · injection hcs with e _
    exact ⟨none, 0, 0, [], e, Nat.le_refl _, fun _ => rfl, Rd.nil _ _ _ _, Nat.zero_le _, Nat.zero_le _, fun f hf => by cases hf⟩
  · injection hcs with e _
    have hls : len ≤ ss.length := by rw [hlen]; split <;> omega
    have hfl : (ss.take len).length = len := by simp; omega
    refine ⟨some a, len, cap, ss.take len, e, hl, (fun e => by cases e), ⟨by rw [strsV_len, hfl]; omega, fun hn => ?_⟩, ?_, ?_, ?_⟩
    · obtain ⟨g, o, sp⟩ := a
      have c0 := hc 0 (by omega)
      obtain rfl : sp = none := by simpa [Addr.add] using World.cell?_spot c0
      refine ⟨g, o, rfl, cell_lt (by rw [Addr.add_lit] at c0; exact c0), fun j u hu => ?_⟩
      have hj : j < len := by
        have := (List.getElem?_eq_some_iff.1 hu).1
        rw [strsV_len, hfl] at this
        exact this
      have c1 := hc j (by omega)
      rw [Addr.add_lit] at c1
      rw [c1, ← hu]
      simp [strsV, hj, List.getD, show j < ss.length by omega]
    · simp only [Rows.uptoBulk]
      have := bulk_len (strs (H := H) (ss.take len))
      have e : (strs (H := H) (ss.take len)).length = len := by simp only [strs, List.length_map]; exact hfl
      rw [e] at this
      omega
    · simp only [Rows.uptoBulk, bulk_strs]
      omega
    · intro s hs
      have hp : (DataW.lit (.string s.data.toList) : DataW H) ∈ strs (H := H) (ss.take len) := List.mem_map_of_mem hs
      have := bulk_part hp
      simp only [Rows.uptoBulk] at this ⊢
      have e : s.data.toList.length = s.size := by rw [Array.length_toList]; rfl
      omega

set_option maxRecDepth 100000 in
theorem open_head {W : World} {base : Nat} {v : Value} {d : DataW H} {p : List MemPlace} (hv : Value.okWide Tryd.prog W .any base 24 v) (h : DataW.Trod enc Tryd.prog W 0 (fun _ => true) true 24 v d p) :
    ∃ (rq : Bool) (m t : ByteArray) (st : Int) (rs : ByteArray) (mn : Int) (A : Option Addr) (n c : Nat) (fs : List Fl), v = headV rq m t st rs mn (.slice A n c) ∧ n ≤ c ∧ (A = none → n = 0) ∧ Rd W W.heap.size 2 A n (fieldsV fs) ∧
      (Lit.int .i64 st).wf = true ∧ (Lit.int .i64 mn).wf = true ∧ n ≤ Rows.uptoBulk d ∧ m.size + t.size + rs.size ≤ Rows.uptoBulk d ∧ (∀ f ∈ fs, f.1.size + f.2.size ≤ Rows.uptoBulk d) := by
  obtain ⟨cs, rfl, hsz⟩ := okWide_struct Tryd.underlying24 hv
  obtain ⟨fuel, hf⟩ := h
  obtain ⟨xs, k, _, hx, hl, hlen, each⟩ := DataW.trod_struct Tryd.underlying24 hf
  rw [cellsHead] at hsz
  obtain ⟨l⟩ := cs
  match l, hsz, xs, hlen with
  | [a0, a1, a2, a3, a4, a5, a6], _, [y0, y1, y2, y3, y4, y5, y6], _ =>
    have e0 := each 0 _ rfl
    have e1 := each 1 _ rfl
    have e2 := each 2 _ rfl
    have e3 := each 3 _ rfl
    have e4 := each 4 _ rfl
    have e5 := each 5 _ rfl
    have e6 := each 6 _ rfl
    simp only [Value.cells, List.getElem?_cons_zero, List.getElem?_cons_succ] at e0 e1 e2 e3 e4 e5 e6
    obtain ⟨b, r0, rfl⟩ := DataW.trod_bool Tryd.underlying4 e0
    obtain ⟨m, r1, rfl, _⟩ := DataW.trod_string Tryd.underlying9 e1
    obtain ⟨t, r2, rfl, _⟩ := DataW.trod_string Tryd.underlying9 e2
    obtain ⟨st, r3, rfl, wst⟩ := DataW.trod_int Tryd.underlying3 e3
    obtain ⟨rs, r4, rfl, _⟩ := DataW.trod_string Tryd.underlying9 e4
    obtain ⟨mn, r5, rfl, wmn⟩ := DataW.trod_int Tryd.underlying3 e5
    obtain ⟨A, n, c, fs, r6, h1, h2, h3, h4, h5⟩ := open_fields e6
    injection r0 with r0 _
    injection r1 with r1 _
    injection r2 with r2 _
    injection r3 with r3 _
    injection r4 with r4 _
    injection r5 with r5 _
    subst r0 r1 r2 r3 r4 r5 r6
    simp only [Prod.mk.injEq] at hx
    rw [hx.1]
    simp only [List.map_cons, List.map_nil, Rows.uptoBulk, Rows.uptoBulkAll]
    have q1 : m.data.toList.length = m.size := by rw [Array.length_toList]; rfl
    have q2 : t.data.toList.length = t.size := by rw [Array.length_toList]; rfl
    have q3 : rs.data.toList.length = rs.size := by rw [Array.length_toList]; rfl
    exact ⟨b, m, t, st, rs, mn, A, n, c, fs, rfl, h1, h2, h3, wst, wmn, by omega, by omega, fun f hf => by have := h5 f hf; omega⟩
end
end Go.Proofs.YtabecgdaiakgiaaDoor
