/- What came in, opened: bytes, ints; a Swap. No condition. -/
import Derived.Test.YthgeppdoonbkpaaMA
import Derived.Test.YthgeppdoonbkpaaDskZb
import Derived.Test.YthgeppdoonbkpaaRows
namespace Go.Proofs.Ythgeppdoonbkpaa
open Go.ChangeShapes Go.WideShapes Go.ChangeAt Go.RowKit

theorem cellsInt : Try.prog.cellsOf 3 = 1 := by kernel_rfl
theorem cellsU8 : Try.prog.cellsOf 5 = 1 := by kernel_rfl
theorem cellsBytes : Try.prog.cellsOf 22 = 1 := by kernel_rfl
theorem cellsInts : Try.prog.cellsOf 23 = 1 := by kernel_rfl
theorem laidOut : laidOutB Try.prog = true := by kernel_rfl

section
variable {H : Type}
theorem bulk_one (d : DataW H) : 1 ≤ Rows.uptoBulk d := by
  cases d with
  | lit l => cases l <;> simp [Rows.uptoBulk]
  | nil => simp [Rows.uptoBulk]
  | ptr d => simp [Rows.uptoBulk]
  | slice elems spare => simp [Rows.uptoBulk]
  | agg parts => simp [Rows.uptoBulk]
  | iface t d => simp [Rows.uptoBulk]
  | map entries => simp [Rows.uptoBulk]
  | held h => simp [Rows.uptoBulk]
theorem bulk_len (l : List (DataW H)) : l.length ≤ Rows.uptoBulkAll l := by
  induction l with
  | nil => simp [Rows.uptoBulkAll]
  | cons x r ih => have := bulk_one x; simp only [Rows.uptoBulkAll, List.length_cons]; omega
theorem ints_bytes (xs : List Int) (h : ∀ z ∈ xs, 0 ≤ z ∧ z < 256) : bytesV (xs.map fun z => UInt8.ofNat z.toNat) = xs.map (Value.int .u8) := by
  induction xs with
  | nil => rfl
  | cons z xs ih =>
    have i1 := ih fun y hy => h y (by simp [hy])
    have h0 := h z (by simp)
    have e : ((UInt8.ofNat z.toNat).toNat : Int) = z := by
      rw [UInt8.toNat_ofNat', Nat.mod_eq_of_lt (by omega)]; omega
    simp only [bytesV, List.map_cons, e] at i1 ⊢
    rw [i1]
theorem pieceOf_len2 {zs : List Int} {n : Nat} (h : n ≤ zs.length) : ((zs.take n).map fun z => UInt8.ofNat z.toNat).length = n := by
  rw [List.length_map, List.length_take]; omega
variable {enc : TypeId × Value → H}
theorem open_bytesC {W : World} {fuel : Nat} {v : Value} {x : DataW H × List MemPlace} (h : DataW.trod enc Try.prog W 0 (fun _ => true) true fuel 22 [v] = some x) :
    ∃ (A : Option Addr) (n c : Nat) (l : Bs), v = .slice A n c ∧ n ≤ c ∧ (A = none → n = 0 ∧ c = 0) ∧ Rd W W.heap.size 1 A n (bytesV l) ∧ n ≤ Rows.uptoBulk x.1 := by
  rcases open_ints Try.underlying22 Try.underlying5 cellsU8 h with ⟨hcs, rfl⟩ | ⟨a, len, cap, zs, hcs, hb, hl, hm, hz, rfl, hcell, hwz⟩
  · injection hcs with e _
    exact ⟨none, 0, 0, [], e, Nat.le_refl _, fun _ => ⟨rfl, rfl⟩, Rd.nil _ _ _ _, Nat.zero_le _⟩
  · injection hcs with e _
    simp only [if_true] at hz
    refine ⟨some a, len, cap, (zs.take len).map fun z => UInt8.ofNat z.toNat, e, hl, (fun e => by cases e), ⟨by rw [bytesV_len, pieceOf_len2 (by omega)]; omega, fun h0 => ?_⟩, ?_⟩
    · obtain ⟨g, o, sp⟩ := a
      obtain rfl : sp = none := by simpa [Addr.add] using World.cell?_spot (hcell 0 (by omega))
      refine ⟨g, o, rfl, cell_lt (by have := hcell 0 (by omega); rw [Addr.add_lit] at this; exact this), fun j u hu => ?_⟩
      have hall : ∀ z ∈ zs.take len, 0 ≤ z ∧ z < 256 := fun z hz => wf_u8 (hwz z (List.mem_of_mem_take hz))
      rw [ints_bytes _ hall] at hu
      have hj : j < len := by
        have := (List.getElem?_eq_some_iff.1 hu).1
        simp at this
        omega
      have h1 := hcell j (by omega)
      rw [Addr.add_lit] at h1
      rw [h1]
      have : (List.map (Value.int .u8) (List.take len zs))[j]? = some (.int .u8 (zs.getD j 0)) := by
        simp [hj, List.getD, show j < zs.length by omega]
      rw [this] at hu
      exact hu
    · have h1 := bulk_len (lits (H := H) .u8 (zs.take len))
      have h2 : (lits (H := H) .u8 (zs.take len)).length = len := by unfold lits; rw [List.length_map, List.length_take]; omega
      simp only [Rows.uptoBulk]
      omega
theorem open_intsC {W : World} {fuel : Nat} {v : Value} {x : DataW H × List MemPlace} (h : DataW.trod enc Try.prog W 0 (fun _ => true) true fuel 23 [v] = some x) :
    ∃ (A : Option Addr) (n c : Nat) (zs : List Int), v = .slice A n c ∧ n ≤ c ∧ (A = none → n = 0 ∧ c = 0) ∧ Rd W W.heap.size 1 A n (intsV zs) ∧ (∀ z ∈ zs, -9223372036854775808 ≤ z ∧ z ≤ 9223372036854775807) ∧ n ≤ Rows.uptoBulk x.1 := by
  rcases open_ints Try.underlying23 Try.underlying3 cellsInt h with ⟨hcs, rfl⟩ | ⟨a, len, cap, zs, hcs, hb, hl, hm, hz, rfl, hcell, hwz⟩
  · injection hcs with e _
    exact ⟨none, 0, 0, [], e, Nat.le_refl _, fun _ => ⟨rfl, rfl⟩, Rd.nil _ _ _ _, (by intro z hz; cases hz), Nat.zero_le _⟩
  · injection hcs with e _
    simp only [if_true] at hz
    refine ⟨some a, len, cap, zs.take len, e, hl, (fun e => by cases e), ⟨by rw [intsV_len, List.length_take]; omega, fun h0 => ?_⟩, fun z h => bounds_i64 (hwz z (List.mem_of_mem_take h)), ?_⟩
    · obtain ⟨g, o, sp⟩ := a
      obtain rfl : sp = none := by simpa [Addr.add] using World.cell?_spot (hcell 0 (by omega))
      refine ⟨g, o, rfl, cell_lt (by have := hcell 0 (by omega); rw [Addr.add_lit] at this; exact this), fun j u hu => ?_⟩
      have hj : j < len := by
        have := (List.getElem?_eq_some_iff.1 hu).1
        rw [intsV_len, List.length_take] at this
        omega
      have h1 := hcell j (by omega)
      rw [Addr.add_lit] at h1
      rw [h1]
      have : (intsV (List.take len zs))[j]? = some (.int .i64 (zs.getD j 0)) := by
        unfold intsV
        simp [hj, List.getD, show j < zs.length by omega]
      rw [this] at hu
      exact hu
    · have h1 := bulk_len (lits (H := H) .i64 (zs.take len))
      have h2 : (lits (H := H) .i64 (zs.take len)).length = len := by unfold lits; rw [List.length_map, List.length_take]; omega
      simp only [Rows.uptoBulk]
      omega
theorem cellsSwap : Try.prog.cellsOf 25 = 5 := by kernel_rfl
set_option maxRecDepth 100000 in
theorem open_swap {W : World} {base : Nat} {v : Value} {d : DataW H} {p : List MemPlace} (hv : Value.okWide Try.prog W .any base 25 v) (h : DataW.Trod enc Try.prog W 0 (fun _ => true) true 25 v d p) :
    ∃ (A0 : Option Addr) (n0 c0 : Nat) (l0 : Bs) (A1 : Option Addr) (n1 c1 : Nat) (l1 : Bs) (pc af : Int) (A4 : Option Addr) (n4 c4 : Nat) (cs : List Int),
      v = .agg #[.slice A0 n0 c0, .slice A1 n1 c1, .int .i64 pc, .int .i64 af, .slice A4 n4 c4] ∧ (n0 ≤ c0 ∧ (A0 = none → n0 = 0 ∧ c0 = 0) ∧ Rd W W.heap.size 1 A0 n0 (bytesV l0)) ∧ (n1 ≤ c1 ∧ (A1 = none → n1 = 0 ∧ c1 = 0) ∧ Rd W W.heap.size 1 A1 n1 (bytesV l1)) ∧
      (n4 ≤ c4 ∧ (A4 = none → n4 = 0 ∧ c4 = 0) ∧ Rd W W.heap.size 1 A4 n4 (intsV cs)) ∧ (Lit.int .i64 pc).wf = true ∧ (Lit.int .i64 af).wf = true ∧ n0 ≤ Rows.uptoBulk d ∧ n1 ≤ Rows.uptoBulk d ∧ n4 ≤ Rows.uptoBulk d := by
  obtain ⟨cs, rfl, hsz⟩ := okWide_struct Try.underlying25 hv
  obtain ⟨fuel, hf⟩ := h
  obtain ⟨xs, k, _, hx, hl, hlen, each⟩ := DataW.trod_struct Try.underlying25 hf
  rw [cellsSwap] at hsz
  obtain ⟨l⟩ := cs
  match l, hsz, xs, hlen with
  | [a0, a1, a2, a3, a4], _, [y0, y1, y2, y3, y4], _ =>
    have e0 : DataW.trod enc Try.prog W 0 (fun _ => true) true k 22 (List.take (Try.prog.cellsOf 22) (List.drop 0 [a0, a1, a2, a3, a4])) = [y0, y1, y2, y3, y4][0]? := each 0 _ rfl
    have e1 : DataW.trod enc Try.prog W 0 (fun _ => true) true k 22 (List.take (Try.prog.cellsOf 22) (List.drop 1 [a0, a1, a2, a3, a4])) = [y0, y1, y2, y3, y4][1]? := each 1 _ rfl
    have e2 : DataW.trod enc Try.prog W 0 (fun _ => true) true k 3 (List.take (Try.prog.cellsOf 3) (List.drop 2 [a0, a1, a2, a3, a4])) = [y0, y1, y2, y3, y4][2]? := each 2 _ rfl
    have e3 : DataW.trod enc Try.prog W 0 (fun _ => true) true k 3 (List.take (Try.prog.cellsOf 3) (List.drop 3 [a0, a1, a2, a3, a4])) = [y0, y1, y2, y3, y4][3]? := each 3 _ rfl
    have e4 : DataW.trod enc Try.prog W 0 (fun _ => true) true k 23 (List.take (Try.prog.cellsOf 23) (List.drop 4 [a0, a1, a2, a3, a4])) = [y0, y1, y2, y3, y4][4]? := each 4 _ rfl
    simp only [cellsInt, cellsBytes, cellsInts, List.drop_zero, List.drop_succ_cons, List.take_succ_cons, List.take_zero, List.getElem?_cons_zero, List.getElem?_cons_succ] at e0 e1 e2 e3 e4
    obtain ⟨A0, n0, c0, l0, rfl, k0, q0, r0, b0⟩ := open_bytesC e0
    obtain ⟨A1, n1, c1, l1, rfl, k1, q1, r1, b1⟩ := open_bytesC e1
    obtain ⟨pc, r2, rfl, w2⟩ := DataW.trod_int Try.underlying3 e2
    obtain ⟨af, r3, rfl, w3⟩ := DataW.trod_int Try.underlying3 e3
    obtain ⟨A4, n4, c4, cs, rfl, k4, q4, r4, _, b4⟩ := open_intsC e4
    simp only [List.cons.injEq, and_true] at r2 r3
    subst r2 r3
    simp only [Prod.mk.injEq] at hx
    rw [hx.1]
    simp only [List.map_cons, List.map_nil, Rows.uptoBulk, Rows.uptoBulkAll]
    exact ⟨A0, n0, c0, l0, A1, n1, c1, l1, pc, af, A4, n4, c4, cs, rfl, ⟨k0, q0, r0⟩, ⟨k1, q1, r1⟩, ⟨k4, q4, r4⟩, w2, w3, by omega, by omega, by omega⟩
end
end Go.Proofs.Ythgeppdoonbkpaa
