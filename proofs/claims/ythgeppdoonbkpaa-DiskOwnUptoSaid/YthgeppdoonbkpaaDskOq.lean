/- Lists of Ops that came in, opened. No condition. -/
import Derived.Test.YthgeppdoonbkpaaDskOp
import Derived.Test.YthgeppdoonbkpaaDskOps
import Derived.Deep.Slices
namespace Go.Proofs.Ythgeppdoonbkpaa
open Go.ChangeShapes Go.WideShapes Go.ChangeAt Go.RowKit
theorem cellsStr : Try.prog.cellsOf 9 = 1 := by kernel_rfl
theorem cellsBool : Try.prog.cellsOf 4 = 1 := by kernel_rfl
theorem cellsOp : Try.prog.cellsOf 47 = 7 := by kernel_rfl
theorem cellsOps : Try.prog.cellsOf 42 = 1 := by kernel_rfl
section
variable {H : Type}
theorem bulk_part {d : DataW H} {l : List (DataW H)} (h : d ∈ l) : Rows.uptoBulk d ≤ Rows.uptoBulkAll l := by
  induction l with
  | nil => cases h
  | cons x r ih =>
    simp only [Rows.uptoBulkAll]
    cases List.mem_cons.1 h with
    | inl e => subst e; omega
    | inr e => have := ih e; omega
variable {enc : TypeId × Value → H}
set_option maxRecDepth 100000 in
theorem open_op {W : World} {fuel : Nat} {cs : List Value} {x : DataW H × List MemPlace} (hf : DataW.trod enc Try.prog W 0 (fun _ => true) true fuel 47 cs = some x) :
    ∃ o : OpV, cs = opV o ∧ OpIn W o ∧ o.dn ≤ Rows.uptoBulk x.1 ∧ o.cn ≤ Rows.uptoBulk x.1 ∧ o.nm.length ≤ Rows.uptoBulk x.1 ∧ o.tt.length ≤ Rows.uptoBulk x.1 := by
  obtain ⟨xs, k, _, hx, hl, hlen, each⟩ := DataW.trod_struct Try.underlying47 hf
  rw [cellsOp] at hl
  match cs, hl, xs, hlen with
  | [a0, a1, a2, a3, a4, a5, a6], _, [y0, y1, y2, y3, y4, y5, y6], _ =>
    have e0 : DataW.trod enc Try.prog W 0 (fun _ => true) true k 3 (List.take (Try.prog.cellsOf 3) (List.drop 0 [a0, a1, a2, a3, a4, a5, a6])) = [y0, y1, y2, y3, y4, y5, y6][0]? := each 0 _ rfl
    have e1 : DataW.trod enc Try.prog W 0 (fun _ => true) true k 9 (List.take (Try.prog.cellsOf 9) (List.drop 1 [a0, a1, a2, a3, a4, a5, a6])) = [y0, y1, y2, y3, y4, y5, y6][1]? := each 1 _ rfl
    have e2 : DataW.trod enc Try.prog W 0 (fun _ => true) true k 9 (List.take (Try.prog.cellsOf 9) (List.drop 2 [a0, a1, a2, a3, a4, a5, a6])) = [y0, y1, y2, y3, y4, y5, y6][2]? := each 2 _ rfl
    have e3 : DataW.trod enc Try.prog W 0 (fun _ => true) true k 3 (List.take (Try.prog.cellsOf 3) (List.drop 3 [a0, a1, a2, a3, a4, a5, a6])) = [y0, y1, y2, y3, y4, y5, y6][3]? := each 3 _ rfl
    have e4 : DataW.trod enc Try.prog W 0 (fun _ => true) true k 22 (List.take (Try.prog.cellsOf 22) (List.drop 4 [a0, a1, a2, a3, a4, a5, a6])) = [y0, y1, y2, y3, y4, y5, y6][4]? := each 4 _ rfl
    have e5 : DataW.trod enc Try.prog W 0 (fun _ => true) true k 23 (List.take (Try.prog.cellsOf 23) (List.drop 5 [a0, a1, a2, a3, a4, a5, a6])) = [y0, y1, y2, y3, y4, y5, y6][5]? := each 5 _ rfl
    have e6 : DataW.trod enc Try.prog W 0 (fun _ => true) true k 4 (List.take (Try.prog.cellsOf 4) (List.drop 6 [a0, a1, a2, a3, a4, a5, a6])) = [y0, y1, y2, y3, y4, y5, y6][6]? := each 6 _ rfl
    simp only [cellsInt, cellsBytes, cellsInts, cellsStr, cellsBool, List.drop_zero, List.drop_succ_cons, List.take_succ_cons, List.take_zero, List.getElem?_cons_zero, List.getElem?_cons_succ] at e0 e1 e2 e3 e4 e5 e6
    obtain ⟨kd, r0, rfl, w0⟩ := DataW.trod_int Try.underlying3 e0
    obtain ⟨nm, r1, rfl, _⟩ := DataW.trod_string Try.underlying9 e1
    obtain ⟨to', r2, rfl, _⟩ := DataW.trod_string Try.underlying9 e2
    obtain ⟨nn, r3, rfl, w3⟩ := DataW.trod_int Try.underlying3 e3
    obtain ⟨A4, n4, c4, l4, rfl, k4, q4, s4, b4⟩ := open_bytesC e4
    obtain ⟨A5, n5, c5, l5, rfl, k5, q5, s5, _, b5⟩ := open_intsC e5
    obtain ⟨bb, r6, rfl⟩ := DataW.trod_bool Try.underlying4 e6
    simp only [List.cons.injEq, and_true] at r0 r1 r2 r3 r6
    subst r0 r1 r2 r3 r6
    subst hx
    simp only [List.map_cons, List.map_nil, Rows.uptoBulk, Rows.uptoBulkAll]
    refine ⟨⟨kd, nm.data.toList, to'.data.toList, nn, A4, n4, c4, l4, A5, n5, c5, l5, bb⟩, ?_, ⟨k4, q4, s4, k5, q5, s5, bounds_i64 w3, bounds_i64 w0⟩, ?_, ?_, ?_, ?_⟩
    · rfl
    · dsimp only; omega
    · dsimp only; omega
    · dsimp only; omega
    · dsimp only; omega
theorem open_opsC {W : World} {fuel : Nat} {v : Value} {x : DataW H × List MemPlace} (h : DataW.trod enc Try.prog W 0 (fun _ => true) true fuel 42 [v] = some x) :
    ∃ (A : Option Addr) (n c : Nat) (l : List OpV), v = .slice A n c ∧ n ≤ c ∧ (A = none → n = 0 ∧ c = 0) ∧ OpsIn W A n l ∧ n ≤ Rows.uptoBulk x.1 ∧ ∀ o ∈ l, o.dn ≤ Rows.uptoBulk x.1 ∧ o.cn ≤ Rows.uptoBulk x.1 ∧ o.nm.length ≤ Rows.uptoBulk x.1 ∧ o.tt.length ≤ Rows.uptoBulk x.1 := by
  rcases Go.Deep.open_slice Try.underlying42 h with ⟨hcs, rfl⟩ | ⟨a, len, cap, m, n, D, Pl, hcs, hb, hl, hm, hmm, rfl, hx⟩
  · injection hcs with e _
    exact ⟨none, 0, 0, [], e, Nat.le_refl _, fun _ => ⟨rfl, rfl⟩, ⟨Rd.nil _ _ _ _, fun o ho => by cases ho⟩, Nat.zero_le _, fun o ho => by cases ho⟩
  · injection hcs with e _
    have hlm : len ≤ m := by rw [hmm]; split <;> omega
    have each : ∀ i, i < len → ∃ o : OpV, (∀ j, j < 7 → W.cell? (a.add (i * 7 + j)) = (opV o)[j]?) ∧ OpIn W o ∧ o.dn ≤ Rows.uptoBulk (D i) ∧ o.cn ≤ Rows.uptoBulk (D i) ∧ o.nm.length ≤ Rows.uptoBulk (D i) ∧ o.tt.length ≤ Rows.uptoBulk (D i) := by
      intro i hi
      obtain ⟨cs', h1, h2⟩ := hx i (by omega)
      rw [cellsOp] at h1
      obtain ⟨_, hlen, hcell⟩ := World.cells?_some h1
      obtain ⟨o, rfl, ho, b1, b2, b3, b4⟩ := open_op h2
      refine ⟨o, fun j hj => ?_, ho, b1, b2, b3, b4⟩
      have h3 := hcell j (by omega)
      rw [Go.Deep.add_add] at h3
      rw [h3]
    obtain ⟨f, hf⟩ := Go.Deep.choose_lt each
    have hlen : ((List.range len).map f).length = len := by simp
    have hb1 := bulk_len ((List.range len).map D)
    rw [List.length_map, List.length_range] at hb1
    refine ⟨some a, len, cap, (List.range len).map f, e, hl, (fun e => by cases e), ⟨⟨by rw [opsV_len, hlen], fun h0 => ?_⟩, fun o ho => ?_⟩, ?_, fun o ho => ?_⟩
    · obtain ⟨g, q, sp⟩ := a
      have h1 := (hf 0 h0).1 0 (by omega)
      obtain rfl : sp = none := by simpa [Addr.add] using World.cell?_spot h1
      have hadd : ∀ k, (⟨g, q, none⟩ : Addr).add k = ⟨g, q + k, none⟩ := fun k => by rw [Addr.add_lit]
      refine ⟨g, q, rfl, ?_, fun j u hu => ?_⟩
      · rw [hadd] at h1
        exact cell_lt h1
      · have hj : j < len * 7 := by
          have := (List.getElem?_eq_some_iff.1 hu).1
          rw [opsV_len, hlen] at this
          exact this
        have hi : j / 7 < len := by omega
        have h2 := (hf (j / 7) hi).1 (j % 7) (by omega)
        have h3 := opsV_get ((List.range len).map f) (j / 7) (f (j / 7)) (by simp [hi])
        have h4 := h3 (j % 7) ((opV (f (j / 7)))[j % 7]'(by rw [opV_len]; omega)) (List.getElem?_eq_getElem _)
        rw [show j / 7 * 7 + j % 7 = j by omega] at h2 h4
        rw [hu] at h4
        injection h4 with h4
        rw [hadd] at h2
        rw [h2, List.getElem?_eq_getElem (by rw [opV_len]; omega), h4]
    · obtain ⟨i, hi, rfl⟩ := List.mem_map.1 ho
      exact (hf i (List.mem_range.1 hi)).2.1
    · simp only [Rows.uptoBulk]; omega
    · obtain ⟨i, hi, rfl⟩ := List.mem_map.1 ho
      have h5 := (hf i (List.mem_range.1 hi)).2.2
      have h6 := bulk_part (H := H) (d := D i) (l := (List.range len).map D) (List.mem_map.2 ⟨i, hi, rfl⟩)
      simp only [Rows.uptoBulk]
      omega
theorem cellsBegin : Try.prog.cellsOf 44 = 4 := by kernel_rfl
set_option maxRecDepth 100000 in
theorem open_begin {W : World} {base : Nat} {v : Value} {d : DataW H} {p : List MemPlace} (hv : Value.okWide Try.prog W .any base 44 v) (h : DataW.Trod enc Try.prog W 0 (fun _ => true) true 44 v d p) :
    ∃ (A0 : Option Addr) (n0 c0 : Nat) (l0 : Bs) (A1 : Option Addr) (n1 c1 : Nat) (l1 : List OpV) (kp tn : Int),
      v = .agg #[.slice A0 n0 c0, .slice A1 n1 c1, .int .i64 kp, .int .i64 tn] ∧ (n0 ≤ c0 ∧ (A0 = none → n0 = 0 ∧ c0 = 0) ∧ Rd W W.heap.size 1 A0 n0 (bytesV l0)) ∧ (n1 ≤ c1 ∧ (A1 = none → n1 = 0 ∧ c1 = 0) ∧ OpsIn W A1 n1 l1) := by
  obtain ⟨cs, rfl, hsz⟩ := okWide_struct Try.underlying44 hv
  obtain ⟨fuel, hf⟩ := h
  obtain ⟨xs, k, _, hx, hl, hlen, each⟩ := DataW.trod_struct Try.underlying44 hf
  rw [cellsBegin] at hsz
  obtain ⟨l⟩ := cs
  match l, hsz, xs, hlen with
  | [a0, a1, a2, a3], _, [y0, y1, y2, y3], _ =>
    have e0 : DataW.trod enc Try.prog W 0 (fun _ => true) true k 22 (List.take (Try.prog.cellsOf 22) (List.drop 0 [a0, a1, a2, a3])) = [y0, y1, y2, y3][0]? := each 0 _ rfl
    have e1 : DataW.trod enc Try.prog W 0 (fun _ => true) true k 42 (List.take (Try.prog.cellsOf 42) (List.drop 1 [a0, a1, a2, a3])) = [y0, y1, y2, y3][1]? := each 1 _ rfl
    have e2 : DataW.trod enc Try.prog W 0 (fun _ => true) true k 3 (List.take (Try.prog.cellsOf 3) (List.drop 2 [a0, a1, a2, a3])) = [y0, y1, y2, y3][2]? := each 2 _ rfl
    have e3 : DataW.trod enc Try.prog W 0 (fun _ => true) true k 3 (List.take (Try.prog.cellsOf 3) (List.drop 3 [a0, a1, a2, a3])) = [y0, y1, y2, y3][3]? := each 3 _ rfl
    simp only [cellsInt, cellsBytes, cellsOps, List.drop_zero, List.drop_succ_cons, List.take_succ_cons, List.take_zero, List.getElem?_cons_zero, List.getElem?_cons_succ] at e0 e1 e2 e3
    obtain ⟨A0, n0, c0, l0, rfl, k0, q0, r0, _⟩ := open_bytesC e0
    obtain ⟨A1, n1, c1, l1, rfl, k1, q1, r1, _⟩ := open_opsC e1
    obtain ⟨pc, r2, rfl, w2⟩ := DataW.trod_int Try.underlying3 e2
    obtain ⟨af, r3, rfl, w3⟩ := DataW.trod_int Try.underlying3 e3
    simp only [List.cons.injEq, and_true] at r2 r3
    subst r2 r3
    exact ⟨A0, n0, c0, l0, A1, n1, c1, l1, pc, af, rfl, ⟨k0, q0, r0⟩, ⟨k1, q1, r1⟩⟩
set_option maxRecDepth 100000 in
theorem open_opsV {W : World} {base : Nat} {v : Value} {d : DataW H} {p : List MemPlace} (hv : Value.okWide Try.prog W .any base 42 v) (h : DataW.Trod enc Try.prog W 0 (fun _ => true) true 42 v d p) :
    ∃ (A : Option Addr) (n c : Nat) (l : List OpV), v = .slice A n c ∧ n ≤ c ∧ (A = none → n = 0 ∧ c = 0) ∧ OpsIn W A n l ∧ n ≤ Rows.uptoBulk d ∧ ∀ o ∈ l, o.dn ≤ Rows.uptoBulk d ∧ o.cn ≤ Rows.uptoBulk d ∧ o.nm.length ≤ Rows.uptoBulk d ∧ o.tt.length ≤ Rows.uptoBulk d := by
  obtain ⟨a0, len, cap, rfl⟩ := okWide_slice Try.underlying42 hv
  obtain ⟨fuel, hf⟩ := h
  exact open_opsC (x := (d, p)) hf
set_option maxRecDepth 100000 in
theorem open_intsV {W : World} {base : Nat} {v : Value} {d : DataW H} {p : List MemPlace} (hv : Value.okWide Try.prog W .any base 23 v) (h : DataW.Trod enc Try.prog W 0 (fun _ => true) true 23 v d p) :
    ∃ (A : Option Addr) (n c : Nat) (zs : List Int), v = .slice A n c ∧ (A = none → n = 0 ∧ c = 0) ∧ Rd W W.heap.size 1 A n (intsV zs) ∧ n ≤ Rows.uptoBulk d := by
  obtain ⟨a0, len, cap, rfl⟩ := okWide_slice Try.underlying23 hv
  obtain ⟨fuel, hf⟩ := h
  obtain ⟨A, n, c, zs, e, _, h1, h2, _, h3⟩ := open_intsC (x := (d, p)) hf
  exact ⟨A, n, c, zs, e, h1, h2, h3⟩
end
end Go.Proofs.Ythgeppdoonbkpaa
