/- Messages that came in, opened. No condition. -/
import Derived.Test.YtklmpadcfioefaaGreatDoorMB
import Derived.Test.YtklmpadcfioefaaGreatDoorMX0
import Derived.Test.YtklmpadcfioefaaGreatDoorSBackQ
import Derived.Deep.Slices
namespace Go.Proofs.YtklmpadcfioefaaGreatDoor
open Go.ChangeShapes Go.WideShapes Go.ChangeAt Go.RowKit
instance : Inhabited MsgE := ⟨⟨false, ⟨#[]⟩, ⟨#[]⟩, 0, ⟨#[]⟩, 0, [], [], [], false, none, 0, 0, none, 0, 0, none, 0, 0, 0⟩⟩
theorem cellsMessage : Tryz.prog.cellsOf 55 = 10 := by kernel_rfl
theorem cellsInts : Tryz.prog.cellsOf 53 = 1 := by kernel_rfl
theorem cellsBytes2 : Tryz.prog.cellsOf 26 = 1 := by kernel_rfl
theorem pieceOf_len2 {zs : List Int} {n : Nat} (h : n ≤ zs.length) : ((zs.take n).map fun z => UInt8.ofNat z.toNat).length = n := by
  rw [List.length_map, List.length_take]; omega
section
variable {H : Type} {enc : TypeId × Value → H}
theorem bulk_pos (d : DataW H) : 1 ≤ Rows.uptoBulk d := by
  cases d with
  | lit l => cases l <;> simp [Rows.uptoBulk]
  | _ => simp [Rows.uptoBulk]
theorem open_bytesC {W : World} {fuel : Nat} {v : Value} {x : DataW H × List MemPlace} (h : DataW.trod enc Tryz.prog W 0 (fun _ => true) true fuel 26 [v] = some x) :
    ∃ (A : Option Addr) (n c : Nat) (l : Bs), v = .slice A n c ∧ n ≤ c ∧ (A = none → n = 0 ∧ c = 0) ∧ Rd W W.heap.size 1 A n (bytesV l) ∧ n ≤ Rows.uptoBulk x.1 := by
  rcases open_ints Tryz.underlying26 Tryz.underlying5 cellsU8 h with ⟨hcs, rfl⟩ | ⟨a, len, cap, zs, hcs, hb, hl, hm, hz, rfl, hcell, hwz⟩
  · injection hcs with e _
    exact ⟨none, 0, 0, [], e, Nat.le_refl _, fun _ => ⟨rfl, rfl⟩, Rd.nil _ _ _ _, Nat.zero_le _⟩
  · injection hcs with e _
    simp only [if_true] at hz
    refine ⟨some a, len, cap, (zs.take len).map fun z => UInt8.ofNat z.toNat, e, hl, (fun e => by cases e), ⟨by rw [bytesV_len, pieceOf_len2 (by omega)]; omega, fun h0 => ?_⟩, ?_⟩
    · obtain ⟨g, o, sp⟩ := a
      obtain rfl : sp = none := by simpa [Addr.add] using World.cell?_spot (hcell 0 (by omega))
      refine ⟨g, o, rfl, cell_lt (by have := hcell 0 (by omega); rw [Addr.add_lit] at this; exact this), fun j u hu => ?_⟩
      have hall : ∀ z ∈ zs.take len, 0 ≤ z ∧ z < 256 := fun z hz => wf_u8 (hwz z (List.mem_of_mem_take hz))
      rw [ints_bytes _ hall] at hu
      have hj : j < len := by
        have := (List.getElem?_eq_some_iff.1 hu).1
        simp at this
        omega
      have h1 := hcell j (by omega)
      rw [Addr.add_lit] at h1
      rw [h1]
      have : (List.map (Value.int .u8) (List.take len zs))[j]? = some (.int .u8 (zs.getD j 0)) := by
        simp [hj, List.getD, show j < zs.length by omega]
      rw [this] at hu
      exact hu
    · have h1 := bulk_len (lits (H := H) .u8 (zs.take len))
      have h2 : (lits (H := H) .u8 (zs.take len)).length = len := by unfold lits; rw [List.length_map, List.length_take]; omega
      simp only [Rows.uptoBulk]
      omega
theorem open_intsC {W : World} {fuel : Nat} {v : Value} {x : DataW H × List MemPlace} (h : DataW.trod enc Tryz.prog W 0 (fun _ => true) true fuel 53 [v] = some x) :
    ∃ (A : Option Addr) (n c : Nat) (zs : List Int), v = .slice A n c ∧ Rd W W.heap.size 1 A n (zs.map fun x => .int .i64 x) ∧ n ≤ Rows.uptoBulk x.1 := by
  rcases open_ints Tryz.underlying53 Tryz.underlying3 cellsInt h with ⟨hcs, rfl⟩ | ⟨a, len, cap, zs, hcs, hb, hl, hm, hz, rfl, hcell, hwz⟩
  · injection hcs with e _
    exact ⟨none, 0, 0, [], e, Rd.nil _ _ _ _, Nat.zero_le _⟩
  · injection hcs with e _
    simp only [if_true] at hz
    refine ⟨some a, len, cap, zs.take len, e, ⟨by rw [List.length_map, List.length_take]; omega, fun h0 => ?_⟩, ?_⟩
    · obtain ⟨g, o, sp⟩ := a
      obtain rfl : sp = none := by simpa [Addr.add] using World.cell?_spot (hcell 0 (by omega))
      refine ⟨g, o, rfl, cell_lt (by have := hcell 0 (by omega); rw [Addr.add_lit] at this; exact this), fun j u hu => ?_⟩
      have hj : j < len := by
        have := (List.getElem?_eq_some_iff.1 hu).1
        simp at this
        omega
      have h1 := hcell j (by omega)
      rw [Addr.add_lit] at h1
      rw [h1]
      have : ((zs.take len).map fun x => Value.int .i64 x)[j]? = some (.int .i64 (zs.getD j 0)) := by
        simp [hj, List.getD, show j < zs.length by omega]
      rw [this] at hu
      exact hu
    · have h1 := bulk_len (lits (H := H) .i64 (zs.take len))
      have h2 : (lits (H := H) .i64 (zs.take len)).length = len := by unfold lits; rw [List.length_map, List.length_take]; omega
      simp only [Rows.uptoBulk]
      omega
theorem head_bulk {W : World} {fuel : Nat} {cs : List Value} {x : DataW H × List MemPlace} (hf : DataW.trod enc Tryz.prog W 0 (fun _ => true) true fuel 52 cs = some x) : 8 ≤ Rows.uptoBulk x.1 := by
  obtain ⟨xs, k, _, hx, hl, hlen, each⟩ := DataW.trod_struct Tryz.underlying52 hf
  subst hx
  have h1 := bulk_len (xs.map (·.1))
  rw [List.length_map, hlen] at h1
  simp only [Rows.uptoBulk]
  simp at h1
  omega
set_option maxRecDepth 100000 in
theorem open_msg {W : World} {fuel : Nat} {cs : List Value} {x : DataW H × List MemPlace} (hf : DataW.trod enc Tryz.prog W 0 (fun _ => true) true fuel 55 cs = some x) : ∃ e : MsgE, cs = e.cells ∧ MsgOK W W.heap.size e ∧ e.z = Rows.uptoBulk x.1 := by
  obtain ⟨xs, k, _, hx, hl, hlen, each⟩ := DataW.trod_struct Tryz.underlying55 hf
  rw [cellsMessage] at hl
  match cs, hl, xs, hlen with
  | [a0, a1, a2, a3, a4, a5, a6, a7, a8, a9], _, [y0, y1, y2, y3], _ =>
    have e0 : DataW.trod enc Tryz.prog W 0 (fun _ => true) true k 52 (List.take (Tryz.prog.cellsOf 52) (List.drop 0 [a0, a1, a2, a3, a4, a5, a6, a7, a8, a9])) = [y0, y1, y2, y3][0]? := each 0 _ rfl
    have e1 : DataW.trod enc Tryz.prog W 0 (fun _ => true) true k 26 (List.take (Tryz.prog.cellsOf 26) (List.drop 7 [a0, a1, a2, a3, a4, a5, a6, a7, a8, a9])) = [y0, y1, y2, y3][1]? := each 1 _ rfl
    have e2 : DataW.trod enc Tryz.prog W 0 (fun _ => true) true k 53 (List.take (Tryz.prog.cellsOf 53) (List.drop 8 [a0, a1, a2, a3, a4, a5, a6, a7, a8, a9])) = [y0, y1, y2, y3][2]? := each 2 _ rfl
    have e3 : DataW.trod enc Tryz.prog W 0 (fun _ => true) true k 4 (List.take (Tryz.prog.cellsOf 4) (List.drop 9 [a0, a1, a2, a3, a4, a5, a6, a7, a8, a9])) = [y0, y1, y2, y3][3]? := each 3 _ rfl
    simp only [cellsHead, cellsInts, cellsBytes2, cellsBool, List.drop_zero, List.drop_succ_cons, List.take_succ_cons, List.take_zero, List.getElem?_cons_zero, List.getElem?_cons_succ] at e0 e1 e2 e3
    have h8 := head_bulk e0
    obtain ⟨rq, m, t, st, rs, mn, A, n, c, fs, r0, g1, g2, g3, g4, g5, g6, g7, g8, g9⟩ := open_headc e0
    obtain ⟨Ab, nb, cb, b, r1, b1, b2, b3, b4⟩ := open_bytesC e1
    obtain ⟨Ac, nc, cc, zs, r2, z1, z2⟩ := open_intsC e2
    obtain ⟨cd, r3, rfl⟩ := DataW.trod_bool Tryz.underlying4 e3
    simp only [List.cons.injEq, and_true] at r0 r3
    obtain ⟨rfl, rfl, rfl, rfl, rfl, rfl, rfl⟩ := r0
    subst r1 r2 r3
    subst hx
    have hb : Rows.uptoBulk (.agg ([y0, y1, y2, (DataW.lit (.bool cd), [])].map (·.1)) : DataW H) = Rows.uptoBulk y0.1 + (Rows.uptoBulk y1.1 + (Rows.uptoBulk y2.1 + (1 + 0))) + 1 := rfl
    have p1 := bulk_pos y1.1
    have p2 := bulk_pos y2.1
    refine ⟨⟨rq, m, t, st, rs, mn, fs, b, zs, cd, A, n, c, Ab, nb, cb, Ac, nc, cc, Rows.uptoBulk (.agg ([y0, y1, y2, (DataW.lit (.bool cd), [])].map (·.1)) : DataW H)⟩, rfl, ⟨g3, b3, z1, b1, b2, isInt_wf g4, isInt_wf g5, ?_, ?_, ?_, fun f hf => ?_, ?_, ?_, ?_⟩, rfl⟩
    all_goals dsimp only
    all_goals rw [hb]
    · omega
    · omega
    · omega
    · have := g9 f hf; omega
    · omega
    · omega
    · omega
set_option maxRecDepth 100000 in
theorem open_msgs {W : World} {base : Nat} {v : Value} {d : DataW H} {p : List MemPlace} (hv : Value.okWide Tryz.prog W .any base 47 v) (h : DataW.Trod enc Tryz.prog W 0 (fun _ => true) true 47 v d p) (hd : Rows.uptoBulk d ≤ 1048576) :
    ∃ (A : Option Addr) (n c : Nat) (L : List MsgE), v = .slice A n c ∧ MsgsR W A n L ∧ n ≤ 1048576 := by
  obtain ⟨a0, len0, cap0, rfl⟩ := okWide_slice Tryz.underlying47 hv
  obtain ⟨fuel, hf⟩ := h
  rcases Go.Deep.open_slice Tryz.underlying47 hf with ⟨hcs, hx⟩ | ⟨a, len, cap, m, k, D, Pl, hcs, hb, hl, hm, hmm, hx, each⟩
  · obtain ⟨rfl, rfl, rfl⟩ : a0 = none ∧ len0 = 0 ∧ cap0 = 0 := by simpa [Value.cells] using hcs
    exact ⟨none, 0, 0, [], rfl, ⟨rfl, fun h => by omega, fun e he => (by cases he), Nat.zero_le _⟩, Nat.zero_le _⟩
  · obtain ⟨rfl, rfl, rfl⟩ : a0 = some a ∧ len0 = len ∧ cap0 = cap := by simpa [Value.cells] using hcs
    have hlm : len0 ≤ m := by rw [hmm]; split <;> omega
    have hd0 : d = .slice ((List.range len0).map D) ((List.range (m - len0)).map fun j => D (len0 + j)) := by simpa using congrArg Prod.fst hx
    have each2 : ∀ i, i < len0 → ∃ e : MsgE, MsgOK W W.heap.size e ∧ e.z = Rows.uptoBulk (D i) ∧ ∀ j u, e.cells[j]? = some u → W.cell? ((a.add (i * 10)).add j) = some u := fun i hi => by
      obtain ⟨cs', h1, h2⟩ := each i (by omega)
      rw [cellsMessage] at h1
      obtain ⟨_, hlen, hcell⟩ := World.cells?_some h1
      obtain ⟨e, he, hok, hz⟩ := open_msg h2
      subst he
      refine ⟨e, hok, hz, fun j u hu => ?_⟩
      have hj : j < 10 := by have := (List.getElem?_eq_some_iff.1 hu).1; rw [hlen] at this; exact this
      rw [hcell j hj]
      exact hu
    obtain ⟨q, hq⟩ := Go.Deep.choose_lt each2
    have hsum : (((List.range len0).map q).map (·.z)).sum ≤ Rows.uptoBulk d := by
      rw [hd0, List.map_map]
      simp only [Rows.uptoBulk]
      have := bulk_sum D (fun i => (q i).z) len0 (fun r hr => Nat.le_of_eq (hq r hr).2.1)
      have e : ((fun x : MsgE => x.z) ∘ q) = fun i => (q i).z := rfl
      rw [e]
      omega
    have hbl : len0 ≤ Rows.uptoBulk d := by
      rw [hd0]
      simp only [Rows.uptoBulk]
      have := bulk_len ((List.range len0).map D)
      rw [List.length_map, List.length_range] at this
      omega
    refine ⟨some a, len0, cap0, (List.range len0).map q, rfl, ⟨by simp, fun h0 => ?_, fun e he => ?_, by omega⟩, by omega⟩
    · obtain ⟨g, o, sp⟩ := a
      have hc0 := (hq 0 h0).2.2 0 _ rfl
      obtain rfl : sp = none := by simpa [Addr.add] using World.cell?_spot hc0
      rw [Addr.add_lit, Addr.add_lit] at hc0
      refine ⟨g, o, rfl, cell_lt hc0, fun k hk j u hu => ?_⟩
      have hk' : k < len0 := by simpa using hk
      simp only [List.getElem_map, List.getElem_range] at hu
      have h1 := (hq k hk').2.2 j u hu
      rw [Addr.add_lit, Addr.add_lit] at h1
      exact h1
    · obtain ⟨i, hi, rfl⟩ := List.mem_map.1 he
      exact (hq i (List.mem_range.1 hi)).1
end
end Go.Proofs.YtklmpadcfioefaaGreatDoor
