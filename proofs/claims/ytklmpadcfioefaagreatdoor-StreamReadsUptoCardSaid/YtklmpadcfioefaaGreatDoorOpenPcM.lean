/- Pieces with methods that came in, opened. No condition. -/
import Derived.Test.YtklmpadcfioefaaGreatDoorOpenByC
import Derived.Test.YtklmpadcfioefaaGreatDoorMA
import Derived.Deep.Slices
import Derived.Test.YtklmpadcfioefaaGreatDoorSRds
namespace Go.Proofs.YtklmpadcfioefaaGreatDoor
open Go.ChangeShapes Go.WideShapes Go.ChangeAt Go.RowKit
theorem cellsLPiece : Tryz.prog.cellsOf 31 = 2 := by kernel_rfl
theorem cellsStrs1 : Tryz.prog.cellsOf 27 = 1 := by kernel_rfl
/-- a piece and where its lists lie -/
structure PcV where
  p : Pc
  a : Option Addr
  cd : Nat
  a2 : Option Addr
  c2 : Nat
instance : Inhabited PcV := ⟨⟨⟨[], []⟩, none, 0, none, 0⟩⟩
section
variable {H : Type} {enc : TypeId × Value → H}
set_option maxRecDepth 100000 in
theorem open_pc {W : World} {fuel : Nat} {cs : List Value} {x : DataW H × List MemPlace} (hf : DataW.trod enc Tryz.prog W 0 (fun _ => true) true fuel 31 cs = some x) :
    ∃ e : PcV, cs = [.slice e.a e.p.d.length e.cd, .slice e.a2 e.p.ms.length e.c2] ∧ (e.a = none → e.p.d.length = 0) ∧ Rd W W.heap.size 1 e.a e.p.d.length (bytesV e.p.d) ∧ Rd W W.heap.size 1 e.a2 e.p.ms.length (strsV e.p.ms) ∧ e.p.d.length + e.p.ms.length ≤ Rows.uptoBulk x.1 := by
  obtain ⟨xs, k, _, hx, hl, hlen, each⟩ := DataW.trod_struct Tryz.underlying31 hf
  rw [cellsLPiece] at hl
  match cs, hl, xs, hlen with
  | [a0, a1], _, [y0, y1], _ =>
    have e0 : DataW.trod enc Tryz.prog W 0 (fun _ => true) true k 26 (List.take (Tryz.prog.cellsOf 26) (List.drop 0 [a0, a1])) = [y0, y1][0]? := each 0 _ rfl
    have e1 : DataW.trod enc Tryz.prog W 0 (fun _ => true) true k 27 (List.take (Tryz.prog.cellsOf 27) (List.drop 1 [a0, a1])) = [y0, y1][1]? := each 1 _ rfl
    simp only [cellsBytes2, cellsStrs1, List.drop_zero, List.drop_succ_cons, List.take_succ_cons, List.take_zero, List.getElem?_cons_zero, List.getElem?_cons_succ] at e0 e1
    obtain ⟨Ab, nb, cb, b, r1, _, b2, b3, b4⟩ := open_bytesC e0
    obtain ⟨As, ns, cs', vs, r2, _, _, s3, s4, _, _⟩ := open_texts e1
    have hb : b.length = nb := by have := b3.1; rw [bytesV_len] at this; omega
    have hs : vs.length = ns := by have := s3.1; rw [strsV_len] at this; omega
    subst hb hs
    subst r1 r2
    subst hx
    have hbk : Rows.uptoBulk (.agg ([y0, y1].map (·.1)) : DataW H) = Rows.uptoBulk y0.1 + (Rows.uptoBulk y1.1 + 0) + 1 := rfl
    refine ⟨⟨⟨b, vs⟩, Ab, cb, As, cs'⟩, rfl, fun e => (b2 e).1, b3, s3, ?_⟩
    rw [hbk]
    dsimp only at b4 s4 ⊢
    omega
set_option maxRecDepth 100000 in
theorem open_pcs {W : World} {base : Nat} {v : Value} {d : DataW H} {p : List MemPlace} (hv : Value.okWide Tryz.prog W .any base 22 v) (h : DataW.Trod enc Tryz.prog W 0 (fun _ => true) true 22 v d p) (hd : Rows.uptoBulk d ≤ 1048576) :
    ∃ (A : Option Addr) (n c : Nat) (ps : List Pc), v = .slice A n c ∧ PcM W W.heap.size A n ps ∧ n ≤ 1048576 ∧ wtM ps ≤ 1048576 := by
  obtain ⟨a0, len0, cap0, rfl⟩ := okWide_slice Tryz.underlying22 hv
  obtain ⟨fuel, hf⟩ := h
  rcases Go.Deep.open_slice Tryz.underlying22 hf with ⟨hcs, hx⟩ | ⟨a, len, cap, m, k, D, Pl, hcs, hb, hl, hm, hmm, hx, each⟩
  · obtain ⟨rfl, rfl, rfl⟩ : a0 = none ∧ len0 = 0 ∧ cap0 = 0 := by simpa [Value.cells] using hcs
    exact ⟨none, 0, 0, [], rfl, ⟨rfl, fun k hk => absurd hk (by simp)⟩, Nat.zero_le _, Nat.zero_le _⟩
  · obtain ⟨rfl, rfl, rfl⟩ : a0 = some a ∧ len0 = len ∧ cap0 = cap := by simpa [Value.cells] using hcs
    have hlm : len0 ≤ m := by rw [hmm]; split <;> omega
    have hd0 : d = .slice ((List.range len0).map D) ((List.range (m - len0)).map fun j => D (len0 + j)) := by simpa using congrArg Prod.fst hx
    have each2 : ∀ i, i < len0 → ∃ e : PcV, ((e.a = none → e.p.d.length = 0) ∧ Rd W W.heap.size 1 e.a e.p.d.length (bytesV e.p.d) ∧ Rd W W.heap.size 1 e.a2 e.p.ms.length (strsV e.p.ms)) ∧ e.p.d.length + e.p.ms.length ≤ Rows.uptoBulk (D i) ∧
        W.cell? ((a.add (i * 2)).add 0) = some (.slice e.a e.p.d.length e.cd) ∧ W.cell? ((a.add (i * 2)).add 1) = some (.slice e.a2 e.p.ms.length e.c2) := fun i hi => by
      obtain ⟨cs', h1, h2⟩ := each i (by omega)
      rw [cellsLPiece] at h1
      obtain ⟨_, hlen, hcell⟩ := World.cells?_some h1
      obtain ⟨e, he, k1, k2, k3, k4⟩ := open_pc h2
      subst he
      refine ⟨e, ⟨k1, k2, k3⟩, k4, ?_, ?_⟩
      · rw [hcell 0 (by decide)]; rfl
      · rw [hcell 1 (by decide)]; rfl
    obtain ⟨q, hq⟩ := Go.Deep.choose_lt each2
    have hsum : wtM ((List.range len0).map fun i => (q i).p) ≤ Rows.uptoBulk d := by
      rw [hd0]
      unfold wtM
      rw [List.map_map]
      simp only [Rows.uptoBulk]
      have := bulk_sum D (fun i => (q i).p.d.length + (q i).p.ms.length) len0 (fun r hr => (hq r hr).2.1)
      have e : ((fun p : Pc => p.d.length + p.ms.length) ∘ fun i => (q i).p) = fun i => (q i).p.d.length + (q i).p.ms.length := rfl
      rw [e]
      omega
    have hbl : len0 ≤ Rows.uptoBulk d := by
      rw [hd0]
      simp only [Rows.uptoBulk]
      have := bulk_len ((List.range len0).map D)
      rw [List.length_map, List.length_range] at this
      omega
    refine ⟨some a, len0, cap0, (List.range len0).map fun i => (q i).p, rfl, ⟨by simp, fun k hk => ?_⟩, by omega, by omega⟩
    have hk' : k < len0 := by simpa using hk
    obtain ⟨⟨k1, k2, k3⟩, _, k5, k6⟩ := hq k hk'
    obtain ⟨g, o, sp⟩ := a
    have hc0 := (hq 0 (by omega)).2.2.1
    obtain rfl : sp = none := by simpa [Addr.add] using World.cell?_spot hc0
    clear hc0
    rw [Addr.add_lit, Addr.add_lit] at k5 k6
    simp only [List.getElem_map, List.getElem_range]
    exact ⟨g, o, (q k).a, (q k).cd, (q k).a2, (q k).c2, rfl, cell_lt k5, k5, k1, k2, k6, k3⟩
end
end Go.Proofs.YtklmpadcfioefaaGreatDoor
