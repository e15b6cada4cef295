/- Pieces of bytes that came in: a slice of slices, out of the second form's bound. No condition. -/
import Derived.Test.YtklmpadcfioefaaDoorMA
import Derived.Test.YtklmpadcfioefaaDoorPcJ
import Derived.Deep.Matrix
namespace Go.Proofs.YtklmpadcfioefaaDoor
open Go.ChangeShapes Go.WideShapes Go.ChangeAt Go.RowKit

theorem cellsBytes : Tryd.prog.cellsOf 22 = 1 := by kernel_rfl
section
variable {H : Type} {enc : TypeId × Value → H}
def pieceOf (zs : List Int) (n : Nat) : Bs := (zs.take n).map fun z => UInt8.ofNat z.toNat
theorem bulk_row (k : IntKind) (A : Option Addr) (L : Nat) (zs : List Int) (hA : A = none → zs.length = 0) : zs.length ≤ Rows.uptoBulk (Go.Deep.intRow (H := H) k A L zs) := by
  cases A with
  | none => rw [hA rfl]; exact Nat.zero_le _
  | some a =>
    simp only [Go.Deep.intRow, Rows.uptoBulk]
    have h1 := bulk_len (lits (H := H) k (zs.take L))
    have h2 := bulk_len (lits (H := H) k (zs.drop L))
    have e1 : (lits (H := H) k (zs.take L)).length = min L zs.length := by unfold lits; rw [List.length_map, List.length_take]
    have e2 : (lits (H := H) k (zs.drop L)).length = zs.length - L := by unfold lits; rw [List.length_map, List.length_drop]
    omega
theorem bulk_sum (f : Nat → DataW H) (m : Nat → Nat) : ∀ n : Nat, (∀ r, r < n → m r ≤ Rows.uptoBulk (f r)) → ((List.range n).map m).sum ≤ Rows.uptoBulkAll ((List.range n).map f) := by
  have app : ∀ (a b : List (DataW H)), Rows.uptoBulkAll (a ++ b) = Rows.uptoBulkAll a + Rows.uptoBulkAll b := by
    intro a b
    induction a with
    | nil => simp [Rows.uptoBulkAll]
    | cons x r ih => simp only [List.cons_append, Rows.uptoBulkAll, ih]; omega
  intro n
  induction n with
  | zero => intro _; simp
  | succ n ih =>
    intro h
    have h1 := ih fun r hr => h r (by omega)
    have h2 := h n (by omega)
    rw [List.range_succ, List.map_append, List.map_append, List.sum_append, app]
    simp only [List.map_cons, List.map_nil, List.sum_cons, List.sum_nil, Rows.uptoBulkAll]
    omega
theorem ints_bytes (xs : List Int) (h : ∀ z ∈ xs, 0 ≤ z ∧ z < 256) : bytesV (xs.map fun z => UInt8.ofNat z.toNat) = xs.map (Value.int .u8) := by
  induction xs with
  | nil => rfl
  | cons z xs ih =>
    have i1 := ih fun y hy => h y (by simp [hy])
    have h0 := h z (by simp)
    have e : ((UInt8.ofNat z.toNat).toNat : Int) = z := by
      rw [UInt8.toNat_ofNat', Nat.mod_eq_of_lt (by omega)]; omega
    simp only [bytesV, List.map_cons, e] at i1 ⊢
    rw [i1]
theorem pieceOf_len {zs : List Int} {n : Nat} (h : n ≤ zs.length) : (pieceOf zs n).length = n := by
  unfold pieceOf; rw [List.length_map, List.length_take]; omega
set_option maxRecDepth 100000 in
theorem open_piecesJ {W : World} {base : Nat} {v : Value} {d : DataW H} {p : List MemPlace} (hv : Value.okWide Tryd.prog W .any base 44 v) (h : DataW.Trod enc Tryd.prog W 0 (fun _ => true) true 44 v d p) :
    ∃ (A : Option Addr) (n c : Nat) (ps : List Bs), v = .slice A n c ∧ n ≤ c ∧ (A = none → n = 0) ∧ PcJ W W.heap.size A n ps ∧ n ≤ Rows.uptoBulk d ∧ sizesJ ps ≤ Rows.uptoBulk d := by
  obtain ⟨a0, len0, cap0, rfl⟩ := okWide_slice Tryd.underlying44 hv
  obtain ⟨fuel, hf⟩ := h
  rcases Go.Deep.open_int_rows Tryd.underlying44 Tryd.underlying22 Tryd.underlying5 cellsBytes cellsU8 hf with ⟨hcs, hx⟩ | ⟨a, len, cap, A, L, C, Z, hcs, hb, hl, hm, hx, hcell⟩
  · obtain ⟨rfl, rfl, rfl⟩ : a0 = none ∧ len0 = 0 ∧ cap0 = 0 := by simpa [Value.cells] using hcs
    exact ⟨none, 0, 0, [], rfl, Nat.le_refl _, fun _ => rfl, ⟨rfl, fun k hk => by simp at hk⟩, Nat.zero_le _, Nat.zero_le _⟩
  · obtain ⟨rfl, rfl, rfl⟩ : a0 = some a ∧ len0 = len ∧ cap0 = cap := by simpa [Value.cells] using hcs
    have hlen : ((List.range len0).map fun r => pieceOf (Z r) (L r)).length = len0 := by simp
    have hd : d = .slice ((List.range len0).map fun r => Go.Deep.intRow .u8 (A r) (L r) (Z r)) ((List.range (cap0 - len0)).map fun j => Go.Deep.intRow .u8 (A (len0 + j)) (L (len0 + j)) (Z (len0 + j))) := by simpa using congrArg Prod.fst hx
    refine ⟨some a, len0, cap0, (List.range len0).map fun r => pieceOf (Z r) (L r), rfl, hl, (fun e => by cases e), ⟨hlen, fun k hk => ?_⟩, ?_, ?_⟩
    · have hk' : k < len0 := by rw [hlen] at hk; exact hk
      obtain ⟨c1, c2, c3, c4, c5, c6, c7⟩ := hcell k (by omega)
      have ek : ((List.range len0).map fun r => pieceOf (Z r) (L r))[k] = pieceOf (Z k) (L k) := by simp
      rw [ek]
      have hpl : (pieceOf (Z k) (L k)).length = L k := pieceOf_len (by omega)
      rw [hpl]
      obtain ⟨g, o, sp⟩ := a
      obtain rfl : sp = none := by simpa [Addr.add] using World.cell?_spot (hcell 0 (by omega)).1
      rw [Addr.add_lit] at c1
      refine ⟨g, o, A k, C k, rfl, cell_lt c1, c1, c2, (fun e => by have := c6 e; omega), ⟨by rw [bytesV_len, hpl]; omega, fun h0 => ?_⟩⟩
      cases hA : A k with
      | none => have := c6 hA; omega
      | some a' =>
        obtain ⟨_, hc⟩ := c7 a' hA
        obtain ⟨g', o', sp'⟩ := a'
        obtain rfl : sp' = none := by simpa [Addr.add] using World.cell?_spot (hc 0 (by omega))
        refine ⟨g', o', rfl, cell_lt (by have := hc 0 (by omega); rw [Addr.add_lit] at this; exact this), fun j u hu => ?_⟩
        have hall : ∀ z ∈ (Z k).take (L k), 0 ≤ z ∧ z < 256 := fun z hz => wf_u8 (c5 z (List.mem_of_mem_take hz))
        unfold pieceOf at hu
        rw [ints_bytes _ hall] at hu
        have hj : j < L k := by
          have := (List.getElem?_eq_some_iff.1 hu).1
          simp at this
          omega
        have h1 := hc j (by omega)
        rw [Addr.add_lit] at h1
        rw [h1]
        have : (List.map (Value.int .u8) (List.take (L k) (Z k)))[j]? = some (.int .u8 ((Z k).getD j 0)) := by
          simp [hj, List.getD, show j < (Z k).length by omega]
        rw [this] at hu
        exact hu
    · rw [hd]
      simp only [Rows.uptoBulk]
      have := bulk_len ((List.range len0).map fun r => Go.Deep.intRow (H := H) .u8 (A r) (L r) (Z r))
      rw [List.length_map, List.length_range] at this
      omega
    · rw [hd]
      simp only [Rows.uptoBulk]
      have := bulk_sum (fun r => Go.Deep.intRow (H := H) .u8 (A r) (L r) (Z r)) (fun r => (pieceOf (Z r) (L r)).length) len0 (fun r hr => by
        obtain ⟨c1, c2, c3, c4, c5, c6, c7⟩ := hcell r (by omega)
        have h1 := bulk_row (H := H) .u8 (A r) (L r) (Z r) (fun e => by have := c6 e; omega)
        have h2 : (pieceOf (Z r) (L r)).length = L r := pieceOf_len (by omega)
        omega)
      have e : sizesJ ((List.range len0).map fun r => pieceOf (Z r) (L r)) = ((List.range len0).map fun r => (pieceOf (Z r) (L r)).length).sum := by
        unfold sizesJ; rw [List.map_map]; rfl
      omega
end
end Go.Proofs.YtklmpadcfioefaaDoor
