/- Pieces of bytes that came in, in memory: nil ones have no room. No condition. -/
import Derived.Test.YtklmpadcfioefaaDoorMA
import Derived.Test.YtklmpadcfioefaaDoorMB
namespace Go.Proofs.YtklmpadcfioefaaDoor
open Go.RowKit
/-- pieces: a slice of slices of bytes, all below block B -/
structure PcJ (w : World) (B : Nat) (A : Option Addr) (n : Nat) (ps : List Bs) : Prop where
  len : ps.length = n
  get : ∀ k (hk : k < ps.length), ∃ g o a c, A = some ⟨g, o, none⟩ ∧ g < B ∧ w.cell? ⟨g, o + k, none⟩ = some (.slice a ps[k].length c) ∧ ps[k].length ≤ c ∧ (a = none → ps[k].length = 0 ∧ c = 0) ∧ Rd w B 1 a ps[k].length (bytesV ps[k])
theorem PcJ.below {w w' : World} {B n : Nat} {A : Option Addr} {ps : List Bs} (h : PcJ w B A n ps) (hb : Below B w w') : PcJ w' B A n ps :=
  ⟨h.len, fun k hk => by
    obtain ⟨g, o, a, c, e, hg, hc, h1, h2, h3⟩ := h.get k hk
    exact ⟨g, o, a, c, e, hg, (hb.cell (p := ⟨g, o + k, none⟩) hg).trans hc, h1, h2, h3.below hb⟩⟩
def sizesJ (ps : List Bs) : Nat := (ps.map List.length).sum
theorem sizesJ_take (ps : List Bs) (k : Nat) (hk : k < ps.length) : sizesJ (ps.take (k + 1)) = sizesJ (ps.take k) + ps[k].length := by
  unfold sizesJ
  rw [List.take_succ_eq_append_getElem hk, List.map_append, List.sum_append]; simp
theorem sizesJ_le (ps : List Bs) (k : Nat) : sizesJ (ps.take k) ≤ sizesJ ps := by
  unfold sizesJ
  have h : (ps.map List.length).sum = ((ps.take k).map List.length).sum + ((ps.drop k).map List.length).sum := by
    rw [← List.sum_append, ← List.map_append, List.take_append_drop]
  omega
end Go.Proofs.YtklmpadcfioefaaDoor
