/- Pieces of bytes that came in, in memory: nil ones have no room. No condition. -/
import Derived.Test.YtklmpadcfioefaaGreatDoorMA
import Derived.Test.YtklmpadcfioefaaGreatDoorMB
namespace Go.Proofs.YtklmpadcfioefaaGreatDoor
open Go.RowKit
/-- pieces: a slice of slices of bytes, all below block B -/
structure PcJ (w : World) (B : Nat) (A : Option Addr) (n : Nat) (ps : List Bs) : Prop where
  len : ps.length = n
  get : ∀ k (hk : k < ps.length), ∃ g o a c, A = some ⟨g, o, none⟩ ∧ g < B ∧ w.cell? ⟨g, o + k, none⟩ = some (.slice a ps[k].length c) ∧ ps[k].length ≤ c ∧ (a = none → ps[k].length = 0 ∧ c = 0) ∧ Rd w B 1 a ps[k].length (bytesV ps[k])
theorem PcJ.below {w w' : World} {B n : Nat} {A : Option Addr} {ps : List Bs} (h : PcJ w B A n ps) (hb : Below B w w') : PcJ w' B A n ps :=
  ⟨h.len, fun k hk => by
    obtain ⟨g, o, a, c, e, hg, hc, h1, h2, h3⟩ := h.get k hk
    exact ⟨g, o, a, c, e, hg, (hb.cell (p := ⟨g, o + k, none⟩) hg).trans hc, h1, h2, h3.below hb⟩⟩
end Go.Proofs.YtklmpadcfioefaaGreatDoor
