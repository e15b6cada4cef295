/- the law StreamSmuggles (printed by gen_ssmug.py). Conditions: the size, the world's shape. -/
import Derived.Test.YtklmpadcfioefaaGreatDoorSAwake
import Derived.Test.YtklmpadcfioefaaGreatDoorSSmgP
import Derived.Test.YtklmpadcfioefaaGreatDoorMB
import Derived.Test.YtklmpadcfioefaaGreatDoorMA
import Derived.Deep.RegionHeld3
namespace Go.Proofs.YtklmpadcfioefaaGreatDoor
open Go.RowKit

theorem EvE.len (e : EvE) : e.cells.length = 11 := rfl
theorem evs_len : ∀ L : List EvE, (L.flatMap EvE.cells).length = L.length * 11
  | [] => rfl
  | e :: L => by rw [List.flatMap_cons, List.length_append, evs_len L, EvE.len, List.length_cons]; omega
theorem evs_get : ∀ (L : List EvE) (i j : Nat) (hi : i < L.length) (_ : j < 11), (L.flatMap EvE.cells)[i * 11 + j]? = (L[i].cells)[j]?
  | e :: L, 0, j, _, hj => by
    rw [List.flatMap_cons, Nat.zero_mul, Nat.zero_add, List.getElem?_append_left (by rw [EvE.len]; exact hj)]; rfl
  | e :: L, i + 1, j, hi, hj => by
    rw [List.flatMap_cons, List.getElem?_append_right (by rw [EvE.len]; omega), EvE.len, show (i + 1) * 11 + j - 11 = i * 11 + j by omega]
    exact evs_get L i j (by simpa using hi) hj
end Go.Proofs.YtklmpadcfioefaaGreatDoor
