/- the reference's trimmed, ended, size. Condition: sizes. -/
import Derived.Test.YtabecgdaiakgiaaDoorCByte
import Derived.Test.YtabecgdaiakgiaaDoorMA
namespace Go.Proofs.YtabecgdaiakgiaaDoor
open Go.RowKit

theorem results_tmp2s : True := trivial
/-- a byte of what came in -/
theorem byte_cell {w : World} {B g o n : Nat} {l : Bs} (h : Rd w B 1 (some ⟨g, o, none⟩) n (bytesV l)) (k : Nat) (hk : k < l.length) : w.cell? ⟨g, o + k, none⟩ = some (.int .u8 (l[k].toNat : Int)) := by
  have hl : l.length = n := by have := h.1; rw [bytesV_len] at this; omega
  obtain ⟨g', o', e, _, hc⟩ := h.2 (by omega)
  injection e with e
  injection e with e1 e2 _
  subst e1 e2
  exact hc k _ (bytesV_get hk)
theorem drop_cons {l : Bs} {k : Nat} (h : k < l.length) : l.drop k = l[k] :: l.drop (k + 1) := List.drop_eq_getElem_cons h

end Go.Proofs.YtabecgdaiakgiaaDoor
