/- the law's lent, same, kept, num. Conditions: sizes. -/
import Derived.Test.YtabecgdaiakgiaaDoorParse
import Derived.Test.YtabecgdaiakgiaaDoorSmug
import Derived.Laws.MakeOwn
namespace Go.Proofs.YtabecgdaiakgiaaDoor
open Go.RowKit

set_option maxHeartbeats 1000000 in
set_option maxRecDepth 100000 in
theorem same_any (A A' : Option Addr) (n c c' : Nat) (l : Bs) (w : World) (h1 : Rd w w.heap.size 1 A n (bytesV l)) (h2 : Rd w w.heap.size 1 A' n (bytesV l)) (hn : n ≤ 16777216) :
    Calls Tryd.prog 40 #[.slice A n c, .slice A' n c'] w fun e w' => e = .returned (.bool true) ∧ Below w.heap.size w w' := by
  have hlen : l.length = n := by have := h1.1; rw [bytesV_len] at this; omega
  go_enter Tryd.func40, Tryd.ntmps40
  go_wp2
  go_loopw [5] (fun i wr => ∃ k : Nat, k ≤ n ∧ i = .int .i64 k ∧ Below w.heap.size w wr) (fun i _ => n - (intOf i).toNat)
  case atStart => exact ⟨0, Nat.zero_le _, rfl, Below.refl _ _⟩
  case round =>
    obtain ⟨k, hk, rfl, hb⟩ := hrel
    by_cases hlt : k < n
    · obtain ⟨g, o, rfl, hg, hcell⟩ := h1.2 (by omega)
      obtain ⟨g', o', rfl, hg', hcell'⟩ := h2.2 (by omega)
      have hx := bytesV_get (l := l) (j := k) (by omega)
      have c1 : ∀ q, (wr.drewN q).cell? ⟨g, o + k, none⟩ = some (.int .u8 (l[k]'(by omega)).toNat) := fun q => (hb.cell (p := ⟨g, o + k, none⟩) hg).trans (hcell _ _ hx)
      have c2 : ∀ q, (wr.drewN q).cell? ⟨g', o' + k, none⟩ = some (.int .u8 (l[k]'(by omega)).toNat) := fun q => (hb.cell (p := ⟨g', o' + k, none⟩) hg').trans (hcell' _ _ hx)
      have d1 := c1 0
      have d2 := c2 0
      clear hcell hcell' hx
      go_wp2
      go_quiet (fail)
      go_wp2
      go_roundw
      case rel => exact ⟨k + 1, by omega, by go_num, below_drewN hb _⟩
      case measure => simp [intOf]; omega
    · go_wp2
      go_ret
      exact ⟨rfl, hb⟩

end Go.Proofs.YtabecgdaiakgiaaDoor
