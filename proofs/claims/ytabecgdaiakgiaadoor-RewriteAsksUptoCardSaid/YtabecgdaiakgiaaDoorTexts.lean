/- the law's 'texts': of the same texts. -/
import Derived.Test.YtabecgdaiakgiaaDoorFields
namespace Go.Proofs.YtabecgdaiakgiaaDoor
open Go.RowKit

theorem strsV_get {l : List ByteArray} {j : Nat} (h : j < l.length) : (strsV l)[j]? = some (.string l[j]) := by simp [strsV, h]

set_option maxHeartbeats 1000000 in
set_option maxRecDepth 100000 in
theorem texts_any (xs : List ByteArray) (A A' : Option Addr) (n c c' : Nat) (w : World) (h1 : Rd w w.heap.size 1 A n (strsV xs)) (h2 : Rd w w.heap.size 1 A' n (strsV xs)) (hn : n ≤ 16777216) :
    Calls Tryd.prog 37 #[.slice A n c, .slice A' n c'] w fun e w' => e = .returned (.bool true) ∧ Below w.heap.size w w' := by
  have hlen : xs.length = n := by have := h1.1; rw [strsV_len] at this; omega
  go_enter Tryd.func37, Tryd.ntmps37
  go_wp2
  go_loopw [5] (fun i wr => ∃ k : Nat, k ≤ n ∧ i = .int .i64 k ∧ Below w.heap.size w wr) (fun i _ => n - (intOf i).toNat)
  case atStart => exact ⟨0, Nat.zero_le _, rfl, Below.refl _ _⟩
  case round =>
    obtain ⟨k, hk, rfl, hb⟩ := hrel
    by_cases hlt : k < n
    · obtain ⟨g, o, rfl, hg, hcell⟩ := h1.2 (by omega)
      obtain ⟨g', o', rfl, hg', hcell'⟩ := h2.2 (by omega)
      have hx := strsV_get (l := xs) (j := k) (by omega)
      have c1 : ∀ q, (wr.drewN q).cell? ⟨g, o + k, none⟩ = some (.string xs[k]) := fun q => (hb.cell (p := ⟨g, o + k, none⟩) hg).trans (hcell _ _ hx)
      have c2 : ∀ q, (wr.drewN q).cell? ⟨g', o' + k, none⟩ = some (.string xs[k]) := fun q => (hb.cell (p := ⟨g', o' + k, none⟩) hg').trans (hcell' _ _ hx)
      have d1 := c1 0
      have d2 := c2 0
      clear hcell hcell' hx
      go_wp2
      go_quiet (fail)
      go_wp2
      go_roundw
      case rel => exact ⟨k + 1, by omega, by go_num, below_drewN hb _⟩
      case measure => simp [intOf]; omega
    · go_wp2
      go_ret
      exact ⟨rfl, hb⟩
end Go.Proofs.YtabecgdaiakgiaaDoor
