/- the disk's dies, last and done (where nothing dies), at the cells. Conditions: none. -/
import Derived.Test.YthgeppdoonbkpaaDskW
namespace Go.Proofs.Ythgeppdoonbkpaa
open Go.RowKit
theorem ddies_none {w : World} {db : Nat} (hc : w.cell? ⟨db, 4, none⟩ = some (.pointer none)) :
    Calls Try.prog 37 #[.pointer (some ⟨db, 0, none⟩)] w fun e w' => e = .returned (.bool false) ∧ Below w.heap.size w w' := by
  go_enter Try.func37, Try.ntmps37
  go_wp2
  go_ret
  exact ⟨rfl, Below.refl _ _⟩
theorem ddies_some {w : World} {db ab k : Nat} (hc : w.cell? ⟨db, 4, none⟩ = some (.pointer (some ⟨ab, 0, none⟩))) (ha : w.cell? ⟨ab, 0, none⟩ = some (.int .i64 (k : Int))) :
    Calls Try.prog 37 #[.pointer (some ⟨db, 0, none⟩)] w fun e w' => e = .returned (.bool (decide ((k : Int) = 0))) ∧ Below w.heap.size w w' := by
  go_enter Try.func37, Try.ntmps37
  go_wp2
  go_ret
  exact ⟨rfl, Below.refl _ _⟩
theorem dlast_any {w : World} {fb : Nat} {A0 A1 A2 : Option Addr} {n0 n1 n2 c0 c1 c2 : Nat} {t : TypeId} (hv : Var w fb t [.slice A0 n0 c0, .slice A1 n1 c1, .slice A2 n2 c2]) :
    Calls Try.prog 38 #[.pointer (some ⟨fb, 0, none⟩)] w fun e w' => e = .returned (.tuple #[]) ∧ w' = (w.setCell ⟨fb, 0, none⟩ (.slice A1 n1 c1)).setCell ⟨fb, 2, none⟩ (.slice none 0 0) := by
  have h0 := hv.cell (j := 0) rfl
  have h1 := hv.cell (j := 1) rfl
  have h2 := hv.cell (j := 2) rfl
  have f0 := hv.frozen 0
  have f2 := hv.frozen 2
  go_enter Try.func38, Try.ntmps38
  go_wp2
  go_end0
  exact ⟨rfl, rfl⟩
theorem ddone_none {w : World} {db : Nat} (hc : w.cell? ⟨db, 4, none⟩ = some (.pointer none)) :
    Calls Try.prog 39 #[.pointer (some ⟨db, 0, none⟩)] w fun e w' => e = .returned (.int .i64 0) ∧ Below w.heap.size w w' := by
  go_enter Try.func39, Try.ntmps39
  go_wp2
  go_ret
  exact ⟨rfl, Below.refl _ _⟩
theorem ddone_more {w : World} {db ab k : Nat} (hc : w.cell? ⟨db, 4, none⟩ = some (.pointer (some ⟨ab, 0, none⟩))) {cv : Value} {t : TypeId} (hv : Var w ab t [.int .i64 ((k + 1 : Nat) : Int), cv]) (hk : k ≤ 1000000000000) :
    Calls Try.prog 39 #[.pointer (some ⟨db, 0, none⟩)] w fun e w' => e = .returned (.int .i64 0) ∧ w' = w.setCell ⟨ab, 0, none⟩ (.int .i64 (k : Int)) := by
  have ha := hv.cell (j := 0) rfl
  have f0 := hv.frozen 0
  go_enter Try.func39, Try.ntmps39
  go_wp2
  go_ret
  exact ⟨rfl, rfl⟩
end Go.Proofs.Ythgeppdoonbkpaa
