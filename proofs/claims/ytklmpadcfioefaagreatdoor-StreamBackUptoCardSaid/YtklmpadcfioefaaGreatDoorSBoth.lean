/- law 24's same and both: equal events are found equal (printed by gen_sboth.py). Conditions: sizes. -/
import Derived.Test.YtklmpadcfioefaaGreatDoorSSmug
import Derived.Test.YtklmpadcfioefaaGreatDoorSameG
namespace Go.Proofs.YtklmpadcfioefaaGreatDoor
open Go.RowKit

set_option maxHeartbeats 1000000 in
set_option maxRecDepth 100000 in
theorem ssame_any (A A' : Option Addr) (n c c' : Nat) (l : Bs) (w : World) (h1 : Rd w w.heap.size 1 A n (bytesV l)) (h2 : Rd w w.heap.size 1 A' n (bytesV l)) (hn : n ≤ 1000000000000) :
    Calls Tryz.prog 13 #[.slice A n c, .slice A' n c'] w fun e w' => e = .returned (.bool true) ∧ Below w.heap.size w w' := by
  have hlen : l.length = n := by have := h1.1; rw [bytesV_len] at this; omega
  go_enter Tryz.func13, Tryz.ntmps13
  go_wp2
  go_loopw [5] (fun i wr => ∃ k : Nat, k ≤ n ∧ i = .int .i64 k ∧ Below w.heap.size w wr) (fun i _ => n - (intOf i).toNat)
  case atStart => exact ⟨0, Nat.zero_le _, rfl, Below.refl _ _⟩
  case round =>
    obtain ⟨k, hk, rfl, hb⟩ := hrel
    by_cases hlt : k < n
    · obtain ⟨g, o, rfl, hg, hcell⟩ := h1.2 (by omega)
      obtain ⟨g', o', rfl, hg', hcell'⟩ := h2.2 (by omega)
      have hx := bytesV_get (l := l) (j := k) (by omega)
      have c1 : ∀ q, (wr.drewN q).cell? ⟨g, o + k, none⟩ = some (.int .u8 (l[k]'(by omega)).toNat) := fun q => (hb.cell (p := ⟨g, o + k, none⟩) hg).trans (hcell _ _ hx)
      have c2 : ∀ q, (wr.drewN q).cell? ⟨g', o' + k, none⟩ = some (.int .u8 (l[k]'(by omega)).toNat) := fun q => (hb.cell (p := ⟨g', o' + k, none⟩) hg').trans (hcell' _ _ hx)
      have d1 := c1 0
      have d2 := c2 0
      clear hcell hcell' hx
      go_wp2
      go_quiet (fail)
      go_wp2
      go_roundw
      case rel => exact ⟨k + 1, by omega, by go_num, below_drewN hb _⟩
      case measure => simp [intOf]; omega
    · go_wp2
      go_ret
      exact ⟨rfl, hb⟩

theorem Held.bl {W0 W : World} {X : Prop} (h : Below W0.heap.size W0 W ∧ X) : Below W0.heap.size W0 W := h.1
/-- an event that can be read -/
structure EvV (w : World) (e : EvE) : Prop where
  f : Row w 0 2 e.fv (eHd e.x).fs.length (fieldsV (flB (eHd e.x).fs))
  d : RowB w 0 e.dv (eData e.x)
theorem EvR.v {w : World} {base : Nat} {e : EvE} (h : EvR w base e) : EvV w e := ⟨h.f.mono (Nat.zero_le _), Row.mono h.d (Nat.zero_le _)⟩
theorem EvV.chg {w w' : World} {S : Nat → Prop} {e : EvE} (h : EvV w e) (hc : Chg S w w') (hs : ∀ k, e.own k → ¬ S k) : EvV w' e :=
  ⟨h.f.chg hc (fun k hk => hs k (.inl hk)), Row.chg h.d hc (fun k hk => hs k (.inr hk))⟩
theorem EvV.below {w w' : World} {e : EvE} (h : EvV w e) (hb : Below w.heap.size w w') : EvV w' e :=
  h.chg (S := fun _ => False) ((Chg.refl (fun _ => False) w).then_below hb) (fun _ _ x => x)
theorem EvV.lt {w : World} {e : EvE} {k : Nat} (h : EvV w e) (hk : e.own k) : k < w.heap.size := by
  rcases hk with x | x
  · exact (h.f.lt k x).2
  · exact (Row.lt h.d k x).2
end Go.Proofs.YtklmpadcfioefaaGreatDoor
