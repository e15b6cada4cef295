/- the disk's done, dies; a change of the directory, a change of a file. Conditions: sizes. -/
import Derived.Test.YthgeppdoonbkpaaDskN
import Derived.Test.YthgeppdoonbkpaaDskCr
namespace Go.Proofs.Ythgeppdoonbkpaa
open Go.RowKit Go.Maps Go.WideMaps
section
variable {w : World} {db : Nat} {F : Nat → Nat} {ρ : Roles} {s : Dsk.St} {T : Nat}
theorem Out.after' {w1 w' : World} {ρ1 : Roles} {s' : Dsk.St} {T' : Nat} (h : Step ρ ρ1 Mut w w1) (k : Out w1 db ρ1 s' T' w') : Out w db ρ s' T' w' := by
  obtain ⟨F', ρ', hm, hs⟩ := k
  exact ⟨F', ρ', hm, h.trans hs⟩
theorem Mem.more {T' : Nat} (hm : Mem w db F ρ s T) (h : T ≤ T') : Mem w db F ρ s T' := by
  obtain ⟨lb, nb, ln, nn, vl, va, hv, ⟨l1, l2, l3⟩, ⟨n1, n2, n3⟩, hmv, ha⟩ := hm.get
  exact ⟨hm.lt, hm.disk, ⟨lb, nb, ln, nn, vl, va, hv, ⟨l1, l2, Nat.le_trans l3 h⟩, ⟨n1, n2, Nat.le_trans n3 h⟩, hmv, ha⟩, hm.file, hm.fit.more h⟩
theorem Out.more {w' : World} {T' : Nat} (ho : Out w db ρ s T w') (h : T ≤ T') : Out w db ρ s T' w' := by
  obtain ⟨F', ρ', hm, hs⟩ := ho
  exact ⟨F', ρ', hm.more h, hs⟩
/-- what was turned before was nobody's -/
theorem Out.from {w1 w' : World} {s' : Dsk.St} {T' : Nat} (hb : Below w.heap.size w w1) (k : Out w1 db ρ s' T' w') : Out w db ρ s' T' w' := Out.after' (Step.of_below hb) k
theorem Out.below {w' : World} (hm : Mem w db F ρ s T) (hb : Below w.heap.size w w') : Out w db ρ s T w' := ⟨F, ρ, hm.below hb, Step.of_below hb⟩
theorem Out.after {w1 w' : World} {ρ1 : Roles} {s' : Dsk.St} {T' : Nat} (h : Step ρ ρ1 Mut w w1) (k : Out w1 db ρ1 s' T' w') : Out w db ρ s' T' w' := by
  obtain ⟨F', ρ', hm, hs⟩ := k
  exact ⟨F', ρ', hm, h.trans hs⟩
theorem ddies_any (hm : Mem w db F ρ s T) : Calls Try.prog 37 #[.pointer (some ⟨db, 0, none⟩)] w fun e w' => e = .returned (.bool (Dsk.dies s)) ∧ Below w.heap.size w w' := by
  obtain ⟨lb, nb, ln, nn, vl, va, hv, _, _, _, ha⟩ := hm.get
  have e4 := hv.cell (j := 4) rfl
  match h : s.arm, ha with
  | none, ha =>
    have hd : Dsk.dies s = false := by unfold Dsk.dies; rw [h]
    rw [hd]
    obtain rfl : va = .pointer none := ha
    exact ddies_none e4
  | some (k, cs), ha =>
    obtain ⟨ab, v, rfl, _, hva, _⟩ := ha
    have hd : Dsk.dies s = decide ((k : Int) = 0) := by
      unfold Dsk.dies
      rw [h]
      cases k with
      | zero => rfl
      | succ k => rw [eq_comm]; exact decide_eq_false (by omega)
    rw [hd]
    exact ddies_some e4 (hva.cell (j := 0) rfl)
theorem ddone_less {w : World} {db ab k : Nat} (hc : w.cell? ⟨db, 4, none⟩ = some (.pointer (some ⟨ab, 0, none⟩))) {cv : Value} {t : TypeId} (hv : Var w ab t [.int .i64 ((k + 1 : Nat) : Int), cv]) (hk : k + 1 ≤ 9223372036854775807) :
    Calls Try.prog 39 #[.pointer (some ⟨db, 0, none⟩)] w fun e w' => e = .returned (.int .i64 0) ∧ w' = w.setCell ⟨ab, 0, none⟩ (.int .i64 (k : Int)) := by
  have hw : IntKind.i64.wrap (((k + 1 : Nat) : Int) - 1) = (k : Int) := by
    rw [show ((k + 1 : Nat) : Int) - 1 = (k : Int) by omega]
    exact IntWalk.i64_in _ (by omega)
  obtain ⟨z, hz⟩ : ∃ z : Int, z = ((k + 1 : Nat) : Int) := ⟨_, rfl⟩
  have hz0 : 0 < z := by omega
  rw [← hz] at hv hw
  have ha := hv.cell (j := 0) rfl
  have f0 := hv.frozen 0
  clear hz hk
  go_enter Try.func39, Try.ntmps39
  go_wp2
  go_ret
  exact ⟨rfl, rfl⟩
set_option maxHeartbeats 1000000 in
set_option maxRecDepth 100000 in
theorem ddone_any (hm : Mem w db F ρ s T) (hT : T ≤ 100000) (hd : s.down = false) : Calls Try.prog 39 #[.pointer (some ⟨db, 0, none⟩)] w fun e w' => e = .returned (.int .i64 ((Dsk.done s).2 : Nat)) ∧ Out w db ρ (Dsk.done s).1 T w' := by
  have HM := Lib.hid hm
  obtain ⟨lb, nb, ln, nn, vl, va, hv, hl, hn, hmv, ha⟩ := hm.get
  have e4 := hv.cell (j := 4) rfl
  match h : s.arm, ha with
  | none, ha =>
    have hd : Dsk.done s = (s, 0) := by unfold Dsk.done; rw [h]
    rw [hd]
    obtain rfl : va = .pointer none := ha
    exact (ddone_none e4).mono fun e w' ⟨h1, h2⟩ => ⟨h1, Out.below hm h2⟩
  | some (k + 1, cs), ha =>
    obtain ⟨ab, v, rfl, hra, hva, hda⟩ := ha
    have hdn : Dsk.done s = ({ s with arm := some (k, cs) }, 0) := by unfold Dsk.done; rw [h]
    rw [hdn]
    refine (ddone_less e4 hva (by have := (hm.fit.arm _ _ h).1; omega)).mono fun e w' ⟨h1, h2⟩ => ⟨h1, ?_⟩
    subst h2
    have hc : Chg (fun b => b = ab) w (w.setCell ⟨ab, 0, none⟩ (.int .i64 (k : Int))) := (show Chg (fun b => b = ab) w w from Chg.refl _ _).setCell (p := ⟨ab, 0, none⟩) (fun _ => rfl) _
    have hst : Step ρ ρ (fun r => r = .arm) w (w.setCell ⟨ab, 0, none⟩ (.int .i64 (k : Int))) := ⟨hc.more (fun b _ e => by subst e; exact ⟨_, hra, rfl⟩), fun _ _ => rfl⟩
    have hls := hst.lies
    refine ⟨F, ρ, ⟨fun b r e => by have := hm.lt b r e; simpa using this, hm.disk, ⟨lb, nb, ln, nn, vl, _, (hls.block hv.lt hm.disk (by intro e; cases e)).trans hv, ⟨hl.1, hl.2.1.keep hls hl.1 (by intro e; cases e), hl.2.2⟩, ⟨hn.1, hn.2.1.keep hls hn.1 (by intro e; cases e), hn.2.2⟩, ⟨hmv.1.block_eq (fun b hb => hls.block (hmv.1.lt b hb).2 (hmv.2 b hb) (by intro e; cases e)), hmv.2⟩, ⟨ab, v, rfl, hra, hva.set 0 _, hda.keep hls (by intro e; cases e)⟩⟩, fun i hi => (hm.file i hi).keep hls (by intro e; cases e) (by intro e; cases e) (by intro e; cases e), Dsk.fit_arm hm.fit hd (fun a c e => by
      injection e with e
      injection e with e1 e2
      subst e1 e2
      have := hm.fit.arm _ _ h
      exact ⟨by omega, this.2⟩)⟩, hst.more (fun r q => by rw [q]; intro e; cases e)⟩
  | some (0, cs), ha =>
    obtain ⟨ab, v, rfl, hra, hva, A, c, rfl, k1, k2, k3, k4⟩ := ha
    have hdn : Dsk.done s = (Dsk.crash s cs, 32) := by unfold Dsk.done; rw [h]
    have HDN := Lib.hid hdn
    have HC := Lib.hid (dcrash_up hm hT hd k3 k1 (hm.fit.arm _ _ h).2 (fun h0 g o e => by
      rintro ⟨r, e1, q⟩
      rw [k4 h0 g o none e] at e1
      injection e1 with e1
      rw [← e1] at q
      rcases q with q | q | ⟨_, q⟩ <;> cases q))
    have a0 := hva.cell (j := 0) rfl
    have a1 := hva.cell (j := 1) rfl
    clear hm hv hl hn hmv hva k1 k2 k3 k4 hdn h hra
    generalize cs.length = ncs at *
    go_enter Try.func39, Try.ntmps39
    go_wp2_with (first
      | (go_at_call 18; go_must (refine HC.out.mono ?_; rintro _ w1 ⟨rfl, ho⟩))
      | fail)
    go_ret
    rw [HDN.out]
    exact ⟨rfl, ho⟩
end
end Go.Proofs.Ythgeppdoonbkpaa
