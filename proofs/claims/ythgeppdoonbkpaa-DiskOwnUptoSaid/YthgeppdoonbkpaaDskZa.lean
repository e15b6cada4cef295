/- the calls of a disk: SyncDir, Arm, Up, Crash. Conditions: sizes. -/
import Derived.Test.YthgeppdoonbkpaaDskZ
namespace Go.Proofs.Ythgeppdoonbkpaa
open Go.RowKit Go.Maps Go.WideMaps
section
variable {w : World} {db : Nat} {F : Nat → Nat} {ρ : Roles} {s : Dsk.St} {T : Nat}
/-- the directory lasts: b is its new block -/
theorem dir_mem {W : World} (hm : Mem w db F ρ s T) (hd : s.down = false) {lb nb nn : Nat} {vl va : Value} (hv : Var w db 65 [.int .i64 (s.room : Nat), .map (some lb), .map (some nb), vl, va, .bool s.down]) (hn : ρ nb = some .now ∧ Dirm w nb nn F (Dsk.dn s) ∧ nn ≤ T) (ha : ArmV w ρ va s.arm)
    (hb : Below w.heap.size w W) (hl : w.heap.size < W.heap.size) (hdir : Dirm W w.heap.size nn F (Dsk.dn s)) :
    ∃ ρ', Mem ((W.setCell ⟨db, 1, none⟩ (.map (some w.heap.size))).setCell ⟨db, 3, none⟩ (.slice none 0 0)) db F ρ' { s with dl := Dsk.dn s, lm := [] } T ∧ Step ρ ρ' Mut w ((W.setCell ⟨db, 1, none⟩ (.map (some w.heap.size))).setCell ⟨db, 3, none⟩ (.slice none 0 0)) := by
  obtain ⟨ρ', hρ⟩ : ∃ ρ' : Roles, ρ' = fun b => if b = w.heap.size then some .lasts else ρ b := ⟨_, rfl⟩
  have hold : ∀ b, b < w.heap.size → ρ' b = ρ b := fun b hb => by rw [hρ]; exact if_neg (by omega)
  have hnew : ρ' w.heap.size = some .lasts := by rw [hρ]; exact if_pos rfl
  have hdb := hm.lt db _ hm.disk
  have hc1 : Chg (fun k => k = db) w ((W.setCell ⟨db, 1, none⟩ (.map (some w.heap.size))).setCell ⟨db, 3, none⟩ (.slice none 0 0)) := ((show Chg (fun k => k = db) w W from Chg.of_below hb).setCell (p := ⟨db, 1, none⟩) (fun _ => rfl) _).setCell (p := ⟨db, 3, none⟩) (fun _ => rfl) _
  have hc2 : Chg (fun k => k = db) W ((W.setCell ⟨db, 1, none⟩ (.map (some w.heap.size))).setCell ⟨db, 3, none⟩ (.slice none 0 0)) := ((show Chg (fun k => k = db) W W from Chg.refl _ _).setCell (p := ⟨db, 1, none⟩) (fun _ => rfl) _).setCell (p := ⟨db, 3, none⟩) (fun _ => rfl) _
  have hv2 := ((hv.below_all hb).set 1 (.map (some w.heap.size))).set 3 (.slice none 0 0)
  have hst : Step ρ ρ' (fun r => r = .disk) w ((W.setCell ⟨db, 1, none⟩ (.map (some w.heap.size))).setCell ⟨db, 3, none⟩ (.slice none 0 0)) := ⟨hc1.more (fun b _ e => by subst e; exact ⟨_, hm.disk, rfl⟩), hold⟩
  have hls := hst.lies
  refine ⟨ρ', ⟨fun b r e => ?_, (hold db hdb).trans hm.disk, ⟨w.heap.size, nb, nn, nn, .slice none 0 0, va, hv2, ⟨hnew, hdir.chg hc2 (by omega), by simpa using hn.2.2⟩, ⟨(hold nb hn.2.1.lt).trans hn.1, hn.2.1.keep hls hn.1 (by intro e; cases e), hn.2.2⟩, ⟨Row.nil _ _ _, fun b hb => by cases hb⟩, ha.keep hls (by intro e; cases e) (by intro e; cases e)⟩, fun i hi => ?_, Dsk.fit_syncd hm.fit hd⟩, hst.more (fun r q => by rw [q]; intro e; cases e)⟩
  · have hsz : ((W.setCell ⟨db, 1, none⟩ (.map (some w.heap.size))).setCell ⟨db, 3, none⟩ (.slice none 0 0)).heap.size = W.heap.size := by simp
    rw [hsz]
    by_cases h : b = w.heap.size
    · omega
    · rw [hρ] at e
      dsimp only at e
      rw [if_neg h] at e
      have := hm.lt b r e
      omega
  · have hi2 : Dsk.Reach s i := by
      rcases hi with ⟨n, hi⟩ | ⟨m, hm2, _⟩
      · exact Dsk.dn_reach hi
      · cases hm2
    exact (hm.file i hi2).keep hls (by intro e; cases e) (by intro e; cases e) (by intro e; cases e)
theorem syncDir_up (hd : s.down = false) : Dsk.syncDir s = Dsk.done (if Dsk.dies s = true then s else { s with dl := Dsk.dn s, lm := [] }) := by unfold Dsk.syncDir; rw [if_neg (by rw [hd]; decide)]
set_option maxHeartbeats 1000000 in
set_option maxRecDepth 100000 in
theorem dsyncDir_any (hm : Mem w db F ρ s T) (hT : T ≤ 99999) : Calls Try.prog 13 #[.pointer (some ⟨db, 0, none⟩)] w fun e w' => e = .returned (.int .i64 ((Dsk.syncDir s).2 : Nat)) ∧ Out w db ρ (Dsk.syncDir s).1 (T + 1) w' := by
  have HM := Lib.hid hm
  have HR := Lib.hid (dreadyS (s := s) hm.down none 0 0 [] (Rd.nil _ _ _ _) (by omega) (by simp))
  rw [ready_nil] at HR
  cases hdn : s.down with
  | true =>
    rw [hdn, if_pos rfl] at HR
    have HQ : Hid (Dsk.syncDir s = (s, 32)) := Lib.hid (by unfold Dsk.syncDir; rw [hdn, if_pos rfl])
    clear hm hdn
    go_enter Try.func13, Try.ntmps13
    go_wp2_with (first
      | (go_at_call 29; go_must (refine HR.out.mono ?_; rintro _ w1 ⟨rfl, hb1⟩))
      | fail)
    go_ret
    rw [HQ.out]
    exact ⟨rfl, (Out.below HM.out hb1).more (Nat.le_succ _)⟩
  | false =>
    rw [hdn, if_neg (by decide)] at HR
    have HUP := Lib.hid hdn
    have HQ := Lib.hid (syncDir_up hdn)
    clear hm hdn
    go_enter Try.func13, Try.ntmps13
    go_upto_region 4 with (first
      | (go_at_call 29; go_must (refine HR.out.mono ?_; rintro _ w1 ⟨rfl, hb1⟩))
      | fail)
    have HB1 := Lib.hid hb1
    have HM1 := Lib.hid (HM.out.below hb1)
    have HDI := Lib.hid (ddies_any HM1.out)
    clear hb1
    cases hd : Dsk.dies s with
    | true =>
      rw [hd] at HDI
      rw [hd, if_pos rfl] at HQ
      obtain ⟨rc, hrc⟩ : ∃ rc, rc = (Dsk.done s).2 := ⟨_, rfl⟩
      have HRC := Lib.hid hrc
      clear hd hrc
      go_upto_region 6 with (first
        | (go_at_call 37; go_must (refine HDI.out.mono ?_; rintro _ w2 ⟨rfl, hb2⟩))
        | fail)
      have HDO := Lib.hid (ddone_any (HM1.out.below hb2) (by omega) HUP.out)
      rw [← HRC.out] at HDO
      have HB2 := Lib.hid (HB1.out.trans (hb2.mono HB1.out.size))
      clear hb2
      go_wp2_with (first
        | (go_at_call 39; go_must (refine HDO.out.mono ?_; rintro _ w6 ⟨rfl, hout⟩))
        | fail)
      go_ret
      rw [HQ.out, ← HRC.out]
      exact ⟨rfl, (Out.after (Step.of_below HB2.out) hout).more (Nat.le_succ _)⟩
    | false =>
      rw [hd] at HDI
      rw [hd, if_neg (by decide)] at HQ
      obtain ⟨rc, hrc⟩ : ∃ rc, rc = (Dsk.done { s with dl := Dsk.dn s, lm := [] }).2 := ⟨_, rfl⟩
      have HRC := Lib.hid hrc
      clear hd hrc
      go_upto_region 5 with (first
        | (go_at_call 37; go_must (refine HDI.out.mono ?_; rintro _ w2 ⟨rfl, hb2⟩))
        | fail)
      have HB2 := Lib.hid (HB1.out.trans (hb2.mono HB1.out.size))
      have HM2 := Lib.hid (HM1.out.below hb2)
      obtain ⟨lb, nb, ln, nn, vl, va, hv, hl, hn, ⟨hml, _⟩, ha⟩ := HM2.out.get
      have HDM := Lib.hid (fun W hb hl' hdir => dir_mem (W := W) HM2.out HUP.out hv hn ha hb hl' hdir)
      have HCL := Lib.hid (dmclone_any hn.2.1)
      have HV := Lib.hid hv
      obtain ⟨Am, cm, rfl, -, -, -, -⟩ := Row.form hml
      have e2 := hv.cell (j := 2) rfl
      have HDO := Lib.hid (fun W ρ' (h : Mem W db F ρ' { s with dl := Dsk.dn s, lm := [] } T) => ddone_any h (by omega) HUP.out)
      rw [← HRC.out] at HDO
      clear hb2 hv hl hn hml ha
      go_upto_region 6 with (first
        | (go_at_call 40; go_must (refine HCL.out.mono ?_; rintro _ w5 ⟨rfl, hd5, hl5, hb5⟩; have HV5 := Lib.hid (HV.out.below_all hb5); have x1 := HV5.out.frozen 1; have x3 := HV5.out.frozen 3; have y1 := HV5.out.cell (j := 1) rfl; have y3 := HV5.out.cell (j := 3) rfl; have HD5 := Lib.hid (HDM.out w5 hb5 hl5 hd5); clear hd5 hl5 hb5))
        | fail)
      obtain ⟨ρ', hm6, hst6⟩ := HD5.out
      have HDO2 := Lib.hid (HDO.out _ ρ' hm6)
      have HST := Lib.hid hst6
      clear hm6 hst6
      go_wp2_with (first
        | (go_at_call 39; go_must (refine HDO2.out.mono ?_; rintro _ w6 ⟨rfl, hout⟩))
        | fail)
      go_ret
      rw [HQ.out, ← HRC.out]
      exact ⟨rfl, (Out.after (Step.of_below HB2.out) (Out.after HST.out hout)).more (Nat.le_succ _)⟩
set_option maxRecDepth 100000 in
/-- a failure, of a disk that may be down already -/
theorem dcrash_any (hm : Mem w db F ρ s T) (hT : T ≤ 99999) {A : Option Addr} {n c : Nat} {cs : List Int} (hrd : Rd w w.heap.size 1 A n (intsV cs)) (hnc : n ≤ c) (hcs : n ≤ 16777216) (hP : 0 < n → ∀ g o, A = some ⟨g, o, none⟩ → ρ g = none) :
    Calls Try.prog 18 #[.pointer (some ⟨db, 0, none⟩), .slice A n c] w fun e w' => e = .returned (.tuple #[]) ∧ Out w db ρ (Dsk.crash s cs) (T + 1) w' := by
  cases hd : s.down with
  | false =>
    refine (dcrash_up hm (by omega) hd hrd hnc hcs (fun h0 g o e => by rintro ⟨r, e1, _⟩; rw [hP h0 g o e] at e1; cases e1)).mono ?_
    rintro e w' ⟨h1, h2⟩
    exact ⟨h1, h2.more (Nat.le_succ _)⟩
  | true =>
    have HQ : Hid (Dsk.crash s cs = s) := Lib.hid (by unfold Dsk.crash; rw [hd, if_pos rfl])
    have HM := Lib.hid hm
    have e5 := hm.down
    rw [hd] at e5
    have hdb : db < w.heap.size := hm.lt db _ hm.disk
    clear hm hrd hP hd
    go_enter Try.func18, Try.ntmps18
    go_wp2
    refine bodyPost_ret (results_none rfl _ _ _) rfl ?_
    rw [HQ.out]
    exact ⟨rfl, (Out.below HM.out ((Below.refl _ _).alloc (Nat.le_refl _) _)).more (Nat.le_succ _)⟩
set_option maxRecDepth 100000 in
theorem ncrash (A : Option Addr) (n c : Nat) (w : World) : Calls Try.prog 18 #[.pointer none, .slice A n c] w fun e w' => e = .returned (.tuple #[]) ∧ Below w.heap.size w w' := by
  go_enter Try.func18, Try.ntmps18
  go_wp2
  refine bodyPost_ret (results_none rfl _ _ _) rfl ?_
  exact ⟨rfl, (Below.refl _ _).alloc (Nat.le_refl _) _⟩
theorem dup_any (hm : Mem w db F ρ s T) : Calls Try.prog 20 #[.pointer (some ⟨db, 0, none⟩)] w fun e w' => e = .returned (.tuple #[]) ∧ Out w db ρ (Dsk.up s) T w' := by
  obtain ⟨lb, nb, ln, nn, vl, va, hv, hl, hn, hmv, ha⟩ := hm.get
  have hc1 : Chg (fun k => k = db) w (w.setCell ⟨db, 5, none⟩ (.bool false)) := (show Chg (fun k => k = db) w w from Chg.refl _ _).setCell (p := ⟨db, 5, none⟩) (fun _ => rfl) _
  have hst : Step ρ ρ (fun r => r = .disk) w (w.setCell ⟨db, 5, none⟩ (.bool false)) := ⟨hc1.more (fun b _ e => by subst e; exact ⟨_, hm.disk, rfl⟩), fun _ _ => rfl⟩
  have hls := hst.lies
  have HO : Hid (Out w db ρ (Dsk.up s) T (w.setCell ⟨db, 5, none⟩ (.bool false))) := Lib.hid ⟨F, ρ, ⟨fun b r e => by have := hm.lt b r e; simpa using this, hm.disk, ⟨lb, nb, ln, nn, vl, va, hv.set 5 _, ⟨hl.1, hl.2.1.keep hls hl.1 (by intro e; cases e), hl.2.2⟩, ⟨hn.1, hn.2.1.keep hls hn.1 (by intro e; cases e), hn.2.2⟩, ⟨hmv.1.block_eq (fun b hb => hls.block (hmv.1.lt b hb).2 (hmv.2 b hb) (by intro e; cases e)), hmv.2⟩, ha.keep hls (by intro e; cases e) (by intro e; cases e)⟩, fun i hi => (hm.file i hi).keep hls (by intro e; cases e) (by intro e; cases e) (by intro e; cases e), Dsk.fit_up hm.fit⟩, hst.more (fun r q => by rw [q]; intro e; cases e)⟩
  have e5 := hv.cell (j := 5) rfl
  have f5 := hv.frozen 5
  generalize s.down = dn at e5
  clear hm hl hn hmv ha hst hls hc1 hv
  go_enter Try.func20, Try.ntmps20
  go_wp2
  go_end0
  exact ⟨rfl, HO.out⟩
end
end Go.Proofs.Ythgeppdoonbkpaa
