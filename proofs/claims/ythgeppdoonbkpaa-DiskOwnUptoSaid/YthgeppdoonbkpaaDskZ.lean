/- the calls of a disk: Rename, Remove, Sync, SyncDir, Arm, Up, Crash, Cut. Conditions: sizes. -/
import Derived.Test.YthgeppdoonbkpaaDskY
namespace Go.Proofs.Ythgeppdoonbkpaa
open Go.RowKit Go.Maps Go.WideMaps
section
variable {w : World} {db : Nat} {F : Nat → Nat} {ρ : Roles} {s : Dsk.St} {T : Nat}
theorem ready_up {l : List Bs} (h : Dsk.ready s l = 0) : s.down = false ∧ ∀ n ∈ l, Dsk.may n = true := by
  unfold Dsk.ready at h
  cases hd : s.down with
  | true => rw [hd, if_pos rfl] at h; cases h
  | false =>
    rw [hd, if_neg (by decide)] at h
    refine ⟨rfl, ?_⟩
    by_cases hx : Dsk.allMay l = true
    · unfold Dsk.allMay at hx
      exact fun n hn => List.all_eq_true.1 hx n hn
    · rw [if_neg hx] at h; cases h
theorem rename_eq (s : Dsk.St) (a b : Bs) : (findE s a [b] ≠ 0 → Dsk.rename s a b = (s, findE s a [b])) ∧ (findE s a [b] = 0 → Dsk.ready s [b, a] = 0 ∧ Dsk.get (Dsk.dn s) a ≠ none ∧ Dsk.rename s a b = Dsk.moved s ⟨a, b, none⟩) := by
  unfold findE Dsk.rename
  have e : [b] ++ [a] = [b, a] := rfl
  rw [e]
  by_cases hr : Dsk.ready s [b, a] = 0
  · rw [if_neg (by simp [hr]), if_neg (by simp [hr])]
    cases hg : Dsk.get (Dsk.dn s) a with
    | none => exact ⟨fun _ => by rw [if_pos rfl], fun h => by cases h⟩
    | some i => exact ⟨fun h => absurd rfl h, fun _ => ⟨hr, by simp, by rw [if_neg (by simp)]⟩⟩
  · rw [if_pos hr, if_pos hr]
    exact ⟨fun _ => rfl, fun h => absurd h hr⟩
set_option maxHeartbeats 1000000 in
set_option maxRecDepth 100000 in
theorem drename_any (hm : Mem w db F ρ s T) (hT : T ≤ 99999) (a b : Bs) (ha : a.length ≤ 1000000000) (hb : b.length ≤ 1000000000) : Calls Try.prog 17 #[.pointer (some ⟨db, 0, none⟩), .string (strB a), .string (strB b)] w fun e w' => e = .returned (.int .i64 ((Dsk.rename s a b).2 : Nat)) ∧ Out w db ρ (Dsk.rename s a b).1 (T + 1) w' := by
  have HM := Lib.hid hm
  have hb1 : Below w.heap.size w (w.alloc (.cells #[.string (strB b)] 9)) := (Below.refl _ _).alloc (Nat.le_refl _) _
  have hrow : Row (w.alloc (.cells #[.string (strB b)] 9)) 0 1 (.slice (some ⟨w.heap.size, 0, none⟩) 1 1) [b].length (namesV [b]) := (built_row w [.string (strB b)] 9 1 1 rfl (by omega)).mono (Nat.zero_le _)
  have HF := Lib.hid (dfind_any (hm.below hb1) a ha [b] hrow (by simp) (fun x hx => by rw [List.mem_singleton.1 hx]; exact hb) (fun c hc => by
    cases hr : ρ c with
    | none => rfl
    | some r => have h1 := hm.lt c r hr; have h2 : w.heap.size = c := Option.some.inj hc; omega))
  have HB1 := Lib.hid hb1
  obtain ⟨hn1, hn2⟩ := rename_eq s a b
  obtain ⟨E, hE⟩ : ∃ E, E = findE s a [b] := ⟨_, rfl⟩
  rw [← hE] at HF hn1 hn2
  have HBL : Hid (∀ w', Chg (fun c => (Value.slice (some ⟨w.heap.size, 0, none⟩) 1 1).ownBlock = some c) (w.alloc (.cells #[.string (strB b)] 9)) w' → Below w.heap.size w w') := Lib.hid (fun w' hc => HB1.out.trans (hc.below (by simp) (fun k e => by injection e with e; subst e; exact Nat.le_refl _)))
  by_cases h0 : E = 0
  · subst h0
    obtain ⟨hr, hg, hq⟩ := hn2 rfl
    have HQ := Lib.hid hq
    obtain ⟨hup, hmay⟩ := ready_up hr
    have HMV := Lib.hid (fun (W : World) (hW : Mem W db F ρ s T) => dmoved_any hW hT hup (m := ⟨a, b, none⟩) (P := none) (Dsk.may_len (hmay a (by simp))).1 (Dsk.may_len (hmay b (by simp))).1 (fun e => absurd rfl e) (fun _ => hg) (fun i e => by cases e) (fun i e => by cases e) rfl)
    obtain ⟨rc, hrc⟩ : ∃ rc, rc = (Dsk.moved s ⟨a, b, none⟩).2 := ⟨_, rfl⟩
    rw [← hrc] at HMV
    have HRC := Lib.hid hrc
    dsimp only at HMV
    clear hm hb1 hrow hn1 hn2 hE hr hg hq hup hmay hrc
    generalize strB a = sa at *
    generalize strB b = sb at *
    go_enter Try.func17, Try.ntmps17
    go_upto_region 4 with (first
      | (go_at_call 31; go_must (refine HF.out.mono ?_; rintro _ w1 ⟨rfl, hc1⟩))
      | fail)
    have HB2 := Lib.hid (HBL.out _ hc1)
    have HMV1 := Lib.hid (HMV.out w1 (HM.out.below HB2.out))
    clear hc1
    go_wp2_with (first
      | (go_at_call 30; go_must (refine HMV1.out.mono ?_; rintro _ w6 ⟨rfl, hout⟩))
      | fail)
    go_ret
    rw [HQ.out, ← HRC.out]
    exact ⟨rfl, Out.after (Step.of_below HB2.out) hout⟩
  · have HQ := Lib.hid (hn1 h0)
    have hne : ((E : Int) != 0) = true := by rw [bne_iff_ne]; omega
    clear hm hb1 hrow hn1 hn2 hE
    generalize strB a = sa at *
    generalize strB b = sb at *
    go_enter Try.func17, Try.ntmps17
    go_wp2_with (first
      | (go_at_call 31; go_must (refine HF.out.mono ?_; rintro _ w1 ⟨rfl, hc1⟩))
      | fail)
    go_ret
    rw [HQ.out]
    exact ⟨rfl, (Out.below HM.out (HBL.out _ hc1)).more (Nat.le_succ _)⟩
theorem remove_eq (s : Dsk.St) (a : Bs) : ((Dsk.find s a).2 ≠ 0 → Dsk.remove s a = (s, (Dsk.find s a).2)) ∧ ((Dsk.find s a).2 = 0 → Dsk.remove s a = Dsk.moved s ⟨a, [], none⟩) := by
  unfold Dsk.find Dsk.remove
  by_cases hr : Dsk.ready s [a] = 0
  · rw [if_neg (by simp [hr]), if_neg (by simp [hr])]
    cases hg : Dsk.get (Dsk.dn s) a with
    | none => exact ⟨fun _ => by rw [if_pos rfl], fun h => by cases h⟩
    | some i => exact ⟨fun h => absurd rfl h, fun _ => by rw [if_neg (by simp)]⟩
  · rw [if_pos hr, if_pos hr]
    exact ⟨fun _ => rfl, fun h => absurd h hr⟩
set_option maxHeartbeats 1000000 in
set_option maxRecDepth 100000 in
theorem dremove_any (hm : Mem w db F ρ s T) (hT : T ≤ 99999) (a : Bs) (ha : a.length ≤ 1000000000) : Calls Try.prog 50 #[.pointer (some ⟨db, 0, none⟩), .string (strB a)] w fun e w' => e = .returned (.int .i64 ((Dsk.remove s a).2 : Nat)) ∧ Out w db ρ (Dsk.remove s a).1 (T + 1) w' := by
  have HM := Lib.hid hm
  have HF := Lib.hid (dfind_one hm a ha)
  obtain ⟨hn1, hn2⟩ := remove_eq s a
  obtain ⟨E, hE⟩ : ∃ E, E = (Dsk.find s a).2 := ⟨_, rfl⟩
  rw [← hE] at HF hn1 hn2
  by_cases h0 : E = 0
  · subst h0
    have HQ := Lib.hid (hn2 rfl)
    obtain ⟨hup, hmay, hget⟩ := Dsk.find_ok hE.symm
    have HMV := Lib.hid (fun (W : World) (hW : Mem W db F ρ s T) => dmoved_any hW hT hup (m := ⟨a, [], none⟩) (P := none) (Dsk.may_len hmay).1 (Nat.zero_le _) (fun e => absurd rfl e) (fun _ => by rw [hget]; simp) (fun i e => by cases e) (fun i e => by cases e) rfl)
    obtain ⟨rc, hrc⟩ : ∃ rc, rc = (Dsk.moved s ⟨a, [], none⟩).2 := ⟨_, rfl⟩
    rw [← hrc] at HMV
    have HRC := Lib.hid hrc
    dsimp only at HMV
    have HMV' : Hid (∀ (W : World), Mem W db F ρ s T → Calls Try.prog 30 #[.pointer (some ⟨db, 0, none⟩), .agg #[.string (strB a), .string ⟨#[]⟩, .pointer none]] W _) := Lib.hid HMV.out
    clear hm hn1 hn2 hE hup hmay hrc hget HMV
    generalize strB a = sa at *
    go_enter Try.func50, Try.ntmps50
    go_upto_region 4 with (first
      | (go_at_call 31; go_must (refine HF.out.mono ?_; rintro _ w1 ⟨P, rfl, _, hb1⟩))
      | fail)
    have HB2 := Lib.hid hb1
    have HMV1 := Lib.hid (HMV'.out w1 (HM.out.below HB2.out))
    clear hb1
    go_wp2_with (first
      | (go_at_call 30; go_must (refine HMV1.out.mono ?_; rintro _ w6 ⟨rfl, hout⟩))
      | fail)
    go_ret
    rw [HQ.out, ← HRC.out]
    exact ⟨rfl, Out.after (Step.of_below HB2.out) hout⟩
  · have HQ := Lib.hid (hn1 h0)
    have hne : ((E : Int) != 0) = true := by rw [bne_iff_ne]; omega
    clear hm hn1 hn2 hE
    generalize strB a = sa at *
    go_enter Try.func50, Try.ntmps50
    go_wp2_with (first
      | (go_at_call 31; go_must (refine HF.out.mono ?_; rintro _ w1 ⟨P, rfl, _, hb1⟩))
      | fail)
    go_ret
    rw [HQ.out]
    exact ⟨rfl, (Out.below HM.out hb1).more (Nat.le_succ _)⟩
/-- all of a file lasts -/
theorem last_mem (hm : Mem w db F ρ s T) {i : Nat} (hi : Dsk.Reach s i) {v0 v1 v2 : Value} (hv : Var w (F i) 71 [v0, v1, v2]) (h1 : Byt w ρ v1 (Dsk.fil s i).now) : Mem ((w.setCell ⟨F i, 0, none⟩ v1).setCell ⟨F i, 2, none⟩ (.slice none 0 0)) db F ρ { s with fs := s.fs.set i ⟨(Dsk.fil s i).now, []⟩ } T ∧ Step ρ ρ Mut w ((w.setCell ⟨F i, 0, none⟩ v1).setCell ⟨F i, 2, none⟩ (.slice none 0 0)) := by
  have hc : Chg (fun k => k = F i) w ((w.setCell ⟨F i, 0, none⟩ v1).setCell ⟨F i, 2, none⟩ (.slice none 0 0)) := ((show Chg (fun k => k = F i) w w from Chg.refl _ _).setCell (p := ⟨F i, 0, none⟩) (fun _ => rfl) _).setCell (p := ⟨F i, 2, none⟩) (fun _ => rfl) _
  have hr := (hm.file i hi).role
  have hc2 : Chg (On ρ (fun r => r = .file i ∨ r = .chg i)) w ((w.setCell ⟨F i, 0, none⟩ v1).setCell ⟨F i, 2, none⟩ (.slice none 0 0)) := hc.more (fun b _ e => by subst e; exact ⟨_, hr, .inl rfl⟩)
  have hls : Lies ρ ρ (fun r => r = .file i ∨ r = .chg i) w ((w.setCell ⟨F i, 0, none⟩ v1).setCell ⟨F i, 2, none⟩ (.slice none 0 0)) := (show Step ρ ρ _ w _ from ⟨hc2, fun _ _ => rfl⟩).lies
  have nd : ¬ ((Role.data = .file i) ∨ (Role.data = .chg i)) := by rintro (e | e) <;> cases e
  refine file_mem hm hi (Dsk.fit_set hm.fit (hm.fit.reach i hi) (Dsk.Good.nil (hm.fit.good i hi).now_len) (Nat.zero_le _)) (Nat.le_refl _) (fun _ _ => rfl) (fun b r e => by have := hm.lt b r e; simpa using this) ⟨hr, v1, v1, .slice none 0 0, (hv.set 0 v1).set 2 _, h1.keep hls nd, ?_, ChRow.nil _ _ _⟩ hc2
  rw [Dsk.Fi.now_nil]
  exact h1.keep hls nd
theorem sync_eq (s : Dsk.St) (n : Bs) : ((Dsk.find s n).2 ≠ 0 → Dsk.sync s n = (s, (Dsk.find s n).2)) ∧ ((Dsk.find s n).2 = 0 → Dsk.sync s n = Dsk.done (if Dsk.dies s = true then s else { s with fs := s.fs.set (Dsk.find s n).1 ⟨(Dsk.fil s (Dsk.find s n).1).now, []⟩ })) := by
  unfold Dsk.sync
  by_cases h : (Dsk.find s n).2 = 0
  · rw [if_neg (by simp [h])]; exact ⟨fun h' => absurd h h', fun _ => rfl⟩
  · rw [if_pos h]; exact ⟨fun _ => rfl, fun h' => absurd h' h⟩
set_option maxHeartbeats 1000000 in
set_option maxRecDepth 100000 in
theorem dsync_any (hm : Mem w db F ρ s T) (hT : T ≤ 99999) (n : Bs) (hn : n.length ≤ 1000000000) : Calls Try.prog 12 #[.pointer (some ⟨db, 0, none⟩), .string (strB n)] w fun e w' => e = .returned (.int .i64 ((Dsk.sync s n).2 : Nat)) ∧ Out w db ρ (Dsk.sync s n).1 (T + 1) w' := by
  have HM := Lib.hid hm
  have HF := Lib.hid (dfind_one hm n hn)
  obtain ⟨hn1, hn2⟩ := sync_eq s n
  obtain ⟨E, hE⟩ : ∃ E, E = (Dsk.find s n).2 := ⟨_, rfl⟩
  rw [← hE] at HF hn1 hn2
  by_cases h0 : E = 0
  · subst h0
    have HQ := Lib.hid (hn2 rfl)
    obtain ⟨hup, _, _⟩ := Dsk.find_ok hE.symm
    have HUP := Lib.hid hup
    have HRE := Lib.hid (Dsk.find_reach hE.symm)
    clear hm hn1 hn2 hE hup
    generalize strB n = sn at *
    go_enter Try.func12, Try.ntmps12
    go_upto_region 4 with (first
      | (go_at_call 31; go_must (refine HF.out.mono ?_; rintro _ w1 ⟨P, rfl, hp, hb1⟩; obtain rfl := hp rfl))
      | fail)
    have HB1 := Lib.hid hb1
    have HM1 := Lib.hid (HM.out.below hb1)
    have HDI := Lib.hid (ddies_any HM1.out)
    clear hb1 hp
    cases hd : Dsk.dies s with
    | true =>
      rw [hd] at HDI
      rw [hd, if_pos rfl] at HQ
      obtain ⟨rc, hrc⟩ : ∃ rc, rc = (Dsk.done s).2 := ⟨_, rfl⟩
      have HRC := Lib.hid hrc
      clear hd hrc
      go_upto_region 6 with (first
        | (go_at_call 37; go_must (refine HDI.out.mono ?_; rintro _ w2 ⟨rfl, hb2⟩))
        | fail)
      have HDO := Lib.hid (ddone_any (HM1.out.below hb2) (by omega) HUP.out)
      rw [← HRC.out] at HDO
      have HB2 := Lib.hid (HB1.out.trans (hb2.mono HB1.out.size))
      clear hb2
      go_wp2_with (first
        | (go_at_call 39; go_must (refine HDO.out.mono ?_; rintro _ w6 ⟨rfl, hout⟩))
        | fail)
      go_ret
      rw [HQ.out, ← HRC.out]
      exact ⟨rfl, (Out.after (Step.of_below HB2.out) hout).more (Nat.le_succ _)⟩
    | false =>
      rw [hd] at HDI
      rw [hd, if_neg (by decide)] at HQ
      obtain ⟨rc, hrc⟩ : ∃ rc, rc = (Dsk.done { s with fs := s.fs.set (Dsk.find s n).1 ⟨(Dsk.fil s (Dsk.find s n).1).now, []⟩ }).2 := ⟨_, rfl⟩
      have HRC := Lib.hid hrc
      clear hd hrc
      go_upto_region 5 with (first
        | (go_at_call 37; go_must (refine HDI.out.mono ?_; rintro _ w2 ⟨rfl, hb2⟩))
        | fail)
      have HB2 := Lib.hid (HB1.out.trans (hb2.mono HB1.out.size))
      have HM2 := Lib.hid (HM1.out.below hb2)
      obtain ⟨v0, v1, v2, hv, h0, h1, h2⟩ := (HM2.out.file _ HRE.out).get
      have HLM := Lib.hid (last_mem HM2.out HRE.out hv h1)
      obtain ⟨A0, c0, rfl⟩ := h0.slice
      obtain ⟨A1, c1, rfl⟩ := h1.slice
      obtain ⟨A2, c2, rfl, _⟩ := h2.at
      have HLA := Lib.hid (dlast_any hv)
      have HDO := Lib.hid (fun W (h : Mem W db F ρ { s with fs := s.fs.set (Dsk.find s n).1 ⟨(Dsk.fil s (Dsk.find s n).1).now, []⟩ } T) => ddone_any h (by omega) HUP.out)
      rw [← HRC.out] at HDO
      clear hb2 hv h0 h1 h2
      go_upto_region 6 with (first
        | (go_at_call 38; go_must (refine HLA.out.mono ?_; rintro _ w5 ⟨rfl, hw5⟩; rw [← hw5] at HLM; have HLM2 := Lib.hid HLM.out; clear HLM hw5))
        | fail)
      have HDO2 := Lib.hid (HDO.out w5 HLM2.out.1)
      go_wp2_with (first
        | (go_at_call 39; go_must (refine HDO2.out.mono ?_; rintro _ w6 ⟨rfl, hout⟩))
        | fail)
      go_ret
      rw [HQ.out, ← HRC.out]
      exact ⟨rfl, (Out.after (Step.of_below HB2.out) (Out.after HLM2.out.2 hout)).more (Nat.le_succ _)⟩
  · have HQ := Lib.hid (hn1 h0)
    have hne : ((E : Int) != 0) = true := by rw [bne_iff_ne]; omega
    clear hm hn1 hn2 hE
    generalize strB n = sn at *
    go_enter Try.func12, Try.ntmps12
    go_wp2_with (first
      | (go_at_call 31; go_must (refine HF.out.mono ?_; rintro _ w1 ⟨P, rfl, _, hb1⟩))
      | fail)
    go_ret
    rw [HQ.out]
    exact ⟨rfl, (Out.below HM.out hb1).more (Nat.le_succ _)⟩
end
end Go.Proofs.Ythgeppdoonbkpaa
