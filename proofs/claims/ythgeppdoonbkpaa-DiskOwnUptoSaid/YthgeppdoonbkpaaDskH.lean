/- what a disk tells: Read, Names, Loose, Down; Up. Conditions: sizes. -/
import Derived.Test.YthgeppdoonbkpaaDskG
namespace Go.Proofs.Ythgeppdoonbkpaa
open Go.RowKit Go.Maps Go.WideMaps
section
variable {w : World} {db : Nat} {F : Nat → Nat} {ρ : Roles} {s : Dsk.St} {T : Nat}
/-- find, of one name -/
theorem dfind_one (hm : Mem w db F ρ s T) (n : Bs) (hn : n.length ≤ 1000000000) :
    Calls Try.prog 31 #[.pointer (some ⟨db, 0, none⟩), .string (strB n), .slice none 0 0] w fun e w' => ∃ P, e = .returned (.tuple #[.pointer P, .int .i64 ((Dsk.find s n).2 : Nat)]) ∧ ((Dsk.find s n).2 = 0 → P = some ⟨F (Dsk.find s n).1, 0, none⟩) ∧ Below w.heap.size w w' := by
  refine (dfind_any hm n hn [] (v := .slice none 0 0) (Row.nil w 0 1) (by simp) (by simp) (fun b e => by cases e)).mono ?_
  rintro e w' ⟨rfl, hc⟩
  rw [find_one]
  refine ⟨_, rfl, fun h => findP_one F s n h, hc.below (Nat.le_refl _) (fun k e => by cases e)⟩
set_option maxHeartbeats 1000000 in
set_option maxRecDepth 100000 in
theorem dread_any (hm : Mem w db F ρ s T) (n : Bs) (hn : n.length ≤ 1000000000) :
    Calls Try.prog 21 #[.pointer (some ⟨db, 0, none⟩), .string (strB n)] w fun e w' => ∃ v, e = .returned (.tuple #[v, .int .i64 ((Dsk.read s n).2 : Nat)]) ∧ RowB w' w.heap.size v (Dsk.read s n).1 ∧ Below w.heap.size w w' := by
  have HF := Lib.hid (dfind_one hm n hn)
  have HM := Lib.hid hm
  obtain ⟨r, hr⟩ : ∃ r, r = (Dsk.find s n).2 := ⟨_, rfl⟩
  rw [← hr] at HF
  by_cases h0 : r = 0
  · subst h0
    have hR : Dsk.read s n = ((Dsk.fil s (Dsk.find s n).1).now, 0) := by unfold Dsk.read; rw [← hr, if_neg (fun h => h rfl)]
    have HR := Lib.hid hR
    have HRE := Lib.hid (Dsk.find_reach hr.symm)
    clear hm hr hR
    generalize strB n = sn at *
    go_enter Try.func21, Try.ntmps21
    go_upto_region 4 with (first
      | (go_at_call 31; go_must (refine HF.out.mono ?_; rintro _ w1 ⟨P, rfl, hp, hb1⟩; obtain rfl := hp rfl))
      | fail)
    have HM1 := Lib.hid (HM.out.below hb1)
    obtain ⟨v0, v1, v2, hv, h0, h1, h2⟩ := (HM1.out.file _ HRE.out).get
    obtain ⟨A1, c1, rfl, k1, k2, k3, _⟩ := h1
    have hgl := (HM1.out.fit.good _ HRE.out).now_len
    have HC := Lib.hid (dcloneB_any A1 _ c1 _ w1 k2 k3 (by omega))
    have e1 := hv.cell (j := 1) rfl
    have HB1 := Lib.hid hb1
    generalize (Dsk.fil s (Dsk.find s n).1).now = l at *
    generalize F (Dsk.find s n).1 = fb at *
    clear hb1 hv h0 h2 k1 k2 k3 hgl hp
    go_wp2_with (first
      | (go_at_call 33; go_must (refine HC.out.mono ?_; rintro _ w2 ⟨v, rfl, hrow, hb2⟩))
      | fail)
    go_ret2
    rw [HR.out]
    exact ⟨v, rfl, Row.mono hrow HB1.out.size, HB1.out.trans (hb2.mono HB1.out.size)⟩
  · have hR : Dsk.read s n = ([], r) := by unfold Dsk.read; rw [← hr, if_pos h0]
    have HR := Lib.hid hR
    have hne : ((r : Int) != 0) = true := by rw [bne_iff_ne]; omega
    clear hm hr hR
    generalize strB n = sn at *
    go_enter Try.func21, Try.ntmps21
    go_wp2_with (first
      | (go_at_call 31; go_must (refine HF.out.mono ?_; rintro _ w1 ⟨P, rfl, _, hb1⟩))
      | fail)
    go_ret2
    rw [HR.out]
    exact ⟨_, rfl, RowB.nil _ _, hb1⟩
theorem told_up (h : s.down = false) : Dsk.told s = (Dsk.dn s).map (·.1) := by unfold Dsk.told; rw [if_neg (by rw [h]; decide)]
theorem ready_nil (s : Dsk.St) : Dsk.ready s [] = if s.down = true then 32 else 0 := by unfold Dsk.ready; simp [Dsk.allMay]
set_option maxHeartbeats 1000000 in
set_option maxRecDepth 100000 in
theorem dnames_any (hm : Mem w db F ρ s T) (hT : T ≤ 100000) :
    Calls Try.prog 26 #[.pointer (some ⟨db, 0, none⟩)] w fun e w' => ∃ v, e = .returned v ∧ Row w' w.heap.size 1 v (Dsk.told s).length (namesV (Dsk.told s)) ∧ (Dsk.told s = [] → v = .slice none 0 0) ∧ Below w.heap.size w w' := by
  have HR := Lib.hid (dreadyS (s := s) hm.down none 0 0 [] (Rd.nil _ _ _ _) (by omega) (by simp))
  rw [ready_nil] at HR
  have HM := Lib.hid hm
  cases hd : s.down with
  | true =>
    rw [hd, if_pos rfl] at HR
    have ht : Dsk.told s = [] := by unfold Dsk.told; rw [hd, if_pos rfl]
    have HTT := Lib.hid ht
    clear hm hd ht
    go_enter Try.func26, Try.ntmps26
    go_wp2_with (first
      | (go_at_call 29; go_must (refine HR.out.mono ?_; rintro _ w1 ⟨rfl, hb1⟩))
      | fail)
    go_ret
    rw [HTT.out]
    exact ⟨_, rfl, Row.nil _ _ _, fun _ => rfl, hb1⟩
  | false =>
    rw [hd, if_neg (by decide)] at HR
    have HTT := Lib.hid (told_up hd)
    clear hm hd
    go_enter Try.func26, Try.ntmps26
    go_upto_region 3 with (first
      | (go_at_call 29; go_must (refine HR.out.mono ?_; rintro _ w1 ⟨rfl, hb1⟩))
      | fail)
    have HB1 := Lib.hid hb1
    have HM1 := Lib.hid (HM.out.below hb1)
    obtain ⟨nb, nn, e2, hdm, hnn⟩ := HM1.out.nowm
    have hll : (Dsk.dn s).length ≤ 1000000 := by have := World.ownsMap.size_le hdm; rw [Dsk.mapD_size] at this; omega
    have HK := Lib.hid (dkeys_any (some nb) w1)
    have HS := Lib.hid (dsorted_any hdm HM1.out.fit.dn_rise hll)
    clear hb1 hdm hll
    go_wp2_with (first
      | (go_at_call 45; go_must (refine HK.out.mono ?_; rintro _ w7 ⟨rfl, rfl⟩))
      | (go_at_call 44; go_must (refine HS.out.mono ?_; rintro _ w8 ⟨v8, rfl, hr8, hnil8, hb8⟩))
      | fail)
    go_ret
    rw [HTT.out, List.length_map]
    exact ⟨v8, rfl, Row.mono hr8 HB1.out.size, fun h => hnil8 (List.map_eq_nil_iff.1 h), HB1.out.trans ((((Below.refl w1.heap.size w1).alloc (Nat.le_refl _) _).trans (hb8.mono (by simp))).mono HB1.out.size)⟩
set_option maxHeartbeats 1000000 in
set_option maxRecDepth 100000 in
theorem dloose_any (hm : Mem w db F ρ s T) (_hT : T ≤ 100000) (n : Bs) (hn : n.length ≤ 1000000000) :
    Calls Try.prog 24 #[.pointer (some ⟨db, 0, none⟩), .string (strB n)] w fun e w' => e = .returned (.int .i64 (Dsk.looseOf s n : Nat)) ∧ Below w.heap.size w w' := by
  have HR := Lib.hid (dreadyS (s := s) hm.down none 0 0 [] (Rd.nil _ _ _ _) (by omega) (by simp))
  rw [ready_nil] at HR
  have HM := Lib.hid hm
  cases hd : s.down with
  | true =>
    rw [hd, if_pos rfl] at HR
    have HTT : Hid (Dsk.looseOf s n = 0) := Lib.hid (by unfold Dsk.looseOf; rw [hd, if_pos rfl])
    clear hm hd
    generalize strB n = sn at *
    go_enter Try.func24, Try.ntmps24
    go_wp2_with (first
      | (go_at_call 29; go_must (refine HR.out.mono ?_; rintro _ w1 ⟨rfl, hb1⟩))
      | fail)
    go_ret
    rw [HTT.out]
    exact ⟨rfl, hb1⟩
  | false =>
    rw [hd, if_neg (by decide)] at HR
    have hlo : Dsk.looseOf s n = if n = [] then s.lm.length else match Dsk.get (Dsk.dn s) n with | none => 0 | some i => (Dsk.fil s i).loo.length := by
      unfold Dsk.looseOf
      rw [hd, if_neg (by decide)]
      cases Dsk.get (Dsk.dn s) n <;> rfl
    have HLO := Lib.hid hlo
    by_cases h0 : n = []
    · rw [if_pos h0] at HLO
      subst h0
      clear hm hd hlo
      have hs1 : (strB []).toList = [] := by rw [ByteArray.toList_eq]; rfl
      have hs2 : (strB [] == (⟨#[]⟩ : ByteArray)) = true := by rfl
      go_enter Try.func24, Try.ntmps24
      go_upto_region 3 with (first
        | (go_at_call 29; go_must (refine HR.out.mono ?_; rintro _ w1 ⟨rfl, hb1⟩))
        | fail)
      have HM1 := Lib.hid (HM.out.below hb1)
      obtain ⟨lb, nb, ln, nn, vl, va, hv, _, _, ⟨hm1, _⟩, _⟩ := HM1.out.get
      obtain ⟨Am, cm, rfl, _, _, _, _⟩ := Row.form hm1
      have e3 := hv.cell (j := 3) rfl
      obtain ⟨nm, hnm⟩ : ∃ nm, nm = s.lm.length := ⟨_, rfl⟩
      rw [← hnm] at e3 HLO
      clear hv hm1 hnm
      go_wp2
      go_ret
      rw [HLO.out]
      exact ⟨rfl, hb1⟩
    · rw [if_neg h0] at HLO
      have hsz : (strB n).size ≠ 0 := by rw [strB_size]; intro e; exact h0 (List.length_eq_zero_iff.1 e)
      have hem : (strB n).toList.isEmpty = false := nonempty_list hsz
      have HNZ : Hid ((strB n).size ≤ maxLen) := Lib.hid (by rw [strB_size]; unfold maxLen; omega)
      clear hm hd hlo h0 hsz
      have HSB := Lib.hid (strB_list n)
      generalize strB n = sn at *
      go_enter Try.func24, Try.ntmps24
      go_upto_region 3 with (first
        | (go_at_call 29; go_must (refine HR.out.mono ?_; rintro _ w1 ⟨rfl, hb1⟩))
        | fail)
      have HM1 := Lib.hid (HM.out.below hb1)
      obtain ⟨nb, nn, e2, hdm, hnn⟩ := HM1.out.nowm
      have hlk := dir_get hdm sn HNZ.out
      rw [HSB.out] at hlk
      cases hg : Dsk.get (Dsk.dn s) n with
      | none =>
        rw [hg] at hlk HLO
        dsimp only at hlk HLO
        clear hg hdm
        go_wp2
        go_ret
        rw [HLO.out]
        exact ⟨rfl, hb1⟩
      | some i =>
        have hi := Dsk.dn_reach (Dsk.get_mem hg)
        obtain ⟨v0, v1, v2, hv, h0, h1, h2⟩ := (HM1.out.file i hi).get
        obtain ⟨A2, c2, rfl, _⟩ := h2.at
        have e3 := hv.cell (j := 2) rfl
        rw [hg] at hlk HLO
        dsimp only at hlk HLO
        obtain ⟨nl, hnl⟩ : ∃ nl, nl = (Dsk.fil s i).loo.length := ⟨_, rfl⟩
        rw [← hnl] at e3 HLO
        generalize F i = fb at *
        clear hg hdm hv h0 h1 h2 hi hnl
        go_wp2
        go_ret
        rw [HLO.out]
        exact ⟨rfl, hb1⟩
set_option maxHeartbeats 1000000 in
theorem ddown_any (hm : Mem w db F ρ s T) : Calls Try.prog 19 #[.pointer (some ⟨db, 0, none⟩)] w fun e w' => e = .returned (.bool s.down) ∧ Below w.heap.size w w' := by
  have e5 := hm.down
  clear hm
  generalize s.down = d at *
  go_enter Try.func19, Try.ntmps19
  go_wp2
  go_ret
  exact ⟨rfl, Below.refl _ _⟩
end
end Go.Proofs.Ythgeppdoonbkpaa
