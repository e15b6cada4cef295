/- the calls of a disk. Conditions: sizes. -/
import Derived.Test.YthgeppdoonbkpaaDskU
import Derived.Test.YthgeppdoonbkpaaDskX
import Derived.Test.YthgeppdoonbkpaaDskH
namespace Go.Proofs.Ythgeppdoonbkpaa
open Go.RowKit Go.Maps Go.WideMaps
section
variable {w : World} {db : Nat} {F : Nat → Nat} {ρ : Roles} {s : Dsk.St} {T : Nat}
theorem new_mem (w : World) (room : Int) (hr : room ≤ 9223372036854775807) (r : Int) (hrr : r = ((Dsk.new room).room : Nat)) :
    ∃ F ρ, Mem (((w.alloc (.map #[] 0)).alloc (.map #[] 0)).alloc (.cells #[.int .i64 r, .map (some w.heap.size), .map (some (w.heap.size + 1)), .slice none 0 0, .pointer none, .bool false] 65)) (w.heap.size + 1 + 1) F ρ (Dsk.new room) 0 ∧ ∀ b r, ρ b = some r → w.heap.size ≤ b := by
  refine ⟨fun _ => 0, fun b => if b = w.heap.size then some .lasts else if b = w.heap.size + 1 then some .now else if b = w.heap.size + 1 + 1 then some .disk else none, ⟨fun b r e => ?_, ?_, ?_, fun i hi => absurd hi (Dsk.new_reach room i), Dsk.fit_new room hr⟩, fun b r e => ?_⟩
  · simp only [World.size_alloc]
    split at e
    · omega
    · split at e
      · omega
      · split at e
        · omega
        · cases e
  · show (if w.heap.size + 1 + 1 = w.heap.size then some Role.lasts else if w.heap.size + 1 + 1 = w.heap.size + 1 then some .now else if w.heap.size + 1 + 1 = w.heap.size + 1 + 1 then some .disk else none) = _
    rw [if_neg (by omega), if_neg (by omega), if_pos rfl]
  · refine ⟨w.heap.size, w.heap.size + 1, 0, 0, .slice none 0 0, .pointer none, ?_, ⟨if_pos rfl, ?_, Nat.le_refl _⟩, ⟨?_, ?_, Nat.le_refl _⟩, ⟨Row.nil _ _ _, fun b hb => by cases hb⟩, rfl⟩
    · have h := Var.new ((w.alloc (.map #[] 0)).alloc (.map #[] 0)) 65 [.int .i64 r, .map (some w.heap.size), .map (some (w.heap.size + 1)), .slice none 0 0, .pointer none, .bool false]
      rw [hrr] at h ⊢
      simp only [World.size_alloc] at h
      exact h
    · have h := World.ownsMap_made w Try.prog 9 fileElem
      exact Dirm.chg (S := fun _ => False) (w := w.alloc (.map #[] 0)) (F := fun _ => 0) (l := []) h (Chg.of_below (((Below.refl _ _).alloc (Nat.le_refl _) _).alloc (by simp) _)) id
    · show (if w.heap.size + 1 = w.heap.size then some Role.lasts else if w.heap.size + 1 = w.heap.size + 1 then some .now else if w.heap.size + 1 = w.heap.size + 1 + 1 then some .disk else none) = _
      rw [if_neg (by omega), if_pos rfl]
    · have h := World.ownsMap_made (w.alloc (.map #[] 0)) Try.prog 9 fileElem
      rw [World.size_alloc] at h
      exact Dirm.chg (S := fun _ => False) (w := (w.alloc (.map #[] 0)).alloc (.map #[] 0)) (F := fun _ => 0) (l := []) h (Chg.of_below ((Below.refl _ _).alloc (Nat.le_refl _) _)) id
  · dsimp only at e
    split at e
    · omega
    · split at e
      · omega
      · split at e
        · omega
        · cases e
def NewOut (w : World) (room : Int) (e : Ending) (w' : World) : Prop := ∃ db F ρ, e = .returned (.pointer (some ⟨db, 0, none⟩)) ∧ Mem w' db F ρ (Dsk.new room) 0 ∧ Below w.heap.size w w' ∧ ∀ b r, ρ b = some r → w.heap.size ≤ b
set_option maxHeartbeats 1000000 in
theorem dnew_any (w : World) (room : Int) (hr : room ≤ 9223372036854775807) : Calls Try.prog 8 #[.int .i64 room] w (NewOut w room) := by
  have HN := Lib.hid (new_mem w room hr)
  have hmm := @run_makeMap Try.prog
  have hbb : ∀ o, Below w.heap.size w (((w.alloc (.map #[] 0)).alloc (.map #[] 0)).alloc o) := fun o => (((Below.refl _ w).alloc (Nat.le_refl _) _).alloc (by simp) _).alloc (by simp; omega) _
  have HB := Lib.hid hbb
  clear hbb
  have HR : Hid (max room 0 = ((Dsk.new room).room : Nat)) := Lib.hid (by show max room 0 = (room.toNat : Int); omega)
  go_enter Try.func8, Try.ntmps8
  go_wp2
  go_ret
  obtain ⟨F', ρ', h1, h2⟩ := HN.out _ HR.out
  exact ⟨w.heap.size + 1 + 1, F', ρ', rfl, h1, HB.out _, h2⟩
theorem FileN.re {w : World} {ρ ρ' : Roles} {F F' : Nat → Nat} {f : Dsk.Fi} {b : Bs} {i : Nat} (h : FileN w ρ F f b i) (hF : F' i = F i) (hs : ∀ b r, ρ b = some r → ρ' b = some r) : FileN w ρ' F' f b i := by
  have hdat : ∀ {v : Value} {n : Nat} {xs : List Value}, Dat w ρ v n xs → Dat w ρ' v n xs := fun ⟨A, c, e, h1, h2, h3, h4⟩ => ⟨A, c, e, h1, h2, h3, fun hn g o p ea => hs _ _ (h4 hn g o p ea)⟩
  obtain ⟨hr, v0, v1, v2, hv, h0, h1, zs, e, hrow, ho, hz⟩ := h
  refine ⟨by rw [hF]; exact hs _ _ hr, v0, v1, v2, by rw [hF]; exact hv, hdat h0, hdat h1, zs, e, hrow, fun b hb => hs _ _ (ho b hb), fun k c p hk hp => ?_⟩
  have hc := hz k c p hk hp
  cases c with
  | wr a d =>
    obtain ⟨e1, xa, xo, v, e2, la, lo, ca, co, hb, ra, ro⟩ := hc
    exact ⟨e1, xa, xo, v, e2, la, lo, ca, co, hdat hb, hs _ _ ra, hs _ _ ro⟩
  | cut k =>
    obtain ⟨e1, xa, e2, la, ca, ra⟩ := hc
    exact ⟨e1, xa, e2, la, ca, hs _ _ ra⟩
theorem create_mem (hm : Mem w db F ρ s T) : ∃ F2 ρ2, Mem (w.alloc (.cells #[.slice none 0 0, .slice none 0 0, .slice none 0 0] 71)) db F2 ρ2 { s with fs := s.fs ++ [⟨[], []⟩] } T ∧ Step ρ ρ2 Mut w (w.alloc (.cells #[.slice none 0 0, .slice none 0 0, .slice none 0 0] 71)) ∧ F2 s.fs.length = w.heap.size ∧ Filed (w.alloc (.cells #[.slice none 0 0, .slice none 0 0, .slice none 0 0] 71)) ρ2 F2 ⟨[], []⟩ s.fs.length := by
  have hb : Below w.heap.size w (w.alloc (.cells #[.slice none 0 0, .slice none 0 0, .slice none 0 0] 71)) := (Below.refl _ _).alloc (Nat.le_refl _) _
  have hm2 := hm.below hb
  have hvn := Var.new w 71 [.slice none 0 0, .slice none 0 0, .slice none 0 0]
  have hsz : (w.alloc (.cells #[.slice none 0 0, .slice none 0 0, .slice none 0 0] 71)).heap.size = w.heap.size + 1 := by simp
  generalize w.alloc (.cells #[.slice none 0 0, .slice none 0 0, .slice none 0 0] 71) = W at *
  obtain ⟨F2, hF2⟩ : ∃ F2 : Nat → Nat, F2 = fun j => if j = s.fs.length then w.heap.size else F j := ⟨_, rfl⟩
  obtain ⟨ρ2, hρ2⟩ : ∃ ρ2 : Roles, ρ2 = fun b => if b = w.heap.size then some (.file s.fs.length) else ρ b := ⟨_, rfl⟩
  have hFo : ∀ j, j < s.fs.length → F2 j = F j := fun j hj => by rw [hF2]; exact if_neg (by omega)
  have hFn : F2 s.fs.length = w.heap.size := by rw [hF2]; exact if_pos rfl
  have hρo : ∀ b r, ρ b = some r → ρ2 b = some r := fun b r e => by rw [hρ2]; dsimp only; rw [if_neg (by have := hm.lt b r e; omega)]; exact e
  have hρn : ρ2 w.heap.size = some (.file s.fs.length) := by rw [hρ2]; exact if_pos rfl
  have hρx : ∀ b, b < w.heap.size → ρ2 b = ρ b := fun b hb => by rw [hρ2]; exact if_neg (by omega)
  have hm3 : Mem W db F ρ2 s T := hm2.roles (fun b r e => by
    by_cases h : b = w.heap.size
    · omega
    · rw [hρ2] at e
      dsimp only at e
      rw [if_neg h] at e
      exact hm2.lt b r e) hρo
  have hmk : ∀ m ∈ s.lm, ∀ i, m.nw = some i → F i = F2 i := fun m hmm i e => (hFo i (hm.fit.reach i (.inr ⟨m, hmm, e⟩))).symm
  obtain ⟨lb, nb, ln, nn, vl, va, hv, ⟨l1, l2, l3⟩, ⟨n1, n2, n3⟩, ⟨m1, m2⟩, ha⟩ := hm3.get
  refine ⟨F2, ρ2, ⟨hm3.lt, hm3.disk, ⟨lb, nb, ln, nn, vl, va, hv, ⟨l1, l2.congr (fun p hp => (hFo p.2 (hm.fit.reach _ (.inl ⟨p.1, hp⟩))).symm), l3⟩, ⟨n1, n2.congr (fun p hp => (hFo p.2 (hm.fit.reach _ (Dsk.dn_reach hp))).symm), n3⟩, ⟨by rw [← movesV_congr hmk]; exact m1, m2⟩, ha⟩, fun i hi => ?_, Dsk.fit_file hm.fit _⟩, ⟨(Step.of_below hb).chg, hρx⟩, hFn, ⟨by rw [hFn]; exact hρn, .slice none 0 0, .slice none 0 0, .slice none 0 0, by rw [hFn]; exact hvn, Dat.nil _ _, Dat.nil _ _, ChRow.nil _ _ _⟩⟩
  have hlt := hm.fit.reach i hi
  rw [Dsk.fil_more hlt]
  exact (hm3.file i hi).re (hFo i hlt) (fun _ _ e => e)
set_option maxHeartbeats 1000000 in
set_option maxRecDepth 100000 in
theorem dcreate_any (hm : Mem w db F ρ s T) (hT : T ≤ 99999) (n : Bs) (hn : n.length ≤ 1000000000) : Calls Try.prog 9 #[.pointer (some ⟨db, 0, none⟩), .string (strB n)] w fun e w' => e = .returned (.int .i64 ((Dsk.create s n).2 : Nat)) ∧ Out w db ρ (Dsk.create s n).1 (T + 1) w' := by
  have HM := Lib.hid hm
  have hb1 : Below w.heap.size w (w.alloc (.cells #[.string (strB n)] 9)) := (Below.refl _ _).alloc (Nat.le_refl _) _
  have hmw := hm.below hb1
  have hrd : Rd (w.alloc (.cells #[.string (strB n)] 9)) (w.alloc (.cells #[.string (strB n)] 9)).heap.size 1 (some ⟨w.heap.size, 0, none⟩) 1 (namesV [n]) := ⟨rfl, fun _ => ⟨w.heap.size, 0, rfl, by simp, fun j u hu => by
    rcases j with _ | j
    · injection hu with hu; subst hu; simp; rfl
    · cases hu⟩⟩
  have HRD := Lib.hid (dreadyS (s := s) hmw.down _ _ 1 [n] hrd (by omega) (fun x hx => by rw [List.mem_singleton.1 hx]; omega))
  have HB1 := Lib.hid hb1
  obtain ⟨r, hr⟩ : ∃ r, r = Dsk.ready s [n] := ⟨_, rfl⟩
  rw [← hr] at HRD
  have HNZ : Hid ((strB n).size ≤ maxLen) := Lib.hid (by rw [strB_size]; unfold maxLen; omega)
  have HSB := Lib.hid (strB_list n)
  have HSN : Hid (strB n = strB n) := Lib.hid rfl
  by_cases h0 : r = 0
  · subst h0
    have hup : s.down = false := by
      cases hd : s.down with
      | false => rfl
      | true => unfold Dsk.ready at hr; rw [hd, if_pos rfl] at hr; cases hr
    have hmay : Dsk.may n = true := by
      unfold Dsk.ready at hr
      rw [hup, if_neg (by decide)] at hr
      by_cases hx : Dsk.allMay [n] = true
      · simpa [Dsk.allMay] using hx
      · rw [if_neg hx] at hr; cases hr
    have HUP := Lib.hid hup
    have HMAY := Lib.hid hmay
    have HCR : Hid (Dsk.create s n = if Dsk.get (Dsk.dn s) n ≠ none then (s, 35) else if 64 ≤ (Dsk.dn s).length then (s, 31) else Dsk.moved { s with fs := s.fs ++ [⟨[], []⟩] } ⟨[], n, some s.fs.length⟩) := Lib.hid (by unfold Dsk.create; rw [← hr, if_neg (fun h => h rfl)])
    clear hm hb1 hmw hrd hr hup hmay
    obtain ⟨sn, hsn⟩ : ∃ sn, sn = strB n := ⟨_, rfl⟩
    rw [← hsn] at HRD HB1 HNZ HSB ⊢
    have HSE := Lib.hid hsn
    clear hsn HSN
    go_enter Try.func9, Try.ntmps9
    go_upto_region 4 with (first
      | (go_at_call 29; go_must (refine HRD.out.mono ?_; rintro _ w1 ⟨rfl, hb2⟩))
      | fail)
    have HB2 := Lib.hid (HB1.out.trans (hb2.mono HB1.out.size))
    have HM1 := Lib.hid (HM.out.below HB2.out)
    obtain ⟨nb, nn, e2, hd, hnn⟩ := HM1.out.nowm
    have hlk := dir_get hd sn HNZ.out
    rw [HSB.out] at hlk
    have HD := Lib.hid hd
    have hlen : Maps.size (Dsk.mapD F (Dsk.dn s)) = (Dsk.dn s).length := Dsk.mapD_size F _
    cases hg : Dsk.get (Dsk.dn s) n with
    | some i =>
      rw [hg] at hlk
      dsimp only at hlk
      rw [hg, if_pos (by simp)] at HCR
      clear hd hlen hg hb2
      go_wp2
      go_ret
      rw [HCR.out]
      exact ⟨rfl, (Out.below HM.out HB2.out).more (Nat.le_succ _)⟩
    | none =>
      rw [hg] at hlk
      dsimp only at hlk
      rw [hg, if_neg (by simp)] at HCR
      obtain ⟨nl, hnl⟩ : ∃ nl, nl = (Dsk.dn s).length := ⟨_, rfl⟩
      rw [← hnl] at HCR
      have HLN : Hid (Maps.size (Dsk.mapD F (Dsk.dn s)) = nl) := Lib.hid (by rw [hlen, hnl])
      have HMD := Lib.hid (create_mem HM1.out)
      clear hd hlen hnl hb2
      by_cases h64 : 64 ≤ nl
      · rw [if_pos h64] at HCR
        have hq : (64 : Int) ≤ (nl : Int) := by omega
        clear hg
        go_wp2_with (first
          | (at_len; refine wpList_len_own w1 rfl _ 61 rfl 9 67 Try.underlying61 fileElem nb nn (Dsk.mapD F (Dsk.dn s)) rfl HD.out ?_; rw [HLN.out])
          | fail)
        go_ret
        rw [HCR.out]
        exact ⟨rfl, (Out.below HM.out HB2.out).more (Nat.le_succ _)⟩
      · rw [if_neg h64] at HCR
        have hq : ¬ (64 : Int) ≤ (nl : Int) := by omega
        have HGN := Lib.hid hg
        clear hg
        obtain ⟨F2, ρ2, hm2, hst2, hF2, hf2⟩ := HMD.out
        have HST2 := Lib.hid hst2
        have HMV := Lib.hid (dmoved_any hm2 hT HUP.out (m := ⟨[], n, some s.fs.length⟩) (P := some ⟨w1.heap.size, 0, none⟩) (Nat.zero_le _) (Dsk.may_len HMAY.out).1 (fun _ => (Dsk.may_len HMAY.out).2) (fun e => by cases e) (fun i e => by
          injection e with e
          subst e
          refine ⟨by dsimp only; rw [List.length_append, List.length_singleton]; omega, ?_, ?_⟩
          · rw [Dsk.fil_new]; exact Dsk.Good.nil (Nat.zero_le _)
          · rw [Dsk.fil_new]) (fun i e => by injection e with e; subst e; rw [Dsk.fil_new]; exact hf2) (by unfold mvP; dsimp only; rw [hF2]))
        have HMV2 : Hid (Calls Try.prog 30 #[.pointer (some ⟨db, 0, none⟩), .agg #[.string ⟨#[]⟩, .string sn, .pointer (some ⟨w1.heap.size, 0, none⟩)]] (w1.alloc (.cells #[.slice none 0 0, .slice none 0 0, .slice none 0 0] 71)) _) := Lib.hid (by rw [HSE.out]; exact HMV.out)
        obtain ⟨rc, hrc⟩ : ∃ rc, rc = (Dsk.moved { s with fs := s.fs ++ [⟨[], []⟩] } ⟨[], n, some s.fs.length⟩).2 := ⟨_, rfl⟩
        rw [← hrc] at HMV2
        have HRC := Lib.hid hrc
        clear hm2 hst2 hf2 hF2 HMV hrc
        go_wp2_with (first
          | (at_len; refine wpList_len_own w1 rfl _ 61 rfl 9 67 Try.underlying61 fileElem nb nn (Dsk.mapD F (Dsk.dn s)) rfl HD.out ?_; rw [HLN.out])
          | (go_at_call 30; go_must (refine HMV2.out.mono ?_; rintro _ w6 ⟨rfl, hout⟩))
          | fail)
        go_ret
        rw [HCR.out, ← HRC.out]
        exact ⟨rfl, Out.after (Step.of_below HB2.out) (Out.after HST2.out hout)⟩
  · have HCR : Hid (Dsk.create s n = (s, r)) := Lib.hid (by unfold Dsk.create; rw [← hr, if_pos h0])
    have hne : ((r : Int) != 0) = true := by rw [bne_iff_ne]; omega
    clear hm hb1 hmw hrd hr
    generalize strB n = sn at *
    go_enter Try.func9, Try.ntmps9
    go_wp2_with (first
      | (go_at_call 29; go_must (refine HRD.out.mono ?_; rintro _ w1 ⟨rfl, hb2⟩))
      | fail)
    go_ret
    rw [HCR.out]
    exact ⟨rfl, (Out.below HM.out (HB1.out.trans (hb2.mono HB1.out.size))).more (Nat.le_succ _)⟩
end
end Go.Proofs.Ythgeppdoonbkpaa
