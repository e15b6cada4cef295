/- the law ChunkWrites. Conditions: sizes, the world's shape, the library's table. -/
import Derived.Test.YthipgmnfokfaiaaDoorQLast
import Derived.Deep.RegionHeld3
namespace Go.Proofs.YthipgmnfokfaiaaDoor
open Go.RowKit

theorem lit_rd' {w : World} {base sz n m c : Nat} {A : Option Addr} {xs : List Value} (h : Row w base sz (.slice A n c) m xs) (e : n = m := by rfl) : Rd w w.heap.size sz A n xs := by
  subst e
  obtain ⟨A', c', e, _, _, _, hr⟩ := h.form
  injection e with e1 e2 e3
  subst e1 e3
  exact hr
set_option maxHeartbeats 8000000 in
set_option maxRecDepth 100000 in
theorem cwrites_any (A : Option Addr) (n c : Nat) (l : Bs) (A2 : Option Addr) (n2 c2 : Nat) (fs : List Fl) (w : World) (hsh : w.ShapedOpen Tryd.prog) (ht : Tz w) (hA : A = none → n = 0) (hrd : Rd w w.heap.size 1 A n (bytesV l)) (hn : n ≤ 16777216)
    (hA2 : A2 = none → n2 = 0) (hrd2 : Rd w w.heap.size 2 A2 n2 (fieldsV fs)) (hn2 : n2 ≤ 1048576) (hf : fSize fs ≤ 67108864) :
    Calls Tryd.prog 10 #[.slice A n c, .slice A2 n2 c2] w fun e w' => e = .returned (.bool true) ∧ Below w.heap.size w w' := by
  obtain ⟨f0, hf0, fz0, fz1, fz2⟩ := info_parts infoField
  have hlen : l.length = n := by have := hrd.1; rw [bytesV_len] at this; omega
  have hlen2 : fs.length = n2 := by have := hrd2.1; rw [fieldsV_len] at this; omega
  have e0 : (l ++ [201, 202]).take n = l := by rw [← hlen]; exact List.take_left
  have HL := Lib.hid hlen
  have HL2 := Lib.hid hlen2
  have HRD := Lib.hid hrd
  have HRD2 := Lib.hid hrd2
  have HS := Lib.hid hsh
  have HT := Lib.hid ht
  clear hrd hrd2 hsh ht hlen hlen2
  go_enter Tryd.func10, Tryd.ntmps10
  go_upto_region 2 with (first
    | (go_at_call 27; go_must (refine (mlent_any A n c l _ hA HRD.out (by omega)).mono ?_; rintro _ w1 ⟨g, o, c1, rfl, hc1, hm1, hrow1, hb1⟩))
    | fail)
  have hz1 := hb1.size
  go_upto_region 4 with (first
    | (at_builtin; (refine wpList_app _ rfl (.tmp 14) (.tmp 15) 22 22 rfl w1.heap.size 53 f0 (.agg #[.string ⟨#[]⟩, .string ⟨#[]⟩]) 2 32 Tryd.underlying22 hf0 fz0 fz1 fz2 rfl (.slice none 0 0) 0 [] rfl (Row.nil _ _ _) _ n2 (fieldsV fs) rfl (Src.slice Tryd.underlying22 (HRD2.out.keeps hb1) hA2 (fieldsV_one fs)) (by omega) (by omega) (by omega) (by omega) ?_); intro v2 w2 hrow2 hg2 _; rw [List.nil_append, Nat.zero_add] at hrow2; have hb2 : Below w1.heap.size w1 w2 := Below.app (Below.refl _ _) (Row.nil w1 w1.heap.size 2) hg2 (Nat.le_refl _) (Nat.le_refl _); have hz2 := hb2.size)
    | (at_builtin; (refine wpList_app _ rfl (.tmp 16) (.tmp 18) 22 22 rfl w1.heap.size 53 f0 (.agg #[.string ⟨#[]⟩, .string ⟨#[]⟩]) 2 32 Tryd.underlying22 hf0 fz0 fz1 fz2 rfl v2 n2 (fieldsV fs) rfl (hrow2.alloc _) _ 1 [.string ⟨#[109, 97, 114, 107]⟩, .string ⟨#[]⟩] rfl (Src.built [.string ⟨#[109, 97, 114, 107]⟩, .string ⟨#[]⟩] 53 Tryd.underlying22 rfl (by intro u hu; simp at hu; rcases hu with rfl | rfl <;> rfl)) (by omega) (by omega) (by omega) (by simp; omega) ?_); intro v3 w3 hrow3 hg3 _; obtain ⟨A3, c3, rfl, hc3, _, _, hr3⟩ := hrow3.form; have hb3 : Below w1.heap.size w1 w3 := Below.app (hb2.alloc hz2 _) (hrow2.alloc _) hg3 (Nat.le_refl _) (by simp; omega))
    | fail)
  have hz3 := hb3.size
  have HB3 := Lib.hid (hb1.trans (hb3.mono hz1))
  have RG3 := Lib.hid (hrow1.below_all hb3)
  have RL3 := Lib.hid hrow3
  obtain ⟨_, _, q1, _, _, _, hrg⟩ := RG3.out.form
  injection q1 with q1 _ q3
  subst q1 q3
  have hrp := hrg.pre (k := n) (by omega)
  rw [Nat.mul_one, bytesV_take, e0] at hrp
  have h5 := HT.out.lt
  have HT3 : Hid (Tz w3) := Lib.hid (HT.out.below HB3.out h5)
  clear hrow1 hb1 hrow2 hg2 hb2 hrow3 hg3 hr3 hrg hb3 e0
  go_upto_region 5 with (first
    | (go_at_call 45; go_must (refine (cwrite_any (some ⟨g, o, none⟩) n c1 l _ HT3.out (fun e => by cases e) hrp (by omega)).mono ?_; rintro _ w4 ⟨v4, rfl, hrow4, hb4⟩))
    | fail)
  have hz4 := hb4.size
  have HB4 := Lib.hid (HB3.out.trans (hb4.mono HB3.out.size))
  have RG4 := Lib.hid (RG3.out.below_all hb4)
  have RL4 := Lib.hid (RL3.out.below_all hb4)
  have RA4 := Lib.hid hrow4
  obtain ⟨_, _, q1, hcl, _, _, hrl⟩ := RL4.out.form
  injection q1 with q1 _ q3
  subst q1 q3
  have hrlp := hrl.pre (k := n2) (by omega)
  have etk : (fieldsV fs ++ [Value.string ⟨#[109, 97, 114, 107]⟩, Value.string ⟨#[]⟩]).take (n2 * 2) = fieldsV fs := by
    have : (fieldsV fs).length = n2 * 2 := by rw [fieldsV_len, HL2.out]
    rw [← this]; exact List.take_left
  rw [etk] at hrlp
  have HRLP := Lib.hid hrlp
  have HETK := Lib.hid etk
  clear hrp hrow4 hb4 hrl RG3 RL3 HB3 hrlp etk
  have i0 : (0 : Int) ≤ (n2 : Int) := by omega
  have i1 : (n2 : Int) ≤ (c3 : Int) := by omega
  go_upto_region 6 with (first
    | (go_at_call 49; go_must (refine (clast_any A3 n2 c3 fs _ (shaped_below HS.out HB4.out) HRLP.out (by omega) hf).mono ?_; rintro _ w5 ⟨v5, rfl, hrow5, hb5⟩))
    | fail)
  have hz5 := hb5.size
  have HB5 := Lib.hid (HB4.out.trans (hb5.mono HB4.out.size))
  have RG5 := Lib.hid (RG4.out.below_all hb5)
  have RL5 := Lib.hid (RL4.out.below_all hb5)
  have RA5 := Lib.hid (RA4.out.below_all hb5)
  have RB5 := Lib.hid hrow5
  have hrd5 := (HRD2.out.below HB5.out).more HB5.out.size
  clear hrow5 hb5 RG4 RL4 RA4 HRLP i0 i1
  go_upto_region 7 with (first
    | (go_at_call 50; go_must (refine (qlast_any A2 n2 c2 fs _ hrd5 (by omega) hf).mono ?_; rintro _ w6 ⟨v6, rfl, hrow6, hb6⟩))
    | fail)
  have hz6 := hb6.size
  have HB6 := Lib.hid (HB5.out.trans (hb6.mono HB5.out.size))
  have RG6 := RG5.out.below_all hb6
  have RL6 := RL5.out.below_all hb6
  have RA6 := RA5.out.below_all hb6
  have RB6 := RB5.out.below_all hb6
  have RC6 := hrow6
  obtain ⟨Aa, ca, rfl, _, _, _, _⟩ := RA6.form
  obtain ⟨Ab, cb, rfl, _, _, _, _⟩ := RB6.form
  obtain ⟨Ac, cc, rfl, _, _, _, _⟩ := RC6.form
  obtain ⟨g3, o3, rfl, _, hg3, hcm, _⟩ := RL6.own (by omega)
  have M6 : w6.cell? ⟨g3, o3 + n2 * 2, none⟩ = some (.string ⟨#[109, 97, 114, 107]⟩) := hcm _ _ (by
    have : (fieldsV fs).length = n2 * 2 := by rw [fieldsV_len, HL2.out]
    rw [List.getElem?_append_right (by omega), this, Nat.sub_self]; rfl)
  have hrd6 := (HRD.out.below HB6.out).more HB6.out.size
  have hrf6 := (HRD2.out.below HB6.out).more HB6.out.size
  have C6 : (convert 35 9 (.slice Aa (Chunk.writeC l).length ca)).run Tryd.prog w6.drew = .ok (.string ⟨(Chunk.writeC l).toArray⟩) w6.drew ∧ (convert 35 9 (.slice Ab (Chunk.lastP (upF fs)).1.length cb)).run Tryd.prog w6.drew = .ok (.string ⟨(Chunk.lastP (upF fs)).1.toArray⟩) w6.drew ∧ (convert 35 9 (.slice Ac (Chunk.lastP (upF fs)).1.length cc)).run Tryd.prog w6.drew = .ok (.string ⟨(Chunk.lastP (upF fs)).1.toArray⟩) w6.drew ∧ w6.drew.cell? ⟨g3, o3 + n2 * 2, none⟩ = some (.string ⟨#[109, 97, 114, 107]⟩) := ⟨conv_row RA6.drew, conv_row RB6.drew, conv_row RC6.drew, M6⟩
  have HW6 := Lib.hid (fun W h => qwrite_any A n c l W hA h (by omega))
  have i0 : (0 : Int) ≤ (n2 : Int) := by omega
  have i1 : (n2 : Int) ≤ (c3 : Int) := by omega
  have i2 : (n2 : Int) < (n2 : Int) + 1 := by omega
  generalize Chunk.writeC l = WC at *
  generalize Chunk.lastP (upF fs) = LP at *
  obtain ⟨LB, le⟩ := LP
  simp only at *
  have h6 := Lib.hid hrd6
  have hf6 := Lib.hid hrf6
  have GA := Lib.hid RA6
  have GB := Lib.hid RB6
  have GC := Lib.hid RC6
  have GG := Lib.hid RG6
  have GL := Lib.hid RL6
  have GM := Lib.hid M6
  have HC6 := Lib.hid C6
  have hz60 := HB6.out.size
  clear hcm hrow6 hb6 RG5 RL5 RA5 RB5 HB5 hrd5 HB4 hrd6 hrf6 RA6 RB6 RC6 RG6 RL6 HT3 M6 C6 hc3 hz1 hz2 hz3 hz4 hz5 hz6 hm1
  clear hf0 fz0 fz1 fz2
  refine wp_region_held_drew (S := (fun w' => (convert 35 9 (.slice Aa WC.length ca)).run Tryd.prog w' = .ok (.string ⟨WC.toArray⟩) w' ∧ (convert 35 9 (.slice Ab LB.length cb)).run Tryd.prog w' = .ok (.string ⟨LB.toArray⟩) w' ∧ (convert 35 9 (.slice Ac LB.length cc)).run Tryd.prog w' = .ok (.string ⟨LB.toArray⟩) w' ∧ w'.cell? ⟨g3, o3 + n2 * 2, none⟩ = some (.string ⟨#[109, 97, 114, 107]⟩))) (by kernel_rfl) ?_ (fun hHeld => ?_)
  · exact HC6.out
  refine wpAnyH_take (i := 0) (v := ?_) (by simp only [List.getElem?_toArray, List.getElem?_cons_zero]; exact rfl) (by kernel_rfl) (by kernel_rfl) (by kernel_rfl) (by exact fun _ _ _ h => h) (Or.inl ⟨by rfl, ?_⟩) (by assumption) ?_
  rotate_left
  · intro w hSw
    (try dsimp only at hSw)
    go_simp
    try with_reducible rfl
  (try simp only [Act.put, List.setIfInBounds_toArray, List.set_cons_zero, List.set_cons_succ])
  refine wpAnyH_take (i := 1) (v := ?_) (by simp only [List.getElem?_toArray, List.getElem?_cons_succ, List.getElem?_cons_zero]; exact rfl) (by kernel_rfl) (by kernel_rfl) (by kernel_rfl) (by exact fun _ _ _ h => h) (Or.inl ⟨by rfl, ?_⟩) (by assumption) ?_
  rotate_left
  · intro w hSw
    (try dsimp only at hSw)
    go_simp
    try with_reducible rfl
  (try simp only [Act.put, List.setIfInBounds_toArray, List.set_cons_zero, List.set_cons_succ])
  refine wpAnyH_take (i := 2) (v := ?_) (by simp only [List.getElem?_toArray, List.getElem?_cons_succ, List.getElem?_cons_zero]; exact rfl) (by kernel_rfl) (by kernel_rfl) (by kernel_rfl) (by exact fun _ _ _ h => h) (Or.inl ⟨by rfl, ?_⟩) (by assumption) ?_
  rotate_left
  · intro w hSw
    (try dsimp only at hSw)
    go_simp
    try with_reducible rfl
  (try simp only [Act.put, List.setIfInBounds_toArray, List.set_cons_zero, List.set_cons_succ])
  refine wpAnyH_ready (rs := [3]) (by kernel_rfl) (by simp) ?_
  refine AllReadyH.cons (by simp only [List.getElem?_toArray, List.getElem?_cons_succ, List.getElem?_cons_zero]; exact rfl) (fun K hK => ?_) AllReadyH.nil
  go_simp
  (go_at_call 51; refine (HW6.out _ (by exact h6.out)).mono ?_; rintro _ w7 ⟨v7, rfl, hrow7, hb7'⟩; have H7 := Lib.hid (Below.of_drew hb7'); obtain ⟨A7, c7, rfl⟩ := rowb_form hrow7; have x7 := conv_row hrow7; have C7 := Lib.hid (And.intro (conv_row (GA.out.below_all H7.out)) (And.intro (conv_row (GB.out.below_all H7.out)) (And.intro (conv_row (GC.out.below_all H7.out)) ((H7.out.cell (p := ⟨g3, o3 + n2 * 2, none⟩) hg3).trans GM.out)))); clear hrow7 hb7')
  refine hK.out _ _ ?_ (fun hHeld => ?_)
  · (try dsimp only)
    exact C7.out
  clear hK K
  (try simp only [Act.put, List.setIfInBounds_toArray, List.set_cons_zero, List.set_cons_succ])
  refine wpAnyH_ready (rs := [4]) (by kernel_rfl) (by simp) ?_
  refine AllReadyH.cons (by simp only [List.getElem?_toArray, List.getElem?_cons_succ, List.getElem?_cons_zero]; exact rfl) (fun K hK => ?_) AllReadyH.nil
  go_simp
  refine hK.out _ _ ?_ (fun hHeld => ?_)
  · (try dsimp only)
    exact C7.out
  clear hK K
  (try simp only [Act.put, List.setIfInBounds_toArray, List.set_cons_zero, List.set_cons_succ])
  clear x7
  refine wpAnyH_take (i := 5) (v := ?_) (by simp only [List.getElem?_toArray, List.getElem?_cons_succ, List.getElem?_cons_zero]; exact rfl) (by kernel_rfl) (by kernel_rfl) (by kernel_rfl) (by exact fun _ _ _ h => h) (Or.inl ⟨by rfl, ?_⟩) (by assumption) ?_
  rotate_left
  · intro w hSw
    (try dsimp only at hSw)
    go_simp
    try with_reducible rfl
  (try simp only [Act.put, List.setIfInBounds_toArray, List.set_cons_zero, List.set_cons_succ])
  refine wpAnyH_take (i := 6) (v := ?_) (by simp only [List.getElem?_toArray, List.getElem?_cons_succ, List.getElem?_cons_zero]; exact rfl) (by kernel_rfl) (by kernel_rfl) (by kernel_rfl) (by exact fun _ _ _ h => h) (Or.inl ⟨by rfl, ?_⟩) (by assumption) ?_
  rotate_left
  · intro w hSw
    (try dsimp only at hSw)
    go_simp
    try with_reducible rfl
  (try simp only [Act.put, List.setIfInBounds_toArray, List.set_cons_zero, List.set_cons_succ])
  refine wpAnyH_take (i := 7) (v := ?_) (by simp only [List.getElem?_toArray, List.getElem?_cons_succ, List.getElem?_cons_zero]; exact rfl) (by kernel_rfl) (by kernel_rfl) (by kernel_rfl) (by exact fun _ _ _ h => h) (Or.inl ⟨by rfl, ?_⟩) (by assumption) ?_
  rotate_left
  · intro w hSw
    (try dsimp only at hSw)
    go_simp
    try with_reducible rfl
  (try simp only [Act.put, List.setIfInBounds_toArray, List.set_cons_zero, List.set_cons_succ])
  refine wpAnyH_take (i := 8) (v := ?_) (by simp only [List.getElem?_toArray, List.getElem?_cons_succ, List.getElem?_cons_zero]; exact rfl) (by kernel_rfl) (by kernel_rfl) (by kernel_rfl) (by exact fun _ _ _ h => h) (Or.inl ⟨by rfl, ?_⟩) (by assumption) ?_
  rotate_left
  · intro w hSw
    (try dsimp only at hSw)
    go_simp
    try with_reducible rfl
  (try simp only [Act.put, List.setIfInBounds_toArray, List.set_cons_zero, List.set_cons_succ])
  refine wpAnyH_take (i := 9) (v := ?_) (by simp only [List.getElem?_toArray, List.getElem?_cons_succ, List.getElem?_cons_zero]; exact rfl) (by kernel_rfl) (by kernel_rfl) (by kernel_rfl) (by exact fun _ _ _ h => h) (Or.inl ⟨by rfl, ?_⟩) (by assumption) ?_
  rotate_left
  · intro w hSw
    (try dsimp only at hSw)
    go_simp
    try with_reducible rfl
  (try simp only [Act.put, List.setIfInBounds_toArray, List.set_cons_zero, List.set_cons_succ])
  refine wpAnyH_take (i := 10) (v := ?_) (by simp only [List.getElem?_toArray, List.getElem?_cons_succ, List.getElem?_cons_zero]; exact rfl) (by kernel_rfl) (by kernel_rfl) (by kernel_rfl) (by exact fun _ _ _ h => h) (Or.inl ⟨by rfl, ?_⟩) (by assumption) ?_
  rotate_left
  · intro w hSw
    (try dsimp only at hSw)
    go_simp
    try with_reducible rfl
  (try simp only [Act.put, List.setIfInBounds_toArray, List.set_cons_zero, List.set_cons_succ])
  refine wpAnyH_take (i := 11) (v := ?_) (by simp only [List.getElem?_toArray, List.getElem?_cons_succ, List.getElem?_cons_zero]; exact rfl) (by kernel_rfl) (by kernel_rfl) (by kernel_rfl) (by exact fun _ _ _ h => h) (Or.inl ⟨by rfl, ?_⟩) (by assumption) ?_
  rotate_left
  · intro w hSw
    (try dsimp only at hSw)
    go_simp
    try with_reducible rfl
  (try simp only [Act.put, List.setIfInBounds_toArray, List.set_cons_zero, List.set_cons_succ])
  refine wpAnyH_take (i := 12) (v := ?_) (by simp only [List.getElem?_toArray, List.getElem?_cons_succ, List.getElem?_cons_zero]; exact rfl) (by kernel_rfl) (by kernel_rfl) (by kernel_rfl) (by exact fun _ _ _ h => h) (Or.inl ⟨by rfl, ?_⟩) (by assumption) ?_
  rotate_left
  · intro w hSw
    (try dsimp only at hSw)
    go_simp
    try with_reducible rfl
  (try simp only [Act.put, List.setIfInBounds_toArray, List.set_cons_zero, List.set_cons_succ])
  refine wpAnyH_take (i := 13) (v := ?_) (by simp only [List.getElem?_toArray, List.getElem?_cons_succ, List.getElem?_cons_zero]; exact rfl) (by kernel_rfl) (by kernel_rfl) (by kernel_rfl) (by exact fun _ _ _ h => h) (Or.inl ⟨by rfl, ?_⟩) (by assumption) ?_
  rotate_left
  · intro w hSw
    (try dsimp only at hSw)
    go_simp
    try with_reducible rfl
  (try simp only [Act.put, List.setIfInBounds_toArray, List.set_cons_zero, List.set_cons_succ])
  refine wpAnyH_take (i := 14) (v := ?_) (by simp only [List.getElem?_toArray, List.getElem?_cons_succ, List.getElem?_cons_zero]; exact rfl) (by kernel_rfl) (by kernel_rfl) (by kernel_rfl) (by exact fun _ _ _ h => h) (Or.inl ⟨by rfl, ?_⟩) (by assumption) ?_
  rotate_left
  · intro w hSw
    (try dsimp only at hSw)
    go_simp
    try with_reducible rfl
  (try simp only [Act.put, List.setIfInBounds_toArray, List.set_cons_zero, List.set_cons_succ])
  refine wpAnyH_take (i := 15) (v := ?_) (by simp only [List.getElem?_toArray, List.getElem?_cons_succ, List.getElem?_cons_zero]; exact rfl) (by kernel_rfl) (by kernel_rfl) (by kernel_rfl) (by exact fun _ _ _ h => h) (Or.inl ⟨by rfl, ?_⟩) (by assumption) ?_
  rotate_left
  · intro w hSw
    (try dsimp only at hSw)
    go_simp
    try with_reducible rfl
  (try simp only [Act.put, List.setIfInBounds_toArray, List.set_cons_zero, List.set_cons_succ])
  refine wpAnyH_take (i := 16) (v := ?_) (by simp only [List.getElem?_toArray, List.getElem?_cons_succ, List.getElem?_cons_zero]; exact rfl) (by kernel_rfl) (by kernel_rfl) (by kernel_rfl) (by exact fun _ _ _ h => h) (Or.inl ⟨by rfl, ?_⟩) (by assumption) ?_
  rotate_left
  · intro w hSw
    (try dsimp only at hSw)
    go_simp
    try with_reducible rfl
  (try simp only [Act.put, List.setIfInBounds_toArray, List.set_cons_zero, List.set_cons_succ])
  refine wpAnyH_take (i := 17) (v := ?_) (by simp only [List.getElem?_toArray, List.getElem?_cons_succ, List.getElem?_cons_zero]; exact rfl) (by kernel_rfl) (by kernel_rfl) (by kernel_rfl) (by exact fun _ _ _ h => h) (Or.inl ⟨by rfl, ?_⟩) (by assumption) ?_
  rotate_left
  · intro w hSw
    (try dsimp only at hSw)
    go_simp
    try with_reducible rfl
  (try simp only [Act.put, List.setIfInBounds_toArray, List.set_cons_zero, List.set_cons_succ])
  refine wpAnyH_take (i := 18) (v := ?_) (by simp only [List.getElem?_toArray, List.getElem?_cons_succ, List.getElem?_cons_zero]; exact rfl) (by kernel_rfl) (by kernel_rfl) (by kernel_rfl) (by exact fun _ _ _ h => h) (Or.inl ⟨by rfl, ?_⟩) (by assumption) ?_
  rotate_left
  · intro w hSw
    (try dsimp only at hSw)
    go_simp
    try with_reducible rfl
  (try simp only [Act.put, List.setIfInBounds_toArray, List.set_cons_zero, List.set_cons_succ])
  refine wpAnyH_ready (rs := [19]) (by kernel_rfl) (by simp) ?_
  refine AllReadyH.cons (by simp only [List.getElem?_toArray, List.getElem?_cons_succ, List.getElem?_cons_zero]; exact rfl) (fun K hK => ?_) AllReadyH.nil
  go_simp
  (go_at_call 46; refine (cend_any _).mono ?_; rintro _ w8 ⟨v8, rfl, hrow8, hb8⟩; have H8 := Lib.hid (H7.out.trans (hb8.mono H7.out.size)); obtain ⟨A8, c8, rfl⟩ := rowb_form hrow8; have x8 : (convert 35 9 (.slice A8 5 c8)).run Tryd.prog w8 = .ok (.string ⟨#[48, 13, 10, 13, 10]⟩) w8 := conv_row hrow8; have C8 := Lib.hid (And.intro (conv_row (GA.out.below_all H8.out)) (And.intro (conv_row (GB.out.below_all H8.out)) (And.intro (conv_row (GC.out.below_all H8.out)) ((H8.out.cell (p := ⟨g3, o3 + n2 * 2, none⟩) hg3).trans GM.out)))); clear hrow8 hb8)
  refine hK.out _ _ ?_ (fun hHeld => ?_)
  · (try dsimp only)
    exact C8.out
  clear hK K
  (try simp only [Act.put, List.setIfInBounds_toArray, List.set_cons_zero, List.set_cons_succ])
  refine wpAnyH_ready (rs := [20]) (by kernel_rfl) (by simp) ?_
  refine AllReadyH.cons (by simp only [List.getElem?_toArray, List.getElem?_cons_succ, List.getElem?_cons_zero]; exact rfl) (fun K hK => ?_) AllReadyH.nil
  go_simp
  refine hK.out _ _ ?_ (fun hHeld => ?_)
  · (try dsimp only)
    exact C8.out
  clear hK K
  (try simp only [Act.put, List.setIfInBounds_toArray, List.set_cons_zero, List.set_cons_succ])
  clear x8
  refine wpAnyH_take (i := 21) (v := ?_) (by simp only [List.getElem?_toArray, List.getElem?_cons_succ, List.getElem?_cons_zero]; exact rfl) (by kernel_rfl) (by kernel_rfl) (by kernel_rfl) (by exact fun _ _ _ h => h) (Or.inl ⟨by rfl, ?_⟩) (by assumption) ?_
  rotate_left
  · intro w hSw
    (try dsimp only at hSw)
    go_simp
    try with_reducible rfl
  (try simp only [Act.put, List.setIfInBounds_toArray, List.set_cons_zero, List.set_cons_succ])
  refine wpAnyH_take (i := 22) (v := ?_) (by simp only [List.getElem?_toArray, List.getElem?_cons_succ, List.getElem?_cons_zero]; exact rfl) (by kernel_rfl) (by kernel_rfl) (by kernel_rfl) (by exact fun _ _ _ h => h) (Or.inl ⟨by rfl, ?_⟩) (by assumption) ?_
  rotate_left
  · intro w hSw
    (try dsimp only at hSw)
    go_simp
    try with_reducible rfl
  (try simp only [Act.put, List.setIfInBounds_toArray, List.set_cons_zero, List.set_cons_succ])
  refine wpAnyH_take (i := 23) (v := ?_) (by simp only [List.getElem?_toArray, List.getElem?_cons_succ, List.getElem?_cons_zero]; exact rfl) (by kernel_rfl) (by kernel_rfl) (by kernel_rfl) (by exact fun _ _ _ h => h) (Or.inl ⟨by rfl, ?_⟩) (by assumption) ?_
  rotate_left
  · intro w hSw
    (try dsimp only at hSw)
    go_simp
    try with_reducible rfl
  (try simp only [Act.put, List.setIfInBounds_toArray, List.set_cons_zero, List.set_cons_succ])
  refine wpAnyH_take (i := 24) (v := ?_) (by simp only [List.getElem?_toArray, List.getElem?_cons_succ, List.getElem?_cons_zero]; exact rfl) (by kernel_rfl) (by kernel_rfl) (by kernel_rfl) (by exact fun _ _ _ h => h) (Or.inl ⟨by rfl, ?_⟩) (by assumption) ?_
  rotate_left
  · intro w hSw
    (try dsimp only at hSw)
    go_simp
    try with_reducible rfl
  (try simp only [Act.put, List.setIfInBounds_toArray, List.set_cons_zero, List.set_cons_succ])
  refine wpAnyH_take (i := 25) (v := ?_) (by simp only [List.getElem?_toArray, List.getElem?_cons_succ, List.getElem?_cons_zero]; exact rfl) (by kernel_rfl) (by kernel_rfl) (by kernel_rfl) (by exact fun _ _ _ h => h) (Or.inl ⟨by rfl, ?_⟩) (by assumption) ?_
  rotate_left
  · intro w hSw
    (try dsimp only at hSw)
    go_simp
    try with_reducible rfl
  (try simp only [Act.put, List.setIfInBounds_toArray, List.set_cons_zero, List.set_cons_succ])
  refine wpAnyH_ready (rs := [26]) (by kernel_rfl) (by simp) ?_
  refine AllReadyH.cons (by simp only [List.getElem?_toArray, List.getElem?_cons_succ, List.getElem?_cons_zero]; exact rfl) (fun K hK => ?_) AllReadyH.nil
  go_simp
  (go_at_call 30; refine (mkept_any g o n c1 A c l _ hc1 (by exact lit_rd' (GG.out.below_all H8.out)) (by exact h6.out.keeps H8.out) hA (by omega)).mono ?_; rintro _ _ ⟨rfl, rfl⟩)
  refine hK.out _ _ ?_ (fun hHeld => ?_)
  · (try dsimp only)
    exact C8.out
  clear hK K
  (try simp only [Act.put, List.setIfInBounds_toArray, List.set_cons_zero, List.set_cons_succ])
  refine wpAnyH_take (i := 27) (v := ?_) (by simp only [List.getElem?_toArray, List.getElem?_cons_succ, List.getElem?_cons_zero]; exact rfl) (by kernel_rfl) (by kernel_rfl) (by kernel_rfl) (by exact fun _ _ _ h => h) (Or.inl ⟨by rfl, ?_⟩) (by assumption) ?_
  rotate_left
  · intro w hSw
    (try dsimp only at hSw)
    go_simp
    try with_reducible rfl
  (try simp only [Act.put, List.setIfInBounds_toArray, List.set_cons_zero, List.set_cons_succ])
  refine wpAnyH_take (i := 28) (v := ?_) (by simp only [List.getElem?_toArray, List.getElem?_cons_succ, List.getElem?_cons_zero]; exact rfl) (by kernel_rfl) (by kernel_rfl) (by kernel_rfl) (by exact fun _ _ _ h => h) (Or.inl ⟨by rfl, ?_⟩) (by assumption) ?_
  rotate_left
  · intro w hSw
    (try dsimp only at hSw)
    go_simp
    try with_reducible rfl
  (try simp only [Act.put, List.setIfInBounds_toArray, List.set_cons_zero, List.set_cons_succ])
  refine wpAnyH_take (i := 29) (v := ?_) (by simp only [List.getElem?_toArray, List.getElem?_cons_succ, List.getElem?_cons_zero]; exact rfl) (by kernel_rfl) (by kernel_rfl) (by kernel_rfl) (by exact fun _ _ _ h => h) (Or.inl ⟨by rfl, ?_⟩) (by assumption) ?_
  rotate_left
  · intro w hSw
    (try dsimp only at hSw)
    go_simp
    try with_reducible rfl
  (try simp only [Act.put, List.setIfInBounds_toArray, List.set_cons_zero, List.set_cons_succ])
  refine wpAnyH_take (i := 30) (v := ?_) (by simp only [List.getElem?_toArray, List.getElem?_cons_succ, List.getElem?_cons_zero]; exact rfl) (by kernel_rfl) (by kernel_rfl) (by kernel_rfl) (by exact fun _ _ _ h => h) (Or.inl ⟨by rfl, ?_⟩) (by assumption) ?_
  rotate_left
  · intro w hSw
    (try dsimp only at hSw)
    go_simp
    try with_reducible rfl
  (try simp only [Act.put, List.setIfInBounds_toArray, List.set_cons_zero, List.set_cons_succ])
  refine wpAnyH_take (i := 31) (v := ?_) (by simp only [List.getElem?_toArray, List.getElem?_cons_succ, List.getElem?_cons_zero]; exact rfl) (by kernel_rfl) (by kernel_rfl) (by kernel_rfl) (by exact fun _ _ _ h => h) (Or.inl ⟨by rfl, ?_⟩) (by assumption) ?_
  rotate_left
  · intro w hSw
    (try dsimp only at hSw)
    go_simp
    try with_reducible rfl
  (try simp only [Act.put, List.setIfInBounds_toArray, List.set_cons_zero, List.set_cons_succ])
  refine wpAnyH_take (i := 32) (v := ?_) (by simp only [List.getElem?_toArray, List.getElem?_cons_succ, List.getElem?_cons_zero]; exact rfl) (by kernel_rfl) (by kernel_rfl) (by kernel_rfl) (by exact fun _ _ _ h => h) (Or.inl ⟨by rfl, ?_⟩) (by assumption) ?_
  rotate_left
  · intro w hSw
    (try dsimp only at hSw)
    go_simp
    try with_reducible rfl
  (try simp only [Act.put, List.setIfInBounds_toArray, List.set_cons_zero, List.set_cons_succ])
  refine wpAnyH_take (i := 33) (v := ?_) (by simp only [List.getElem?_toArray, List.getElem?_cons_succ, List.getElem?_cons_zero]; exact rfl) (by kernel_rfl) (by kernel_rfl) (by kernel_rfl) (by exact fun _ _ _ h => h) (Or.inl ⟨by rfl, ?_⟩) (by assumption) ?_
  rotate_left
  · intro w hSw
    (try dsimp only at hSw)
    go_simp
    try with_reducible rfl
  (try simp only [Act.put, List.setIfInBounds_toArray, List.set_cons_zero, List.set_cons_succ])
  refine wpAnyH_ready (rs := [34]) (by kernel_rfl) (by simp) ?_
  refine AllReadyH.cons (by simp only [List.getElem?_toArray, List.getElem?_cons_succ, List.getElem?_cons_zero]; exact rfl) (fun K hK => ?_) AllReadyH.nil
  go_simp
  (go_at_call 31; refine (mfields_any (some ⟨g3, o3, none⟩) A2 n2 c3 c2 fs _ (by have hrlp := (lit_rd' (GL.out.below_all H8.out)).pre (k := n2) (by omega); rw [HETK.out] at hrlp; exact hrlp) (by exact hf6.out.keeps H8.out) (by omega)).mono ?_; rintro _ w9 ⟨rfl, hb9⟩; have H9 := Lib.hid (H8.out.trans (hb9.mono H8.out.size)); have C9 := Lib.hid (And.intro (conv_row (GA.out.below_all H9.out)) (And.intro (conv_row (GB.out.below_all H9.out)) (And.intro (conv_row (GC.out.below_all H9.out)) ((H9.out.cell (p := ⟨g3, o3 + n2 * 2, none⟩) hg3).trans GM.out)))); clear hb9)
  refine hK.out _ _ ?_ (fun hHeld => ?_)
  · (try dsimp only)
    exact C9.out
  clear hK K
  (try simp only [Act.put, List.setIfInBounds_toArray, List.set_cons_zero, List.set_cons_succ])
  refine wpAnyH_take (i := 35) (v := ?_) (by simp only [List.getElem?_toArray, List.getElem?_cons_succ, List.getElem?_cons_zero]; exact rfl) (by kernel_rfl) (by kernel_rfl) (by kernel_rfl) (by exact fun _ _ _ h => h) (Or.inl ⟨by rfl, ?_⟩) (by assumption) ?_
  rotate_left
  · intro w hSw
    (try dsimp only at hSw)
    go_simp
    try with_reducible rfl
  (try simp only [Act.put, List.setIfInBounds_toArray, List.set_cons_zero, List.set_cons_succ])
  refine wpAnyH_take (i := 36) (v := ?_) (by simp only [List.getElem?_toArray, List.getElem?_cons_succ, List.getElem?_cons_zero]; exact rfl) (by kernel_rfl) (by kernel_rfl) (by kernel_rfl) (by exact fun _ _ _ h => h) (Or.inl ⟨by rfl, ?_⟩) (by assumption) ?_
  rotate_left
  · intro w hSw
    (try dsimp only at hSw)
    go_simp
    try with_reducible rfl
  (try simp only [Act.put, List.setIfInBounds_toArray, List.set_cons_zero, List.set_cons_succ])
  refine wpAnyH_take (i := 37) (v := ?_) (by simp only [List.getElem?_toArray, List.getElem?_cons_succ, List.getElem?_cons_zero]; exact rfl) (by kernel_rfl) (by kernel_rfl) (by kernel_rfl) (by exact fun _ _ _ h => h) (Or.inl ⟨by rfl, ?_⟩) (by assumption) ?_
  rotate_left
  · intro w hSw
    (try dsimp only at hSw)
    go_simp
    try with_reducible rfl
  (try simp only [Act.put, List.setIfInBounds_toArray, List.set_cons_zero, List.set_cons_succ])
  refine wpAnyH_take (i := 38) (v := ?_) (by simp only [List.getElem?_toArray, List.getElem?_cons_succ, List.getElem?_cons_zero]; exact rfl) (by kernel_rfl) (by kernel_rfl) (by kernel_rfl) (by exact fun _ _ _ h => h) (Or.inl ⟨by rfl, ?_⟩) (by assumption) ?_
  rotate_left
  · intro w hSw
    (try dsimp only at hSw)
    go_simp
    try with_reducible rfl
  (try simp only [Act.put, List.setIfInBounds_toArray, List.set_cons_zero, List.set_cons_succ])
  refine wpAnyH_take (i := 39) (v := ?_) (by simp only [List.getElem?_toArray, List.getElem?_cons_succ, List.getElem?_cons_zero]; exact rfl) (by kernel_rfl) (by kernel_rfl) (by kernel_rfl) (by exact fun _ _ _ h => h) (Or.inl ⟨by rfl, ?_⟩) (by assumption) ?_
  rotate_left
  · intro w hSw
    (try dsimp only at hSw)
    go_simp
    try with_reducible rfl
  (try simp only [Act.put, List.setIfInBounds_toArray, List.set_cons_zero, List.set_cons_succ])
  refine wpAnyH_take (i := 40) (v := ?_) (by simp only [List.getElem?_toArray, List.getElem?_cons_succ, List.getElem?_cons_zero]; exact rfl) (by kernel_rfl) (by kernel_rfl) (by kernel_rfl) (by exact fun _ _ _ h => h) (Or.inl ⟨by rfl, ?_⟩) (by assumption) ?_
  rotate_left
  · intro w hSw
    (try dsimp only at hSw)
    go_simp
    try with_reducible rfl
  (try simp only [Act.put, List.setIfInBounds_toArray, List.set_cons_zero, List.set_cons_succ])
  refine wpAnyH_take (i := 41) (v := ?_) (by simp only [List.getElem?_toArray, List.getElem?_cons_succ, List.getElem?_cons_zero]; exact rfl) (by kernel_rfl) (by kernel_rfl) (by kernel_rfl) (by exact fun _ _ _ h => h) (Or.inl ⟨by rfl, ?_⟩) (by assumption) ?_
  rotate_left
  · intro w hSw
    (try dsimp only at hSw)
    go_simp
    try with_reducible rfl
  (try simp only [Act.put, List.setIfInBounds_toArray, List.set_cons_zero, List.set_cons_succ])
  refine wpAnyH_take (i := 42) (v := ?_) (by simp only [List.getElem?_toArray, List.getElem?_cons_succ, List.getElem?_cons_zero]; exact rfl) (by kernel_rfl) (by kernel_rfl) (by kernel_rfl) (by exact fun _ _ _ h => h) (Or.inl ⟨by rfl, ?_⟩) (by assumption) ?_
  rotate_left
  · intro w hSw
    (try dsimp only at hSw)
    go_simp
    try with_reducible rfl
  (try simp only [Act.put, List.setIfInBounds_toArray, List.set_cons_zero, List.set_cons_succ])
  refine wpAnyH_take (i := 43) (v := ?_) (by simp only [List.getElem?_toArray, List.getElem?_cons_succ, List.getElem?_cons_zero]; exact rfl) (by kernel_rfl) (by kernel_rfl) (by kernel_rfl) (by exact fun _ _ _ h => h) (Or.inl ⟨by rfl, ?_⟩) (by assumption) ?_
  rotate_left
  · intro w hSw
    (try dsimp only at hSw)
    go_simp
    try with_reducible rfl
  (try simp only [Act.put, List.setIfInBounds_toArray, List.set_cons_zero, List.set_cons_succ])
  refine wpAnyH_take (i := 44) (v := ?_) (by simp only [List.getElem?_toArray, List.getElem?_cons_succ, List.getElem?_cons_zero]; exact rfl) (by kernel_rfl) (by kernel_rfl) (by kernel_rfl) (by exact fun _ _ _ h => h) (Or.inl ⟨by rfl, ?_⟩) (by assumption) ?_
  rotate_left
  · intro w hSw
    (try dsimp only at hSw)
    go_simp
    try with_reducible rfl
  (try simp only [Act.put, List.setIfInBounds_toArray, List.set_cons_zero, List.set_cons_succ])
  refine wpAnyH_take (i := 45) (v := ?_) (by simp only [List.getElem?_toArray, List.getElem?_cons_succ, List.getElem?_cons_zero]; exact rfl) (by kernel_rfl) (by kernel_rfl) (by kernel_rfl) (by exact fun _ _ _ h => h) (Or.inl ⟨by rfl, ?_⟩) (by assumption) ?_
  rotate_left
  · intro w hSw
    (try dsimp only at hSw)
    go_simp
    try with_reducible rfl
  (try simp only [Act.put, List.setIfInBounds_toArray, List.set_cons_zero, List.set_cons_succ])
  refine wpAnyH_done (by kernel_rfl) ?_ _
  go_wp2
  go_ret
  exact ⟨rfl, HB6.out.trans (H9.out.mono hz60)⟩
end Go.Proofs.YthipgmnfokfaiaaDoor
