/- A copy of a disk, first half: a clone of changes; what has been copied; the closure that copies a file once. Conditions: sizes. | A copy of a disk: the closure that copies a file once. Conditions: sizes. | A copy of a disk: what the copy has so far; ranging over a directory. No condition. -/
import Derived.Test.YthgeppdoonbkpaaDskPm
import Derived.Maps.Ext
import Derived.Sort.MapsRangeIn
namespace Go.Proofs.Ythgeppdoonbkpaa
open Go.RowKit Go.Maps Go.WideMaps
set_option maxHeartbeats 1000000 in
set_option maxRecDepth 100000 in
theorem dcloneC_any (A : Option Addr) (n c : Nat) (zs : List Value) (w : World) (hA : A = none → n = 0 ∧ c = 0) (hrd : Rd w w.heap.size 2 A n zs) (h1 : ∀ u ∈ zs, u.oneCell' = true) (hn : n ≤ 100000000) :
    Calls Try.prog 48 #[.slice A n c] w fun e w' => ∃ v, e = .returned v ∧ Row w' w.heap.size 2 v n zs ∧ Below w.heap.size w w' := by
  obtain ⟨j0, hj0, jz0, jz1, jz2⟩ := info_parts infoChg
  have hq := fun (W : World) (a : Option Addr) (l c : Nat) => Go.run_eql_slice_nil (P := Try.prog) W 69 81 a l c Try.underlying69
  cases A with
  | none =>
    obtain ⟨rfl, rfl⟩ := hA rfl
    obtain rfl : zs = [] := List.length_eq_zero_iff.1 (by have := hrd.1; omega)
    clear hrd hA
    go_enter Try.func48, Try.ntmps48
    go_wp2
    go_ret
    exact ⟨_, rfl, Row.nil _ _ _, Below.refl _ _⟩
  | some a =>
    have HS : Hid (Src Try.prog (w.alloc (.cells #[] 81)) 69 2 (.slice (some a) n c) n zs) := Lib.hid (Src.slice Try.underlying69 (hrd.keeps ((Below.refl w.heap.size w).alloc (Nat.le_refl _) (.cells #[] 81))) (fun e => by cases e) h1)
    clear hrd hA h1
    go_enter Try.func48, Try.ntmps48
    go_wp2_with (first
      | (at_builtin; (refine wpList_app (P := Try.prog) _ rfl (.tmp 5) (.tmp 6) 69 69 rfl w.heap.size 81 j0 (.agg #[.int .i64 0, .nilFunc]) 2 16 Try.underlying69 hj0 jz0 jz1 jz2 rfl (.slice (some ⟨w.heap.size, 0, none⟩) 0 0) 0 [] rfl (empty_row w _ 2) _ n zs rfl HS.out (by omega) (by omega) (by omega) (by simp) ?_); intro v3 w3 hrow3 hg3 ho3; rw [List.nil_append, Nat.zero_add] at hrow3; have HB3 := Lib.hid (((Below.refl w.heap.size w).alloc (Nat.le_refl _) (.cells #[] 81)).grown hg3 (by simp) (fun k e => by injection e with e; have : w.heap.size = k := e; omega)); clear hg3 ho3)
      | fail)
    go_ret
    exact ⟨v3, rfl, hrow3, HB3.out⟩
/-! ### what has been copied -/
theorem PMap.keep {w w' : World} {b : Nat} {m : List (Nat × Nat)} (h : PMap w b m) (hb : w'.heap[b]? = w.heap[b]?) : PMap w' b m := by
  obtain ⟨es, c, h1, h2⟩ := h
  exact ⟨es, c, hb.trans h1, h2⟩
theorem PMap.lt {w : World} {b : Nat} {m : List (Nat × Nat)} (h : PMap w b m) : b < w.heap.size := by
  obtain ⟨es, c, h1, _⟩ := h
  exact (Array.getElem?_eq_some_iff.1 h1).1
theorem look_map {f g : Nat → Nat} {i : Nat} : ∀ (I : List Nat), (∀ j ∈ I, f j = f i → j = i) → look (I.map fun j => (f j, g j)) (f i) = if i ∈ I then some (g i) else none
  | [], _ => rfl
  | j :: I, h => by
    rw [List.map_cons, look_cons]
    by_cases e : f j = f i
    · have := h j List.mem_cons_self e
      subst this
      rw [if_pos rfl, if_pos List.mem_cons_self]
    · have hne : i ≠ j := fun e2 => e (by rw [e2])
      rw [if_neg e, look_map I (fun k hk => h k (List.mem_cons_of_mem _ hk))]
      simp [hne]
/-- the data blocks of a disk alone -/
def dataOf (ρ : Roles) : Roles := fun b => match ρ b with | some .data => some .data | _ => none
theorem dataOf_data {ρ : Roles} {b : Nat} (h : ρ b = some .data) : dataOf ρ b = some .data := by unfold dataOf; rw [h]
theorem dataOf_some {ρ : Roles} {b : Nat} {r : Role} (h : dataOf ρ b = some r) : r = .data ∧ ρ b = some .data := by
  unfold dataOf at h
  split at h
  · rename_i e; injection h with h; exact ⟨h.symm, e⟩
  · cases h
section
variable {w : World} {ρ κ : Roles} {v : Value} {n i : Nat} {xs : List Value} {l : Bs}
theorem Dat.recast (h : Dat w ρ v n xs) (hd : ∀ b, ρ b = some .data → κ b = some .data) : Dat w κ v n xs := by
  obtain ⟨A, c, e, h1, h2, h3, h4⟩ := h
  exact ⟨A, c, e, h1, h2, h3, fun hn g o p ea => hd g (h4 hn g o p ea)⟩
theorem Byt.recast (h : Byt w ρ v l) (hd : ∀ b, ρ b = some .data → κ b = some .data) : Byt w κ v l := Dat.recast h hd
theorem ChV.recast {c : Dsk.Ch} {sz fv : Value} (h : ChV w ρ c sz fv) (hd : ∀ b, ρ b = some .data → κ b = some .data) : ChV w κ c sz fv := by
  cases c with
  | wr a d =>
    obtain ⟨e, xa, xo, v, e2, la, lo, ca, co, hb, ra, ro⟩ := h
    exact ⟨e, xa, xo, v, e2, la, lo, ca, co, hb.recast hd, hd _ ra, hd _ ro⟩
  | cut k =>
    obtain ⟨e, xa, e2, la, ca, ra⟩ := h
    exact ⟨e, xa, e2, la, ca, hd _ ra⟩
theorem ChV.one {c : Dsk.Ch} {sz fv : Value} (h : ChV w ρ c sz fv) : sz.oneCell' = true ∧ fv.oneCell' = true := by
  cases c with
  | wr a d => obtain ⟨e, xa, xo, v, e2, _⟩ := h; subst e e2; exact ⟨rfl, rfl⟩
  | cut k => obtain ⟨e, xa, e2, _⟩ := h; subst e e2; exact ⟨rfl, rfl⟩
theorem FileN.congr {F F' : Nat → Nat} {f : Dsk.Fi} {b : Bs} (h : FileN w ρ F f b i) (e : F' i = F i) : FileN w ρ F' f b i := by
  obtain ⟨h1, v0, v1, v2, hv, h2⟩ := h
  exact ⟨by rw [e]; exact h1, v0, v1, v2, by rw [e]; exact hv, h2⟩
end
/-- so much of the disk db in W has been copied: the files I, file i into block G i; κ: the copy's blocks -/
structure Cpy (W wr : World) (ob : Nat) (F : Nat → Nat) (ρ : Roles) (s : Dsk.St) (G : Nat → Nat) (κ : Roles) (I : List Nat) : Prop where
  bel : Below W.heap.size W wr
  obl : W.heap.size ≤ ob
  map : PMap wr ob (I.map fun i => (F i, G i))
  obr : κ ob = none
  old : ∀ b, b < W.heap.size → κ b = dataOf ρ b
  lt : ∀ b r, κ b = some r → b < wr.heap.size
  file : ∀ i ∈ I, Dsk.Reach s i ∧ Filed wr κ G (Dsk.fil s i) i
section
variable {W wr w' : World} {db ob : Nat} {F G : Nat → Nat} {ρ κ : Roles} {s : Dsk.St} {T : Nat} {I : List Nat}
theorem Cpy.lies (h : Cpy W wr ob F ρ s G κ I) : Lies (dataOf ρ) κ (fun _ => False) W wr := ⟨h.bel.size, fun hb _ _ _ => h.bel.block _ hb, h.old⟩
theorem Mem.inj (hm : Mem W db F ρ s T) {i j : Nat} (hi : Dsk.Reach s i) (hj : Dsk.Reach s j) (e : F j = F i) : j = i := by
  have h1 := (hm.file i hi).role
  have h2 := (hm.file j hj).role
  rw [e, h1] at h2
  injection h2 with h2
  injection h2 with h2
  exact h2.symm
theorem Cpy.look (hm : Mem W db F ρ s T) (h : Cpy W wr ob F ρ s G κ I) {i : Nat} (hi : Dsk.Reach s i) : look (I.map fun j => (F j, G j)) (F i) = if i ∈ I then some (G i) else none :=
  look_map I (fun j hj e => hm.inj hi (h.file j hj).1 e)
theorem FileN.isVar {f : Dsk.Fi} {b : Bs} {i : Nat} (h : FileN W ρ F f b i) : IsVar W (F i) := by
  obtain ⟨_, v0, v1, v2, hv, _⟩ := h
  exact ⟨_, _, hv⟩
theorem IsVar.below {g : Nat} (h : IsVar W g) (hb : Below W.heap.size W wr) : IsVar wr g := by
  obtain ⟨cs, t, e⟩ := h
  exact ⟨cs, t, (hb.block g (Array.getElem?_eq_some_iff.1 e).1).trans e⟩
/-- other blocks turn -/
theorem Cpy.keep (h : Cpy W wr ob F ρ s G κ I) {S : Nat → Prop} (hc : Chg S wr w') (h1 : ¬ S ob) (h2 : ∀ b, S b → W.heap.size ≤ b ∧ κ b = none) : Cpy W w' ob F ρ s G κ I where
  bel := _root_.Go.Proofs.Ythgeppdoonbkpaa.Below.chg h.bel hc h.bel.size (fun k hk => (h2 k hk).1)
  obl := h.obl
  map := h.map.keep (hc.block _ h.map.lt h1)
  obr := h.obr
  old := h.old
  lt := fun b r e => Nat.lt_of_lt_of_le (h.lt b r e) hc.size
  file := fun i hi => ⟨(h.file i hi).1, (h.file i hi).2.keep (Lies.of_chg hc (fun b _ hb => (h2 b hb).2)) id id id⟩
/-- new blocks of other roles -/
theorem Cpy.ext (h : Cpy W wr ob F ρ s G κ I) {κ' : Roles} (he : ∀ b, b < wr.heap.size → κ' b = κ b ∨ (W.heap.size ≤ b ∧ b ≠ ob ∧ κ b = none)) (hl : ∀ b r, κ' b = some r → b < wr.heap.size) : Cpy W wr ob F ρ s G κ' I := by
  have key : ∀ b r, κ b = some r → κ' b = some r := fun b r e => by
    rcases he b (h.lt b r e) with e2 | ⟨_, _, e2⟩
    · rw [e2]; exact e
    · rw [e2] at e; cases e
  refine ⟨h.bel, h.obl, h.map, ?_, fun b hb => ?_, hl, fun i hi => ⟨(h.file i hi).1, ?_⟩⟩
  · rcases he ob h.map.lt with e | ⟨_, e, _⟩
    · rw [e]; exact h.obr
    · exact absurd rfl e
  · rcases he b (Nat.lt_of_lt_of_le hb h.bel.size) with e | ⟨e, _⟩
    · rw [e]; exact h.old b hb
    · omega
  · obtain ⟨h1, v0, v1, v2, hv, b0, b1, zs, e, hr, ho, hz⟩ := (h.file i hi).2
    exact ⟨key _ _ h1, v0, v1, v2, hv, b0.recast (fun b => key b _), b1.recast (fun b => key b _), zs, e, hr, fun b hb => key _ _ (ho b hb), fun k c p e1 e2 => (hz k c p e1 e2).recast (fun b => key b _)⟩
/-- a file more -/
theorem Cpy.more (hm : Mem W db F ρ s T) (h : Cpy W wr ob F ρ s G κ I) {i : Nat} (hi : Dsk.Reach s i) (hni : i ∉ I) {v0 v1 v : Value} {zs : List (Value × Value)}
    (hb0 : Byt W ρ v0 (Dsk.fil s i).las) (hb1 : Byt W ρ v1 (Dsk.fil s i).now) (hzl : zs.length = (Dsk.fil s i).loo.length) (hz : ∀ (k : Nat) (c : Dsk.Ch) (p : Value × Value), (Dsk.fil s i).loo[k]? = some c → zs[k]? = some p → ChV W ρ c p.1 p.2)
    {wc : World} (hbc : Below wr.heap.size wr wc) (hrow : Row wc wr.heap.size 2 v (Dsk.fil s i).loo.length (zsV zs))
    (hpm : PMap w' ob ((I.map fun i => (F i, G i)) ++ [(F i, wc.heap.size)])) (hc : Chg (fun x => x = ob) (wc.alloc (.cells #[v0, v1, v] 71)) w') :
    ∃ G' κ', G' i = wc.heap.size ∧ Cpy W w' ob F ρ s G' κ' (I ++ [i]) ∧ (∀ j ∈ I, G' j = G j) ∧ ∀ b, b < wr.heap.size → κ' b = κ b := by
  have hsz1 := hbc.size
  have hsz2 : wc.heap.size + 1 ≤ w'.heap.size := by have := hc.size; simpa using this
  have hobl := h.map.lt
  have hcw : Chg (fun x => x = ob) wr w' := (Chg.of_below (hbc.alloc hsz1 _)).trans hc (fun _ _ e => e)
  obtain ⟨G', hG'⟩ : ∃ G' : Nat → Nat, G' = fun j => if j = i then wc.heap.size else G j := ⟨_, rfl⟩
  obtain ⟨κ', hκ'⟩ : ∃ κ' : Roles, κ' = fun b => if b < wr.heap.size then κ b else if b < wc.heap.size then some (.chg i) else if b = wc.heap.size then some (.file i) else none := ⟨_, rfl⟩
  have hG1 : G' i = wc.heap.size := by rw [hG']; exact if_pos rfl
  have hG2 : ∀ j ∈ I, G' j = G j := fun j hj => by rw [hG']; exact if_neg (fun e => hni (by rw [← e]; exact hj))
  have hold : ∀ b, b < wr.heap.size → κ' b = κ b := fun b hb => by rw [hκ']; exact if_pos hb
  have hchg : ∀ b, wr.heap.size ≤ b → b < wc.heap.size → κ' b = some (.chg i) := fun b h1 h2 => by rw [hκ']; dsimp only; rw [if_neg (by omega), if_pos h2]
  have hfil : κ' wc.heap.size = some (.file i) := by rw [hκ']; dsimp only; rw [if_neg (by omega), if_neg (by omega), if_pos rfl]
  have hbel : Below W.heap.size W w' := _root_.Go.Proofs.Ythgeppdoonbkpaa.Below.chg h.bel hcw h.bel.size (fun k e => by rw [e]; exact h.obl)
  have hlies : Lies κ κ' (fun _ => False) wr w' := ⟨hcw.size, fun {b} hb {r} hr _ => hcw.block b hb (fun e => by rw [e, h.obr] at hr; cases hr), hold⟩
  have hlw : Lies (dataOf ρ) κ' (fun _ => False) W w' := ⟨hbel.size, fun hb _ _ _ => hbel.block _ hb, fun b hb => (hold b (Nat.lt_of_lt_of_le hb h.bel.size)).trans (h.old b hb)⟩
  have hdd : ∀ b, ρ b = some .data → dataOf ρ b = some .data := fun b e => dataOf_data e
  refine ⟨G', κ', hG1, ⟨hbel, h.obl, ?_, (hold ob hobl).trans h.obr, fun b hb => (hold b (Nat.lt_of_lt_of_le hb h.bel.size)).trans (h.old b hb), fun b r e => ?_, fun j hj => ?_⟩, hG2, hold⟩
  · rw [List.map_append, List.map_singleton, hG1]
    have e : (I.map fun i => (F i, G' i)) = I.map fun i => (F i, G i) := List.map_congr_left (fun j hj => by rw [hG2 j hj])
    rw [e]
    exact hpm
  · rw [hκ'] at e
    dsimp only at e
    split at e
    · have := h.lt b r e; have := hcw.size; omega
    · split at e
      · omega
      · split at e
        · omega
        · cases e
  · rcases List.mem_append.1 hj with hj | hj
    · exact ⟨(h.file j hj).1, ((h.file j hj).2.keep hlies id id id).congr (hG2 j hj)⟩
    · obtain rfl := List.mem_singleton.1 hj
      refine ⟨hi, by rw [hG1]; exact hfil, v0, v1, v, ?_, (hb0.recast hdd).keep hlw id, (hb1.recast hdd).keep hlw id, zs, hzl, ?_, fun b hb => ?_, fun k c p e1 e2 => ((hz k c p e1 e2).recast hdd).keep hlw id⟩
      · rw [hG1]
        exact (Var.new wc 71 [v0, v1, v]).chg hc (by omega)
      · exact ((hrow.mono (Nat.zero_le _)).alloc _).chg hc (fun k hk e => by have := (hrow.lt k hk).1; omega)
      · exact hchg b (hrow.lt b hb).1 (hrow.lt b hb).2
end
end Go.Proofs.Ythgeppdoonbkpaa

namespace Go.Proofs.Ythgeppdoonbkpaa
open Go.RowKit Go.Maps Go.WideMaps
set_option maxRecDepth 100000 in
theorem dof_nil (w : World) (bx : Nat) : Calls Try.prog 47 #[.pointer none, .pointer (some ⟨bx, 0, none⟩)] w fun e w' => e = .returned (.pointer none) ∧ w' = w := by
  go_enter Try.func47, Try.ntmps47
  go_wp2
  go_ret
  exact ⟨rfl, rfl⟩
theorem infoFile3 : (Try.prog.info? 71).map (fun i => i.size) = some 3 := by kernel_rfl
theorem infoFile : ∃ j, Try.prog.info? 71 = some j ∧ j.size ≠ 0 := by
  have h := infoFile3
  cases e : Try.prog.info? 71 with
  | none => rw [e] at h; cases h
  | some j => rw [e] at h; injection h with h; exact ⟨j, rfl, by have h' : j.size = 3 := h; omega⟩
theorem zeroPF (w : World) : (zeroValue 67).run Try.prog w = .ok (.pointer none) w := by kernel_rfl
section
variable {W wr : World} {db ob : Nat} {F G : Nat → Nat} {ρ κ : Roles} {s : Dsk.St} {T : Nat} {I : List Nat}
theorem fmap_get (hm : Mem W db F ρ s T) (h : Cpy W wr ob F ρ s G κ I) {i : Nat} (hi : Dsk.Reach s i) :
    (Instr.lookup 91 (.map (some ob)) (.pointer (some ⟨F i, 0, none⟩)) false).run Try.prog wr = .ok (.pointer (if i ∈ I then some ⟨G i, 0, none⟩ else none)) wr := by
  obtain ⟨j, hj, hz⟩ := infoFile
  have h1 := pmap_lookup (P := Try.prog) (t := 91) (k := 67) (te := 71) Try.underlying91 Try.underlying67 hj hz (zeroPF wr) h.map (fun p hp => by
    obtain ⟨j, hj, rfl⟩ := List.mem_map.1 hp
    exact ((hm.file j (h.file j hj).1).isVar).below h.bel) (((hm.file i hi).isVar).below h.bel)
  rw [h.look hm hi] at h1
  by_cases hin : i ∈ I
  · rw [if_pos hin] at h1 ⊢; exact h1
  · rw [if_neg hin] at h1 ⊢; exact h1
theorem fmap_put (hm : Mem W db F ρ s T) (h : Cpy W wr ob F ρ s G κ I) {i : Nat} (hi : Dsk.Reach s i) (hni : i ∉ I) {wx : World} (hb : Below wr.heap.size wr wx) (g : Nat) :
    ∃ w', (Instr.mapUpdate 91 (.map (some ob)) (.pointer (some ⟨F i, 0, none⟩)) (.pointer (some ⟨g, 0, none⟩))).run Try.prog wx = .ok () w' ∧ PMap w' ob ((I.map fun i => (F i, G i)) ++ [(F i, g)]) ∧ Chg (fun x => x = ob) wx w' := by
  obtain ⟨j, hj, hz⟩ := infoFile
  obtain ⟨w', h1, h2, h3, _⟩ := pmap_update (P := Try.prog) (t := 91) (k := 67) (te := 71) Try.underlying91 Try.underlying67 hj hz (g' := g) (h.map.keep (hb.block _ h.map.lt)) (fun p hp => by
    obtain ⟨j, hj, rfl⟩ := List.mem_map.1 hp
    exact (((hm.file j (h.file j hj).1).isVar).below h.bel).below hb) ((((hm.file i hi).isVar).below h.bel).below hb) (by rw [h.look hm hi, if_neg hni])
  exact ⟨w', h1, h2, h3⟩
set_option maxHeartbeats 2000000 in
set_option maxRecDepth 100000 in
theorem dof_any (hm : Mem W db F ρ s T) (hT : T ≤ 100000) (h : Cpy W wr ob F ρ s G κ I) {i : Nat} (hi : Dsk.Reach s i) {bx : Nat} (hbx : wr.cell? ⟨bx, 0, none⟩ = some (.map (some ob))) (hbo : bx ≠ ob) :
    Calls Try.prog 47 #[.pointer (some ⟨F i, 0, none⟩), .pointer (some ⟨bx, 0, none⟩)] wr fun e w' => ∃ G' κ' I', e = .returned (.pointer (some ⟨G' i, 0, none⟩)) ∧ Cpy W w' ob F ρ s G' κ' I' ∧ i ∈ I' ∧ (∀ j ∈ I, j ∈ I' ∧ G' j = G j) ∧ Chg (fun x => x = ob) wr w' ∧ ∀ b, b < wr.heap.size → κ' b = κ b := by
  have hlk := fmap_get hm h hi
  have HC := Lib.hid h
  by_cases hin : i ∈ I
  · rw [if_pos hin] at hlk
    have HI := Lib.hid hin
    clear h hin
    go_enter Try.func47, Try.ntmps47
    go_wp2
    go_ret
    exact ⟨G, κ, I, rfl, HC.out, HI.out, fun j hj => ⟨hj, rfl⟩, Chg.refl _ _, fun _ _ => rfl⟩
  · rw [if_neg hin] at hlk
    obtain ⟨v0, v1, v2, hv, hb0, hb1, zs, hzl, hrow, ho, hz⟩ := (hm.file i hi).get
    obtain ⟨A0, c0, rfl⟩ := hb0.slice
    obtain ⟨A1, c1, rfl⟩ := hb1.slice
    obtain ⟨n0, hn0⟩ : ∃ n0, n0 = (Dsk.fil s i).las.length := ⟨_, rfl⟩
    obtain ⟨n1, hn1⟩ : ∃ n1, n1 = (Dsk.fil s i).now.length := ⟨_, rfl⟩
    rw [← hn0] at hb0 hv
    rw [← hn1] at hb1 hv
    clear hn0 hn1
    have HB0 := Lib.hid hb0
    have HB1 := Lib.hid hb1
    have HZ := Lib.hid hz
    have hlo : (Dsk.fil s i).loo.length ≤ T := hm.fit.loo i hi
    have hvw := hv.below_all h.bel
    have e0 := hvw.cell (j := 0) rfl
    have e1 := hvw.cell (j := 1) rfl
    have e2 := hvw.cell (j := 2) rfl
    obtain ⟨A2, c2, rfl, hc2, _, hz2, hrd⟩ := hrow.form
    obtain ⟨n2, hn2⟩ : ∃ n2, n2 = (Dsk.fil s i).loo.length := ⟨_, rfl⟩
    rw [← hn2] at hzl hrow ho hc2 hz2 hrd hlo e2
    have HN2 := Lib.hid hn2
    have hone : ∀ u ∈ zsV zs, u.oneCell' = true := by
      intro u hu
      unfold zsV at hu
      obtain ⟨p, hp, hu⟩ := List.mem_flatMap.1 hu
      obtain ⟨k, hk, rfl⟩ := List.mem_iff_getElem.1 hp
      have hc := (hz k _ _ (List.getElem?_eq_getElem (show k < (Dsk.fil s i).loo.length by rw [← hn2, ← hzl]; exact hk)) (List.getElem?_eq_getElem hk)).one
      simp only [List.mem_cons, List.not_mem_nil, or_false] at hu
      rcases hu with rfl | rfl
      · exact hc.1
      · exact hc.2
    have HCL := Lib.hid (fun (wx : World) (hb : Below wr.heap.size wr wx) => dcloneC_any A2 n2 c2 (zsV zs) wx hz2 (((hrd.below h.bel).more h.bel.size).below hb |>.more hb.size) hone (by omega))
    have HZL := Lib.hid hzl
    have HPUT := Lib.hid (fun (wx : World) (hb : Below wr.heap.size wr wx) (g : Nat) => fmap_put hm h hi hin hb g)
    have HMORE := Lib.hid (fun (v : Value) (wc w' : World) (hbc : Below wr.heap.size wr wc) (hrow : Row wc wr.heap.size 2 v (Dsk.fil s i).loo.length (zsV zs)) (hpm : PMap w' ob ((I.map fun i => (F i, G i)) ++ [(F i, wc.heap.size)])) (hc : Chg (fun x => x = ob) (wc.alloc (.cells #[.slice A0 n0 c0, .slice A1 n1 c1, v] 71)) w') => h.more hm hi hin hb0 hb1 (by rw [hzl, hn2]) hz hbc hrow hpm hc)
    have hbl : bx < wr.heap.size := cell_lt hbx
    have hfl : F i < wr.heap.size := hvw.lt
    obtain ⟨fi, hfi⟩ : ∃ fi, fi = F i := ⟨_, rfl⟩
    have HFI := Lib.hid hfi
    have HM := Lib.hid hm
    have HI9 := Lib.hid hi
    have HFO := Lib.hid (show fi ≠ ob by have := (hm.file i hi).lt; have := h.obl; omega)
    clear hm hi
    rw [← hfi] at hlk e0 e1 e2 hfl ⊢
    clear h hv hb0 hb1 hzl hrow ho hz hvw hc2 hz2 hrd hn2 hone hfi
    go_enter Try.func47, Try.ntmps47
    go_upto_region 4 with (fail)
    have HKP := Lib.hid (fun (w' : World) (hb : Below wr.heap.size wr w') => (⟨(hb.cell (p := ⟨bx, 0, none⟩) hbl).trans hbx, (hb.cell (p := ⟨fi, 0, none⟩) hfl).trans e0, (hb.cell (p := ⟨fi, 1, none⟩) hfl).trans e1, (hb.cell (p := ⟨fi, 2, none⟩) hfl).trans e2⟩ : w'.cell? ⟨bx, 0, none⟩ = some (.map (some ob)) ∧ w'.cell? ⟨fi, 0, none⟩ = some (.slice A0 n0 c0) ∧ w'.cell? ⟨fi, 1, none⟩ = some (.slice A1 n1 c1) ∧ w'.cell? ⟨fi, 2, none⟩ = some (.slice A2 n2 c2)))
    refine wp_region_held_drew (S := (fun w' => w'.cell? ⟨bx, 0, none⟩ = some (.map (some ob)) ∧ w'.cell? ⟨fi, 0, none⟩ = some (.slice A0 n0 c0) ∧ w'.cell? ⟨fi, 1, none⟩ = some (.slice A1 n1 c1) ∧ w'.cell? ⟨fi, 2, none⟩ = some (.slice A2 n2 c2))) (by as_aux_lemma => kernel_rfl) ?_ (fun hHeld => ?_)
    · exact HKP.out _ ((Below.refl _ _).drew)
    refine wpAnyH_take (i := 0) (v := ?_) (by simp only [List.getElem?_toArray, List.getElem?_cons_zero]; exact rfl) (by as_aux_lemma => kernel_rfl) (by as_aux_lemma => kernel_rfl) (by as_aux_lemma => kernel_rfl) (by exact fun _ _ _ h => h) (Or.inl ⟨by rfl, ?_⟩) (by assumption) ?_
    rotate_left
    · intro w hSw
      (try dsimp only at hSw)
      go_simp
      try with_reducible rfl
    (try simp only [Act.put, List.setIfInBounds_toArray, List.set_cons_zero, List.set_cons_succ])
    refine wpAnyH_take (i := 1) (v := ?_) (by simp only [List.getElem?_toArray, List.getElem?_cons_succ, List.getElem?_cons_zero]; exact rfl) (by as_aux_lemma => kernel_rfl) (by as_aux_lemma => kernel_rfl) (by as_aux_lemma => kernel_rfl) (by exact fun _ _ _ h => h) (Or.inl ⟨by rfl, ?_⟩) (by assumption) ?_
    rotate_left
    · intro w hSw
      (try dsimp only at hSw)
      go_simp
      try with_reducible rfl
    (try simp only [Act.put, List.setIfInBounds_toArray, List.set_cons_zero, List.set_cons_succ])
    refine wpAnyH_take (i := 2) (v := ?_) (by simp only [List.getElem?_toArray, List.getElem?_cons_succ, List.getElem?_cons_zero]; exact rfl) (by as_aux_lemma => kernel_rfl) (by as_aux_lemma => kernel_rfl) (by as_aux_lemma => kernel_rfl) (by exact fun _ _ _ h => h) (Or.inl ⟨by rfl, ?_⟩) (by assumption) ?_
    rotate_left
    · intro w hSw
      (try dsimp only at hSw)
      go_simp
      try with_reducible rfl
    (try simp only [Act.put, List.setIfInBounds_toArray, List.set_cons_zero, List.set_cons_succ])
    refine wpAnyH_take (i := 3) (v := ?_) (by simp only [List.getElem?_toArray, List.getElem?_cons_succ, List.getElem?_cons_zero]; exact rfl) (by as_aux_lemma => kernel_rfl) (by as_aux_lemma => kernel_rfl) (by as_aux_lemma => kernel_rfl) (by exact fun _ _ _ h => h) (Or.inl ⟨by rfl, ?_⟩) (by assumption) ?_
    rotate_left
    · intro w hSw
      (try dsimp only at hSw)
      go_simp
      try with_reducible rfl
    (try simp only [Act.put, List.setIfInBounds_toArray, List.set_cons_zero, List.set_cons_succ])
    refine wpAnyH_take (i := 4) (v := ?_) (by simp only [List.getElem?_toArray, List.getElem?_cons_succ, List.getElem?_cons_zero]; exact rfl) (by as_aux_lemma => kernel_rfl) (by as_aux_lemma => kernel_rfl) (by as_aux_lemma => kernel_rfl) (by exact fun _ _ _ h => h) (Or.inl ⟨by rfl, ?_⟩) (by assumption) ?_
    rotate_left
    · intro w hSw
      (try dsimp only at hSw)
      go_simp
      try with_reducible rfl
    (try simp only [Act.put, List.setIfInBounds_toArray, List.set_cons_zero, List.set_cons_succ])
    refine wpAnyH_take (i := 5) (v := ?_) (by simp only [List.getElem?_toArray, List.getElem?_cons_succ, List.getElem?_cons_zero]; exact rfl) (by as_aux_lemma => kernel_rfl) (by as_aux_lemma => kernel_rfl) (by as_aux_lemma => kernel_rfl) (by exact fun _ _ _ h => h) (Or.inl ⟨by rfl, ?_⟩) (by assumption) ?_
    rotate_left
    · intro w hSw
      (try dsimp only at hSw)
      go_simp
      try with_reducible rfl
    (try simp only [Act.put, List.setIfInBounds_toArray, List.set_cons_zero, List.set_cons_succ])
    refine wpAnyH_take (i := 6) (v := ?_) (by simp only [List.getElem?_toArray, List.getElem?_cons_succ, List.getElem?_cons_zero]; exact rfl) (by as_aux_lemma => kernel_rfl) (by as_aux_lemma => kernel_rfl) (by as_aux_lemma => kernel_rfl) (by exact fun _ _ _ h => h) (Or.inl ⟨by rfl, ?_⟩) (by assumption) ?_
    rotate_left
    · intro w hSw
      (try dsimp only at hSw)
      go_simp
      try with_reducible rfl
    (try simp only [Act.put, List.setIfInBounds_toArray, List.set_cons_zero, List.set_cons_succ])
    refine wpAnyH_take (i := 7) (v := ?_) (by simp only [List.getElem?_toArray, List.getElem?_cons_succ, List.getElem?_cons_zero]; exact rfl) (by as_aux_lemma => kernel_rfl) (by as_aux_lemma => kernel_rfl) (by as_aux_lemma => kernel_rfl) (by exact fun _ _ _ h => h) (Or.inl ⟨by rfl, ?_⟩) (by assumption) ?_
    rotate_left
    · intro w hSw
      (try dsimp only at hSw)
      go_simp
      try with_reducible rfl
    (try simp only [Act.put, List.setIfInBounds_toArray, List.set_cons_zero, List.set_cons_succ])
    refine wpAnyH_take (i := 8) (v := ?_) (by simp only [List.getElem?_toArray, List.getElem?_cons_succ, List.getElem?_cons_zero]; exact rfl) (by as_aux_lemma => kernel_rfl) (by as_aux_lemma => kernel_rfl) (by as_aux_lemma => kernel_rfl) (by exact fun _ _ _ h => h) (Or.inl ⟨by rfl, ?_⟩) (by assumption) ?_
    rotate_left
    · intro w hSw
      (try dsimp only at hSw)
      go_simp
      try with_reducible rfl
    (try simp only [Act.put, List.setIfInBounds_toArray, List.set_cons_zero, List.set_cons_succ])
    refine wpAnyH_take (i := 9) (v := ?_) (by simp only [List.getElem?_toArray, List.getElem?_cons_succ, List.getElem?_cons_zero]; exact rfl) (by as_aux_lemma => kernel_rfl) (by as_aux_lemma => kernel_rfl) (by as_aux_lemma => kernel_rfl) (by exact fun _ _ _ h => h) (Or.inl ⟨by rfl, ?_⟩) (by assumption) ?_
    rotate_left
    · intro w hSw
      (try dsimp only at hSw)
      go_simp
      try with_reducible rfl
    (try simp only [Act.put, List.setIfInBounds_toArray, List.set_cons_zero, List.set_cons_succ])
    refine wpAnyH_take (i := 10) (v := ?_) (by simp only [List.getElem?_toArray, List.getElem?_cons_succ, List.getElem?_cons_zero]; exact rfl) (by as_aux_lemma => kernel_rfl) (by as_aux_lemma => kernel_rfl) (by as_aux_lemma => kernel_rfl) (by exact fun _ _ _ h => h) (Or.inl ⟨by rfl, ?_⟩) (by assumption) ?_
    rotate_left
    · intro w hSw
      (try dsimp only at hSw)
      go_simp
      try with_reducible rfl
    (try simp only [Act.put, List.setIfInBounds_toArray, List.set_cons_zero, List.set_cons_succ])
    refine wpAnyH_take (i := 11) (v := ?_) (by simp only [List.getElem?_toArray, List.getElem?_cons_succ, List.getElem?_cons_zero]; exact rfl) (by as_aux_lemma => kernel_rfl) (by as_aux_lemma => kernel_rfl) (by as_aux_lemma => kernel_rfl) (by exact fun _ _ _ h => h) (Or.inl ⟨by rfl, ?_⟩) (by assumption) ?_
    rotate_left
    · intro w hSw
      (try dsimp only at hSw)
      go_simp
      try with_reducible rfl
    (try simp only [Act.put, List.setIfInBounds_toArray, List.set_cons_zero, List.set_cons_succ])
    refine wpAnyH_take (i := 12) (v := ?_) (by simp only [List.getElem?_toArray, List.getElem?_cons_succ, List.getElem?_cons_zero]; exact rfl) (by as_aux_lemma => kernel_rfl) (by as_aux_lemma => kernel_rfl) (by as_aux_lemma => kernel_rfl) (by exact fun _ _ _ h => h) (Or.inl ⟨by rfl, ?_⟩) (by assumption) ?_
    rotate_left
    · intro w hSw
      (try dsimp only at hSw)
      go_simp
      try with_reducible rfl
    (try simp only [Act.put, List.setIfInBounds_toArray, List.set_cons_zero, List.set_cons_succ])
    refine wpAnyH_take (i := 13) (v := ?_) (by simp only [List.getElem?_toArray, List.getElem?_cons_succ, List.getElem?_cons_zero]; exact rfl) (by as_aux_lemma => kernel_rfl) (by as_aux_lemma => kernel_rfl) (by as_aux_lemma => kernel_rfl) (by exact fun _ _ _ h => h) (Or.inl ⟨by rfl, ?_⟩) (by assumption) ?_
    rotate_left
    · intro w hSw
      (try dsimp only at hSw)
      go_simp
      try with_reducible rfl
    (try simp only [Act.put, List.setIfInBounds_toArray, List.set_cons_zero, List.set_cons_succ])
    refine wpAnyH_ready (rs := [14]) (by as_aux_lemma => kernel_rfl) (by simp) ?_
    refine AllReadyH.cons (by simp only [List.getElem?_toArray, List.getElem?_cons_succ, List.getElem?_cons_zero]; exact rfl) (fun K hK => ?_) AllReadyH.nil
    go_simp
    (refine (HCL.out _ ((Below.refl _ _).drew)).mono ?_; rintro _ wc ⟨v, rfl, hrow, hbc⟩; obtain ⟨A3, c3, rfl, _, _, _, _⟩ := hrow.form)
    have hbc2 : Below wr.heap.size wr wc := ((Below.refl _ _).drew).trans hbc
    have HROW := Lib.hid (show Row wc wr.heap.size 2 (.slice A3 n2 c3) n2 (zsV zs) from hrow)
    have HBC := Lib.hid hbc2
    refine hK.out _ _ ?_ (fun hHeld => ?_)
    · (try dsimp only)
      exact HKP.out _ hbc2
    clear hK K
    (try simp only [Act.put, List.setIfInBounds_toArray, List.set_cons_zero, List.set_cons_succ])
    refine wpAnyH_take (i := 15) (v := ?_) (by simp only [List.getElem?_toArray, List.getElem?_cons_succ, List.getElem?_cons_zero]; exact rfl) (by as_aux_lemma => kernel_rfl) (by as_aux_lemma => kernel_rfl) (by as_aux_lemma => kernel_rfl) (by exact fun _ _ _ h => h) (Or.inl ⟨by rfl, ?_⟩) (by assumption) ?_
    rotate_left
    · intro w hSw
      (try dsimp only at hSw)
      go_simp
      try with_reducible rfl
    (try simp only [Act.put, List.setIfInBounds_toArray, List.set_cons_zero, List.set_cons_succ])
    refine wpAnyH_ready (rs := [16]) (by as_aux_lemma => kernel_rfl) (by simp) ?_
    refine AllReadyH.cons (by simp only [List.getElem?_toArray, List.getElem?_cons_succ, List.getElem?_cons_zero]; exact rfl) (fun K hK => ?_) AllReadyH.nil
    go_simp
    refine hK.out _ _ ?_ (fun hHeld => ?_)
    · (try dsimp only)
      exact HKP.out _ (hbc2.alloc hbc2.size _)
    clear hK K
    (try simp only [Act.put, List.setIfInBounds_toArray, List.set_cons_zero, List.set_cons_succ])
    obtain ⟨w9, hrun, hpm, hcg⟩ := HPUT.out (wc.alloc (.cells #[.slice A0 n0 c0, .slice A1 n1 c1, .slice A3 n2 c3] 71)) (hbc2.alloc hbc2.size _) wc.heap.size
    rw [← HFI.out] at hrun
    obtain ⟨G', κ', hG, hcp, hj, hk⟩ := HMORE.out (.slice A3 n2 c3) wc w9 hbc2 (by rw [← HN2.out]; exact HROW.out) hpm hcg
    have hcw : Chg (fun x => x = ob) wr w9 := (Chg.of_below (hbc2.alloc hbc2.size _)).trans hcg (fun _ _ e => e)
    have hk9 : ∀ p u, p < wr.heap.size → p ≠ ob → ∀ j, wr.cell? ⟨p, j, none⟩ = some u → w9.cell? ⟨p, j, none⟩ = some u := fun p u hp hne j hc => (World.cell?_of_block (w := wr) (a := ⟨p, j, none⟩) (hcw.block p hp hne)).trans hc
    have h9b := hk9 bx _ hbl hbo 0 hbx
    have h90 := hk9 fi _ hfl HFO.out 0 e0
    have h91 := hk9 fi _ hfl HFO.out 1 e1
    have h92 := hk9 fi _ hfl HFO.out 2 e2
    have hlk9 := fmap_get HM.out hcp HI9.out
    rw [if_pos (List.mem_append_right _ (List.mem_singleton.2 rfl)), hG, ← HFI.out] at hlk9
    have HFIN := Lib.hid (show ∃ G' κ' I', (Value.pointer (some ⟨wc.heap.size, 0, none⟩)) = (.pointer (some ⟨G' i, 0, none⟩)) ∧ Cpy W w9 ob F ρ s G' κ' I' ∧ i ∈ I' ∧ (∀ j ∈ I, j ∈ I' ∧ G' j = G j) ∧ Chg (fun x => x = ob) wr w9 ∧ ∀ b, b < wr.heap.size → κ' b = κ b from ⟨G', κ', _, by rw [hG], hcp, List.mem_append_right _ (List.mem_singleton.2 rfl), fun j hj' => ⟨List.mem_append_left _ hj', hj j hj'⟩, hcw, hk⟩)
    clear hG hcp hj hk hpm hcg hcw hk9 hbc2 hbc hrow hbx e0 e1 e2 hlk
    refine wpAnyH_ready (rs := [17]) (by as_aux_lemma => kernel_rfl) (by simp) ?_
    refine AllReadyH.cons (by simp only [List.getElem?_toArray, List.getElem?_cons_succ, List.getElem?_cons_zero]; exact rfl) (fun K hK => ?_) AllReadyH.nil
    go_simp
    refine hK.out _ _ ?_ (fun hHeld => ?_)
    · (try dsimp only)
      exact ⟨h9b, h90, h91, h92⟩
    clear hK K
    refine wpAnyH_done (by as_aux_lemma => kernel_rfl) ?_ _
    clear h90 h91 h92 hHeld
    go_wp2
    go_ret
    obtain ⟨G', κ', I', h1, h2⟩ := HFIN.out
    exact ⟨G', κ', I', congrArg Ending.returned h1, h2⟩
end
end Go.Proofs.Ythgeppdoonbkpaa

namespace Go.Proofs.Ythgeppdoonbkpaa
open Go.RowKit Go.Maps Go.WideMaps
/-! ### directories -/
namespace Dsk
theorem get_del (l : Dir) (n m : Bs) : get (del l n) m = if m = n then none else get l m := by
  induction l with
  | nil => unfold del; simp [get]
  | cons p l ih =>
    obtain ⟨x, i⟩ := p
    unfold del at ih ⊢
    rw [List.filter_cons]
    by_cases h : x = n
    · subst h
      rw [if_neg (by simp), ih]
      by_cases h2 : m = x
      · rw [if_pos h2, if_pos h2]
      · rw [if_neg h2, if_neg h2]; conv => rhs; unfold get
        rw [if_neg (fun e => h2 e.symm)]
    · rw [if_pos (by simpa using h)]
      unfold get
      by_cases h2 : x = m
      · rw [if_pos h2, if_pos h2, if_neg (fun e => h (h2.trans e))]
      · rw [if_neg h2, if_neg h2, ih]
theorem get_ins : ∀ (l : Dir) (n : Bs) (i : Nat) (m : Bs), get l n = none → get (ins l n i) m = if m = n then some i else get l m
  | [], n, i, m, _ => by
    unfold ins get
    by_cases h : n = m
    · rw [if_pos h, if_pos h.symm]
    · rw [if_neg h, if_neg (fun e => h e.symm)]; rfl
  | (x, j) :: l, n, i, m, hn => by
    have hx : x ≠ n := fun e => by unfold get at hn; rw [if_pos e] at hn; cases hn
    have hn' : get l n = none := by unfold get at hn; rw [if_neg hx] at hn; exact hn
    have ih := get_ins l n i m hn'
    unfold ins
    split
    · conv => lhs; unfold get
      by_cases h : n = m
      · rw [if_pos h, if_pos h.symm]
      · rw [if_neg h, if_neg (fun e => h e.symm)]
    · conv => lhs; unfold get
      conv => rhs; rhs; unfold get
      by_cases h : x = m
      · rw [if_pos h, if_neg (fun e => hx (h.trans e)), if_pos h]
      · rw [if_neg h, if_neg h, ih]
theorem get_put (l : Dir) (n : Bs) (i : Nat) (m : Bs) : get (put l n i) m = if m = n then some i else get l m := by
  unfold put
  rw [get_ins _ _ _ _ (by rw [get_del, if_pos rfl]), get_del]
  by_cases h : m = n
  · rw [if_pos h, if_pos h]
  · rw [if_neg h, if_neg h, if_neg h]
theorem dir_ext : ∀ {l r : Dir}, Rise l → Rise r → (∀ n, get l n = get r n) → l = r
  | [], [], _, _, _ => rfl
  | [], (x, i) :: r, _, _, h => by have := h x; unfold get at this; rw [if_pos rfl] at this; cases this
  | (x, i) :: l, [], _, _, h => by have := h x; unfold get at this; rw [if_pos rfl] at this; cases this
  | (x, i) :: l, (y, j) :: r, hl, hr, h => by
    obtain ⟨h1, h2⟩ := List.pairwise_cons.1 hl
    obtain ⟨h3, h4⟩ := List.pairwise_cons.1 hr
    have hx : get ((y, j) :: r) x = some i := by rw [← h x]; unfold get; rw [if_pos rfl]
    have hy : get ((x, i) :: l) y = some j := by rw [h y]; unfold get; rw [if_pos rfl]
    have hxy : x = y := by
      rcases List.mem_cons.1 (get_mem hx) with e | e
      · injection e
      · rcases List.mem_cons.1 (get_mem hy) with e2 | e2
        · injection e2 with e2 _; exact e2.symm
        · exact absurd (List.lt_trans (h3 _ e) (h1 _ e2)) (lt_irrefl _)
    subst hxy
    have hij : i = j := by unfold get at hx; rw [if_pos rfl] at hx; injection hx with hx; exact hx.symm
    subst hij
    rw [dir_ext h2 h4 (fun n => ?_)]
    by_cases e : x = n
    · subst e
      have a1 : get l x = none := get_none.2 (fun p hp e => lt_irrefl x (by have := h1 p hp; rwa [e] at this))
      have a2 : get r x = none := get_none.2 (fun p hp e => lt_irrefl x (by have := h3 p hp; rwa [e] at this))
      rw [a1, a2]
    · have := h n
      unfold get at this
      rwa [if_neg e, if_neg e] at this
theorem mapD_has (F : Nat → Nat) (l : Dir) (n : Bs) : has (mapD F l) (.string n) = (get l n).isSome := by
  unfold mapD
  rw [has_eq]
  induction l with
  | nil => rfl
  | cons p l ih =>
    obtain ⟨x, i⟩ := p
    rw [List.map_cons, List.any_cons, same_key, ih]
    conv => rhs; unfold get
    by_cases h : x = n
    · simp [h]
    · simp [h]
end Dsk
section
variable {w w' : World} {b r n : Nat} {F : Nat → Nat} {l : Dsk.Dir} {left : Lit → Bool} {cnt : Nat}
theorem World.ranges.chg {S : Nat → Prop} (h : w.ranges Try.prog 9 fileElem b r n (Dsk.mapD F l) left cnt) (hc : Chg S w w') (h1 : ¬ S b) (h2 : ¬ S r) : w'.ranges Try.prog 9 fileElem b r n (Dsk.mapD F l) left cnt := by
  have a1 := World.ownsMap.lt (World.ranges.owns h)
  have a2 := World.ranges.lt h
  obtain ⟨es, clock, since, seen, c0, hb, F, hs, hD, hr, rest⟩ := h
  exact ⟨es, clock, since, seen, c0, (hc.block b a1 h1).trans hb, F, hs, hD, (hc.block r a2 h2).trans hr, rest⟩
set_option maxRecDepth 100000 in
/-- an entry of a directory that is ranged over has come -/
theorem wpList_next_dir (w : World) {ops : Array Oper} {rest : List Oper} {o : Oper} {a : Act} {Q : Exit → Act → World → Prop} (hg : o.guard = none) (it : Operand) (hop : o.op = Op.next it false)
    (b r n : Nat) (F : Nat → Nat) (l : Dsk.Dir) (left : Lit → Bool) (cnt : Nat) (hit : a.eval it = .pointer (some ⟨r, 0, none⟩)) (h : w.ranges Try.prog 9 fileElem b r n (Dsk.mapD F l) left cnt)
    (hDone : cnt = 0 → (∀ n, left (.string n) = false) → wpList Try.prog ops Q rest (a.put o.dst (.tuple #[.bool false])) w)
    (hMore : ∀ (nm : Bs) (i : Nat) (w' : World) (cnt' : Nat), nm.length ≤ maxLen → Dsk.get l nm = some i → left (.string nm) = true → w'.ranges Try.prog 9 fileElem b r n (Dsk.mapD F l) (fun z => left z && !z.sameKey (.string nm)) cnt' → cnt' < cnt →
      Chg (fun x => x = r) w w' → w'.heap.size = w.heap.size → (Instr.entry (.pointer (some ⟨r, 0, none⟩))).run Try.prog w' = .ok (.tuple #[.string (strB nm), .pointer (some ⟨F i, 0, none⟩)]) w' → wpList Try.prog ops Q rest (a.put o.dst (.tuple #[.bool true, .string (strB nm), .pointer (some ⟨F i, 0, none⟩)])) w') :
    wpList Try.prog ops Q (o :: rest) a w := by
  refine wpList_plain hg fun K' hK' => ?_
  unfold Oper.wp
  rcases World.ranges.next h dkeyLaw o.type with ⟨h0, hl, hrun⟩ | ⟨key, v, kl, y, w', cnt', hkey, hlk, hv, hat, hrun, hrg, hlt, hgr, hsz, hen⟩
  · simp [execOp, hop, hit, hrun, Result.andThen]
    exact hK' _ _ (hDone h0 (fun n => hl _))
  · obtain ⟨s, rfl⟩ := Maps.keyOf_string_inv Try.underlying9 hkey
    have hss : s.size ≤ maxLen ∧ kl = .string s.data.toList := by
      rw [keyOf_string Try.underlying9] at hkey
      simp [mapKey, Try.underlying9] at hkey
      exact ⟨hkey.1, hkey.2.symm⟩
    obtain ⟨hs, rfl⟩ := hss
    obtain ⟨nm, hnm⟩ : ∃ nm : Bs, nm = s.data.toList := ⟨_, rfl⟩
    have hsb : s = strB nm := by rw [hnm]; rfl
    rw [← hnm] at hlk hat hrg
    have hln : nm.length ≤ maxLen := by rw [hnm, Array.length_toList]; exact hs
    cases hgt : Dsk.get l nm with
    | none =>
      have h1 := hat (.lit (.bool true))
      have h2 := hat (.lit (.bool false))
      rw [Dsk.mapD_get, hgt] at h1 h2
      dsimp only at h1 h2
      rw [← h2] at h1
      cases h1
    | some i =>
      have h1 := hat .nil
      rw [Dsk.mapD_get, hgt] at h1
      dsimp only at h1
      have hvv : v = .pointer (some ⟨F i, 0, none⟩) := by
        rcases fileElem_inv hv with ⟨rfl, rfl⟩ | ⟨g, rfl, rfl⟩
        · injection h1 with h1; injection h1 with _ h1; omega
        · injection h1 with h1; injection h1 with _ h1; obtain rfl : F i = g := by omega
          rfl
      subst hvv
      rw [hsb] at hrun hen
      simp [execOp, hop, hit, hrun, Result.andThen]
      exact hK' _ _ (hMore nm i w' cnt' hln hgt hlk hrg hlt ⟨hgr.os, hgr.tape, hgr.output, hgr.size, fun k hk hne => hgr.block k hk (fun e => hne (Option.some.inj e))⟩ hsz hen)
end
/-- m[n] = f -/
theorem dir_put {w : World} {b n : Nat} {F : Nat → Nat} {l : Dsk.Dir} (h : Dirm w b n F l) (hn : n < maxLen) (nm : Bs) (hl : nm.length ≤ maxLen) (i : Nat) :
    ∃ w', (Instr.mapUpdate 61 (.map (some b)) (.string (strB nm)) (.pointer (some ⟨F i, 0, none⟩))).run Try.prog w = .ok () w' ∧ Dirm w' b (n + 1) F (Dsk.put l nm i) ∧ Chg (fun x => x = b) w w' := by
  obtain ⟨w', h1, h2, h3⟩ := World.ownsMap.update (t := 61) (e := 67) h dkeyLaw Try.underlying61 hn (key := .string (strB nm)) (val := .pointer (some ⟨F i, 0, none⟩)) (kl := .string nm) (d := .lit (.int .i64 (F i : Nat))) (ps := []) (keyOf_string_mk Try.underlying9 (s := strB nm) (by rw [strB_size]; exact hl)) rfl
  refine ⟨w', h1, ?_, ⟨h3.os, h3.tape, h3.output, h3.size, fun k hk hne => h3.block k hk (fun e => hne (Option.some.inj e))⟩⟩
  unfold Dirm
  rw [← Dsk.mapD_put]
  exact h2
theorem take_snoc {α : Type} {l : List α} {k : Nat} {m : α} (h : l[k]? = some m) : l.take (k + 1) = l.take k ++ [m] := by rw [List.take_add_one, h]; rfl
/-! ### what the copy has so far -/
/-- roles of blocks that no file has -/
def Oth (r : Role) : Prop := r ≠ .data ∧ (∀ i, r ≠ .file i) ∧ ∀ i, r ≠ .chg i
section
variable {W wr w' : World} {ob bx cb lb nb nl nn : Nat} {F G G' : Nat → Nat} {ρ κ κ' : Roles} {s : Dsk.St} {I I' : List Nat} {ll ln : Dsk.Dir} {mv va : Value} {lm : List Dsk.Mv} {S : Nat → Prop}
theorem Cpy.turn (h : Cpy W wr ob F ρ s G κ I) (hc : Chg S wr w') (hS : ∀ b, b < wr.heap.size → S b → W.heap.size ≤ b ∧ b ≠ ob ∧ ∀ r, κ b = some r → Oth r) (hk : ∀ b, b < wr.heap.size → κ' b = κ b) (hl : ∀ b r, κ' b = some r → b < w'.heap.size) : Cpy W w' ob F ρ s G κ' I := by
  have hc2 : Chg (fun b => b < wr.heap.size ∧ S b) wr w' := hc.more (fun b hb e => ⟨hb, e⟩)
  have hlies : Lies κ κ' Oth wr w' := ⟨hc.size, fun {b} hb {r} hr hq => hc.block b hb (fun e => hq ((hS b hb e).2.2 r hr)), hk⟩
  refine ⟨_root_.Go.Proofs.Ythgeppdoonbkpaa.Below.chg h.bel hc2 h.bel.size (fun k e => (hS k e.1 e.2).1), h.obl, h.map.keep (hc.block _ h.map.lt (fun e => (hS _ h.map.lt e).2.1 rfl)), (hk _ h.map.lt).trans h.obr, fun b hb => (hk b (Nat.lt_of_lt_of_le hb h.bel.size)).trans (h.old b hb), hl, fun i hi => ⟨(h.file i hi).1, (h.file i hi).2.keep hlies (fun e => e.1 rfl) (fun e => e.2.1 i rfl) (fun e => e.2.2 i rfl)⟩⟩
structure Cyc (W wr : World) (ob bx cb lb nb : Nat) (F : Nat → Nat) (ρ : Roles) (s : Dsk.St) (G : Nat → Nat) (κ : Roles) (I : List Nat) (ll : Dsk.Dir) (nl : Nat) (ln : Dsk.Dir) (nn : Nat) (mv : Value) (lm : List Dsk.Mv) (va : Value) : Prop where
  c : Cpy W wr ob F ρ s G κ I
  box : wr.cell? ⟨bx, 0, none⟩ = some (.map (some ob))
  boxr : κ bx = none
  boxo : bx ≠ ob
  disk : Var wr cb 65 [.int .i64 (s.room : Nat), .map (some lb), .map (some nb), mv, va, .bool s.down]
  rd : κ cb = some .disk
  rl : κ lb = some .lasts
  rn : κ nb = some .now
  ge : W.heap.size ≤ bx ∧ W.heap.size ≤ cb ∧ W.heap.size ≤ lb ∧ W.heap.size ≤ nb
  dl : Dirm wr lb nl G ll
  il : ∀ p ∈ ll, p.2 ∈ I
  dn : Dirm wr nb nn G ln
  inn : ∀ p ∈ ln, p.2 ∈ I
  mvr : Row wr W.heap.size 3 mv lm.length (movesV G lm)
  mvo : ∀ b, mv.ownBlock = some b → κ b = some .moves
  im : ∀ m ∈ lm, ∀ i, m.nw = some i → i ∈ I
theorem cell_keep {wr w' : World} {b j : Nat} {u : Value} (hb : w'.heap[b]? = wr.heap[b]?) (h : wr.cell? ⟨b, j, none⟩ = some u) : w'.cell? ⟨b, j, none⟩ = some u := (World.cell?_of_block (w := wr) (a := ⟨b, j, none⟩) hb).trans h
/-- the closure's call -/
theorem Cyc.of (h : Cyc W wr ob bx cb lb nb F ρ s G κ I ll nl ln nn mv lm va) (hc : Cpy W w' ob F ρ s G' κ' I') (hI : ∀ j ∈ I, j ∈ I' ∧ G' j = G j) (hch : Chg (fun x => x = ob) wr w') (hk : ∀ b, b < wr.heap.size → κ' b = κ b) : Cyc W w' ob bx cb lb nb F ρ s G' κ' I' ll nl ln nn mv lm va := by
  have hlies : Lies κ κ' (fun _ => False) wr w' := ⟨hch.size, fun {b} hb {r} hr _ => hch.block b hb (fun e => by rw [e, h.c.obr] at hr; cases hr), hk⟩
  have hbl := cell_lt h.box
  refine ⟨hc, cell_keep (hch.block bx hbl h.boxo) h.box, (hk bx hbl).trans h.boxr, h.boxo, (hlies.block h.disk.lt h.rd id).trans h.disk, (hk _ h.disk.lt).trans h.rd, (hk _ h.dl.lt).trans h.rl, (hk _ h.dn.lt).trans h.rn, h.ge, (h.dl.keep hlies h.rl id).congr (fun p hp => ((hI _ (h.il p hp)).2).symm), fun p hp => (hI _ (h.il p hp)).1, (h.dn.keep hlies h.rn id).congr (fun p hp => ((hI _ (h.inn p hp)).2).symm), fun p hp => (hI _ (h.inn p hp)).1, ?_, fun b hb => (hk b (h.mvr.lt b hb).2).trans (h.mvo b hb), fun m hm i e => (hI _ (h.im m hm i e)).1⟩
  rw [movesV_congr (fun m hm i e => (hI _ (h.im m hm i e)).2)]
  exact h.mvr.block_eq (fun b hb => hlies.block (h.mvr.lt b hb).2 (h.mvo b hb) id)
/-- blocks that are none of the copy's turn, new ones come -/
theorem Cyc.past (h : Cyc W wr ob bx cb lb nb F ρ s G κ I ll nl ln nn mv lm va) (hc : Chg S wr w') (hS : ∀ b, b < wr.heap.size → S b → W.heap.size ≤ b ∧ b ≠ ob ∧ b ≠ bx ∧ κ b = none) : Cyc W w' ob bx cb lb nb F ρ s G κ I ll nl ln nn mv lm va := by
  have hlies : Lies κ κ (fun _ => False) wr w' := ⟨hc.size, fun {b} hb {r} hr _ => hc.block b hb (fun e => by rw [(hS b hb e).2.2.2] at hr; cases hr), fun _ _ => rfl⟩
  have hbl := cell_lt h.box
  exact ⟨h.c.turn hc (fun b hb e => ⟨(hS b hb e).1, (hS b hb e).2.1, fun r hr => by rw [(hS b hb e).2.2.2] at hr; cases hr⟩) (fun _ _ => rfl) (fun b r e => Nat.lt_of_lt_of_le (h.c.lt b r e) hc.size), cell_keep (hc.block bx hbl (fun e => (hS bx hbl e).2.2.1 rfl)) h.box, h.boxr, h.boxo, (hlies.block h.disk.lt h.rd id).trans h.disk, h.rd, h.rl, h.rn, h.ge, h.dl.keep hlies h.rl id, h.il, h.dn.keep hlies h.rn id, h.inn, h.mvr.block_eq (fun b hb => hlies.block (h.mvr.lt b hb).2 (h.mvo b hb) id), h.mvo, h.im⟩
theorem Cyc.mono {nl' nn' : Nat} (h : Cyc W wr ob bx cb lb nb F ρ s G κ I ll nl ln nn mv lm va) (h1 : nl ≤ nl') (h2 : nn ≤ nn') : Cyc W wr ob bx cb lb nb F ρ s G κ I ll nl' ln nn' mv lm va :=
  { h with dl := h.dl.mono h1, dn := h.dn.mono h2 }
theorem oth_lasts : Oth .lasts := ⟨by simp, by simp, by simp⟩
theorem oth_now : Oth .now := ⟨by simp, by simp, by simp⟩
theorem oth_moves : Oth .moves := ⟨by simp, by simp, by simp⟩
theorem oth_disk : Oth .disk := ⟨by simp, by simp, by simp⟩
theorem Cyc.role_ne {b c : Nat} {r q : Role} (hb : κ b = some r) (hc : κ c = some q) (h : r ≠ q) : b ≠ c := fun e => by rw [e, hc] at hb; injection hb with hb; exact h hb.symm
/-- c.lasts[n] = of(f) -/
theorem Cyc.putL (h : Cyc W wr ob bx cb lb nb F ρ s G κ I ll nl ln nn mv lm va) {n : Bs} {i : Nat} (hi : i ∈ I) (hd : Dirm w' lb (nl + 1) G (Dsk.put ll n i)) (hc : Chg (fun x => x = lb) wr w') : Cyc W w' ob bx cb lb nb F ρ s G κ I (Dsk.put ll n i) (nl + 1) ln nn mv lm va := by
  have hlies : Lies κ κ (fun r => r = .lasts) wr w' := ⟨hc.size, fun {b} hb {r} hr hq => hc.block b hb (fun e => hq (by rw [e, h.rl] at hr; injection hr with hr; exact hr.symm)), fun _ _ => rfl⟩
  have hbl := cell_lt h.box
  refine ⟨h.c.turn hc (fun b _ e => by subst e; exact ⟨h.ge.2.2.1, fun e => (by have := h.rl; rw [e, h.c.obr] at this; cases this), fun r hr => by rw [h.rl] at hr; injection hr with hr; rw [← hr]; exact oth_lasts⟩) (fun _ _ => rfl) (fun b r e => Nat.lt_of_lt_of_le (h.c.lt b r e) hc.size), cell_keep (hc.block bx hbl (fun e => by have := h.rl; rw [← e, h.boxr] at this; cases this)) h.box, h.boxr, h.boxo, (hlies.block h.disk.lt h.rd (by simp)).trans h.disk, h.rd, h.rl, h.rn, h.ge, hd, fun p hp => ?_, h.dn.keep hlies h.rn (by simp), h.inn, h.mvr.block_eq (fun b hb => hlies.block (h.mvr.lt b hb).2 (h.mvo b hb) (by simp)), h.mvo, h.im⟩
  rcases Dsk.put_mem.1 hp with e | e
  · rw [e]; exact hi
  · exact h.il p e.1
/-- c.now[n] = of(f) -/
theorem Cyc.putN (h : Cyc W wr ob bx cb lb nb F ρ s G κ I ll nl ln nn mv lm va) {n : Bs} {i : Nat} (hi : i ∈ I) (hd : Dirm w' nb (nn + 1) G (Dsk.put ln n i)) (hc : Chg (fun x => x = nb) wr w') : Cyc W w' ob bx cb lb nb F ρ s G κ I ll nl (Dsk.put ln n i) (nn + 1) mv lm va := by
  have hlies : Lies κ κ (fun r => r = .now) wr w' := ⟨hc.size, fun {b} hb {r} hr hq => hc.block b hb (fun e => hq (by rw [e, h.rn] at hr; injection hr with hr; exact hr.symm)), fun _ _ => rfl⟩
  have hbl := cell_lt h.box
  refine ⟨h.c.turn hc (fun b _ e => by subst e; exact ⟨h.ge.2.2.2, fun e => (by have := h.rn; rw [e, h.c.obr] at this; cases this), fun r hr => by rw [h.rn] at hr; injection hr with hr; rw [← hr]; exact oth_now⟩) (fun _ _ => rfl) (fun b r e => Nat.lt_of_lt_of_le (h.c.lt b r e) hc.size), cell_keep (hc.block bx hbl (fun e => by have := h.rn; rw [← e, h.boxr] at this; cases this)) h.box, h.boxr, h.boxo, (hlies.block h.disk.lt h.rd (by simp)).trans h.disk, h.rd, h.rl, h.rn, h.ge, h.dl.keep hlies h.rl (by simp), h.il, hd, fun p hp => ?_, h.mvr.block_eq (fun b hb => hlies.block (h.mvr.lt b hb).2 (h.mvo b hb) (by simp)), h.mvo, h.im⟩
  rcases Dsk.put_mem.1 hp with e | e
  · rw [e]; exact hi
  · exact h.inn p e.1
/-- c.loose = append(c.loose, ..) -/
theorem Cyc.push (h : Cyc W wr ob bx cb lb nb F ρ s G κ I ll nl ln nn mv lm va) {m : Dsk.Mv} (hm : ∀ i, m.nw = some i → i ∈ I) {mv' : Value} {w1 : World} (hc : Chg (fun k => mv.ownBlock = some k) wr w1) (hr : Row w1 W.heap.size 3 mv' (lm ++ [m]).length (movesV G (lm ++ [m]))) (ho : mv'.ownBlock = mv.ownBlock ∨ ∀ b, mv'.ownBlock = some b → wr.heap.size ≤ b) :
    Cyc W (w1.setCell ⟨cb, 3, none⟩ mv') ob bx cb lb nb F ρ s G (grow κ wr.heap.size w1.heap.size (fun _ => .moves)) I ll nl ln nn mv' (lm ++ [m]) va := by
  obtain ⟨κ', hκ⟩ : ∃ κ', κ' = grow κ wr.heap.size w1.heap.size (fun _ => Role.moves) := ⟨_, rfl⟩
  have hk : ∀ b, b < wr.heap.size → κ' b = κ b := fun b hb => by rw [hκ]; exact grow_old κ _ _ hb
  have hkn : ∀ b, wr.heap.size ≤ b → b < w1.heap.size → κ' b = some .moves := fun b h1 h2 => by rw [hκ]; exact grow_new κ _ h1 h2
  rw [← hκ]
  have hdl := h.disk.lt
  have hc2 : Chg (fun k => mv.ownBlock = some k ∨ k = cb) wr (w1.setCell ⟨cb, 3, none⟩ mv') := (show Chg (fun k => mv.ownBlock = some k ∨ k = cb) wr w1 from hc.more (fun b _ e => Or.inl e)).setCell (p := ⟨cb, 3, none⟩) (fun _ => .inr rfl) _
  have hlies : Lies κ κ' (fun r => r = .moves ∨ r = .disk) wr (w1.setCell ⟨cb, 3, none⟩ mv') := ⟨hc2.size, fun {b} hb {r} hr hq => hc2.block b hb (fun e => hq (by
    rcases e with e | e
    · rw [h.mvo b e] at hr; injection hr with hr; exact .inl hr.symm
    · rw [e, h.rd] at hr; injection hr with hr; exact .inr hr.symm)), hk⟩
  have hbl := cell_lt h.box
  have hlt : ∀ b r, κ' b = some r → b < (w1.setCell ⟨cb, 3, none⟩ mv').heap.size := fun b r e => by
    rw [show (w1.setCell ⟨cb, 3, none⟩ mv').heap.size = w1.heap.size by simp]
    rw [hκ] at e
    unfold grow at e
    split at e
    · exact Nat.lt_of_lt_of_le (h.c.lt b r e) hc.size
    · split at e
      · assumption
      · cases e
  have hcbmv : ∀ k, mv.ownBlock = some k → k ≠ cb := fun k hk e => by have := h.mvo k hk; rw [e, h.rd] at this; cases this
  refine ⟨h.c.turn hc2 (fun b hb e => ?_) hk hlt, cell_keep (hc2.block bx hbl (fun e => ?_)) h.box, (hk bx hbl).trans h.boxr, h.boxo, ?_, (hk _ hdl).trans h.rd, (hk _ h.dl.lt).trans h.rl, (hk _ h.dn.lt).trans h.rn, h.ge, h.dl.keep hlies h.rl (by simp), h.il, h.dn.keep hlies h.rn (by simp), h.inn, ?_, fun b hb => ?_, fun m' hm' => ?_⟩
  · rcases e with e | e
    · exact ⟨(h.mvr.lt b e).1, fun e2 => (by have := h.mvo b e; rw [e2, h.c.obr] at this; cases this), fun r hr => by rw [h.mvo b e] at hr; injection hr with hr; rw [← hr]; exact oth_moves⟩
    · subst e
      exact ⟨h.ge.2.1, fun e2 => (by have := h.rd; rw [e2, h.c.obr] at this; cases this), fun r hr => by rw [h.rd] at hr; injection hr with hr; rw [← hr]; exact oth_disk⟩
  · rcases e with e | e
    · have := h.mvo bx e; rw [h.boxr] at this; cases this
    · have := h.rd; rw [← e, h.boxr] at this; cases this
  · exact (h.disk.chg hc (fun e => hcbmv _ e rfl)).set 3 mv'
  · refine hr.block_eq (fun b hb => ?_)
    rw [Below.heap_setCell _ _ _ _ ?_]
    rcases ho with e | e
    · exact hcbmv b (by rw [← e]; exact hb)
    · exact (show b ≠ cb by have := e b hb; omega)
  · rcases ho with e | e
    · exact (hk b (h.mvr.lt b (by rw [← e]; exact hb)).2).trans (h.mvo b (by rw [← e]; exact hb))
    · exact hkn b (e b hb) (hr.lt b hb).2
  · rcases List.mem_append.1 hm' with e | e
    · exact h.im m' e
    · rw [List.mem_singleton.1 e]; exact hm
/-- c.arm = &arm{..} -/
theorem Cyc.armed (h : Cyc W wr ob bx cb lb nb F ρ s G κ I ll nl ln nn mv lm va) {w4 : World} (hb : Below wr.heap.size wr w4) {v : Value} {cs : List Int} (hrow : Row w4 wr.heap.size 1 v cs.length (intsV cs)) (k : Nat) :
    ∃ κ', Cyc W ((w4.alloc (.cells #[.int .i64 (k : Nat), v] 84)).setCell ⟨cb, 4, none⟩ (.pointer (some ⟨w4.heap.size, 0, none⟩))) ob bx cb lb nb F ρ s G κ' I ll nl ln nn mv lm (.pointer (some ⟨w4.heap.size, 0, none⟩)) ∧ ArmV ((w4.alloc (.cells #[.int .i64 (k : Nat), v] 84)).setCell ⟨cb, 4, none⟩ (.pointer (some ⟨w4.heap.size, 0, none⟩))) κ' (.pointer (some ⟨w4.heap.size, 0, none⟩)) (some (k, cs)) := by
  have hs4 := hb.size
  have hdl := h.disk.lt
  obtain ⟨u, hu⟩ : ∃ u : Value, u = .pointer (some ⟨w4.heap.size, 0, none⟩) := ⟨_, rfl⟩
  rw [← hu]
  obtain ⟨w5, hw5⟩ : ∃ w5, w5 = (w4.alloc (.cells #[.int .i64 (k : Nat), v] 84)).setCell ⟨cb, 4, none⟩ u := ⟨_, rfl⟩
  rw [← hw5]
  have hs5 : w5.heap.size = w4.heap.size + 1 := by rw [hw5]; simp
  have hc5 : Chg (fun b => b = cb) w4 w5 := by rw [hw5]; exact ((show Chg (fun b => b = cb) w4 w4 from Chg.refl _ _).alloc _).setCell (p := ⟨cb, 4, none⟩) (fun _ => rfl) _
  have hc : Chg (fun b => b = cb) wr w5 := (Chg.of_below hb).trans hc5 (fun _ _ e => e)
  have hva : Var w5 w4.heap.size 84 [.int .i64 (k : Nat), v] := by rw [hw5]; exact (Var.new w4 84 [.int .i64 (k : Nat), v]).set_other (p := ⟨cb, 4, none⟩) (by show cb ≠ w4.heap.size; omega) _
  have hvd : Var w5 cb 65 [.int .i64 (s.room : Nat), .map (some lb), .map (some nb), mv, u, .bool s.down] := by rw [hw5]; exact ((h.disk.below_all hb).alloc _).set 4 u
  have hrow5 : Row w5 wr.heap.size 1 v cs.length (intsV cs) := hrow.chg hc5 (fun b hb' e => by have := (hrow.lt b hb').1; omega)
  clear hw5 hc5
  obtain ⟨κ', hκ⟩ : ∃ κ' : Roles, κ' = fun b => if b < wr.heap.size then κ b else if b < w4.heap.size then some .data else if b = w4.heap.size then some .arm else none := ⟨_, rfl⟩
  have hk : ∀ b, b < wr.heap.size → κ' b = κ b := fun b hb => by rw [hκ]; exact if_pos hb
  have hkd : ∀ b, wr.heap.size ≤ b → b < w4.heap.size → κ' b = some .data := fun b h1 h2 => by rw [hκ]; dsimp only; rw [if_neg (by omega), if_pos h2]
  have hka : κ' w4.heap.size = some .arm := by rw [hκ]; dsimp only; rw [if_neg (by omega), if_neg (by omega), if_pos rfl]
  have hlt : ∀ b r, κ' b = some r → b < w5.heap.size := fun b r e => by
    rw [hκ] at e
    dsimp only at e
    split at e
    · omega
    · split at e
      · omega
      · split at e
        · omega
        · cases e
  have hlies : Lies κ κ' (fun r => r = .disk) wr w5 := ⟨hc.size, fun {b} hb {r} hr hq => hc.block b hb (fun e => hq (by rw [e, h.rd] at hr; injection hr with hr; exact hr.symm)), hk⟩
  have hbl := cell_lt h.box
  refine ⟨κ', ⟨h.c.turn hc (fun b _ e => ?_) hk hlt, cell_keep (hc.block bx hbl (fun e => by have := h.rd; rw [← e, h.boxr] at this; cases this)) h.box, (hk bx hbl).trans h.boxr, h.boxo, hvd, (hk _ hdl).trans h.rd, (hk _ h.dl.lt).trans h.rl, (hk _ h.dn.lt).trans h.rn, h.ge, h.dl.keep hlies h.rl (by simp), h.il, h.dn.keep hlies h.rn (by simp), h.inn, h.mvr.block_eq (fun b hb => hlies.block (h.mvr.lt b hb).2 (h.mvo b hb) (by simp)), fun b hb => (hk b (h.mvr.lt b hb).2).trans (h.mvo b hb), h.im⟩, w4.heap.size, v, hu, hka, hva, ?_⟩
  · subst e
    exact ⟨h.ge.2.1, fun e => (by have := h.rd; rw [e, h.c.obr] at this; cases this), fun r hr => by rw [h.rd] at hr; injection hr with hr; rw [← hr]; exact oth_disk⟩
  · obtain ⟨A, c, e, h1, _, h3, h4⟩ := hrow5.form
    refine ⟨A, c, e, h1, h3, h4, fun hn g o p ea => ?_⟩
    have hl := hrow.lt g (by rw [e, ea]; rfl)
    exact hkd g hl.1 hl.2
/-- the copy is a disk -/
theorem Cyc.mem {db T : Nat} (hm : Mem W db F ρ s T) (h : Cyc W wr ob bx cb lb nb F ρ s G κ I s.dl nl (Dsk.dn s) nn mv s.lm va) (ha : ArmV wr κ va s.arm) (hl : nl + s.lm.length ≤ T) (hn : nn ≤ T) : Mem wr cb G κ s T where
  lt := h.c.lt
  disk := h.rd
  get := ⟨lb, nb, nl, nn, mv, va, h.disk, ⟨h.rl, h.dl, hl⟩, ⟨h.rn, h.dn, hn⟩, ⟨h.mvr.mono (Nat.zero_le _), h.mvo⟩, ha⟩
  file := fun i hi => by
    rcases hi with ⟨n, hn⟩ | ⟨m, hm1, hm2⟩
    · exact (h.c.file i (h.il _ hn)).2
    · exact (h.c.file i (h.im m hm1 i hm2)).2
  fit := hm.fit
/-- of(m.made) -/
theorem dof_mv {db T : Nat} (hm : Mem W db F ρ s T) (hT : T ≤ 100000) (h : Cpy W wr ob F ρ s G κ I) {m : Dsk.Mv} (hr : ∀ i, m.nw = some i → Dsk.Reach s i) {P : Option Addr} (hP : mvP F m = .pointer P) (hbx : wr.cell? ⟨bx, 0, none⟩ = some (.map (some ob))) (hbo : bx ≠ ob) :
    Calls Try.prog 47 #[.pointer P, .pointer (some ⟨bx, 0, none⟩)] wr fun e w' => ∃ G' κ' I' P', e = .returned (.pointer P') ∧ mvP G' m = .pointer P' ∧ Cpy W w' ob F ρ s G' κ' I' ∧ (∀ i, m.nw = some i → i ∈ I') ∧ (∀ j ∈ I, j ∈ I' ∧ G' j = G j) ∧ Chg (fun x => x = ob) wr w' ∧ ∀ b, b < wr.heap.size → κ' b = κ b := by
  cases hn : m.nw with
  | none =>
    have e : P = none := by unfold mvP at hP; rw [hn] at hP; injection hP with hP; exact hP.symm
    subst e
    refine (dof_nil wr bx).mono ?_
    rintro e w' ⟨rfl, rfl⟩
    exact ⟨G, κ, I, none, rfl, by unfold mvP; rw [hn], h, fun i e => (by cases e), fun j hj => ⟨hj, rfl⟩, Chg.refl _ _, fun _ _ => rfl⟩
  | some i =>
    have e : P = some ⟨F i, 0, none⟩ := by unfold mvP at hP; rw [hn] at hP; injection hP with hP; exact hP.symm
    subst e
    refine (dof_any hm hT h (hr i hn) hbx hbo).mono ?_
    rintro e w' ⟨G', κ', I', rfl, h1, h2, h3⟩
    exact ⟨G', κ', I', _, rfl, by unfold mvP; rw [hn], h1, fun j e => by injection e with e; subst e; exact h2, h3⟩
end
end Go.Proofs.Ythgeppdoonbkpaa
