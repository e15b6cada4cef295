/- head.List. -/
import Derived.Test.YtabecgdaiakgiaaDoorFields
import Derived.Test.YtabecgdaiakgiaaDoorTrim
import Derived.Test.YtabecgdaiakgiaaDoorPieces
namespace Go.Proofs.YtabecgdaiakgiaaDoor
open Go.RowKit

theorem shaped_below {w w' : World} (h : w.ShapedOpen Tryd.prog) (hb : Below w.heap.size w w') : w'.ShapedOpen Tryd.prog := h.keptBut (hb.frame fun _ => False) fun _ h => h.elim

theorem split_data (s : ByteArray) : (Lib.splitB ⟨#[44]⟩ 0 (Lib.countB s ⟨#[44]⟩) s).map (·.data.toList) = pieces [] s.data.toList := by
  rw [Lib.splitB_data]
  exact splitK_pieces _ _ (Nat.le_refl _)

theorem Rd.grow_ne {w w' : World} {B sz n g o : Nat} {xs : List Value} {row : Option Nat} (h : Rd w B sz (some ⟨g, o, none⟩) n xs) (hg : w.grownBy w' row) (hB : B ≤ w.heap.size) (hne : row ≠ some g) : Rd w' B sz (some ⟨g, o, none⟩) n xs :=
  ⟨h.1, fun hn => by
    obtain ⟨g', o', e, hb, hc⟩ := h.2 hn
    injection e with e
    injection e with e1 e2 _
    subst e1 e2
    exact ⟨g, o, rfl, hb, fun j u hu => (World.cell?_of_block (w := w) (a := ⟨g, o + j, none⟩) (hg.block g (by omega) (fun e => hne e.symm))).trans (hc j u hu)⟩⟩

/-- strings.Split at a comma, as a row -/
theorem split_row (s : ByteArray) (w : World) (h : w.ShapedOpen Tryd.prog) (hs : s.size ≤ 16777216) :
    Calls Tryd.prog 70 #[.string s, .string ⟨#[44]⟩] w fun e w' => ∃ (ps : List ByteArray) (g : Nat), e = .returned (.slice (some ⟨g, 0, none⟩) ps.length ps.length) ∧ ps.map (·.data.toList) = pieces [] s.data.toList ∧
      ps.length ≤ s.size + 1 ∧ w.heap.size ≤ g ∧ Rd w' w'.heap.size 1 (some ⟨g, 0, none⟩) ps.length (strsV ps) ∧ Below w.heap.size w w' :=
  (Tryd.strings_Split_shaped s ⟨#[44]⟩ w h (by omega) (by decide)).mono fun e w' ⟨he, hw⟩ => by
    have hl := Lib.splitB_all ⟨#[44]⟩ (by decide) 0 _ s rfl
    have hd := split_data s
    generalize hps : Lib.splitB ⟨#[44]⟩ 0 (Lib.countB s ⟨#[44]⟩) s = ps at hl hd hw
    refine ⟨ps, w.heap.size, by rw [he, hl], hd, ?_, Nat.le_refl _, ?_, ?_⟩
    · have := pieces_len s.data.toList []
      rw [← hd, List.length_map] at this
      exact this
    · subst hw
      refine ⟨by rw [strsV_len]; omega, fun _ => ⟨w.heap.size, 0, rfl, by simp, fun j u hu => ?_⟩⟩
      rw [Nat.zero_add, World.cell?_alloc_at _ _ _ _ rfl]
      simpa [strsV] using hu
    · subst hw
      exact (Below.refl _ _).alloc (Nat.le_refl _) _

theorem strs_get {l : List ByteArray} {j : Nat} (h : j < l.length) : (strsV l)[j]? = some (.string l[j]) := by simp [strsV, h]
def selB (ps : List ByteArray) : List ByteArray := sel (ps.map (·.data.toList))
theorem selB_take (ps : List ByteArray) (k : Nat) (h : k < ps.length) : selB (ps.take (k + 1)) = selB (ps.take k) ++ (if trim ps[k].data.toList = [] then [] else [⟨(trim ps[k].data.toList).toArray⟩]) := by
  unfold selB
  rw [List.take_succ_eq_append_getElem h, List.map_append, sel_append]
  congr 1
  by_cases e : trim ps[k].data.toList = [] <;> simp [sel, e]
theorem selB_len (ps : List ByteArray) (k : Nat) : (selB (ps.take k)).length ≤ k := by
  unfold selB
  refine Nat.le_trans (sel_len _) ?_
  simp; omega

set_option maxHeartbeats 2000000 in
set_option maxRecDepth 100000 in
theorem hList_any (A : Option Addr) (n c : Nat) (vs : List ByteArray) (w : World) (hsh : w.ShapedOpen Tryd.prog) (hrd : Rd w w.heap.size 1 A n (strsV vs))
    (hn : n ≤ 16777216) (hvs : ∀ s ∈ vs, s.size ≤ 16777216) (htot : total vs ≤ 16777216) :
    Calls Tryd.prog 34 #[.slice A n c] w fun e w' => ∃ v, e = .returned v ∧ Row w' w.heap.size 1 v (listed vs).length (strsV (listed vs)) ∧ Below w.heap.size w w' := by
  have hlen : vs.length = n := by have := hrd.1; rw [strsV_len] at this; omega
  obtain ⟨i0, hi, hz0, hz1, hz2⟩ := info_parts info9
  go_enter Tryd.func34, Tryd.ntmps34
  go_wp2
  go_loopw [2, 9] (fun v2 i wr => ∃ k : Nat, k ≤ n ∧ i = .int .i64 k ∧ Row wr w.heap.size 1 v2 (listed (vs.take k)).length (strsV (listed (vs.take k))) ∧ Below w.heap.size w wr) (fun _ i _ => n - (intOf i).toNat)
  case atStart => exact ⟨0, Nat.zero_le _, rfl, Row.nil _ _ _, Below.refl _ _⟩
  case round =>
    obtain ⟨k, hk, rfl, hrow, hb⟩ := hrel
    by_cases hlt : k < n
    · obtain ⟨g, o, rfl, hg, hcell⟩ := hrd.2 (by omega)
      have c1 := (hb.cell (p := ⟨g, o + k, none⟩) hg).trans (hcell _ _ (strs_get (l := vs) (j := k) (by omega)))
      have hsz := hb.size
      have hs1 : vs[k].size ≤ 16777216 := hvs _ (List.getElem_mem _)
      have HL := Lib.hid (listed_take vs k (by omega))
      have HN : Hid ((listed (vs.take k)).length ≤ 16777216) := Lib.hid (Nat.le_trans (listed_len _) (Nat.le_trans (total_take vs k) htot))
      have hshr := shaped_below hsh hb
      clear hcell
      generalize listed (vs.take k) = pv at HL HN hrow
      have hpv := HN.out
      go_wp2_with (go_at_call 70; go_must (refine (split_row vs[k] _ hshr hs1).mono ?_; rintro _ w1 ⟨ps, g1, rfl, hps, hpl, hg1, hrd1, hb1⟩))
      have hrow1 := hrow.below_all hb1
      have hB1 : Below w.heap.size w w1 := hb.trans (hb1.mono hsz)
      have hsz1 := hB1.size
      have hown : u2.ownBlock ≠ some g1 := fun e => by have := (hrow.lt _ e).2; omega
      go_loopw [2, 16] (fun v2 i wi => ∃ j : Nat, j ≤ ps.length ∧ i = .int .i64 j ∧ Row wi w.heap.size 1 v2 (pv ++ selB (ps.take j)).length (strsV (pv ++ selB (ps.take j))) ∧ Below w.heap.size w wi ∧ v2.ownBlock ≠ some g1 ∧ Rd wi wi.heap.size 1 (some ⟨g1, 0, none⟩) ps.length (strsV ps)) (fun _ i _ => ps.length - (intOf i).toNat)
      case atStart => exact ⟨0, Nat.zero_le _, rfl, by simpa [selB, sel] using hrow1, hB1, hown, hrd1⟩
      case round =>
        obtain ⟨j, hj, rfl, hrowi, hbi, hoi, hrdi⟩ := hrel
        have hszi := hbi.size
        by_cases hjl : j < ps.length
        · obtain ⟨g2, o2, e2, hg2, hcell2⟩ := hrdi.2 (by omega)
          injection e2 with e2
          injection e2 with e2 e3 _
          subst e2 e3
          have c2 := hcell2 _ _ (strs_get (l := ps) (j := j) (by omega))
          rw [Nat.zero_add] at c2
          have HS := Lib.hid (selB_take ps j hjl)
          have HK : Hid ((selB (ps.take j)).length ≤ j) := Lib.hid (selB_len ps j)
          clear hcell2
          generalize selB (ps.take j) = sj at HS HK hrowi
          have hpj : (ps[j]).size ≤ 9223372036854775807 := by
            have h1 : ps[j].data.toList ∈ pieces [] vs[k].data.toList := by rw [← hps]; exact List.mem_map_of_mem (List.getElem_mem _)
            have h2 := pieces_le _ _ _ h1
            have h3 : ps[j].data.toList.length = ps[j].size := rfl
            have h4 : vs[k].data.toList.length = vs[k].size := rfl
            simp only [List.length_nil] at h2
            omega
          by_cases he : trim ps[j].data.toList = []
          · rw [if_pos he, List.append_nil] at HS
            go_wp2_with (go_at_call 75; go_must (refine (sTrim_any ps[j] _ hpj).mono ?_; rintro _ w2 ⟨rfl, hb2⟩; rw [he]))
            refine ⟨⟨j + 1, by omega, by go_num, ?_, hbi.trans (hb2.mono hszi), hoi, (hrdi.below hb2).more hb2.size⟩, by simp [intOf]; omega⟩
            rw [HS.out]
            exact hrowi.below_all hb2
          · rw [if_neg he] at HS
            have hne : (trim ps[j].data.toList == []) = false := by simpa using he
            have hke := HK.out
            have hll : (pv ++ sj).length ≤ 33554500 := by rw [List.length_append]; omega
            generalize hpsj : pv ++ sj = pj at hrowi hll
            go_wp2_with (first
              | (go_at_call 75; go_must (refine (sTrim_any ps[j] _ hpj).mono ?_; rintro _ w2 ⟨rfl, hb2⟩; have hrow2 := hrowi.below_all hb2; have hs2 := hb2.size; have hB2 := hbi.trans (hb2.mono hszi)))
              | (at_builtin; go_must (refine wpList_app _ rfl (.tmp 24) (.tmp 26) 58 58 rfl w.heap.size 9 i0 (.string ⟨#[]⟩) 1 16 Tryd.underlying58 hi hz0 hz1 hz2 rfl u2 pj.length (strsV pj) rfl (hrow2.alloc _) _ 1 [.string ⟨(trim ps[j].data.toList).toArray⟩] rfl (Src.built [.string ⟨(trim ps[j].data.toList).toArray⟩] 9 Tryd.underlying58 rfl (by intro u hu; simp at hu; subst hu; rfl)) (by omega) (by omega) (by omega) (by simp; omega) ?_); intro v1 w3 hrow3 hg3 hg4; have hB3 : Below w.heap.size w w3 := Below.app (hB2.alloc (by omega) _) (hrow2.alloc _) hg3 (Nat.le_refl _) (by simp; omega)))
            refine ⟨⟨j + 1, by omega, by go_num, ?_, hB3, ?_, ?_⟩, by simp [intOf]; omega⟩
            · rw [HS.out, ← List.append_assoc, hpsj, strsV, List.map_append, List.length_append]
              exact hrow3
            · rcases hg4 with e | e
              · rw [e]; exact hoi
              · rw [e]; intro e; injection e with e; simp at e; omega
            · exact (Rd.grow_ne (((hrdi.below hb2).more hb2.size).alloc (Nat.le_refl _) _) hg3 (by simp) hoi).more (Nat.le_trans (by simp) hg3.size)
        · have e1 : ps.take j = ps := List.take_of_length_le (by omega)
          rw [e1] at hrowi
          have e2 : selB ps = sel (pieces [] vs[k].data.toList) := by unfold selB; rw [hps]
          rw [e2] at hrowi
          go_wp2
          go_roundw
          case rel => exact ⟨k + 1, by omega, by go_num, by rw [HL.out]; exact hrowi, hbi⟩
          case measure => simp [intOf]; omega
    · have e1 : vs.take k = vs := List.take_of_length_le (by omega)
      rw [e1] at hrow
      go_wp2
      go_ret
      exact ⟨_, rfl, hrow, hb⟩
end Go.Proofs.YtabecgdaiakgiaaDoor
