/- the reference's Values. -/
import Derived.Test.YtabecgdaiakgiaaDoorFields
namespace Go.Proofs.YtabecgdaiakgiaaDoor
open Go.RowKit

set_option maxHeartbeats 1000000 in
set_option maxRecDepth 100000 in
theorem rValues_any (rq : Bool) (m t : ByteArray) (st : Int) (rs : ByteArray) (mn : Int) (A : Option Addr) (n c : Nat) (fs : List Fl) (name : ByteArray) (w : World) (hrd : Rd w w.heap.size 2 A n (fieldsV fs))
    (hn : n ≤ 16777216) (hname : name.size ≤ 16777216) (hfs : ∀ f ∈ fs, f.1.size ≤ 16777216) :
    Calls Tryd.prog 39 #[headV rq m t st rs mn (.slice A n c), .string name] w fun e w' => ∃ v, e = .returned v ∧ Row w' w.heap.size 1 v (vals fs name).length (strsV (vals fs name)) ∧ Below w.heap.size w w' := by
  have hlen : fs.length = n := by have := hrd.1; rw [fieldsV_len] at this; omega
  obtain ⟨i0, hi, hz0, hz1, hz2⟩ := info_parts info9
  unfold headV
  go_enter Tryd.func39, Tryd.ntmps39
  go_wp2
  go_loopw [5, 6] (fun v4 i wr => ∃ k : Nat, k ≤ n ∧ i = .int .i64 k ∧ Row wr (w.heap.size + 1) 1 v4 (vals (fs.take k) name).length (strsV (vals (fs.take k) name)) ∧ Below (w.heap.size + 1) (w.alloc (.cells #[.bool rq, .string m, .string t, .int .i64 st, .string rs, .int .i64 mn, .slice A n c] 24)) wr) (fun _ i _ => n - (intOf i).toNat)
  case atStart => exact ⟨0, Nat.zero_le _, rfl, Row.nil _ _ _, Below.refl _ _⟩
  case round =>
    obtain ⟨k, hk, rfl, hrow, hb⟩ := hrel
    have hbx : wr.cell? ⟨w.heap.size, 6, none⟩ = some (.slice A n c) := (hb.cell (by show w.heap.size < _; omega)).trans (World.cell?_alloc_new _ _ _ _)
    have hsz : w.heap.size + 1 ≤ wr.heap.size := by (have := hb.size; simpa using this)
    by_cases hlt : k < n
    · obtain ⟨g, o, rfl, hg, hcell⟩ := hrd.2 (by omega)
      obtain ⟨G1, G2⟩ := fieldsV_get fs k (by omega)
      have c1 := ((hb.cell (p := ⟨g, o + k * 2, none⟩) (by show g < _; omega)).trans (World.cell?_alloc_past _ _ _ hg)).trans (hcell _ _ G1)
      have c2 := ((hb.cell (p := ⟨g, o + (k * 2 + 1), none⟩) (by show g < _; omega)).trans (World.cell?_alloc_past _ _ _ hg)).trans (hcell _ _ G2)
      clear hcell G1 G2
      rw [← Nat.add_assoc] at c2
      have hs1 : fs[k].1.size ≤ 16777216 := hfs _ (List.getElem_mem _)
      have HV := Lib.hid (vals_step fs name k (by omega))
      have HP : Hid ((vals (fs.take k) name).length ≤ k) := Lib.hid (Nat.le_trans (vals_le _ _) (by rw [List.length_take]; omega))
      by_cases he : fold fs[k].1.data.toList = fold name.data.toList
      · rw [if_pos he] at HV
        generalize vals (fs.take k) name = pv at HV HP hrow
        have hpv := HP.out
        go_wp2_with (first
          | (go_at_call 58; have c3' := c3; go_must (refine (rFold_any name _ hname).mono ?_; rintro _ w2 ⟨rfl, hb2⟩; have hs2 := hb2.size; have c4 : w2.cell? ⟨g, o + k * 2 + 1, none⟩ = some (.string fs[k].2) := (hb2.cell (by show g < _; omega)).trans c3; have hbx2 : w2.cell? ⟨w.heap.size, 6, none⟩ = some (.slice (some ⟨g, o, none⟩) n c) := (hb2.cell (by show w.heap.size < _; omega)).trans hbx1; have hB2 := hB1.trans (hb2.mono (B' := w.heap.size + 1) (by omega)); have hrow2 := hrow1.below_all hb2))
          | (go_at_call 58; refine (rFold_any fs[k].1 _ hs1).mono ?_; rintro _ w1 ⟨rfl, hb1⟩; have hs1' := hb1.size
             have c3 : w1.cell? ⟨g, o + k * 2 + 1, none⟩ = some (.string fs[k].2) := (hb1.cell (by show g < _; omega)).trans c2
             have hbx1 : w1.cell? ⟨w.heap.size, 6, none⟩ = some (.slice (some ⟨g, o, none⟩) n c) := (hb1.cell (by show w.heap.size < _; omega)).trans hbx
             have hB1 := hb.trans (hb1.mono (B' := w.heap.size + 1) (by omega))
             have hrow1 := hrow.below_all hb1
             rw [he])
          | (at_builtin; go_must (refine wpList_app _ rfl (.tmp 24) (.tmp 31) 58 58 rfl (w.heap.size + 1) 9 i0 (.string ⟨#[]⟩) 1 16 Tryd.underlying58 hi hz0 hz1 hz2 rfl u5 pv.length (strsV pv) rfl (hrow2.alloc _) _ 1 [.string fs[k].2] rfl (Src.built [.string fs[k].2] 9 Tryd.underlying58 rfl (by intro u hu; simp at hu; subst hu; rfl)) (by omega) (by omega) (by omega) (by simp; omega) ?_); intro v1 w3 hrow3 hg3 _; have hB3 := Below.app (B := w.heap.size + 1) (hB2.alloc (by omega) _) (hrow2.alloc _) hg3 (Nat.le_refl _) (by simp; omega)))
        go_roundw
        case rel => exact ⟨k + 1, by omega, by go_num, by rw [HV.out, strsV, List.map_append, List.length_append]; exact hrow3, hB3⟩
        case measure => simp [intOf]; omega
      · rw [if_neg he, List.append_nil] at HV
        have hne : (fold fs[k].1.data.toList == fold name.data.toList) = false := by simpa using he
        generalize vals (fs.take k) name = pv at HV HP hrow
        go_wp2_with (first
          | (go_at_call 58; have c3' := c3; go_must (refine (rFold_any name _ hname).mono ?_; rintro _ w2 ⟨rfl, hb2⟩; have hs2 := hb2.size; have c4 : w2.cell? ⟨g, o + k * 2 + 1, none⟩ = some (.string fs[k].2) := (hb2.cell (by show g < _; omega)).trans c3; have hbx2 : w2.cell? ⟨w.heap.size, 6, none⟩ = some (.slice (some ⟨g, o, none⟩) n c) := (hb2.cell (by show w.heap.size < _; omega)).trans hbx1; have hB2 := hB1.trans (hb2.mono (B' := w.heap.size + 1) (by omega)); have hrow2 := hrow1.below_all hb2))
          | (go_at_call 58; refine (rFold_any fs[k].1 _ hs1).mono ?_; rintro _ w1 ⟨rfl, hb1⟩; have hs1' := hb1.size
             have c3 : w1.cell? ⟨g, o + k * 2 + 1, none⟩ = some (.string fs[k].2) := (hb1.cell (by show g < _; omega)).trans c2
             have hbx1 : w1.cell? ⟨w.heap.size, 6, none⟩ = some (.slice (some ⟨g, o, none⟩) n c) := (hb1.cell (by show w.heap.size < _; omega)).trans hbx
             have hB1 := hb.trans (hb1.mono (B' := w.heap.size + 1) (by omega))
             have hrow1 := hrow.below_all hb1
             skip))
        go_roundw
        case rel => exact ⟨k + 1, by omega, by go_num, by rw [HV.out]; exact hrow2, hB2⟩
        case measure => simp [intOf]; omega
    · have e1 : fs.take k = fs := List.take_of_length_le (by omega)
      rw [e1] at hrow
      go_wp2
      go_ret
      exact ⟨_, rfl, hrow.mono (by omega), ((Below.refl _ w).alloc (Nat.le_refl _) _).trans (hb.mono (by omega))⟩
end Go.Proofs.YtabecgdaiakgiaaDoor
