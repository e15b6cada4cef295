/- head.Values and the reference's; fields, texts in memory. -/
import Derived.Test.YtabecgdaiakgiaaDoorFold
import Derived.Deep.MidRow
import Derived.MapKept
import Derived.Lib.SlicesS
namespace Go.Proofs.YtabecgdaiakgiaaDoor
open Go.RowKit

abbrev Fl := ByteArray × ByteArray
def fieldsV (l : List Fl) : List Value := l.flatMap fun f => [.string f.1, .string f.2]
def strsV (l : List ByteArray) : List Value := l.map Value.string
theorem strsV_one (l : List ByteArray) : ∀ u ∈ strsV l, u.oneCell' = true := by
  intro u hu
  obtain ⟨_, _, rfl⟩ := List.mem_map.1 hu
  rfl
theorem strsV_len (l : List ByteArray) : (strsV l).length = l.length := by simp [strsV]
theorem fieldsV_len (l : List Fl) : (fieldsV l).length = l.length * 2 := by
  induction l with
  | nil => rfl
  | cons f l ih => simp only [fieldsV, List.flatMap_cons, List.length_append, List.length_cons, List.length_nil] at ih ⊢; omega
theorem fieldsV_get : ∀ (l : List Fl) (k : Nat) (h : k < l.length), (fieldsV l)[k * 2]? = some (.string l[k].1) ∧ (fieldsV l)[k * 2 + 1]? = some (.string l[k].2)
  | f :: l, 0, _ => ⟨rfl, rfl⟩
  | f :: l, k + 1, h => by
    have := fieldsV_get l k (by simpa using h)
    have e : (fieldsV (f :: l)) = .string f.1 :: .string f.2 :: fieldsV l := rfl
    rw [e, show (k + 1) * 2 = k * 2 + 1 + 1 by omega]
    simpa using this
def headV (rq : Bool) (m t : ByteArray) (st : Int) (rs : ByteArray) (mn : Int) (f : Value) : Value := .agg #[.bool rq, .string m, .string t, .int .i64 st, .string rs, .int .i64 mn, f]

def vals (fs : List Fl) (name : ByteArray) : List ByteArray := (fs.filter fun f => fold f.1.data.toList == fold name.data.toList).map (·.2)
theorem vals_step (fs : List Fl) (name : ByteArray) (k : Nat) (h : k < fs.length) : vals (fs.take (k + 1)) name = vals (fs.take k) name ++ (if fold fs[k].1.data.toList = fold name.data.toList then [fs[k].2] else []) := by
  unfold vals
  rw [List.take_succ_eq_append_getElem h, List.filter_append, List.map_append]
  congr 1
  by_cases e : fold fs[k].1.data.toList = fold name.data.toList <;> simp [e]
theorem vals_le (fs : List Fl) (name : ByteArray) : (vals fs name).length ≤ fs.length := by
  unfold vals; rw [List.length_map]; exact List.length_filter_le _ _

theorem str_eq (a b : Bs) : (decide ((⟨a.toArray⟩ : ByteArray) = ⟨b.toArray⟩)) = decide (a = b) := by
  rw [Bool.eq_iff_iff]; simp

theorem info9 : (Tryd.prog.info? 9).map (fun i => (i.zero, i.size, i.bytes)) = some (some (.string ⟨#[]⟩), 1, 16) := by kernel_rfl

set_option maxHeartbeats 1000000 in
set_option maxRecDepth 100000 in
theorem hValues_any (rq : Bool) (m t : ByteArray) (st : Int) (rs : ByteArray) (mn : Int) (A : Option Addr) (n c : Nat) (fs : List Fl) (name : ByteArray) (w : World) (hrd : Rd w w.heap.size 2 A n (fieldsV fs))
    (hn : n ≤ 16777216) (hname : name.size ≤ 16777216) (hfs : ∀ f ∈ fs, f.1.size ≤ 16777216) :
    Calls Tryd.prog 35 #[headV rq m t st rs mn (.slice A n c), .string name] w fun e w' => ∃ v, e = .returned v ∧ Row w' w.heap.size 1 v (vals fs name).length (strsV (vals fs name)) ∧ Below w.heap.size w w' := by
  have hlen : fs.length = n := by have := hrd.1; rw [fieldsV_len] at this; omega
  obtain ⟨i0, hi, hz0, hz1, hz2⟩ := info_parts info9
  unfold headV
  go_enter Tryd.func35, Tryd.ntmps35
  go_wp2
  go_loopw [4, 10] (fun v4 i wr => ∃ k : Nat, k ≤ n ∧ i = .int .i64 k ∧ Row wr w.heap.size 1 v4 (vals (fs.take k) name).length (strsV (vals (fs.take k) name)) ∧ Below w.heap.size w wr) (fun _ i _ => n - (intOf i).toNat)
  case atStart => exact ⟨0, Nat.zero_le _, rfl, Row.nil _ _ _, (Below.refl _ _).alloc (Nat.le_refl _) _⟩
  case round =>
    obtain ⟨k, hk, rfl, hrow, hb⟩ := hrel
    by_cases hlt : k < n
    · obtain ⟨g, o, rfl, hg, hcell⟩ := hrd.2 (by omega)
      obtain ⟨G1, G2⟩ := fieldsV_get fs k (by omega)
      have c1 := (hb.cell (p := ⟨g, o + k * 2, none⟩) hg).trans (hcell _ _ G1)
      have c2 := (hb.cell (p := ⟨g, o + (k * 2 + 1), none⟩) hg).trans (hcell _ _ G2)
      clear hcell G1 G2
      have hr : World.rangeAt wr g (o + k * 2) [.string fs[k].1, .string fs[k].2] := by
        intro j v hj
        match j, hj with
        | 0, hj => cases hj; exact c1
        | 1, hj => cases hj; exact c2
      have hsz := hb.size
      have hs1 : fs[k].1.size ≤ 16777216 := hfs _ (List.getElem_mem _)
      have HV := Lib.hid (vals_step fs name k (by omega))
      have HP : Hid ((vals (fs.take k) name).length ≤ k) := Lib.hid (Nat.le_trans (vals_le _ _) (by rw [List.length_take]; omega))
      by_cases he : fold fs[k].1.data.toList = fold name.data.toList
      · rw [if_pos he] at HV
        generalize vals (fs.take k) name = pv at HV HP hrow
        have hpv := HP.out
        go_wp2_with (first
          | (refine wpList_load_mid rfl 48 (.tmp 12) rfl g (o + k * 2) rfl [.string fs[k].1, .string fs[k].2] _ hr Tryd.underlying48 rfl (by kernel_rfl) ?_)
          | (go_at_call 56; have c3' := c3; go_must (refine (hFold_any name _ hname).mono ?_; rintro _ w2 ⟨rfl, hb2⟩; have hs2 := hb2.size; have c4 : w2.cell? ⟨wr.heap.size, 1, none⟩ = some (.string fs[k].2) := (hb2.cell (by show wr.heap.size < _; omega)).trans c3; have hB2 : Below w.heap.size w w2 := hB1.trans (hb2.mono (by omega)); have hrow2 := hrow1.below_all hb2))
          | (go_at_call 56; refine (hFold_any fs[k].1 _ hs1).mono ?_; rintro _ w1 ⟨rfl, hb1⟩; have hs1' : wr.heap.size + 1 ≤ w1.heap.size := by (have := hb1.size; simpa using this)
             have c3 : w1.cell? ⟨wr.heap.size, 1, none⟩ = some (.string fs[k].2) := (hb1.cell (by simp)).trans (World.cell?_alloc_new _ _ _ _)
             have hB1 : Below w.heap.size w w1 := (hb.alloc hsz _).trans (hb1.mono (by simp; omega))
             have hrow1 := (hrow.alloc _).below_all hb1
             rw [he])
          | (at_builtin; go_must (refine wpList_app _ rfl (.tmp 20) (.tmp 23) 58 58 rfl w.heap.size 9 i0 (.string ⟨#[]⟩) 1 16 Tryd.underlying58 hi hz0 hz1 hz2 rfl u4 pv.length (strsV pv) rfl (hrow2.alloc _) _ 1 [.string fs[k].2] rfl (Src.built [.string fs[k].2] 9 Tryd.underlying58 rfl (by intro u hu; simp at hu; subst hu; rfl)) (by omega) (by omega) (by omega) (by simp; omega) ?_); intro v1 w3 hrow3 hg3 _; have hB3 : Below w.heap.size w w3 := Below.app (hB2.alloc (by omega) _) (hrow2.alloc _) hg3 (Nat.le_refl _) (by simp; omega)))
        go_roundw
        case rel => exact ⟨k + 1, by omega, by go_num, by rw [HV.out, strsV, List.map_append, List.length_append]; exact hrow3, hB3⟩
        case measure => simp [intOf]; omega
      · rw [if_neg he, List.append_nil] at HV
        have hne : (fold fs[k].1.data.toList == fold name.data.toList) = false := by simpa using he
        generalize vals (fs.take k) name = pv at HV HP hrow
        go_wp2_with (first
          | (refine wpList_load_mid rfl 48 (.tmp 12) rfl g (o + k * 2) rfl [.string fs[k].1, .string fs[k].2] _ hr Tryd.underlying48 rfl (by kernel_rfl) ?_)
          | (go_at_call 56; have c3' := c3; go_must (refine (hFold_any name _ hname).mono ?_; rintro _ w2 ⟨rfl, hb2⟩; have hs2 := hb2.size; have c4 : w2.cell? ⟨wr.heap.size, 1, none⟩ = some (.string fs[k].2) := (hb2.cell (by show wr.heap.size < _; omega)).trans c3; have hB2 : Below w.heap.size w w2 := hB1.trans (hb2.mono (by omega)); have hrow2 := hrow1.below_all hb2))
          | (go_at_call 56; refine (hFold_any fs[k].1 _ hs1).mono ?_; rintro _ w1 ⟨rfl, hb1⟩; have hs1' : wr.heap.size + 1 ≤ w1.heap.size := by (have := hb1.size; simpa using this)
             have c3 : w1.cell? ⟨wr.heap.size, 1, none⟩ = some (.string fs[k].2) := (hb1.cell (by simp)).trans (World.cell?_alloc_new _ _ _ _)
             have hB1 : Below w.heap.size w w1 := (hb.alloc hsz _).trans (hb1.mono (by simp; omega))
             have hrow1 := (hrow.alloc _).below_all hb1
             skip))
        go_roundw
        case rel => exact ⟨k + 1, by omega, by go_num, by rw [HV.out]; exact hrow2, hB2⟩
        case measure => simp [intOf]; omega
    · have e1 : fs.take k = fs := List.take_of_length_le (by omega)
      rw [e1] at hrow
      go_wp2
      go_ret
      exact ⟨_, rfl, hrow, hb⟩
end Go.Proofs.YtabecgdaiakgiaaDoor
