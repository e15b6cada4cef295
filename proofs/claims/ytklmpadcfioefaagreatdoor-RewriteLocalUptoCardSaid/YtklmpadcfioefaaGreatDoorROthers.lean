/- rewrite's others, the reference's others. Conditions: sizes, the library's variables. -/
import Derived.Test.YtklmpadcfioefaaGreatDoorMB
import Derived.Test.YtklmpadcfioefaaGreatDoorMX0
import Derived.Lib.SliceRun
import Derived.Lib.LazyBuf
import Derived.Test.YtklmpadcfioefaaGreatDoorROwn
namespace Go.Proofs.YtklmpadcfioefaaGreatDoor
open Go.RowKit

/-- is a field one that is dropped, by the set S? -/
def dropF (S : Bs → Bool) (f : Fl) : Bool := S (fd f.1)

set_option maxHeartbeats 1000000 in
set_option maxRecDepth 100000 in
theorem wothers1_any (f : Fl) (q b m : Nat) (S : Bs → Bool) (w : World) (hq : Var w q 157 [.map (some b)]) (hm : Mine w b m S) (hf : f.1.size ≤ 16777216) :
    Calls Tryz.prog 119 #[.agg #[.string f.1, .string f.2], .pointer (some ⟨q, 0, none⟩)] w fun e w' => e = .returned (.bool (dropF S f)) ∧ Below w.heap.size w w' := by
  have B1 : Below w.heap.size w (w.alloc (.cells #[.string f.1, .string f.2] 89)) := (Below.refl _ _).alloc (Nat.le_refl _) _
  have Q1 := hq.alloc (.cells #[.string f.1, .string f.2] 89)
  have M1 := Lib.hid (hm.alloc (.cells #[.string f.1, .string f.2] 89))
  have V1 := Var.new w 89 [.string f.1, .string f.2]
  have q0 : ∀ u, ((w.alloc (.cells #[.string f.1, .string f.2] 89)).drewN u).cell? ⟨q, 0, none⟩ = some (.map (some b)) := fun u => Q1.cell (j := 0) rfl
  have p0 : (w.alloc (.cells #[.string f.1, .string f.2] 89)).cell? ⟨q, 0, none⟩ = some (.map (some b)) := q0 0
  have HB1 := Lib.hid B1
  have HD : Hid (dropF S f = S (fold f.1.data.toList)) := Lib.hid rfl
  clear hm B1
  go_enter Tryz.func119, Tryz.ntmps119
  go_wp2
  go_region_with (go_at_call 52; refine (hFold_any f.1 _ hf).mono ?_; rintro _ w1 ⟨rfl, hb1⟩; have q2 := ((Q1.drewN 1).below_all hb1).cell (j := 0) rfl; have hg := ((M1.out.drewN 1).below_all hb1).run_get ⟨(fold f.1.data.toList).toArray⟩ (by show (fold f.1.data.toList).length ≤ _; rw [fold_len, size_data]; unfold maxLen; omega))
  all_goals
    clear q0 p0 q2 hg
    go_wp2
    go_ret
    exact ⟨by rw [HD.out]; rfl, HB1.out.trans ((Below.of_drew hb1).mono HB1.out.size)⟩

set_option maxHeartbeats 1000000 in
theorem wclone_any (A : Option Addr) (n c : Nat) (fs : List Fl) (w : World) (hA : A = none → n = 0 ∧ c = 0) (hrd : Rd w w.heap.size 2 A n (fieldsV fs)) (hn : n ≤ 16777216) :
    Calls Tryz.prog 118 #[.slice A n c] w fun e w' => ∃ v, e = .returned v ∧ Row w' w.heap.size 2 v n (fieldsV fs) ∧ Below w.heap.size w w' := by
  have hlen : fs.length = n := by have := hrd.1; rw [fieldsV_len] at this; omega
  obtain ⟨f0, hf0, fz0, fz1, fz2⟩ := info_parts infoField
  cases A with
  | none =>
    obtain ⟨rfl, rfl⟩ := hA rfl
    have h0 : fs = [] := List.eq_nil_of_length_eq_zero hlen
    subst h0
    have hq := fun (W : World) (a : Option Addr) (l c : Nat) => Go.run_eql_slice_nil (P := Tryz.prog) W 50 89 a l c Tryz.underlying50
    go_enter Tryz.func118, Tryz.ntmps118
    go_wp2
    go_ret
    exact ⟨_, rfl, Row.nil _ _ _, Below.refl _ _⟩
  | some a =>
    have hq := fun (W : World) (a : Option Addr) (l c : Nat) => Go.run_eql_slice_nil (P := Tryz.prog) W 50 89 a l c Tryz.underlying50
    have hrd1 := (hrd.alloc (Nat.le_refl _) (.cells #[] 89)).more (B' := (w.alloc (.cells #[] 89)).heap.size) (by simp)
    go_enter Tryz.func118, Tryz.ntmps118
    go_wp2_with (first
      | (at_builtin; go_must (refine wpList_app _ rfl (.tmp 5) (.tmp 6) 50 50 rfl w.heap.size 89 f0 (.agg #[.string ⟨#[]⟩, .string ⟨#[]⟩]) 2 32 Tryz.underlying50 hf0 fz0 fz1 fz2 rfl (.slice (some ⟨w.heap.size, 0, none⟩) 0 0) 0 [] (by rfl) (empty_row w _ 2) _ n (fieldsV fs) (by rfl) (Src.slice Tryz.underlying50 hrd1 (fun e => by cases e) (fieldsV_one fs)) (by omega) (by omega) (by omega) (by simp) ?_); go_must (intro v2 w2 hrow2 hg2 hv2; rw [List.nil_append, Nat.zero_add] at hrow2))
      | fail)
    go_ret
    exact ⟨_, rfl, hrow2, Below.app ((Below.refl _ _).alloc (Nat.le_refl _) _) (empty_row w 89 2) hg2 (Nat.le_refl _) (by simp)⟩

/-! ### a row written over -/
theorem Row.cut {w : World} {base sz n k c : Nat} {A : Option Addr} {xs : List Value} (h : Row w base sz (.slice A n c) n xs) (hk : k ≤ n) (h0 : A ≠ none) : Row w base sz (.slice A k c) k (xs.take (k * sz)) := by
  have hl : k * sz ≤ n * sz := Nat.mul_le_mul_right _ hk
  refine ⟨by rw [List.length_take, h.1]; omega, ?_⟩
  rcases h.2 with ⟨e, _⟩ | ⟨g, o, cap, cur, t, fr, he, hb, hg, hnc, hm, hs, hf, ht⟩
  · injection e with e _ _; exact absurd e h0
  · injection he with hA _ hcap
    subst hA hcap
    refine .inr ⟨g, o, c, cur, t, fr, rfl, hb, hg, by omega, hm, hs, hf, ?_⟩
    rw [← ht, List.take_take, Nat.min_eq_left hl]
theorem Row.setCells {base sz n g o c : Nat} : ∀ (vs : List Value) (j : Nat) (w : World) (xs : List Value), Row w base sz (.slice (some ⟨g, o, none⟩) n c) n xs → j + vs.length ≤ xs.length →
    Row (w.setCells g (o + j) vs) base sz (.slice (some ⟨g, o, none⟩) n c) n (xs.take j ++ vs ++ xs.drop (j + vs.length)) ∧ w.grownBy (w.setCells g (o + j) vs) (some g)
  | [], j, w, xs, h, _ => ⟨by simpa [World.setCells] using h, World.grownBy.refl w _⟩
  | v :: r, j, w, xs, h, hl => by
    simp only [List.length_cons] at hl
    obtain ⟨h1, h2⟩ := Row.setCells r (j + 1) _ (xs.set j v) (h.set (j := j) (u := v) (by omega)) (by rw [List.length_set]; omega)
    refine ⟨?_, World.grownBy.comp (World.grownBy.set w ⟨g, o + j, none⟩ v) h2⟩
    have e : (xs.set j v).take (j + 1) ++ r ++ (xs.set j v).drop (j + 1 + r.length) = xs.take j ++ (v :: r) ++ xs.drop (j + (v :: r).length) := by
      have e1 : (xs.take j).length = j := by rw [List.length_take]; omega
      have e2 : (xs.set j v).take (j + 1) = xs.take j ++ [v] := by
        rw [List.take_set, List.take_succ_eq_append_getElem (by omega), List.set_append_right _ _ (by omega), e1, Nat.sub_self]; rfl
      have e3 : (xs.set j v).drop (j + 1 + r.length) = xs.drop (j + 1 + r.length) := List.drop_set_of_lt (by omega)
      rw [e2, e3, List.length_cons, show j + (r.length + 1) = j + 1 + r.length by omega]
      simp
    rw [e] at h1
    exact h1
theorem zeroCells_len (cs : Array Value) (n : Nat) : (Builtin.zeroCells cs n).toList.length = n * cs.size := by simp [Builtin.zeroCells]
theorem zeroCells_one (n : Nat) : ∀ v ∈ (Builtin.zeroCells #[.string ⟨#[]⟩, .string ⟨#[]⟩] n).toList, v.oneCell' = true := by
  intro v hv
  have hv' : v ∈ Builtin.zeroCells #[.string ⟨#[]⟩, .string ⟨#[]⟩] n := by simpa using hv
  unfold Builtin.zeroCells at hv'
  obtain ⟨i, _, rfl⟩ := Array.mem_map.1 hv'
  have : i % 2 = 0 ∨ i % 2 = 1 := by omega
  rcases this with h | h
  · show (#[Value.string ⟨#[]⟩, Value.string ⟨#[]⟩][i % 2]!).oneCell' = true
    rw [h]; rfl
  · show (#[Value.string ⟨#[]⟩, Value.string ⟨#[]⟩][i % 2]!).oneCell' = true
    rw [h]; rfl
theorem run_clearF {w : World} {base n g o c i : Nat} {xs : List Value} (h : Row w base 2 (.slice (some ⟨g, o, none⟩) n c) n xs) (hi : i < n) (ty : TypeId) :
    ∃ w', (Builtin.clear_ #[50] ty #[.slice (some ⟨g, o + i * 2, none⟩) (n - i) (c - i)]).run Tryz.prog w = .ok (.tuple #[]) w' ∧ (∃ ys, Row w' base 2 (.slice (some ⟨g, o, none⟩) n c) n ys ∧ ys.take (i * 2) = xs.take (i * 2)) ∧ w.grownBy w' (some g) := by
  have hx := h.1
  have hl : (Builtin.zeroCells #[.string ⟨#[]⟩, .string ⟨#[]⟩] (n - i)).toList.length = (n - i) * 2 := zeroCells_len _ _
  obtain ⟨g', o', e, hgb, hgl, hcell, hfro⟩ := h.own (by omega)
  injection e with e
  injection e with e1 e2 _
  subst e1 e2
  obtain ⟨r1, r2⟩ := Row.setCells (Builtin.zeroCells #[.string ⟨#[]⟩, .string ⟨#[]⟩] (n - i)).toList (i * 2) w xs h (by omega)
  have hst := run_storeCells_cells (P := Tryz.prog) g (o + i * 2) (Builtin.zeroCells #[.string ⟨#[]⟩, .string ⟨#[]⟩] (n - i)).toList 0 w
    (fun j hj => by
      have hj2 : i * 2 + j < xs.length := by omega
      have := hcell (i * 2 + j) _ (List.getElem?_eq_getElem hj2)
      rw [show o + i * 2 + 0 + j = o + (i * 2 + j) by omega, this]; rfl)
    (fun j hj => by rw [show o + i * 2 + 0 + j = o + (i * 2 + j) by omega]; exact hfro _ (by omega)) (zeroCells_one _)
  simp only [Nat.add_zero] at hst
  refine ⟨_, ?_, ⟨_, r1, ?_⟩, r2⟩
  · obtain ⟨m, hm⟩ : ∃ m, n - i = m + 1 := ⟨n - i - 1, by omega⟩
    rw [hm] at hst ⊢
    simp [Builtin.clear_, run_underlying Tryz.underlying50, Value.cells, hst]
  · rw [List.append_assoc, List.take_left' (by rw [List.length_take]; omega)]

/-! ### slices.IndexFunc, slices.DeleteFunc over fields, with the closure of 'others' -/
def IdxF (S : Bs → Bool) (fs : List Fl) (i : Int) : Prop :=
  (i = -1 ∧ ∀ f ∈ fs, dropF S f = false) ∨ (∃ (k : Nat) (h : k < fs.length), i = (k : Int) ∧ dropF S fs[k] = true ∧ ∀ f ∈ fs.take k, dropF S f = false)
theorem rd_pair {w : World} {g o : Nat} {fs : List Fl} (hc : ∀ j u, (fieldsV fs)[j]? = some u → w.cell? ⟨g, o + j, none⟩ = some u) {j : Nat} (hj : j < fs.length) : World.rangeAt w g (o + j * 2) [.string fs[j].1, .string fs[j].2] := by
  obtain ⟨G1, G2⟩ := fieldsV_get fs j hj
  intro i v hi
  match i, hi with
  | 0, hi => cases hi; exact hc _ _ G1
  | 1, hi => cases hi; rw [Nat.add_assoc]; exact hc _ _ G2

set_option maxHeartbeats 1000000 in
set_option maxRecDepth 100000 in
theorem idxF_any (A : Option Addr) (n c : Nat) (fs : List Fl) (q b m : Nat) (S : Bs → Bool) (w : World) (hq : Var w q 157 [.map (some b)]) (hm : Mine w b m S) (hrd : Rd w w.heap.size 2 A n (fieldsV fs)) (hn : n ≤ 16777216) (hfs : ∀ f ∈ fs, f.1.size ≤ 16777216) :
    Calls Tryz.prog 147 #[.slice A n c, .func (.func 119) #[] #[.pointer (some ⟨q, 0, none⟩)]] w fun e w' => ∃ i : Int, e = .returned (.int .i64 i) ∧ IdxF S fs i ∧ Below w.heap.size w w' := by
  have hlen : fs.length = n := by have := hrd.1; rw [fieldsV_len] at this; omega
  have HQ := Lib.hid hq
  have HM := Lib.hid hm
  clear hq hm
  go_enter Tryz.func147, Tryz.ntmps147
  go_wp2
  go_loopw [8] (fun i wr => ∃ j : Nat, j ≤ n ∧ i = .int .i64 j ∧ (∀ f ∈ fs.take j, dropF S f = false) ∧ Below w.heap.size w wr) (fun i _ => n - (intOf i).toNat)
  case atStart => exact ⟨0, Nat.zero_le _, rfl, (by intro f hf; simp at hf), Below.refl _ _⟩
  case round =>
    obtain ⟨j, hj, rfl, hall, hb⟩ := hrel
    have HA := Lib.hid hall
    clear hall
    by_cases hlt : j < n
    · obtain ⟨g, o, rfl, hg, hcell⟩ := hrd.2 (by omega)
      have hr : World.rangeAt wr g (o + j * 2) [.string fs[j].1, .string fs[j].2] := rd_pair (fun i u hu => (hb.cell (p := ⟨g, o + i, none⟩) hg).trans (hcell i u hu)) (by omega)
      have hs1 : fs[j].1.size ≤ 16777216 := hfs _ (List.getElem_mem _)
      have HQ2 := Lib.hid (HQ.out.below_all hb)
      have HM2 := Lib.hid (HM.out.below_all hb)
      have HT : Hid (fs.take (j + 1) = fs.take j ++ [fs[j]]) := Lib.hid (List.take_succ_eq_append_getElem (by omega))
      have HX : Hid (dropF S fs[j] = true → IdxF S fs (j : Int)) := Lib.hid (fun h => .inr ⟨j, by omega, rfl, h, HA.out⟩)
      generalize fs[j] = f at hr hs1 HT HX
      clear hcell
      cases hd : dropF S f with
      | true =>
        rw [hd] at HX
        have HX2 := Lib.hid (HX.out rfl)
        go_wp2_with (first
          | (refine wpList_load_mid rfl 89 (.tmp 14) rfl g (o + j * 2) rfl [.string f.1, .string f.2] _ hr Tryz.underlying89 rfl (by kernel_rfl) ?_)
          | (go_at_call 119; go_must (refine (wothers1_any f q b m S _ HQ2.out HM2.out hs1).mono ?_; rintro _ w1 ⟨rfl, hb1⟩; rw [hd]))
          | fail)
        go_ret
        exact ⟨_, rfl, HX2.out, hb.trans (hb1.mono hb.size)⟩
      | false =>
        have HN : Hid (∀ f ∈ fs.take (j + 1), dropF S f = false) := Lib.hid (by
          rw [HT.out]
          intro x hx
          rcases List.mem_append.1 hx with hx | hx
          · exact HA.out x hx
          · rw [List.mem_singleton.1 hx]; exact hd)
        clear HX
        go_wp2_with (first
          | (refine wpList_load_mid rfl 89 (.tmp 14) rfl g (o + j * 2) rfl [.string f.1, .string f.2] _ hr Tryz.underlying89 rfl (by kernel_rfl) ?_)
          | (go_at_call 119; go_must (refine (wothers1_any f q b m S _ HQ2.out HM2.out hs1).mono ?_; rintro _ w1 ⟨rfl, hb1⟩; rw [hd]))
          | fail)
        go_roundw
        case rel => exact ⟨j + 1, by omega, by go_num, HN.out, hb.trans (hb1.mono hb.size)⟩
        case measure => simp [intOf]; omega
    · have HE : Hid (IdxF S fs (-1)) := Lib.hid (.inl ⟨rfl, by have := HA.out; rw [List.take_of_length_le (by omega)] at this; exact this⟩)
      go_wp2
      go_ret
      exact ⟨_, rfl, HE.out, hb⟩

def keepF (S : Bs → Bool) (fs : List Fl) : List Fl := fs.filter fun f => !(dropF S f)
theorem keepF_all {S : Bs → Bool} {fs : List Fl} (h : ∀ f ∈ fs, dropF S f = false) : keepF S fs = fs := by
  unfold keepF; rw [List.filter_eq_self]; intro f hf; rw [h f hf]; rfl
theorem keepF_step (S : Bs → Bool) (fs : List Fl) (j : Nat) (h : j < fs.length) : keepF S (fs.take (j + 1)) = keepF S (fs.take j) ++ (if dropF S fs[j] = true then [] else [fs[j]]) := by
  unfold keepF
  rw [List.take_succ_eq_append_getElem h, List.filter_append]
  congr 1
  cases hd : dropF S fs[j] <;> simp [hd]
theorem fieldsV_append (a b : List Fl) : fieldsV (a ++ b) = fieldsV a ++ fieldsV b := by unfold fieldsV; rw [List.flatMap_append]
theorem fieldsV_take (fs : List Fl) (k : Nat) : (fieldsV fs).take (k * 2) = fieldsV (fs.take k) := by
  by_cases hk : k ≤ fs.length
  · conv => lhs; rw [← List.take_append_drop k fs, fieldsV_append]
    rw [List.take_left' (by rw [fieldsV_len, List.length_take]; omega)]
  · rw [List.take_of_length_le (by rw [fieldsV_len]; omega), List.take_of_length_le (by omega)]
end Go.Proofs.YtklmpadcfioefaaGreatDoor
