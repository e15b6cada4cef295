/- head.Parse: a block is read as just what the plain word 'parseP' says. Conditions: the size, the library's variable. -/
import Derived.Test.YtklmpadcfioefaaGreatDoorFirst2
import Derived.Test.YtklmpadcfioefaaGreatDoorMA
import Derived.Test.YtklmpadcfioefaaGreatDoorRLines
import Derived.Deep.DeepCutAuto
namespace Go.Proofs.YtklmpadcfioefaaGreatDoor
open Go.RowKit

def flB (fs : List (Bs × Bs)) : List Fl := fs.map fun f => (⟨f.1.toArray⟩, ⟨f.2.toArray⟩)
def ParsePost (w : World) (rq : Bool) (l : Bs) (e : Ending) (w' : World) : Prop :=
  ∃ v, e = .returned (.tuple #[hdV (parseP l rq).1 v, .int .i64 ((parseP l rq).2 : Nat)]) ∧ Row w' w.heap.size 2 v (parseP l rq).1.fs.length (fieldsV (flB (parseP l rq).1.fs)) ∧ Below w.heap.size w w'

theorem splitL_row (l : Bs) (w : World) (h : w.ShapedOpen Tryz.prog) (hs : l.length ≤ 16777216) :
    Calls Tryz.prog 40 #[.string ⟨l.toArray⟩, .string ⟨#[13, 10]⟩] w fun e w' => ∃ ps : List ByteArray, e = .returned (.slice (some ⟨w.heap.size, 0, none⟩) ps.length ps.length) ∧ ps.map (·.data.toList) = lines [] l ∧
      w' = w.alloc (.cells (strsV ps).toArray 9) :=
  (Tryz.strings_Split_shaped ⟨l.toArray⟩ ⟨#[13, 10]⟩ w h (by show l.length < _; omega) (by decide)).mono fun e w' ⟨he, hw⟩ => by
    have hl := Lib.splitB_all ⟨#[13, 10]⟩ (by decide) 0 _ (⟨l.toArray⟩ : ByteArray) rfl
    refine ⟨_, by rw [he, hl], ?_, hw⟩
    rw [Lib.splitB_data]
    exact splitK_lines _ _ (Nat.le_refl _)

def twoB (fs : List ByteArray) : Prop := 2 ≤ fs.length ∧ fs[fs.length - 1]? = some ⟨#[]⟩ ∧ fs[fs.length - 2]? = some ⟨#[]⟩
def oneB (fs : List ByteArray) : Prop := 1 ≤ fs.length ∧ fs[fs.length - 1]? = some ⟨#[]⟩
instance (fs : List ByteArray) : Decidable (twoB fs) := by unfold twoB; infer_instance
instance (fs : List ByteArray) : Decidable (oneB fs) := by unfold oneB; infer_instance
def bodyB (fs : List ByteArray) : List ByteArray := if twoB fs then fs.take (fs.length - 2) else if oneB fs then fs.take (fs.length - 1) else fs
theorem data_nil {s : ByteArray} : s.data.toList = [] ↔ s = ⟨#[]⟩ := ⟨fun h => byte_ext.2 h, fun h => by rw [h]⟩
theorem map_nil_iff (fs : List ByteArray) (i : Nat) : (fs.map (·.data.toList))[i]? = some [] ↔ fs[i]? = some ⟨#[]⟩ := by
  rw [List.getElem?_map]
  cases fs[i]? with
  | none => simp
  | some s => simp only [Option.map_some, Option.some.injEq]; exact data_nil
theorem two_map (fs : List ByteArray) : two (fs.map (·.data.toList)) ↔ twoB fs := by
  unfold two twoB
  rw [List.length_map, map_nil_iff, map_nil_iff]
theorem bodyB_map (fs : List ByteArray) : (bodyB fs).map (·.data.toList) = bodyP (fs.map (·.data.toList)) := by
  unfold bodyB bodyP
  have h1 := two_map fs
  unfold two at h1
  by_cases h : twoB fs
  · rw [if_pos h, if_pos (h1.2 h), List.map_take, List.length_map]
  · rw [if_neg h, if_neg (fun x => h (h1.1 x))]
    by_cases h2 : oneB fs
    · rw [if_pos h2, if_pos (by unfold oneB at h2; rw [List.length_map, map_nil_iff]; exact h2), List.map_take, List.length_map]
    · rw [if_neg h2, if_neg (by unfold oneB at h2; rw [List.length_map, map_nil_iff]; exact h2)]
theorem empty_iff {s : ByteArray} : (s.toList == []) = decide (s = ⟨#[]⟩) := by
  rw [empty_b, Bool.eq_iff_iff]; simp only [decide_eq_true_eq]; exact data_nil

theorem two_at (fs : List ByteArray) (m : Nat) (hk : m + 1 + 1 = fs.length) : twoB fs ↔ fs[m + 1]'(by omega) = ⟨#[]⟩ ∧ fs[m]'(by omega) = ⟨#[]⟩ := by
  have e1 : fs[fs.length - 1]? = some (fs[m + 1]'(by omega)) := by
    rw [List.getElem?_eq_getElem (by omega)]; congr 2; omega
  have e2 : fs[fs.length - 2]? = some (fs[m]'(by omega)) := by
    rw [List.getElem?_eq_getElem (by omega)]; congr 2; omega
  unfold twoB
  rw [e1, e2, Option.some.injEq, Option.some.injEq]
  constructor
  · rintro ⟨_, h1, h2⟩; exact ⟨h1, h2⟩
  · rintro ⟨h1, h2⟩; exact ⟨by omega, h1, h2⟩
def hdB (rq : Bool) (l : Bs) (n : Nat) (p0 : ByteArray) (body : List ByteArray) : Hd × Nat :=
  if 4096 < p0.size then ({}, 221)
  else if 16384 < n ∨ 64 < body.length ∨ anyLong body = true then ({}, 222)
  else if endedP l = false then ({}, 220)
  else match firstP rq p0.data.toList with
    | none => ({}, 220)
    | some h => if ∀ s ∈ body, (fieldP s.data.toList).isSome = true then ({ h with fs := (body.map (·.data.toList)).filterMap fieldP }, 0) else ({}, 220)
theorem parseP_of {rq : Bool} {l : Bs} {p0 : ByteArray} {fs : List ByteArray} (h : (p0 :: fs).map (·.data.toList) = lines [] l) : parseP l rq = hdB rq l l.length p0 (bodyB fs) := by
  have ht : (lines [] l).tail = fs.map (·.data.toList) := by rw [← h]; rfl
  have hh : (lines [] l).headD [] = p0.data.toList := by rw [← h]; rfl
  have hb := bodyB_map fs
  unfold parseP hdB
  rw [hh, ht, ← hb]
  have e1 : (16384 < l.length ∨ 64 < ((bodyB fs).map (·.data.toList)).length ∨ ∃ s ∈ (bodyB fs).map (·.data.toList), 4096 < s.length) ↔ (16384 < l.length ∨ 64 < (bodyB fs).length ∨ anyLong (bodyB fs) = true) := by
    rw [List.length_map]
    refine or_congr Iff.rfl (or_congr Iff.rfl ?_)
    unfold anyLong
    rw [List.any_eq_true]
    constructor
    · rintro ⟨s, hs, h⟩
      obtain ⟨a, ha, rfl⟩ := List.mem_map.1 hs
      exact ⟨a, ha, by simpa [size_data] using h⟩
    · rintro ⟨a, ha, h⟩; exact ⟨_, List.mem_map_of_mem ha, by simpa [size_data] using h⟩
  have e2 : (∀ s ∈ (bodyB fs).map (·.data.toList), (fieldP s).isSome = true) ↔ (∀ s ∈ bodyB fs, (fieldP s.data.toList).isSome = true) := by
    constructor
    · intro h a ha; exact h _ (List.mem_map_of_mem ha)
    · intro h s hs
      obtain ⟨a, ha, rfl⟩ := List.mem_map.1 hs
      exact h a ha
  have e0 : (4096 < p0.data.toList.length) ↔ 4096 < p0.size := by rw [size_data]
  by_cases c0 : 4096 < p0.size
  · rw [if_pos (e0.2 c0), if_pos c0]
  · rw [if_neg (fun x => c0 (e0.1 x)), if_neg c0]
    by_cases c1 : 16384 < l.length ∨ 64 < (bodyB fs).length ∨ anyLong (bodyB fs) = true
    · rw [if_pos (e1.2 c1), if_pos c1]
    · rw [if_neg (fun x => c1 (e1.1 x)), if_neg c1]
      by_cases c2 : endedP l = false
      · rw [if_pos c2, if_pos c2]
      · rw [if_neg c2, if_neg c2]
        cases firstP rq p0.data.toList with
        | none => rfl
        | some h =>
          simp only
          by_cases c3 : ∀ s ∈ bodyB fs, (fieldP s.data.toList).isSome = true
          · rw [if_pos (e2.2 c3), if_pos c3]
          · rw [if_neg (fun x => c3 (e2.1 x)), if_neg c3]
theorem bodyB_pre (fs : List ByteArray) : ∃ k, k ≤ fs.length ∧ bodyB fs = fs.take k := by
  unfold bodyB
  split
  · exact ⟨_, by omega, rfl⟩
  · split
    · exact ⟨_, by omega, rfl⟩
    · exact ⟨fs.length, Nat.le_refl _, (List.take_length).symm⟩

def parts (body : List ByteArray) (j : Nat) : List (Bs × Bs) := ((body.take j).map (·.data.toList)).filterMap fieldP
theorem parts_step (body : List ByteArray) (j : Nat) (h : j < body.length) : parts body (j + 1) = parts body j ++ (fieldP body[j].data.toList).toList := by
  unfold parts
  rw [List.take_succ_eq_append_getElem h, List.map_append, List.filterMap_append]
  congr 1
theorem parts_len (body : List ByteArray) (j : Nat) : (parts body j).length ≤ j := by
  unfold parts
  refine Nat.le_trans (List.length_filterMap_le _ _) ?_
  rw [List.length_map, List.length_take]; omega
theorem flB_snoc (l : List (Bs × Bs)) (a b : Bs) : fieldsV (flB (l ++ [(a, b)])) = fieldsV (flB l) ++ [.string ⟨a.toArray⟩, .string ⟨b.toArray⟩] := by
  simp [flB, fieldsV]
theorem notLong {body : List ByteArray} (h : anyLong body = false) (j : Nat) (hj : j < body.length) : body[j].size ≤ 4096 := by
  unfold anyLong at h
  rw [List.any_eq_false] at h
  have := h _ (List.getElem_mem hj)
  simpa using this
theorem infoField : (Tryz.prog.info? 89).map (fun i => (i.zero, i.size, i.bytes)) = some (some (.agg #[.string ⟨#[]⟩, .string ⟨#[]⟩]), 2, 32) := by kernel_rfl
theorem hwritten_t (l : Bs) (w : World) (hs : l.length ≤ 16777216) : Calls Tryz.prog 48 #[.string ⟨l.toArray⟩, .bool true] w fun e w' => e = .returned (.bool (allText l)) ∧ w = w' := hwritten_tabs ⟨l.toArray⟩ w (by show l.length ≤ _; omega)
theorem sTrim_l (l : Bs) (w : World) (hs : l.length ≤ 16777216) : Calls Tryz.prog 46 #[.string ⟨l.toArray⟩, .string ⟨#[32, 9]⟩] w fun e w' => e = .returned (.string ⟨(trim l).toArray⟩) ∧ Below w.heap.size w w' := sTrim_any ⟨l.toArray⟩ w (by show l.length ≤ _; omega)
theorem hfirst_none (s : ByteArray) (rq : Bool) (w : World) (hsh : w.ShapedOpen Tryz.prog) (hs : s.size ≤ 16777216) (h : firstP rq s.data.toList = none) :
    Calls Tryz.prog 44 #[.string s, .bool rq] w fun e w' => e = .returned (.tuple #[.agg #[.bool false, .string ⟨#[]⟩, .string ⟨#[]⟩, .int .i64 0, .string ⟨#[]⟩, .int .i64 0, .slice none 0 0], .bool false]) ∧ Below w.heap.size w w' :=
  (hfirst_any s rq w hsh hs).mono fun e w' ⟨h1, h2⟩ => by rw [h] at h1; exact ⟨h1, h2⟩
theorem hfirst_some (s : ByteArray) (rq : Bool) (w : World) (hsh : w.ShapedOpen Tryz.prog) (hs : s.size ≤ 16777216) {h : Hd} (hh : firstP rq s.data.toList = some h) :
    Calls Tryz.prog 44 #[.string s, .bool rq] w fun e w' => e = .returned (.tuple #[.agg #[.bool h.rq, .string ⟨h.m.toArray⟩, .string ⟨h.t.toArray⟩, .int .i64 (h.st : Int), .string ⟨h.rs.toArray⟩, .int .i64 (h.mn : Int), .slice none 0 0], .bool true]) ∧ Below w.heap.size w w' :=
  (hfirst_any s rq w hsh hs).mono fun e w' ⟨h1, h2⟩ => by rw [hh] at h1; exact ⟨h1, h2⟩


set_option maxHeartbeats 1000000 in
set_option maxRecDepth 100000 in
theorem hParse_any (A : Option Addr) (n c : Nat) (l : Bs) (rq : Bool) (w : World) (hsh : w.ShapedOpen Tryz.prog) (hA : A = none → n = 0) (hrd : Rd w w.heap.size 1 A n (bytesV l)) (hn : n ≤ 16777216) :
    Calls Tryz.prog 25 #[.slice A n c, .bool rq] w (ParsePost w rq l) := by
  have hlen : l.length = n := by have := hrd.1; rw [bytesV_len] at this; omega
  have hcv : ∀ o, (convert 26 9 (.slice A n c)).run Tryz.prog (w.alloc o) = .ok (.string ⟨l.toArray⟩) (w.alloc o) := fun o =>
    conv_str (P := Tryz.prog) 26 9 5 Tryz.underlying26 Tryz.underlying5 Tryz.underlying9 (hrd.alloc (Nat.le_refl _) o) hA
  have HSH : Hid (∀ o, (w.alloc o).ShapedOpen Tryz.prog) := Lib.hid (fun o => shaped_below hsh ((Below.refl _ _).alloc (Nat.le_refl _) o))
  have HS0 := Lib.hid hsh
  clear hsh
  unfold ParsePost
  go_enter Tryz.func25, Tryz.ntmps25
  go_upto_region 2 with (go_at_call 40; go_must (refine (splitL_row l _ (HSH.out _) (by omega)).mono ?_; rintro _ _ ⟨ps, rfl, hps, rfl⟩))
  have hb1 : Below w.heap.size w ((w.alloc (.cells #[.bool false, .string ⟨#[]⟩, .string ⟨#[]⟩, .int .i64 0, .string ⟨#[]⟩, .int .i64 0, .slice none 0 0] 52)).alloc (.cells (strsV ps).toArray 9)) := ((Below.refl _ _).alloc (Nat.le_refl _) _).alloc (by simp) _
  have hx4 : Var ((w.alloc (.cells #[.bool false, .string ⟨#[]⟩, .string ⟨#[]⟩, .int .i64 0, .string ⟨#[]⟩, .int .i64 0, .slice none 0 0] 52)).alloc (.cells (strsV ps).toArray 9)) w.heap.size 52 [.bool false, .string ⟨#[]⟩, .string ⟨#[]⟩, .int .i64 0, .string ⟨#[]⟩, .int .i64 0, .slice none 0 0] := (Var.new w _ _).alloc _
  have hxs : Var ((w.alloc (.cells #[.bool false, .string ⟨#[]⟩, .string ⟨#[]⟩, .int .i64 0, .string ⟨#[]⟩, .int .i64 0, .slice none 0 0] 52)).alloc (.cells (strsV ps).toArray 9)) (w.heap.size + 1) 9 (strsV ps) := by
    have := Var.new (w.alloc (.cells #[.bool false, .string ⟨#[]⟩, .string ⟨#[]⟩, .int .i64 0, .string ⟨#[]⟩, .int .i64 0, .slice none 0 0] 52)) 9 (strsV ps)
    simpa using this
  have hs1 : ((w.alloc (.cells #[.bool false, .string ⟨#[]⟩, .string ⟨#[]⟩, .int .i64 0, .string ⟨#[]⟩, .int .i64 0, .slice none 0 0] 52)).alloc (.cells (strsV ps).toArray 9)).heap.size = w.heap.size + 2 := by simp
  have hcv1 : (convert 26 9 (.slice A n c)).run Tryz.prog ((w.alloc (.cells #[.bool false, .string ⟨#[]⟩, .string ⟨#[]⟩, .int .i64 0, .string ⟨#[]⟩, .int .i64 0, .slice none 0 0] 52)).alloc (.cells (strsV ps).toArray 9)) = .ok (.string ⟨l.toArray⟩) ((w.alloc (.cells #[.bool false, .string ⟨#[]⟩, .string ⟨#[]⟩, .int .i64 0, .string ⟨#[]⟩, .int .i64 0, .slice none 0 0] 52)).alloc (.cells (strsV ps).toArray 9)) :=
    conv_str (P := Tryz.prog) 26 9 5 Tryz.underlying26 Tryz.underlying5 Tryz.underlying9 (hrd.below hb1) hA
  generalize ((w.alloc (.cells #[.bool false, .string ⟨#[]⟩, .string ⟨#[]⟩, .int .i64 0, .string ⟨#[]⟩, .int .i64 0, .slice none 0 0] 52)).alloc (.cells (strsV ps).toArray 9)) = w1 at hb1 hx4 hxs hs1 hcv1
  obtain ⟨p0, fs, rfl⟩ : ∃ p0 fs, ps = p0 :: fs := by
    cases ps with
    | nil => exact absurd hps.symm (by simpa using lines_ne l [])
    | cons p0 fs => exact ⟨p0, fs, rfl⟩
  have hpn : fs.length ≤ n := by
    have := congrArg List.length hps
    have h2 := lines_len l []
    simp at this
    omega
  have HP := Lib.hid hps
  have cp0 : w1.cell? ⟨w.heap.size + 1, 0, none⟩ = some (.string p0) := hxs.cell rfl
  have HC : Hid (∀ j (h : j < fs.length), w1.cell? ⟨w.heap.size + 1, j + 1, none⟩ = some (.string fs[j])) := Lib.hid (fun j h => hxs.cell (by simp [strsV, h]))
  have HX4 := Lib.hid hx4
  have HB1 := Lib.hid hb1
  clear hps hcv HSH hxs hx4 hb1
  simp only [List.length_cons]
  obtain ⟨k, hk⟩ : ∃ k, k = fs.length := ⟨_, rfl⟩
  rw [← hk] at hpn ⊢
  have HK := Lib.hid hk
  clear hk
  cases k with
  | zero =>
    have hfs : fs = [] := List.eq_nil_of_length_eq_zero HK.out.symm
    subst hfs
    have HQ : Hid (parseP l rq = hdB rq l n p0 []) := Lib.hid (by rw [← hlen]; exact parseP_of HP.out)
    have hend : endedP l = false := by
      cases he : endedP l with
      | false => rfl
      | true =>
        have h := (ended_iff l).1 he
        rw [← HP.out] at h
        have := h.1
        simp at this
    have q3' : anyLong [] = false := rfl
    by_cases q0 : 4096 < p0.size
    · have HPP : Hid (parseP l rq = ({}, 221)) := Lib.hid (by rw [HQ.out, hdB, if_pos q0])
      clear hend q3'
      go_wp2_with (first
        | (refine wpList_put rfl 52 (.tmp 4) (.tmp 65) rfl w.heap.size rfl (HX4.out) [.bool false, .string ⟨#[]⟩, .string ⟨#[]⟩, .int .i64 0, .string ⟨#[]⟩, .int .i64 0, .slice none 0 0] rfl rfl (by kernel_rfl) (by simp [Value.oneCell']) ?_; intro w9 hv9 hg9 hs9)
        | fail)
      refine bodyPost_ret (results_var rfl _ _ rfl hv9 Tryz.underlying52 rfl (by kernel_rfl)) rfl ⟨.slice none 0 0, ?_, ?_, ?_⟩
      · rw [HPP.out]; rfl
      · rw [HPP.out]; exact Row.nil _ _ _
      · exact Below.grown (HB1.out) hg9 (HB1.out).size (by intro k hk; simp at hk; omega)
    · by_cases q1 : 16384 < n
      · have HPP : Hid (parseP l rq = ({}, 222)) := Lib.hid (by rw [HQ.out, hdB, if_neg q0, if_pos (Or.inl q1)])
        clear hend q3'
        go_wp2_with (first
          | (refine wpList_put rfl 52 (.tmp 4) (.tmp 75) rfl w.heap.size rfl (HX4.out) [.bool false, .string ⟨#[]⟩, .string ⟨#[]⟩, .int .i64 0, .string ⟨#[]⟩, .int .i64 0, .slice none 0 0] rfl rfl (by kernel_rfl) (by simp [Value.oneCell']) ?_; intro w9 hv9 hg9 hs9)
          | fail)
        refine bodyPost_ret (results_var rfl _ _ rfl hv9 Tryz.underlying52 rfl (by kernel_rfl)) rfl ⟨.slice none 0 0, ?_, ?_, ?_⟩
        · rw [HPP.out]; rfl
        · rw [HPP.out]; exact Row.nil _ _ _
        · exact Below.grown (HB1.out) hg9 (HB1.out).size (by intro k hk; simp at hk; omega)
      · have hno : ¬ (16384 < n ∨ 64 < ([] : List ByteArray).length ∨ anyLong [] = true) := by rintro (x | x | x); exact q1 x; simp at x; cases x
        have HPP : Hid (parseP l rq = ({}, 220)) := Lib.hid (by rw [HQ.out, hdB, if_neg q0, if_neg hno, if_pos hend])
        have HE : Hid (Lib.hasSuffix (⟨l.toArray⟩ : ByteArray).data.toList (⟨#[13, 10, 13, 10]⟩ : ByteArray).data.toList = false) := Lib.hid hend
        clear hend hno
        have HQ3 := Lib.hid q3'
        clear q3'
        go_wp2_with (first
          | (go_at_call 41; go_must (refine (hasLong_any (some ⟨w.heap.size + 1, 0, none⟩) 0 0 [] _ (Rd.nil _ _ _ _) (Nat.zero_le _)).mono ?_; rintro _ w2 ⟨rfl, hb2⟩; rw [HQ3.out]; have hcv2 := conv_str (P := Tryz.prog) (c := c) 26 9 5 Tryz.underlying26 Tryz.underlying5 Tryz.underlying9 (hrd.below (HB1.out.trans (hb2.mono (by omega)))) hA; have hx2 := Lib.hid (HX4.out.below_all hb2); have HB2 := Lib.hid (HB1.out.trans (hb2.mono (by omega)))))
          | (go_at_call 43; go_must (refine (Tryz.strings_HasSuffix ⟨l.toArray⟩ ⟨#[13, 10, 13, 10]⟩ _ (by show l.length ≤ _; omega)).mono ?_; rintro _ _ ⟨rfl, rfl⟩; rw [HE.out]))
          | (refine wpList_put rfl 52 (.tmp 4) (.tmp 81) rfl w.heap.size rfl (hx2.out) [.bool false, .string ⟨#[]⟩, .string ⟨#[]⟩, .int .i64 0, .string ⟨#[]⟩, .int .i64 0, .slice none 0 0] rfl rfl (by kernel_rfl) (by simp [Value.oneCell']) ?_; intro w9 hv9 hg9 hs9)
          | fail)
        refine bodyPost_ret (results_var rfl _ _ rfl hv9 Tryz.underlying52 rfl (by kernel_rfl)) rfl ⟨.slice none 0 0, ?_, ?_, ?_⟩
        · rw [HPP.out]; rfl
        · rw [HPP.out]; exact Row.nil _ _ _
        · exact Below.grown (HB2.out) hg9 (HB2.out).size (by intro k hk; simp at hk; omega)
  | succ m =>
    go_upto_region 4 with (fail)
    go_cut [40] (fun v40 wx => v40 = .bool (decide (twoB fs)) ∧ w1 = wx)
    case first =>
      cases m with
      | zero =>
        have HT : Hid (decide (twoB fs) = false) := Lib.hid (by
          rw [decide_eq_false_iff_not]
          rintro ⟨h, _⟩
          have := HK.out
          omega)
        go_wp2
        all_goals (go_meet; exact ⟨by rw [HT.out], rfl⟩)
      | succ m =>
        have hk := HK.out
        have c2 := HC.out (m + 1) (by omega)
        have c1 := HC.out m (by omega)
        have HT : Hid (decide (twoB fs) = (((fs[m + 1]'(by omega)).toList == []) && ((fs[m]'(by omega)).toList == []))) := Lib.hid (by
          rw [empty_iff, empty_iff, Bool.eq_iff_iff]
          simp only [decide_eq_true_eq, Bool.and_eq_true]
          exact two_at fs m hk)
        generalize fs[m + 1]'(by omega) = s2 at c2 HT
        generalize fs[m]'(by omega) = s1 at c1 HT
        clear hk
        have g2 : w1.cell? ⟨w.heap.size + 1, 1 + (m + 1), none⟩ = some (.string s2) := by rw [show 1 + (m + 1) = m + 1 + 1 by omega]; exact c2
        have g1 : w1.cell? ⟨w.heap.size + 1, 1 + m, none⟩ = some (.string s1) := by rw [show 1 + m = m + 1 by omega]; exact c1
        clear c1 c2
        go_wp2
        all_goals go_meet
        all_goals exact ⟨by rw [HT.out]; simp [*], rfl⟩
    case rest =>
      obtain ⟨rfl, rfl⟩ := hcut
      generalize hdt : decide (twoB fs) = b2
      have HDT := Lib.hid hdt
      clear hdt
      go_upto_if 40 with (fail)
      go_cut [7] (fun v7 wx => w1 = wx ∧ ∃ c7, v7 = .slice (some ⟨w.heap.size + 1, 1, none⟩) (bodyB fs).length c7)
      case first =>
        have hk := HK.out
        cases b2
        rotate_left
        · have h2 : twoB fs := by simpa using HDT.out
          have HL : Hid ((bodyB fs).length = m + 1 - 2) := Lib.hid (by unfold bodyB; rw [if_pos h2, List.length_take]; omega)
          have h2' : 2 ≤ m + 1 := by rw [hk]; exact h2.1
          clear hk h2
          cases m with
          | zero => omega
          | succ m =>
            go_wp2
            all_goals go_meet
            all_goals exact ⟨rfl, _, by rw [HL.out] <;> rfl⟩
        · have h2 : ¬ twoB fs := by simpa using HDT.out
          have c2 := HC.out m (by omega)
          have g2 : w1.cell? ⟨w.heap.size + 1, 1 + m, none⟩ = some (.string (fs[m]'(by omega))) := by rw [show 1 + m = m + 1 by omega]; exact c2
          clear c2
          by_cases h1 : fs[m]'(by omega) = ⟨#[]⟩
          · have HL : Hid ((bodyB fs).length = m) := Lib.hid (by
              unfold bodyB
              rw [if_neg h2, if_pos (show oneB fs from ⟨by omega, by rw [← hk, show m + 1 - 1 = m by omega, List.getElem?_eq_getElem (by omega), h1]⟩), List.length_take]
              omega)
            rw [h1] at g2
            clear hk h2 h1
            go_wp2
            all_goals go_meet
            all_goals exact ⟨rfl, _, by rw [HL.out] <;> rfl⟩
          · have HL : Hid ((bodyB fs).length = m + 1) := Lib.hid (by
              unfold bodyB
              rw [if_neg h2, if_neg (show ¬ oneB fs from fun x => h1 (by
                have := x.2
                rw [← hk, show m + 1 - 1 = m by omega, List.getElem?_eq_getElem (by omega), Option.some.injEq] at this
                exact this))]
              omega)
            have he : ((fs[m]'(by omega)).toList == []) = false := by rw [empty_iff]; simpa using h1
            generalize fs[m]'(by omega) = s1 at g2 he
            clear hk h2 h1
            go_wp2
            all_goals go_meet
            all_goals exact ⟨rfl, _, by rw [HL.out] <;> rfl⟩
      case rest =>
        obtain ⟨rfl, c7, rfl⟩ := hcut
        have HQ : Hid (parseP l rq = hdB rq l n p0 (bodyB fs)) := Lib.hid (by rw [← hlen]; exact parseP_of HP.out)
        obtain ⟨kb, hkb, hbe⟩ := bodyB_pre fs
        have hbl : (bodyB fs).length ≤ m + 1 := by rw [hbe, List.length_take]; have := HK.out; omega
        have HBC : Hid (∀ j (h : j < (bodyB fs).length), w1.cell? ⟨w.heap.size + 1, 1 + j, none⟩ = some (.string (bodyB fs)[j])) := Lib.hid (fun j h => by
          have hj : j < fs.length := by rw [hbe, List.length_take] at h; omega
          have := HC.out j hj
          rw [Nat.add_comm 1 j, this]
          simp only [hbe, List.getElem_take])
        clear hkb hbe
        generalize bodyB fs = body at *
        have HRd : Hid (Rd w1 w1.heap.size 1 (some ⟨w.heap.size + 1, 1, none⟩) body.length (strsV body)) := Lib.hid ⟨by rw [strsV_len]; omega, fun _ => ⟨w.heap.size + 1, 1, rfl, by omega, fun j u hu => by
          have hj : j < body.length := by
            have := (List.getElem?_eq_some_iff.1 hu).1
            rwa [strsV_len] at this
          rw [HBC.out j hj, ← hu, strs_get hj]⟩⟩
        by_cases q0 : 4096 < p0.size
        · have HPP : Hid (parseP l rq = ({}, 221)) := Lib.hid (by rw [HQ.out, hdB, if_pos q0])
          go_wp2_with (first
            | (refine wpList_put rfl 52 (.tmp 4) (.tmp 65) rfl w.heap.size rfl (HX4.out) [.bool false, .string ⟨#[]⟩, .string ⟨#[]⟩, .int .i64 0, .string ⟨#[]⟩, .int .i64 0, .slice none 0 0] rfl rfl (by kernel_rfl) (by simp [Value.oneCell']) ?_; intro w9 hv9 hg9 hs9)
            | fail)
          refine bodyPost_ret (results_var rfl _ _ rfl hv9 Tryz.underlying52 rfl (by kernel_rfl)) rfl ⟨.slice none 0 0, ?_, ?_, ?_⟩
          · rw [HPP.out]; rfl
          · rw [HPP.out]; exact Row.nil _ _ _
          · exact Below.grown (HB1.out) hg9 (HB1.out).size (by intro k hk; simp at hk; omega)
        · by_cases q1 : 16384 < n
          · have HPP : Hid (parseP l rq = ({}, 222)) := Lib.hid (by rw [HQ.out, hdB, if_neg q0, if_pos (Or.inl q1)])
            go_wp2_with (first
              | (refine wpList_put rfl 52 (.tmp 4) (.tmp 75) rfl w.heap.size rfl (HX4.out) [.bool false, .string ⟨#[]⟩, .string ⟨#[]⟩, .int .i64 0, .string ⟨#[]⟩, .int .i64 0, .slice none 0 0] rfl rfl (by kernel_rfl) (by simp [Value.oneCell']) ?_; intro w9 hv9 hg9 hs9)
              | fail)
            refine bodyPost_ret (results_var rfl _ _ rfl hv9 Tryz.underlying52 rfl (by kernel_rfl)) rfl ⟨.slice none 0 0, ?_, ?_, ?_⟩
            · rw [HPP.out]; rfl
            · rw [HPP.out]; exact Row.nil _ _ _
            · exact Below.grown (HB1.out) hg9 (HB1.out).size (by intro k hk; simp at hk; omega)
          · by_cases q2 : 64 < body.length
            · have HPP : Hid (parseP l rq = ({}, 222)) := Lib.hid (by rw [HQ.out, hdB, if_neg q0, if_pos (Or.inr (Or.inl q2))])
              go_wp2_with (first
                | (refine wpList_put rfl 52 (.tmp 4) (.tmp 75) rfl w.heap.size rfl (HX4.out) [.bool false, .string ⟨#[]⟩, .string ⟨#[]⟩, .int .i64 0, .string ⟨#[]⟩, .int .i64 0, .slice none 0 0] rfl rfl (by kernel_rfl) (by simp [Value.oneCell']) ?_; intro w9 hv9 hg9 hs9)
                | fail)
              refine bodyPost_ret (results_var rfl _ _ rfl hv9 Tryz.underlying52 rfl (by kernel_rfl)) rfl ⟨.slice none 0 0, ?_, ?_, ?_⟩
              · rw [HPP.out]; rfl
              · rw [HPP.out]; exact Row.nil _ _ _
              · exact Below.grown (HB1.out) hg9 (HB1.out).size (by intro k hk; simp at hk; omega)
            · by_cases q3 : anyLong body = true
              · have HPP : Hid (parseP l rq = ({}, 222)) := Lib.hid (by rw [HQ.out, hdB, if_neg q0, if_pos (Or.inr (Or.inr q3))])
                go_wp2_with (first
                  | (go_at_call 41; go_must (refine (hasLong_any (some ⟨w.heap.size + 1, 1, none⟩) body.length c7 body _ HRd.out (by omega)).mono ?_; rintro _ w2 ⟨rfl, hb2⟩; rw [q3]))
                  | (refine wpList_put rfl 52 (.tmp 4) (.tmp 75) rfl w.heap.size rfl (HX4.out.below_all hb2) [.bool false, .string ⟨#[]⟩, .string ⟨#[]⟩, .int .i64 0, .string ⟨#[]⟩, .int .i64 0, .slice none 0 0] rfl rfl (by kernel_rfl) (by simp [Value.oneCell']) ?_; intro w9 hv9 hg9 hs9)
                  | fail)
                refine bodyPost_ret (results_var rfl _ _ rfl hv9 Tryz.underlying52 rfl (by kernel_rfl)) rfl ⟨.slice none 0 0, ?_, ?_, ?_⟩
                · rw [HPP.out]; rfl
                · rw [HPP.out]; exact Row.nil _ _ _
                · exact Below.grown (HB1.out.trans (hb2.mono (by omega))) hg9 (HB1.out.trans (hb2.mono (by omega))).size (by intro k hk; simp at hk; omega)
              · have q3' : anyLong body = false := by simpa using q3
                have hno : ¬ (16384 < n ∨ 64 < body.length ∨ anyLong body = true) := by rintro (x | x | x); exact q1 x; exact q2 x; exact q3 x
                by_cases q4 : endedP l = false
                · have HPP : Hid (parseP l rq = ({}, 220)) := Lib.hid (by rw [HQ.out, hdB, if_neg q0, if_neg hno, if_pos q4])
                  have HE : Hid (Lib.hasSuffix (⟨l.toArray⟩ : ByteArray).data.toList (⟨#[13, 10, 13, 10]⟩ : ByteArray).data.toList = false) := Lib.hid q4
                  clear q4 q3 hno
                  go_wp2_with (first
                    | (go_at_call 41; go_must (refine (hasLong_any (some ⟨w.heap.size + 1, 1, none⟩) body.length c7 body _ HRd.out (by omega)).mono ?_; rintro _ w2 ⟨rfl, hb2⟩; rw [q3']; have hcv2 := conv_str (P := Tryz.prog) (c := c) 26 9 5 Tryz.underlying26 Tryz.underlying5 Tryz.underlying9 (hrd.below (HB1.out.trans (hb2.mono (by omega)))) hA; have cp2 : w2.cell? ⟨w.heap.size + 1, 0, none⟩ = some (.string p0) := (hb2.cell (by show w.heap.size + 1 < _; omega)).trans cp0; have hx2 := Lib.hid (HX4.out.below_all hb2); have HB2 := Lib.hid (HB1.out.trans (hb2.mono (by omega))); have hsz2 := hb2.size))
                    | (go_at_call 43; go_must (refine (Tryz.strings_HasSuffix ⟨l.toArray⟩ ⟨#[13, 10, 13, 10]⟩ _ (by show l.length ≤ _; omega)).mono ?_; rintro _ _ ⟨rfl, rfl⟩; rw [HE.out]))
                    | (refine wpList_put rfl 52 (.tmp 4) (.tmp 81) rfl w.heap.size rfl (hx2.out) [.bool false, .string ⟨#[]⟩, .string ⟨#[]⟩, .int .i64 0, .string ⟨#[]⟩, .int .i64 0, .slice none 0 0] rfl rfl (by kernel_rfl) (by simp [Value.oneCell']) ?_; intro w9 hv9 hg9 hs9)
                    | fail)
                  refine bodyPost_ret (results_var rfl _ _ rfl hv9 Tryz.underlying52 rfl (by kernel_rfl)) rfl ⟨.slice none 0 0, ?_, ?_, ?_⟩
                  · rw [HPP.out]; rfl
                  · rw [HPP.out]; exact Row.nil _ _ _
                  · exact Below.grown (HB2.out) hg9 (HB2.out).size (by intro k hk; simp at hk; omega)
                · have q4' : endedP l = true := by simpa using q4
                  have HE : Hid (Lib.hasSuffix (⟨l.toArray⟩ : ByteArray).data.toList (⟨#[13, 10, 13, 10]⟩ : ByteArray).data.toList = true) := Lib.hid q4'
                  cases hfi : firstP rq p0.data.toList with
                  | none =>
                    have HPP : Hid (parseP l rq = ({}, 220)) := Lib.hid (by rw [HQ.out, hdB, if_neg q0, if_neg hno, if_neg q4, hfi])
                    have HFI := Lib.hid hfi
                    clear q4 q4' q3 hno hfi
                    go_wp2_with (first
                      | (go_at_call 41; go_must (refine (hasLong_any (some ⟨w.heap.size + 1, 1, none⟩) body.length c7 body _ HRd.out (by omega)).mono ?_; rintro _ w2 ⟨rfl, hb2⟩; rw [q3']; have hcv2 := conv_str (P := Tryz.prog) (c := c) 26 9 5 Tryz.underlying26 Tryz.underlying5 Tryz.underlying9 (hrd.below (HB1.out.trans (hb2.mono (by omega)))) hA; have cp2 : w2.cell? ⟨w.heap.size + 1, 0, none⟩ = some (.string p0) := (hb2.cell (by show w.heap.size + 1 < _; omega)).trans cp0; have hx2 := Lib.hid (HX4.out.below_all hb2); have HB2 := Lib.hid (HB1.out.trans (hb2.mono (by omega))); have hsz2 := hb2.size))
                      | (go_at_call 43; go_must (refine (Tryz.strings_HasSuffix ⟨l.toArray⟩ ⟨#[13, 10, 13, 10]⟩ _ (by show l.length ≤ _; omega)).mono ?_; rintro _ _ ⟨rfl, rfl⟩; rw [HE.out]))
                      | (go_at_call 44; go_must (refine (hfirst_none p0 rq _ (shaped_below HS0.out HB2.out) (by omega) HFI.out).mono ?_; rintro _ w3 ⟨rfl, hb3⟩; have hsz3 := hb3.size))
                      | (refine wpList_put rfl 52 (.tmp 9) (.tmp 88) rfl w3.heap.size rfl (Var.new w3 52 [.bool false, .string ⟨#[]⟩, .string ⟨#[]⟩, .int .i64 0, .string ⟨#[]⟩, .int .i64 0, .slice none 0 0]) [.bool false, .string ⟨#[]⟩, .string ⟨#[]⟩, .int .i64 0, .string ⟨#[]⟩, .int .i64 0, .slice none 0 0] rfl rfl (by kernel_rfl) (by simp [Value.oneCell']) ?_; intro w4 hv4 hg4 hs4; have hx4 := Lib.hid (((hx2.out.below_all hb3).alloc (.cells #[.bool false, .string ⟨#[]⟩, .string ⟨#[]⟩, .int .i64 0, .string ⟨#[]⟩, .int .i64 0, .slice none 0 0] 52)).grown hg4 (by simp; omega)); have HB4 : Hid (Below w.heap.size w w4) := Lib.hid (Below.grown ((HB2.out.trans (hb3.mono (by omega))).alloc (by omega) _) hg4 (by simp; omega) (by intro k hk; simp at hk; omega)))
                      | (refine wpList_put rfl 52 (.tmp 4) (.tmp 92) rfl w.heap.size rfl (hx4.out) [.bool false, .string ⟨#[]⟩, .string ⟨#[]⟩, .int .i64 0, .string ⟨#[]⟩, .int .i64 0, .slice none 0 0] rfl rfl (by kernel_rfl) (by simp [Value.oneCell']) ?_; intro w9 hv9 hg9 hs9)
                      | fail)
                    refine bodyPost_ret (results_var rfl _ _ rfl hv9 Tryz.underlying52 rfl (by kernel_rfl)) rfl ⟨.slice none 0 0, ?_, ?_, ?_⟩
                    · rw [HPP.out]; rfl
                    · rw [HPP.out]; exact Row.nil _ _ _
                    · exact Below.grown (HB4.out) hg9 (HB4.out).size (by intro k hk; simp at hk; omega)
                  | some h =>
                    have HFI := Lib.hid hfi
                    have HQ2 : Hid (parseP l rq = if ∀ s ∈ body, (fieldP s.data.toList).isSome = true then ({ h with fs := (body.map (·.data.toList)).filterMap fieldP }, 0) else ({}, 220)) := Lib.hid (by rw [HQ.out, hdB, if_neg q0, if_neg hno, if_neg q4, hfi])
                    have HNL : Hid (∀ j (hj : j < body.length), body[j].size ≤ 4096) := Lib.hid (notLong q3')
                    clear q4 q4' q3 hno hfi HQ
                    obtain ⟨j0, hj0, jz0, jz1, jz2⟩ := info_parts infoField
                    go_wp2_with (first
                      | (go_at_call 41; go_must (refine (hasLong_any (some ⟨w.heap.size + 1, 1, none⟩) body.length c7 body _ HRd.out (by omega)).mono ?_; rintro _ w2 ⟨rfl, hb2⟩; rw [q3']; have hcv2 := conv_str (P := Tryz.prog) (c := c) 26 9 5 Tryz.underlying26 Tryz.underlying5 Tryz.underlying9 (hrd.below (HB1.out.trans (hb2.mono (by omega)))) hA; have cp2 : w2.cell? ⟨w.heap.size + 1, 0, none⟩ = some (.string p0) := (hb2.cell (by show w.heap.size + 1 < _; omega)).trans cp0; have hx2 := Lib.hid (HX4.out.below_all hb2); have HB2 := Lib.hid (HB1.out.trans (hb2.mono (by omega))); have hsz2 := hb2.size))
                      | (go_at_call 43; go_must (refine (Tryz.strings_HasSuffix ⟨l.toArray⟩ ⟨#[13, 10, 13, 10]⟩ _ (by show l.length ≤ _; omega)).mono ?_; rintro _ _ ⟨rfl, rfl⟩; rw [HE.out]))
                      | (go_at_call 44; go_must (refine (hfirst_some p0 rq _ (shaped_below HS0.out HB2.out) (by omega) HFI.out).mono ?_; rintro _ w3 ⟨rfl, hb3⟩; have hsz3 := hb3.size))
                      | (refine wpList_put rfl 52 (.tmp 9) (.tmp 88) rfl w3.heap.size rfl (Var.new w3 52 [.bool false, .string ⟨#[]⟩, .string ⟨#[]⟩, .int .i64 0, .string ⟨#[]⟩, .int .i64 0, .slice none 0 0]) [.bool h.rq, .string ⟨h.m.toArray⟩, .string ⟨h.t.toArray⟩, .int .i64 (h.st : Int), .string ⟨h.rs.toArray⟩, .int .i64 (h.mn : Int), .slice none 0 0] rfl rfl (by kernel_rfl) (by simp [Value.oneCell']) ?_; intro w4 hv4 hg4 hs4; have hx4 := Lib.hid (((hx2.out.below_all hb3).alloc (.cells #[.bool false, .string ⟨#[]⟩, .string ⟨#[]⟩, .int .i64 0, .string ⟨#[]⟩, .int .i64 0, .slice none 0 0] 52)).grown hg4 (by simp; omega)); have HB4 : Hid (Below w.heap.size w w4) := Lib.hid (Below.grown ((HB2.out.trans (hb3.mono (by omega))).alloc (by omega) _) hg4 (by simp; omega) (by intro k hk; simp at hk; omega)); have HB14 : Hid (Below w1.heap.size w1 w4) := Lib.hid (Below.grown ((hb2.trans (hb3.mono hsz2)).alloc (by omega) _) hg4 (by simp; omega) (by intro k hk; simp at hk; omega))))
                    have HBC4 : Hid (∀ j (hj : j < body.length), w4.cell? ⟨w.heap.size + 1, 1 + j, none⟩ = some (.string body[j])) := Lib.hid (fun j hj => (HB14.out.cell (by show w.heap.size + 1 < _; omega)).trans (HBC.out j hj))
                    have hs4' : w4.heap.size = w3.heap.size + 1 := by simpa using hs4
                    have HV4 := Lib.hid hv4
                    clear hcv2 cp2 hg4 hs4 hv4 hcv1 cp0
                    go_loopw [95] (fun i wr => ∃ (j : Nat) (v : Value), j ≤ body.length ∧ i = .int .i64 j ∧ (∀ q (hq : q < body.length), q < j → (fieldP body[q].data.toList).isSome = true) ∧ Var wr w3.heap.size 52 [.bool h.rq, .string ⟨h.m.toArray⟩, .string ⟨h.t.toArray⟩, .int .i64 (h.st : Int), .string ⟨h.rs.toArray⟩, .int .i64 (h.mn : Int), v] ∧
                      Row wr (w3.heap.size + 1) 2 v (parts body j).length (fieldsV (flB (parts body j))) ∧ Below w3.heap.size w4 wr ∧ w3.heap.size + 1 ≤ wr.heap.size) (fun i _ => body.length - (intOf i).toNat)
                    case atStart => exact ⟨0, .slice none 0 0, Nat.zero_le _, rfl, (fun q hq h0 => absurd h0 (by omega)), HV4.out, Row.nil _ _ _, Below.refl _ _, by omega⟩
                    case round =>
                      obtain ⟨j, v, hj, rfl, hall, hv, hrow, hb, hszr⟩ := hrel
                      have HA := Lib.hid hall
                      have HV := Lib.hid hv
                      have HR := Lib.hid hrow
                      have HB := Lib.hid hb
                      have HX : Hid (Var wr w.heap.size 52 [.bool false, .string ⟨#[]⟩, .string ⟨#[]⟩, .int .i64 0, .string ⟨#[]⟩, .int .i64 0, .slice none 0 0]) := Lib.hid (hx4.out.below hb (by omega))
                      have HBW : Hid (Below w.heap.size w wr) := Lib.hid (HB4.out.trans (hb.mono (by omega)))
                      have HSR : Hid (wr.ShapedOpen Tryz.prog) := Lib.hid (shaped_below HS0.out HBW.out)
                      clear hall hv hrow hb
                      by_cases hlt : j < body.length
                      · have cj : wr.cell? ⟨w.heap.size + 1, 1 + j, none⟩ = some (.string body[j]) := (HB.out.cell (by show w.heap.size + 1 < _; omega)).trans (HBC4.out j hlt)
                        have hsj := HNL.out j hlt
                        have HST := Lib.hid (parts_step body j hlt)
                        have HNO : Hid (fieldP body[j].data.toList = none → parseP l rq = ({}, 220)) := Lib.hid (fun e => by
                          rw [HQ2.out]
                          exact if_neg fun x => by have := x _ (List.getElem_mem hlt); rw [e] at this; cases this)
                        have HA2 : Hid ((fieldP body[j].data.toList).isSome = true → ∀ q (hq : q < body.length), q < j + 1 → (fieldP body[q].data.toList).isSome = true) := Lib.hid (fun h1 q hq h2 => by
                          by_cases e : q = j
                          · subst e; exact h1
                          · exact HA.out q hq (by omega))
                        generalize body[j] = s at cj hsj HST HNO HA2
                        cases hc : cutAt 58 s.data.toList with
                        | none =>
                          have HPP : Hid (parseP l rq = ({}, 220)) := Lib.hid (HNO.out (by rw [fieldP, hc]))
                          have HC1 := Lib.hid hc
                          clear hc
                          go_wp2_with (first
                            | (go_at_call 45; go_must (refine (cut_none s 58 _ HSR.out (by omega) HC1.out).mono ?_; rintro _ _ ⟨rfl, q, rfl⟩))
                            | (go_at_call 46; go_must (refine (sTrim_l [] _ (Nat.zero_le _)).mono ?_; rintro _ w5 ⟨rfl, hb5⟩; have hx5 := Lib.hid ((HX.out.drewN q).below_all hb5); have HB5 : Hid (Below w.heap.size w w5) := Lib.hid ((below_drewN HBW.out q).trans (hb5.mono HBW.out.size))))
                            | (refine wpList_put rfl 52 (.tmp 4) (.tmp 119) rfl w.heap.size rfl (hx5.out) [.bool false, .string ⟨#[]⟩, .string ⟨#[]⟩, .int .i64 0, .string ⟨#[]⟩, .int .i64 0, .slice none 0 0] rfl rfl (by kernel_rfl) (by simp [Value.oneCell']) ?_; intro w9 hv9 hg9 hs9)
                            | fail)
                          refine bodyPost_ret (results_var rfl _ _ rfl hv9 Tryz.underlying52 rfl (by kernel_rfl)) rfl ⟨.slice none 0 0, ?_, ?_, ?_⟩
                          · rw [HPP.out]; rfl
                          · rw [HPP.out]; exact Row.nil _ _ _
                          · exact Below.grown (HB5.out) hg9 (HB5.out).size (by intro k hk; simp at hk; omega)
                        | some p =>
                          obtain ⟨nm, vv⟩ := p
                          obtain ⟨z1, z2⟩ := cut_sizes hc
                          rw [size_data] at z1
                          have htv : (trim vv).length ≤ 16777216 := by have := trim_le vv; omega
                          have HC1 := Lib.hid hc
                          by_cases ht : token nm = true
                          · by_cases hw : allText (trim vv) = true
                            · have hf : fieldP s.data.toList = some (nm, trim vv) := by
                                rw [fieldP, hc]; exact if_pos ⟨ht, hw⟩
                              have HF := Lib.hid hf
                              have HT := Lib.hid ht
                              have HW := Lib.hid hw
                              have hpl := parts_len body j
                              generalize hpp : parts body j = pj at HR HST hpl
                              clear hc ht hw hf hpp
                              go_wp2_with (first
                                | (go_at_call 45; go_must (refine (cut_some s 58 _ HSR.out (by omega) HC1.out).mono ?_; rintro _ _ ⟨rfl, q, rfl⟩))
                                | (go_at_call 46; go_must (refine (sTrim_l vv _ (by omega)).mono ?_; rintro _ w5 ⟨rfl, hb5⟩; have hsz5 : wr.heap.size ≤ w5.heap.size := hb5.size; have HB5 : Hid (Below w3.heap.size w4 w5) := Lib.hid ((below_drewN HB.out q).trans (hb5.mono (by show w3.heap.size ≤ wr.heap.size; omega))); have HV5 := Lib.hid ((HV.out.drewN q).below_all hb5); have HR5 := Lib.hid ((HR.out.drewN q).below_all hb5); have c96 := HV5.out.cell (j := 6) rfl))
                                | (go_at_call 47; go_must (refine (hToken_l nm _ (by omega)).mono ?_; rintro _ _ ⟨rfl, rfl⟩; rw [HT.out]))
                                | (go_at_call 48; go_must (refine (hwritten_t (trim vv) _ htv).mono ?_; rintro _ _ ⟨rfl, rfl⟩; rw [HW.out]))
                                | (at_builtin; go_must (refine wpList_app _ rfl (.tmp 121) (.tmp 125) 50 50 rfl (w3.heap.size + 1) 89 j0 (.agg #[.string ⟨#[]⟩, .string ⟨#[]⟩]) 2 32 Tryz.underlying50 hj0 jz0 jz1 jz2 rfl v pj.length (fieldsV (flB pj)) rfl (HR5.out.alloc _) _ 1 [.string ⟨nm.toArray⟩, .string ⟨(trim vv).toArray⟩] rfl (Src.built [.string ⟨nm.toArray⟩, .string ⟨(trim vv).toArray⟩] 89 Tryz.underlying50 rfl (by intro u hu; simp at hu; rcases hu with rfl | rfl <;> rfl)) (by omega) (by omega) (by omega) (by simp; omega) ?_); intro v6 w6 hrow6 hg6 _; obtain ⟨A6, c6, rfl, _, _, _, _⟩ := hrow6.form; have y2 := (HV5.out.alloc (.cells #[.string ⟨nm.toArray⟩, .string ⟨(trim vv).toArray⟩] 89)).grown hg6 (fun e => by have := (HR5.out.lt _ e).1; omega); have y2c := y2.cell (j := 6) rfl; have y2f := y2.frozen 6; have HB6 : Hid (Below w3.heap.size w4 w6) := Lib.hid (Below.app (HB5.out.alloc (by omega) _) (HR5.out.alloc _) hg6 (by omega) (by simp; omega)); have hsz6 : w3.heap.size + 1 ≤ w6.heap.size := (by have := hg6.size; simp at this; omega)))
                              have hrz := hrow6.setCell (p := ⟨w3.heap.size, 6, none⟩) (fun e => by have := (hrow6.lt _ e).1; simp at this; omega) (.slice A6 (pj.length + 1) c6)
                              have hvz := y2.set 6 (.slice A6 (pj.length + 1) c6)
                              go_roundw
                              case rel => exact ⟨j + 1, _, by omega, by go_num, HA2.out (by rw [HF.out]; rfl), hvz, (by
                                rw [HST.out, HF.out]
                                have e : pj ++ (some (nm, trim vv)).toList = pj ++ [(nm, trim vv)] := rfl
                                rw [e, flB_snoc, List.length_append]
                                exact hrz), HB6.out.setCell (Nat.le_refl _) _, by simpa using hsz6⟩
                              case measure => simp [intOf]; omega
                            · have HPP : Hid (parseP l rq = ({}, 220)) := Lib.hid (HNO.out (by rw [fieldP, hc]; exact if_neg fun x => hw x.2))
                              have HT := Lib.hid ht
                              have HW : Hid (allText (trim vv) = false) := Lib.hid (by simpa using hw)
                              clear hc ht hw
                              go_wp2_with (first
                                | (go_at_call 45; go_must (refine (cut_some s 58 _ HSR.out (by omega) HC1.out).mono ?_; rintro _ _ ⟨rfl, q, rfl⟩))
                                | (go_at_call 46; go_must (refine (sTrim_l vv _ (by omega)).mono ?_; rintro _ w5 ⟨rfl, hb5⟩; have hx5 := Lib.hid ((HX.out.drewN q).below_all hb5); have HB5 : Hid (Below w.heap.size w w5) := Lib.hid ((below_drewN HBW.out q).trans (hb5.mono HBW.out.size))))
                                | (go_at_call 47; go_must (refine (hToken_l nm _ (by omega)).mono ?_; rintro _ _ ⟨rfl, rfl⟩; rw [HT.out]))
                                | (go_at_call 48; go_must (refine (hwritten_t (trim vv) _ htv).mono ?_; rintro _ _ ⟨rfl, rfl⟩; rw [HW.out]))
                                | (refine wpList_put rfl 52 (.tmp 4) (.tmp 119) rfl w.heap.size rfl (hx5.out) [.bool false, .string ⟨#[]⟩, .string ⟨#[]⟩, .int .i64 0, .string ⟨#[]⟩, .int .i64 0, .slice none 0 0] rfl rfl (by kernel_rfl) (by simp [Value.oneCell']) ?_; intro w9 hv9 hg9 hs9)
                                | fail)
                              refine bodyPost_ret (results_var rfl _ _ rfl hv9 Tryz.underlying52 rfl (by kernel_rfl)) rfl ⟨.slice none 0 0, ?_, ?_, ?_⟩
                              · rw [HPP.out]; rfl
                              · rw [HPP.out]; exact Row.nil _ _ _
                              · exact Below.grown (HB5.out) hg9 (HB5.out).size (by intro k hk; simp at hk; omega)
                          · have HPP : Hid (parseP l rq = ({}, 220)) := Lib.hid (HNO.out (by rw [fieldP, hc]; exact if_neg fun x => ht x.1))
                            have HT : Hid (token nm = false) := Lib.hid (by simpa using ht)
                            clear hc ht
                            go_wp2_with (first
                              | (go_at_call 45; go_must (refine (cut_some s 58 _ HSR.out (by omega) HC1.out).mono ?_; rintro _ _ ⟨rfl, q, rfl⟩))
                              | (go_at_call 46; go_must (refine (sTrim_l vv _ (by omega)).mono ?_; rintro _ w5 ⟨rfl, hb5⟩; have hx5 := Lib.hid ((HX.out.drewN q).below_all hb5); have HB5 : Hid (Below w.heap.size w w5) := Lib.hid ((below_drewN HBW.out q).trans (hb5.mono HBW.out.size))))
                              | (go_at_call 47; go_must (refine (hToken_l nm _ (by omega)).mono ?_; rintro _ _ ⟨rfl, rfl⟩; rw [HT.out]))
                              | (refine wpList_put rfl 52 (.tmp 4) (.tmp 119) rfl w.heap.size rfl (hx5.out) [.bool false, .string ⟨#[]⟩, .string ⟨#[]⟩, .int .i64 0, .string ⟨#[]⟩, .int .i64 0, .slice none 0 0] rfl rfl (by kernel_rfl) (by simp [Value.oneCell']) ?_; intro w9 hv9 hg9 hs9)
                              | fail)
                            refine bodyPost_ret (results_var rfl _ _ rfl hv9 Tryz.underlying52 rfl (by kernel_rfl)) rfl ⟨.slice none 0 0, ?_, ?_, ?_⟩
                            · rw [HPP.out]; rfl
                            · rw [HPP.out]; exact Row.nil _ _ _
                            · exact Below.grown (HB5.out) hg9 (HB5.out).size (by intro k hk; simp at hk; omega)
                      · have hjb : j = body.length := by omega
                        have HPP : Hid (parseP l rq = ({ h with fs := parts body j }, 0)) := Lib.hid (by
                          rw [HQ2.out, if_pos (fun s hs => by obtain ⟨q, hq, rfl⟩ := List.getElem_of_mem hs; exact HA.out q hq (by omega))]
                          rw [parts, List.take_of_length_le (by omega)])
                        generalize parts body j = pj at HPP HR
                        go_wp2_with (first
                          | (refine wpList_load_mid rfl 52 (.tmp 9) rfl w3.heap.size 0 rfl [.bool h.rq, .string ⟨h.m.toArray⟩, .string ⟨h.t.toArray⟩, .int .i64 (h.st : Int), .string ⟨h.rs.toArray⟩, .int .i64 (h.mn : Int), v] _ HV.out.range Tryz.underlying52 rfl (by kernel_rfl) ?_)
                          | (refine wpList_put rfl 52 (.tmp 4) (.tmp 129) rfl w.heap.size rfl HX.out [.bool h.rq, .string ⟨h.m.toArray⟩, .string ⟨h.t.toArray⟩, .int .i64 (h.st : Int), .string ⟨h.rs.toArray⟩, .int .i64 (h.mn : Int), v] rfl rfl (by kernel_rfl) (by have := HR.out.form; obtain ⟨_, _, rfl, _⟩ := this; simp [Value.oneCell']) ?_; intro w9 hv9 hg9 hs9)
                          | fail)
                        refine bodyPost_ret (results_var rfl _ _ rfl hv9 Tryz.underlying52 rfl (by kernel_rfl)) rfl ⟨v, ?_, ?_, ?_⟩
                        · rw [HPP.out]; rfl
                        · rw [HPP.out]
                          exact (HR.out.kept hg9 (by cases hv : v.ownBlock with
                            | none => exact Or.inl rfl
                            | some k => exact Or.inr (fun e => by have := (HR.out.lt k hv).1; injection e with e; omega))).mono (by omega)
                        · exact Below.grown HBW.out hg9 HBW.out.size (by intro k hk; simp at hk; omega)
end Go.Proofs.YtklmpadcfioefaaGreatDoor
