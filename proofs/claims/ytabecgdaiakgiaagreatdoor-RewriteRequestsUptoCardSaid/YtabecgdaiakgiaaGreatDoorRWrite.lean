/- the reference's Write: a head is written as 'writeP' says. Conditions: sizes, and that the numbers are ints. -/
import Derived.Test.YtabecgdaiakgiaaGreatDoorMB
import Derived.Test.YtabecgdaiakgiaaGreatDoorReads
import Derived.Test.YtabecgdaiakgiaaGreatDoorSameG
namespace Go.Proofs.YtabecgdaiakgiaaGreatDoor
open Go.RowKit

def WritePost (w : World) (h : HI) (e : Ending) (w' : World) : Prop :=
  ∃ v, e = .returned (.tuple #[v, .int .i64 ((writeP h).2 : Nat)]) ∧ RowB w' w.heap.size v ((writeP h).1.getD []) ∧ Below w.heap.size w w'
theorem WritePost.no {w w' : World} {h : HI} {e : Ending} {n : Nat} (hn : n ≠ 0) (hw : (writeP h).2 = n) (he : e = .returned (.tuple #[.slice none 0 0, .int .i64 (n : Int)])) (hb : Below w.heap.size w w') : WritePost w h e w' := by
  refine ⟨.slice none 0 0, by rw [hw]; exact he, ?_, hb⟩
  rw [write_err (by rw [hw]; exact hn)]
  exact RowB.nil _ _
theorem WritePost.yes {w w' : World} {h : HI} {e : Ending} {v : Value} (hw : (writeP h).2 = 0) (he : e = .returned (.tuple #[v, .int .i64 0])) (hr : RowB w' w.heap.size v (textP h)) (hb : Below w.heap.size w w') : WritePost w h e w' := by
  refine ⟨v, by rw [hw]; exact he, ?_, hb⟩
  rw [write_ok hw]
  exact hr
theorem bs_eq (a : Bs) (b : ByteArray) : ((⟨a.toArray⟩ : ByteArray) = b) ↔ a = b.data.toList := by
  constructor
  · intro h; rw [← h]
  · intro h; rw [h, byte_eta]
theorem fl_eq : ∀ (a : List (Bs × Bs)) (b : List Fl), (flB a = b) ↔ a = b.map fun f => (f.1.data.toList, f.2.data.toList)
  | [], [] => by simp [flB]
  | [], _ :: _ => by simp [flB]
  | _ :: _, [] => by simp [flB]
  | x :: a, y :: b => by
    have ih := fl_eq a b
    unfold flB at ih ⊢
    obtain ⟨y1, y2⟩ := y
    obtain ⟨x1, x2⟩ := x
    rw [List.map_cons, List.map_cons, List.cons.injEq, List.cons.injEq, ih, Prod.mk.injEq, Prod.mk.injEq, bs_eq, bs_eq]
theorem eqH_up (g : Hd) (rq : Bool) (m t : ByteArray) (st : Int) (rs : ByteArray) (mn : Int) (fs : List Fl) :
    eqH g.rq rq ⟨g.m.toArray⟩ m ⟨g.t.toArray⟩ t (g.st : Int) st ⟨g.rs.toArray⟩ rs (g.mn : Int) mn (flB g.fs) fs = decide (g.up = hiOf rq m t st rs mn fs) := by
  unfold eqH
  rw [Bool.eq_iff_iff, decide_eq_true_eq, decide_eq_true_eq]
  unfold Hd.up hiOf
  rw [HI.mk.injEq, bs_eq, bs_eq, bs_eq, fl_eq]
/-- a text's length -/
theorem textP_len (rq : Bool) (m t : ByteArray) (st : Int) (rs : ByteArray) (mn : Int) (fs : List Fl) (hst : isInt st) (hmn : isInt mn) : (textP (hiOf rq m t st rs mn fs)).length ≤ m.size + t.size + rs.size + flSize fs + 100 := by
  have h1 := itoa_len hst
  have h2 := itoa_len hmn
  have h3 : (fieldsT (hiOf rq m t st rs mn fs).fs).length = flSize fs := flT_len fs
  have e1 := size_data m
  have e2 := size_data t
  have e3 := size_data rs
  unfold textP
  simp only [List.length_append, List.length_cons, List.length_nil, h3]
  unfold lineT
  cases rq
  · simp only [hiOf, Bool.false_eq_true, if_false, List.length_append, List.length_cons, List.length_nil, ver]; omega
  · simp only [hiOf, if_true, List.length_append, List.length_cons, List.length_nil, ver]; omega

set_option maxHeartbeats 2000000 in
set_option maxRecDepth 100000 in
theorem rWrite_any (rq : Bool) (m t : ByteArray) (st : Int) (rs : ByteArray) (mn : Int) (A : Option Addr) (n c : Nat) (fs : List Fl) (w : World) (hrd : Rd w w.heap.size 2 A n (fieldsV fs))
    (hst : isInt st) (hmn : isInt mn) (hn : n ≤ 2097152) (hm : m.size + t.size + rs.size ≤ 2097152) (hf : flSize fs ≤ 8388608) :
    Calls Tryz.prog 28 #[headV rq m t st rs mn (.slice A n c)] w (WritePost w (hiOf rq m t st rs mn fs)) := by
  have htl := textP_len rq m t st rs mn fs hst hmn
  have HTX := Lib.hid (fun W h => rText_any rq m t st rs mn A n c fs W h (by omega) hst hmn (by omega) (by omega))
  obtain ⟨g, e0, hp⟩ : ∃ g e0, parseP (textP (hiOf rq m t st rs mn fs)) rq = (g, e0) := ⟨_, _, rfl⟩
  have hfew := parse_few hp
  have HW : Hid ((writeP (hiOf rq m t st rs mn fs)).2 = if e0 ≠ 0 then e0 else if g.up = hiOf rq m t st rs mn fs then 0 else 220) := Lib.hid (by
    have e : (hiOf rq m t st rs mn fs).rq = rq := rfl
    unfold writeP
    rw [e, hp]
    by_cases h0 : e0 = 0
    · simp only [h0, ne_eq, not_true_eq_false, if_false]
      by_cases h1 : g.up = hiOf rq m t st rs mn fs
      · rw [if_pos h1, if_pos h1]
      · rw [if_neg h1, if_neg h1]
    · simp only [ne_eq, h0, not_false_eq_true, if_true])
  have HP := Lib.hid hp
  have HEQ := Lib.hid (eqH_up g rq m t st rs mn fs)
  have hz0 : (w.alloc (.cells #[.bool rq, .string m, .string t, .int .i64 st, .string rs, .int .i64 mn, .slice A n c] 24)).heap.size = w.heap.size + 1 := by simp
  have hb1 : Below w.heap.size w (w.alloc (.cells #[.bool rq, .string m, .string t, .int .i64 st, .string rs, .int .i64 mn, .slice A n c] 24)) := (Below.refl _ _).alloc (Nat.le_refl _) _
  have hv1 := Var.new w 24 [.bool rq, .string m, .string t, .int .i64 st, .string rs, .int .i64 mn, .slice A n c]
  have hrd1 := (hrd.below hb1).more hb1.size
  clear hp hst hmn hrd
  generalize hhi : hiOf rq m t st rs mn fs = hi at *
  generalize htx : textP hi = tx at *
  have HTE := Lib.hid htx
  clear hhi htx
  unfold headV at *
  go_enter Tryz.func28, Tryz.ntmps28
  go_upto_region 3 with (first
    | (go_at_call 56; go_must (refine (HTX.out _ hrd1).mono ?_; rintro _ w2 ⟨v2, rfl, hrow2, hb2⟩; obtain ⟨A2, c2, rfl, hc2, hm2, hA2, hr2⟩ := hrow2.form; have hv2 := hv1.below_all hb2; have d0 := hv2.cell (j := 0) rfl))
    | (go_at_call 57; go_must (refine (rParse_lit A2 tx.length c2 tx rq _ hc2 hm2 hA2 hr2 (by omega) HP.out).mono ?_; rintro _ w3 ⟨A3, c3, rfl, hrow3, hb3⟩))
    | (refine wpList_put rfl 24 (.tmp 5) (.tmp 14) rfl w3.heap.size rfl (Var.new w3 24 [.bool false, .string ⟨#[]⟩, .string ⟨#[]⟩, .int .i64 0, .string ⟨#[]⟩, .int .i64 0, .slice none 0 0]) [.bool g.rq, .string ⟨g.m.toArray⟩, .string ⟨g.t.toArray⟩, .int .i64 (g.st : Int), .string ⟨g.rs.toArray⟩, .int .i64 (g.mn : Int), .slice A3 g.fs.length c3] rfl rfl (by kernel_rfl) (by simp [Value.oneCell']) ?_; intro w4 hv4 hg4 hs4)
    | fail)
  have hz2 : w.heap.size + 1 ≤ w2.heap.size := by have := hb2.size; omega
  have hz3 := hb3.size
  have hz4 := put_size hs4
  have b24 : Below w2.heap.size w2 w4 := Below.put hb3 hz3 hg4
  have B4 : Hid (Below w.heap.size w w4) := Lib.hid ((hb1.trans (hb2.mono (by omega))).trans (b24.mono (by omega)))
  have HV4 := Lib.hid (hv2.below_all b24)
  have HG4 := Lib.hid hv4
  have HO4 := Lib.hid ((hrow2.below_all b24).mono (show w.heap.size ≤ _ by omega))
  have ra := (((hrd1.below hb2).more hb2.size).below b24).more b24.size
  obtain ⟨_, _, e1, _, _, _, rb⟩ := (hrow3.put hg4).form
  injection e1 with e1 _ q1
  subst e1 q1
  have z4 := B4.out.size
  clear hv1 hb1 hrd1 hb2 hrow2 hr2 hb3 hrow3 hv4 hg4 hs4 b24 d0 hv2 hz0 hA2
  by_cases h0 : e0 = 0
  · subst h0
    by_cases hu : g.up = hi
    · have HE : Hid (eqH g.rq rq ⟨g.m.toArray⟩ m ⟨g.t.toArray⟩ t (g.st : Int) st ⟨g.rs.toArray⟩ rs (g.mn : Int) mn (flB g.fs) fs = true) := Lib.hid (by rw [HEQ.out]; simpa using hu)
      have HF : Hid ((writeP hi).2 = 0) := Lib.hid (by rw [HW.out]; simp [hu])
      clear hu
      go_wp2_with (first
        | (go_at_call 58; go_must (refine (rSame_gen g.rq rq ⟨g.m.toArray⟩ m ⟨g.t.toArray⟩ t (g.st : Int) st ⟨g.rs.toArray⟩ rs (g.mn : Int) mn A3 A g.fs.length n c3 c (flB g.fs) fs _ rb ra (by omega) (by omega)).mono ?_; rintro _ w5 ⟨rfl, hb5⟩; rw [HE.out]))
        | (refine wpList_load_mid rfl 24 (.tmp 5) rfl w3.heap.size 0 rfl [.bool g.rq, .string ⟨g.m.toArray⟩, .string ⟨g.t.toArray⟩, .int .i64 (g.st : Int), .string ⟨g.rs.toArray⟩, .int .i64 (g.mn : Int), .slice A3 g.fs.length c3] _ HG4.out.range Tryz.underlying24 rfl (by kernel_rfl) ?_)
        | (refine wpList_load_mid rfl 24 (.tmp 1) rfl w.heap.size 0 rfl [.bool rq, .string m, .string t, .int .i64 st, .string rs, .int .i64 mn, .slice A n c] _ HV4.out.range Tryz.underlying24 rfl (by kernel_rfl) ?_)
        | fail)
      go_ret2
      exact WritePost.yes HF.out rfl (by rw [HTE.out]; exact HO4.out.below_all hb5) (B4.out.trans (hb5.mono z4))
    · have HE : Hid (eqH g.rq rq ⟨g.m.toArray⟩ m ⟨g.t.toArray⟩ t (g.st : Int) st ⟨g.rs.toArray⟩ rs (g.mn : Int) mn (flB g.fs) fs = false) := Lib.hid (by rw [HEQ.out]; simpa using hu)
      have HF : Hid ((writeP hi).2 = 220) := Lib.hid (by rw [HW.out]; simp [hu])
      clear hu
      go_wp2_with (first
        | (go_at_call 58; go_must (refine (rSame_gen g.rq rq ⟨g.m.toArray⟩ m ⟨g.t.toArray⟩ t (g.st : Int) st ⟨g.rs.toArray⟩ rs (g.mn : Int) mn A3 A g.fs.length n c3 c (flB g.fs) fs _ rb ra (by omega) (by omega)).mono ?_; rintro _ w5 ⟨rfl, hb5⟩; rw [HE.out]))
        | (refine wpList_load_mid rfl 24 (.tmp 5) rfl w3.heap.size 0 rfl [.bool g.rq, .string ⟨g.m.toArray⟩, .string ⟨g.t.toArray⟩, .int .i64 (g.st : Int), .string ⟨g.rs.toArray⟩, .int .i64 (g.mn : Int), .slice A3 g.fs.length c3] _ HG4.out.range Tryz.underlying24 rfl (by kernel_rfl) ?_)
        | (refine wpList_load_mid rfl 24 (.tmp 1) rfl w.heap.size 0 rfl [.bool rq, .string m, .string t, .int .i64 st, .string rs, .int .i64 mn, .slice A n c] _ HV4.out.range Tryz.underlying24 rfl (by kernel_rfl) ?_)
        | fail)
      go_ret2
      exact WritePost.no (by omega) HF.out rfl (B4.out.trans (hb5.mono z4))
  · have HF : Hid ((writeP hi).2 = e0) := Lib.hid (by rw [HW.out]; simp [h0])
    have h0' : ((e0 : Int) != 0) = true := by simpa using h0
    have H0 := Lib.hid h0
    clear h0
    go_wp2
    go_ret2
    exact WritePost.no H0.out HF.out rfl B4.out
end Go.Proofs.YtabecgdaiakgiaaGreatDoor
