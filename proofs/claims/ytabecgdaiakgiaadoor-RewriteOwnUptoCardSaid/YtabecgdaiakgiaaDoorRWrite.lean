/- the reference's Write: a head is written as 'writeP' says. Conditions: sizes, and that the numbers are ints. -/
import Derived.Test.YtabecgdaiakgiaaDoorMB
import Derived.Test.YtabecgdaiakgiaaDoorReads
import Derived.Test.YtabecgdaiakgiaaDoorSameG
namespace Go.Proofs.YtabecgdaiakgiaaDoor
open Go.RowKit

def WritePost (w : World) (h : HI) (e : Ending) (w' : World) : Prop :=
  ∃ v, e = .returned (.tuple #[v, .int .i64 ((writeP h).2 : Nat)]) ∧ RowB w' w.heap.size v ((writeP h).1.getD []) ∧ Below w.heap.size w w'
theorem WritePost.no {w w' : World} {h : HI} {e : Ending} {n : Nat} (hn : n ≠ 0) (hw : (writeP h).2 = n) (he : e = .returned (.tuple #[.slice none 0 0, .int .i64 (n : Int)])) (hb : Below w.heap.size w w') : WritePost w h e w' := by
  refine ⟨.slice none 0 0, by rw [hw]; exact he, ?_, hb⟩
  rw [write_err (by rw [hw]; exact hn)]
  exact RowB.nil _ _
theorem WritePost.yes {w w' : World} {h : HI} {e : Ending} {v : Value} (hw : (writeP h).2 = 0) (he : e = .returned (.tuple #[v, .int .i64 0])) (hr : RowB w' w.heap.size v (textP h)) (hb : Below w.heap.size w w') : WritePost w h e w' := by
  refine ⟨v, by rw [hw]; exact he, ?_, hb⟩
  rw [write_ok hw]
  exact hr
theorem bs_eq (a : Bs) (b : ByteArray) : ((⟨a.toArray⟩ : ByteArray) = b) ↔ a = b.data.toList := by
  constructor
  · intro h; rw [← h]
  · intro h; rw [h, byte_eta]
theorem fl_eq : ∀ (a : List (Bs × Bs)) (b : List Fl), (flB a = b) ↔ a = b.map fun f => (f.1.data.toList, f.2.data.toList)
  | [], [] => by simp [flB]
  | [], _ :: _ => by simp [flB]
  | _ :: _, [] => by simp [flB]
  | x :: a, y :: b => by
    have ih := fl_eq a b
    unfold flB at ih ⊢
    obtain ⟨y1, y2⟩ := y
    obtain ⟨x1, x2⟩ := x
    rw [List.map_cons, List.map_cons, List.cons.injEq, List.cons.injEq, ih, Prod.mk.injEq, Prod.mk.injEq, bs_eq, bs_eq]
theorem eqH_up (g : Hd) (rq : Bool) (m t : ByteArray) (st : Int) (rs : ByteArray) (mn : Int) (fs : List Fl) :
    eqH g.rq rq ⟨g.m.toArray⟩ m ⟨g.t.toArray⟩ t (g.st : Int) st ⟨g.rs.toArray⟩ rs (g.mn : Int) mn (flB g.fs) fs = decide (g.up = hiOf rq m t st rs mn fs) := by
  unfold eqH
  rw [Bool.eq_iff_iff, decide_eq_true_eq, decide_eq_true_eq]
  unfold Hd.up hiOf
  rw [HI.mk.injEq, bs_eq, bs_eq, bs_eq, fl_eq]
/-- a text's length -/
theorem textP_len (rq : Bool) (m t : ByteArray) (st : Int) (rs : ByteArray) (mn : Int) (fs : List Fl) (hst : isInt st) (hmn : isInt mn) : (textP (hiOf rq m t st rs mn fs)).length ≤ m.size + t.size + rs.size + flSize fs + 100 := by
  have h1 := itoa_len hst
  have h2 := itoa_len hmn
  have h3 : (fieldsT (hiOf rq m t st rs mn fs).fs).length = flSize fs := flT_len fs
  have e1 := size_data m
  have e2 := size_data t
  have e3 := size_data rs
  unfold textP
  simp only [List.length_append, List.length_cons, List.length_nil, h3]
  unfold lineT
  cases rq
  · simp only [hiOf, Bool.false_eq_true, if_false, List.length_append, List.length_cons, List.length_nil, ver]; omega
  · simp only [hiOf, if_true, List.length_append, List.length_cons, List.length_nil, ver]; omega

end Go.Proofs.YtabecgdaiakgiaaDoor
