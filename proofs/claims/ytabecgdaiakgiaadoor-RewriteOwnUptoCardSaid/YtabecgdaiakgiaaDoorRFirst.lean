/- the reference's first: a first line is read as just the head that 'firstP' says. Condition: the size. -/
import Derived.Test.YtabecgdaiakgiaaDoorFirst2
namespace Go.Proofs.YtabecgdaiakgiaaDoor
open Go.RowKit

/-- what the reference's 'first' answers: a head and true; or false, and whatever lies in the head's cells -/
def RFirstPost (w : World) (rq : Bool) (l : Bs) (e : Ending) (w' : World) : Prop :=
  (match firstP rq l with
    | some h => e = .returned (.tuple #[.agg #[.bool h.rq, .string ⟨h.m.toArray⟩, .string ⟨h.t.toArray⟩, .int .i64 (h.st : Int), .string ⟨h.rs.toArray⟩, .int .i64 (h.mn : Int), .slice none 0 0], .bool true])
    | none => ∃ cs : List Value, cs.length = 7 ∧ (∀ u ∈ cs, u.oneCell' = true) ∧ e = .returned (.tuple #[.agg cs.toArray, .bool false])) ∧ Below w.heap.size w w'

theorem RFirstPost.no {w w' : World} {rq : Bool} {l : Bs} {e : Ending} (h : firstP rq l = none) (cs : List Value) (h1 : cs.length = 7) (h2 : ∀ u ∈ cs, u.oneCell' = true) (he : e = .returned (.tuple #[.agg cs.toArray, .bool false])) (hb : Below w.heap.size w w') : RFirstPost w rq l e w' := by
  unfold RFirstPost; rw [h]; exact ⟨⟨cs, h1, h2, he⟩, hb⟩
theorem RFirstPost.yes {w w' : World} {rq : Bool} {l : Bs} {e : Ending} {h : Hd} (hh : firstP rq l = some h) (he : e = .returned (.tuple #[.agg #[.bool h.rq, .string ⟨h.m.toArray⟩, .string ⟨h.t.toArray⟩, .int .i64 (h.st : Int), .string ⟨h.rs.toArray⟩, .int .i64 (h.mn : Int), .slice none 0 0], .bool true])) (hb : Below w.heap.size w w') : RFirstPost w rq l e w' := by
  unfold RFirstPost; rw [hh]; exact ⟨he, hb⟩
theorem placeP_some {c : UInt8} {l a b : Bs} (h : cutAt c l = some (a, b)) : placeP c l = a.length := by rw [placeP, h]
theorem placeP_no {c : UInt8} {l : Bs} (h : cutAt c l = none) : placeP c l = -1 := by rw [placeP, h]
theorem ext_some {s a b : ByteArray} {c : UInt8} (h : cutAt c s.data.toList = some (a.data.toList, b.data.toList)) : s.extract 0 a.size = a ∧ s.extract (a.size + 1) s.size = b ∧ a.size + 1 + b.size = s.size := by
  obtain ⟨e, _⟩ := cutAt_some.1 h
  have hl := congrArg List.length e
  rw [List.length_append, List.length_cons, size_data, size_data, size_data] at hl
  refine ⟨?_, ?_, by omega⟩
  · have : (s.extract 0 a.size).data.toList = a.data.toList := by
      rw [Lib.extract_data, e, List.drop_zero, Nat.sub_zero, ← size_data, List.take_left]
    exact (byte_eta _).symm.trans ((congrArg (fun l : Bs => (⟨l.toArray⟩ : ByteArray)) this).trans (byte_eta _))
  · have : (s.extract (a.size + 1) s.size).data.toList = b.data.toList := by
      rw [Lib.extract_data, e, List.take_of_length_le (by rw [List.length_drop, List.length_append, List.length_cons, size_data, size_data]; omega)]
      rw [show a.data.toList ++ c :: b.data.toList = (a.data.toList ++ [c]) ++ b.data.toList by simp, List.drop_left' (by rw [List.length_append, size_data]; rfl)]
    exact (byte_eta _).symm.trans ((congrArg (fun l : Bs => (⟨l.toArray⟩ : ByteArray)) this).trans (byte_eta _))

theorem ext_two {s sa sr sb sc : ByteArray} {c : UInt8} (h : cutAt c s.data.toList = some (sa.data.toList, sr.data.toList)) (h2 : cutAt c sr.data.toList = some (sb.data.toList, sc.data.toList)) :
    s.extract (sa.size + 1) (sa.size + 1 + sb.size) = sb ∧ s.extract (sa.size + 2 + sb.size) s.size = sc := by
  obtain ⟨e, _⟩ := cutAt_some.1 h
  obtain ⟨e2, _⟩ := cutAt_some.1 h2
  have hd : s.data.toList.drop (sa.size + 1) = sr.data.toList := by
    rw [e, show sa.data.toList ++ c :: sr.data.toList = (sa.data.toList ++ [c]) ++ sr.data.toList by simp, List.drop_left' (by rw [List.length_append, size_data]; rfl)]
  have hl := congrArg List.length e
  rw [List.length_append, List.length_cons, size_data, size_data, size_data] at hl
  have hl2 := congrArg List.length e2
  rw [List.length_append, List.length_cons, size_data, size_data, size_data] at hl2
  constructor
  · have : (s.extract (sa.size + 1) (sa.size + 1 + sb.size)).data.toList = sb.data.toList := by
      rw [Lib.extract_data, hd, e2, show sa.size + 1 + sb.size - (sa.size + 1) = sb.size by omega, ← size_data, List.take_left]
    exact (byte_eta _).symm.trans ((congrArg (fun l : Bs => (⟨l.toArray⟩ : ByteArray)) this).trans (byte_eta _))
  · have : (s.extract (sa.size + 2 + sb.size) s.size).data.toList = sc.data.toList := by
      rw [Lib.extract_data, show sa.size + 2 + sb.size = sa.size + 1 + (sb.size + 1) by omega, ← List.drop_drop, hd, e2]
      rw [show sb.data.toList ++ c :: sc.data.toList = (sb.data.toList ++ [c]) ++ sc.data.toList by simp, List.drop_left' (by rw [List.length_append, size_data]; rfl)]
      rw [List.take_of_length_le (by rw [size_data]; omega)]
    exact (byte_eta _).symm.trans ((congrArg (fun l : Bs => (⟨l.toArray⟩ : ByteArray)) this).trans (byte_eta _))


end Go.Proofs.YtabecgdaiakgiaaDoor
