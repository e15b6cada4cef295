/- the reference's first: a first line is read as just the head that 'firstP' says. Condition: the size. -/
import Derived.Test.YtklmpadcfioefaaGreatDoorFirst2
namespace Go.Proofs.YtklmpadcfioefaaGreatDoor
open Go.RowKit

/-- what the reference's 'first' answers: a head and true; or false, and whatever lies in the head's cells -/
def RFirstPost (w : World) (rq : Bool) (l : Bs) (e : Ending) (w' : World) : Prop :=
  (match firstP rq l with
    | some h => e = .returned (.tuple #[.agg #[.bool h.rq, .string ⟨h.m.toArray⟩, .string ⟨h.t.toArray⟩, .int .i64 (h.st : Int), .string ⟨h.rs.toArray⟩, .int .i64 (h.mn : Int), .slice none 0 0], .bool true])
    | none => ∃ cs : List Value, cs.length = 7 ∧ (∀ u ∈ cs, u.oneCell' = true) ∧ e = .returned (.tuple #[.agg cs.toArray, .bool false])) ∧ Below w.heap.size w w'

theorem RFirstPost.no {w w' : World} {rq : Bool} {l : Bs} {e : Ending} (h : firstP rq l = none) (cs : List Value) (h1 : cs.length = 7) (h2 : ∀ u ∈ cs, u.oneCell' = true) (he : e = .returned (.tuple #[.agg cs.toArray, .bool false])) (hb : Below w.heap.size w w') : RFirstPost w rq l e w' := by
  unfold RFirstPost; rw [h]; exact ⟨⟨cs, h1, h2, he⟩, hb⟩
theorem RFirstPost.yes {w w' : World} {rq : Bool} {l : Bs} {e : Ending} {h : Hd} (hh : firstP rq l = some h) (he : e = .returned (.tuple #[.agg #[.bool h.rq, .string ⟨h.m.toArray⟩, .string ⟨h.t.toArray⟩, .int .i64 (h.st : Int), .string ⟨h.rs.toArray⟩, .int .i64 (h.mn : Int), .slice none 0 0], .bool true])) (hb : Below w.heap.size w w') : RFirstPost w rq l e w' := by
  unfold RFirstPost; rw [hh]; exact ⟨he, hb⟩
end Go.Proofs.YtklmpadcfioefaaGreatDoor
