/- chunk's Last. Conditions: sizes, the world's shape. -/
import Derived.Test.YtabecgdaiakgiaaDoorCReads
import Derived.Test.YtabecgdaiakgiaaDoorQWrite
namespace Go.Proofs.YtabecgdaiakgiaaDoor
open Go.RowKit

/-- fields, as the plain law has them -/
def upF (fs : List Fl) : List (Bs × Bs) := fs.map fun f => (f.1.data.toList, f.2.data.toList)
theorem flB_upF (fs : List Fl) : flB (upF fs) = fs := by
  unfold flB upF
  rw [List.map_map]
  conv => rhs; rw [← List.map_id fs]
  refine List.map_congr_left fun f _ => ?_
  rfl
theorem upF_flB (gs : List (Bs × Bs)) : upF (flB gs) = gs := by
  unfold flB upF
  rw [List.map_map]
  conv => rhs; rw [← List.map_id gs]
  refine List.map_congr_left fun f _ => ?_
  rfl
theorem linesF_app (a b : List (Bs × Bs)) : Chunk.linesF (a ++ b) = Chunk.linesF a ++ Chunk.linesF b := by
  induction a with
  | nil => rfl
  | cons x a ih => simp [Chunk.linesF, ih]
theorem linesF_take (fs : List Fl) (k : Nat) (h : k < fs.length) : Chunk.linesF (upF (fs.take (k + 1))) = Chunk.linesF (upF (fs.take k)) ++ (((fs[k].1.data.toList ++ [58, 32]) ++ fs[k].2.data.toList) ++ [13, 10]) := by
  rw [List.take_succ_eq_append_getElem h]
  unfold upF
  rw [List.map_append, linesF_app]
  simp [Chunk.linesF, Chunk.lineF]
theorem app_data (a b : ByteArray) : (a ++ b).data.toList = a.data.toList ++ b.data.toList := by simp [ByteArray.data_append]
/-- how long fields are -/
def fSize (fs : List Fl) : Nat := (fs.map fun f => f.1.size + f.2.size + 4).sum
theorem linesF_len (fs : List Fl) : (Chunk.linesF (upF fs)).length = fSize fs := by
  induction fs with
  | nil => rfl
  | cons f fs ih =>
    have h1 := size_data f.1
    have h2 := size_data f.2
    have e : upF (f :: fs) = (f.1.data.toList, f.2.data.toList) :: upF fs := rfl
    rw [e]
    simp only [Chunk.linesF, Chunk.lineF, List.length_append, List.length_cons, List.length_nil, ih, fSize, List.map_cons, List.sum_cons]
    omega
theorem fSize_take (fs : List Fl) (k : Nat) : fSize (fs.take k) ≤ fSize fs := by
  have e : fSize fs = fSize (fs.take k) + fSize (fs.drop k) := by
    unfold fSize
    rw [← List.sum_append, ← List.map_append, List.take_append_drop]
  omega
theorem fSize_get (fs : List Fl) (k : Nat) (h : k < fs.length) : fSize (fs.take k) + (fs[k].1.size + fs[k].2.size + 4) ≤ fSize fs := by
  have := fSize_take fs (k + 1)
  have e : fSize (fs.take (k + 1)) = fSize (fs.take k) + (fs[k].1.size + fs[k].2.size + 4) := by
    unfold fSize
    rw [List.take_succ_eq_append_getElem h, List.map_append, List.sum_append]; simp
  omega
/-- what Last's own reading says of the end that was written -/
theorem decP_last_ok (fs : List (Bs × Bs)) (h : Chunk.okFs fs 0 0 = true) : decP (Chunk.lastB fs) = ([], fs, (Chunk.lastB fs).length, 0) := by
  rw [decP_read, Chunk.readOf_last fs h]; rfl
theorem decP_last_no (fs : List (Bs × Bs)) (h : Chunk.okFs fs 0 0 = false) : (decP (Chunk.lastB fs)).2.2.2 ≠ 0 ∨ (decP (Chunk.lastB fs)).2.1 ≠ fs := by
  have hn := Chunk.readOf_last_no fs h
  rw [decP_read]
  generalize Chunk.readOf (Chunk.lastB fs) = r at hn
  cases hw : r.wrong
  · cases hd : r.done
    · left; simp
    · right; simpa using hn hd
  · left; simp

def LastPost (w : World) (r : Bs × Nat) (e : Ending) (w' : World) : Prop :=
  ∃ v, e = .returned (.tuple #[v, .int .i64 r.2]) ∧ RowB w' w.heap.size v r.1 ∧ Below w.heap.size w w'
theorem decP_few (l : Bs) : (decP l).2.1.length ≤ 64 := by
  unfold decP
  by_cases h2 : (Chunk.feed {} l 0 []).2.2.2 = 2
  · rw [if_pos h2]; exact Nat.zero_le _
  · rw [if_neg h2]
    by_cases h1 : (Chunk.feed {} l 0 []).2.2.2 = 1
    · rw [if_pos h1]; exact (Chunk.feed_ok l {} 0 Chunk.Ok.init h2).trailers
    · rw [if_neg h1]; exact Nat.zero_le _

end Go.Proofs.YtabecgdaiakgiaaDoor
