/- Two readers and what they handed out, in memory (for StreamPieces). No condition. -/
import Derived.Test.YtklmpadcfioefaaGreatDoorSPcsP
import Derived.Test.YtklmpadcfioefaaGreatDoorSWhole
namespace Go.Proofs.YtklmpadcfioefaaGreatDoor
open Go.RowKit

theorem SMem.mono {w : World} {base base' rb q : Nat} {s : Strm.S} {V : SV} (h : SMem w base rb s V q) (hb : base' ≤ base) : SMem w base' rb s V q :=
  ⟨Nat.le_trans hb h.le, h.var, h.ms.mono hb, Row.mono h.blk hb, h.nil, fun h3 => ⟨(h.on h3).1, (h.on h3).2.mono2 hb⟩, h.off, h.a1, h.a2, h.a3⟩
def ofE (v : Value) (l : List EvE) (k : Nat) : Prop := v.ownBlock = some k ∨ ownE l k
/-- reader 1 with its events, reader 2 with its events -/
structure PcSt (w0 w : World) (rb1 : Nat) (s1 : Strm.S) (V1 : SV) (q1 : Nat) (v1 : Value) (L1 : List EvE) (rb2 : Nat) (s2 : Strm.S) (V2 : SV) (q2 : Nat) (v2 : Value) (L2 : List EvE) : Prop where
  m1 : SMem w w0.heap.size rb1 s1 V1 q1
  m2 : SMem w w0.heap.size rb2 s2 V2 q2
  o1 : Outs w w0.heap.size v1 L1
  o2 : Outs w w0.heap.size v2 L2
  a12 : ∀ k, footS rb1 V1 k → ¬ footS rb2 V2 k
  a1o : ∀ k, footS rb1 V1 k → ¬ ofE v1 L1 k ∧ ¬ ofE v2 L2 k
  a2o : ∀ k, footS rb2 V2 k → ¬ ofE v1 L1 k ∧ ¬ ofE v2 L2 k
  aoo : ∀ k, ofE v1 L1 k → ¬ ofE v2 L2 k
  bl : Below w0.heap.size w0 w
namespace Strm
theorem put_len (acc : List E1) (x : E1) : (put acc x).length ≤ acc.length + 1 := by
  unfold put
  split
  · rw [List.length_append, List.length_dropLast]; simp
  · simp
theorem foldl_len (l : List E1) : ∀ acc, (l.foldl put acc).length ≤ acc.length + l.length := by
  induction l with
  | nil => intro acc; simp
  | cons x l ih =>
    intro acc
    have h1 := put_len acc x
    have h2 := ih (put acc x)
    rw [List.foldl_cons, List.length_cons]
    omega
theorem whole_sum (es : List E1) : bodySum (whole es) = bodySum es := by
  have h := foldl_sum es []
  have h0 : bodySum [] = 0 := rfl
  unfold whole
  omega
theorem body_few {es : List E1} {T : Nat} (h : bodySum es ≤ T) (k : Nat) (y : Bs) (hy : E1.body y ∈ (es.take k).foldl put []) : y.length ≤ T := by
  have h1 := bodySum_one hy
  have h3 := whole_sum (es.take k)
  unfold whole at h3
  have h2 := take_sum es k
  have e : eData (.body y) = y := rfl
  rw [e] at h1
  omega
end Strm
end Go.Proofs.YtklmpadcfioefaaGreatDoor
