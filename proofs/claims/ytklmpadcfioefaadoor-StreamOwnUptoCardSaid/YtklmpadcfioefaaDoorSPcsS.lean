/- Two readers and what they handed out, in memory (for StreamPieces). No condition. -/
import Derived.Test.YtklmpadcfioefaaDoorSPcsP
import Derived.Test.YtklmpadcfioefaaDoorSWhole
namespace Go.Proofs.YtklmpadcfioefaaDoor
open Go.RowKit

theorem SMem.mono {w : World} {base base' rb q : Nat} {s : Strm.S} {V : SV} (h : SMem w base rb s V q) (hb : base' ≤ base) : SMem w base' rb s V q :=
  ⟨Nat.le_trans hb h.le, h.var, h.ms.mono hb, Row.mono h.blk hb, h.nil, fun h3 => ⟨(h.on h3).1, (h.on h3).2.mono2 hb⟩, h.off, h.a1, h.a2, h.a3⟩
def ofE (v : Value) (l : List EvE) (k : Nat) : Prop := v.ownBlock = some k ∨ ownE l k
/-- reader 1 with its events, reader 2 with its events -/
structure PcSt (w0 w : World) (rb1 : Nat) (s1 : Strm.S) (V1 : SV) (q1 : Nat) (v1 : Value) (L1 : List EvE) (rb2 : Nat) (s2 : Strm.S) (V2 : SV) (q2 : Nat) (v2 : Value) (L2 : List EvE) : Prop where
  m1 : SMem w w0.heap.size rb1 s1 V1 q1
  m2 : SMem w w0.heap.size rb2 s2 V2 q2
  o1 : Outs w w0.heap.size v1 L1
  o2 : Outs w w0.heap.size v2 L2
  a12 : ∀ k, footS rb1 V1 k → ¬ footS rb2 V2 k
  a1o : ∀ k, footS rb1 V1 k → ¬ ofE v1 L1 k ∧ ¬ ofE v2 L2 k
  a2o : ∀ k, footS rb2 V2 k → ¬ ofE v1 L1 k ∧ ¬ ofE v2 L2 k
  aoo : ∀ k, ofE v1 L1 k → ¬ ofE v2 L2 k
  bl : Below w0.heap.size w0 w
/-- reader 2 is fed, its events not yet appended -/
theorem PcSt.feed2 {w0 w w' : World} {rb1 rb2 q1 q2 q2' : Nat} {s1 s2 u2 : Strm.S} {V1 V2 V2' : SV} {v1 v2 v : Value} {L1 L2 L : List EvE} (h : PcSt w0 w rb1 s1 V1 q1 v1 L1 rb2 s2 V2 q2 v2 L2)
    (ho : Outs w' w.heap.size v L) (hm : SMem w' w0.heap.size rb2 u2 V2' q2') (hc : Chg (footS rb2 V2) w w') (hf : ∀ k, footS rb2 V2' k → footS rb2 V2 k ∨ w.heap.size ≤ k) (ha : ∀ k, v.ownBlock = some k ∨ ownE L k → ¬ footS rb2 V2' k) :
    PcSt w0 w' rb1 s1 V1 q1 v1 L1 rb2 u2 V2' q2' v2 L2 ∧ (∀ k, ofE v L k → ¬ footS rb1 V1 k ∧ ¬ footS rb2 V2' k ∧ ¬ ofE v1 L1 k ∧ ¬ ofE v2 L2 k) := by
  have hz := h.bl.size
  have l1 : ∀ k, footS rb1 V1 k → k < w.heap.size := fun k hk => (h.m1.lt k hk).2
  have l2 : ∀ k, ofE v1 L1 k → k < w.heap.size := fun k hk => (h.o1.lt hk).2
  have l3 : ∀ k, ofE v2 L2 k → k < w.heap.size := fun k hk => (h.o2.lt hk).2
  refine ⟨⟨h.m1.chg hc h.a12, hm, h.o1.chg hc (fun k hk f => (h.a2o k f).1 hk), h.o2.chg hc (fun k hk f => (h.a2o k f).2 hk), ?_, h.a1o, ?_, h.aoo, ?_⟩, ?_⟩
  · intro k hk f
    rcases hf k f with x | x
    · exact h.a12 k hk x
    · have := l1 k hk; omega
  · intro k f
    rcases hf k f with x | x
    · exact h.a2o k x
    · exact ⟨fun hk => by have := l2 k hk; omega, fun hk => by have := l3 k hk; omega⟩
  · exact Below.chg h.bl hc hz (fun k hk => (h.m2.lt k hk).1)
  · intro k hk
    have := (ho.lt hk).1
    exact ⟨fun f => by have := l1 k f; omega, ha k hk, fun f => by have := l2 k f; omega, fun f => by have := l3 k f; omega⟩
/-- the events are appended to those of reader 2 -/
theorem PcSt.app2 {w0 w w' : World} {rb1 rb2 q1 q2 B : Nat} {s1 s2 : Strm.S} {V1 V2 : SV} {v1 v2 v v2' : Value} {L1 L2 L : List EvE} (h : PcSt w0 w rb1 s1 V1 q1 v1 L1 rb2 s2 V2 q2 v2 L2)
    (ho : Outs w B v L) (hB : w0.heap.size ≤ B) (hx : ∀ k, ofE v L k → ¬ footS rb1 V1 k ∧ ¬ footS rb2 V2 k ∧ ¬ ofE v1 L1 k ∧ ¬ ofE v2 L2 k)
    (hg : w.grownBy w' v2.ownBlock) (hr : Row w' w0.heap.size 11 v2' (L2.length + L.length) (L2.flatMap EvE.cells ++ L.flatMap EvE.cells)) (hoo : v2'.ownBlock = v2.ownBlock ∨ v2'.ownBlock = some w.heap.size) :
    PcSt w0 w' rb1 s1 V1 q1 v1 L1 rb2 s2 V2 q2 v2' (L2 ++ L) := by
  have hc : Chg (fun k => v2.ownBlock = some k) w w' := (Chg.refl _ _).grown hg (fun k _ hk => hk)
  have new : ∀ k, k < w.heap.size → ofE v2' (L2 ++ L) k → ofE v2 L2 k ∨ ofE v L k := fun k hlt hk => by
    rcases hk with x | x
    · rcases hoo with e | e
      · rw [e] at x; exact .inl (.inl x)
      · rw [e] at x; injection x with x; omega
    · rcases ownE_app.1 x with y | y
      · exact .inl (.inr y)
      · exact .inr (.inr y)
  have l1 : ∀ k, footS rb1 V1 k → k < w.heap.size := fun k hk => (h.m1.lt k hk).2
  have l2 : ∀ k, footS rb2 V2 k → k < w.heap.size := fun k hk => (h.m2.lt k hk).2
  have l3 : ∀ k, ofE v1 L1 k → k < w.heap.size := fun k hk => (h.o1.lt hk).2
  refine ⟨h.m1.chg hc (fun k f e => (h.a1o k f).2 (.inl e)), h.m2.chg hc (fun k f e => (h.a2o k f).2 (.inl e)), h.o1.chg hc (fun k hk e => h.aoo k hk (.inl e)), h.o2.grow (ho.mono hB) (fun k hk => (hx k (.inr hk)).2.2.2) hg hr hoo, h.a12, ?_, ?_, ?_, ?_⟩
  · intro k f
    refine ⟨(h.a1o k f).1, fun hk => ?_⟩
    rcases new k (l1 k f) hk with x | x
    · exact (h.a1o k f).2 x
    · exact (hx k x).1 f
  · intro k f
    refine ⟨(h.a2o k f).1, fun hk => ?_⟩
    rcases new k (l2 k f) hk with x | x
    · exact (h.a2o k f).2 x
    · exact (hx k x).2.1 f
  · intro k f hk
    rcases new k (l3 k f) hk with x | x
    · exact h.aoo k f x
    · exact (hx k x).2.2.1 f
  · exact Below.grown h.bl hg h.bl.size (fun k hk => (h.o2.row.lt k hk).1)
namespace Strm
theorem put_len (acc : List E1) (x : E1) : (put acc x).length ≤ acc.length + 1 := by
  unfold put
  split
  · rw [List.length_append, List.length_dropLast]; simp
  · simp
theorem foldl_len (l : List E1) : ∀ acc, (l.foldl put acc).length ≤ acc.length + l.length := by
  induction l with
  | nil => intro acc; simp
  | cons x l ih =>
    intro acc
    have h1 := put_len acc x
    have h2 := ih (put acc x)
    rw [List.foldl_cons, List.length_cons]
    omega
theorem whole_sum (es : List E1) : bodySum (whole es) = bodySum es := by
  have h := foldl_sum es []
  have h0 : bodySum [] = 0 := rfl
  unfold whole
  omega
theorem body_few {es : List E1} {T : Nat} (h : bodySum es ≤ T) (k : Nat) (y : Bs) (hy : E1.body y ∈ (es.take k).foldl put []) : y.length ≤ T := by
  have h1 := bodySum_one hy
  have h3 := whole_sum (es.take k)
  unfold whole at h3
  have h2 := take_sum es k
  have e : eData (.body y) = y := rfl
  rw [e] at h1
  omega
end Strm
theorem whole_sz {es : List Strm.E1} (hh : ∀ e ∈ es, (eHd e).fs.length ≤ 64) (hs : Strm.bodySum es ≤ 100000000) : ∀ e ∈ Strm.whole es, evSz e := by
  intro e he
  have h1 := Strm.whole_heads es [] (fun _ h => by cases h) hh e he
  have h2 := Strm.bodySum_one he
  have h3 := Strm.whole_sum es
  exact ⟨by omega, by omega⟩
theorem ends_sz (s : Strm.S) : (∀ e ∈ (endsP s).1, evSz e) ∧ (endsP s).1.length ≤ 1 := by
  unfold endsP
  split
  · exact ⟨(fun _ h => by cases h), Nat.zero_le _⟩
  · split
    · refine ⟨fun e h => ?_, Nat.le_refl _⟩
      rw [List.mem_singleton.1 h]
      exact ⟨Nat.zero_le _, Nat.zero_le _⟩
    · exact ⟨(fun _ h => by cases h), Nat.zero_le _⟩
theorem mem_x {L : List EvE} {es : List Strm.E1} (h : L.map EvE.x = es) (P : Strm.E1 → Prop) (hp : ∀ e ∈ es, P e) : ∀ e ∈ L, P e.x := fun e he => hp _ (by rw [← h]; exact List.mem_map_of_mem he)
end Go.Proofs.YtklmpadcfioefaaDoor
