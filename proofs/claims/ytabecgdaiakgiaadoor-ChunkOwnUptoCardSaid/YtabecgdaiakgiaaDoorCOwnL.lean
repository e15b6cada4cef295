/- What law ChunkOwn's lists are, in memory. No condition. -/
import Derived.Test.YtabecgdaiakgiaaDoorFam
import Derived.Test.YtabecgdaiakgiaaDoorMB
import Derived.Test.YtabecgdaiakgiaaDoorLite
namespace Go.Proofs.YtabecgdaiakgiaaDoor
open Go.RowKit

theorem infoSl : (Tryd.prog.info? 32).map (fun i => (i.zero, i.size, i.bytes)) = some (some (.slice none 0 0), 1, 24) := by kernel_rfl
theorem infoFs : (Tryd.prog.info? 22).map (fun i => (i.zero, i.size, i.bytes)) = some (some (.slice none 0 0), 1, 24) := by kernel_rfl
/-- the lists so far: k rounds -/
structure OwnSt (w wr : World) (k : Nat) (la ll : List El) (va vl : Value) : Prop where
  two : Two wr w.heap.size la ll va vl
  na : la.length = 4 * k
  nl : ll.length = 3 * k
  za : ∀ e ∈ la, e.n ≤ 4194304
  zl : ∀ e ∈ ll, e.n ≤ 64
  bl : Below w.heap.size w wr
def inB (v : Value) (a b : Nat) : Prop := ∀ k, v.ownBlock = some k → a ≤ k ∧ k < b
theorem Row.inB {w : World} {base sz n : Nat} {v : Value} {xs : List Value} (h : Row w base sz v n xs) : inB v base w.heap.size := h.lt
theorem fam4 {W : World} {base : Nat} {v1 v2 v3 v4 : Value} {n1 n2 n3 n4 a0 a1 a2 a3 a4 : Nat} {x1 x2 x3 x4 : List Value} (r1 : Row W base 1 v1 n1 x1) (r2 : Row W base 1 v2 n2 x2) (r3 : Row W base 1 v3 n3 x3) (r4 : Row W base 1 v4 n4 x4)
    (i1 : inB v1 a0 a1) (i2 : inB v2 a1 a2) (i3 : inB v3 a2 a3) (i4 : inB v4 a3 a4) (h1 : a0 ≤ a1) (h2 : a1 ≤ a2) (h3 : a2 ≤ a3) (h4 : a3 ≤ a4) : Fam W base 1 [⟨v1, n1, x1⟩, ⟨v2, n2, x2⟩, ⟨v3, n3, x3⟩, ⟨v4, n4, x4⟩] ∧ ∀ k, own [⟨v1, n1, x1⟩, ⟨v2, n2, x2⟩, ⟨v3, n3, x3⟩, ⟨v4, n4, x4⟩] k → v1.ownBlock = some k ∨ a1 ≤ k ∧ k < a4 ∧ a0 ≤ k := by
  refine ⟨⟨?_, ?_⟩, ?_⟩
  · intro e he
    simp only [List.mem_cons, List.not_mem_nil, or_false] at he
    rcases he with rfl | rfl | rfl | rfl
    · exact r1
    · exact r2
    · exact r3
    · exact r4
  · simp only [List.pairwise_cons, List.mem_cons, List.not_mem_nil, or_false, forall_eq_or_imp, forall_eq, List.Pairwise.nil, and_true]
    refine ⟨⟨fun k a b => ?_, fun k a b => ?_, fun k a b => ?_⟩, ⟨fun k a b => ?_, fun k a b => ?_⟩, fun k a b => ?_, fun e he => he.elim⟩
    · have := i1 k a; have := i2 k b; omega
    · have := i1 k a; have := i3 k b; omega
    · have := i1 k a; have := i4 k b; omega
    · have := i2 k a; have := i3 k b; omega
    · have := i2 k a; have := i4 k b; omega
    · have := i3 k a; have := i4 k b; omega
  · intro k hk
    simp only [own_cons] at hk
    rcases hk with x | x | x | x | ⟨e, he, _⟩
    · exact .inl x
    · have := i2 k x; exact .inr ⟨by omega, by omega, by omega⟩
    · have := i3 k x; exact .inr ⟨by omega, by omega, by omega⟩
    · have := i4 k x; exact .inr ⟨by omega, by omega, by omega⟩
    · cases he
theorem fam3 {W : World} {base : Nat} {v1 v2 v3 : Value} {n1 n2 n3 a0 a1 a2 a3 a4 : Nat} {x1 x2 x3 : List Value} (r1 : Row W base 2 v1 n1 x1) (r2 : Row W base 2 v2 n2 x2) (r3 : Row W base 2 v3 n3 x3)
    (i1 : inB v1 a0 a1) (i2 : inB v2 a2 a3) (i3 : inB v3 a3 a4) (h1 : a1 ≤ a2) (h2 : a2 ≤ a3) : Fam W base 2 [⟨v1, n1, x1⟩, ⟨v2, n2, x2⟩, ⟨v3, n3, x3⟩] ∧ ∀ k, own [⟨v1, n1, x1⟩, ⟨v2, n2, x2⟩, ⟨v3, n3, x3⟩] k → v1.ownBlock = some k ∨ a2 ≤ k ∧ k < a4 ∨ a2 ≤ k ∧ k < a3 := by
  refine ⟨⟨?_, ?_⟩, ?_⟩
  · intro e he
    simp only [List.mem_cons, List.not_mem_nil, or_false] at he
    rcases he with rfl | rfl | rfl
    · exact r1
    · exact r2
    · exact r3
  · simp only [List.pairwise_cons, List.mem_cons, List.not_mem_nil, or_false, forall_eq_or_imp, forall_eq, List.Pairwise.nil, and_true]
    refine ⟨⟨fun k a b => ?_, fun k a b => ?_⟩, fun k a b => ?_, fun e he => he.elim⟩
    · have := i1 k a; have := i2 k b; omega
    · have := i1 k a; have := i3 k b; omega
    · have := i2 k a; have := i3 k b; omega
  · intro k hk
    simp only [own_cons] at hk
    rcases hk with x | x | x | ⟨e, he, _⟩
    · exact .inl x
    · have := i2 k x; exact .inr (.inr ⟨by omega, by omega⟩)
    · have := i3 k x; exact .inr (.inl ⟨by omega, by omega⟩)
    · cases he
/-- a round's four lists of bytes -/
theorem OwnSt.bytes {w wr W W' : World} {k : Nat} {la ll : List El} {va vl va' : Value} (h : OwnSt w wr k la ll va vl) (hW : Below wr.heap.size wr W) {v1 v2 v3 v4 : Value} {n1 n2 n3 n4 a1 a2 a3 : Nat} {x1 x2 x3 x4 : List Value}
    (r1 : Row W wr.heap.size 1 v1 n1 x1) (r2 : Row W a1 1 v2 n2 x2) (r3 : Row W a2 1 v3 n3 x3) (r4 : Row W a3 1 v4 n4 x4) (i1 : inB v1 wr.heap.size a1) (i2 : inB v2 a1 a2) (i3 : inB v3 a2 a3) (h1 : wr.heap.size ≤ a1) (h2 : a1 ≤ a2) (h3 : a2 ≤ a3) (h4 : a3 ≤ W.heap.size)
    (hg : W.grownBy W' va.ownBlock) (hr : Row W' w.heap.size 1 va' (la.length + 4) (la.map (·.v) ++ [v1, v2, v3, v4])) (ho : va'.ownBlock = va.ownBlock ∨ va'.ownBlock = some W.heap.size) :
    Two W' w.heap.size (la ++ [⟨v1, n1, x1⟩, ⟨v2, n2, x2⟩, ⟨v3, n3, x3⟩, ⟨v4, n4, x4⟩]) ll va' vl ∧ (∀ k, own [⟨v1, n1, x1⟩, ⟨v2, n2, x2⟩, ⟨v3, n3, x3⟩, ⟨v4, n4, x4⟩] k → v1.ownBlock = some k ∨ a1 ≤ k ∧ k < W.heap.size) ∧ Below w.heap.size w W' := by
  have hb := h.bl.size
  obtain ⟨f, o⟩ := fam4 (base := w.heap.size) (a4 := W.heap.size) (r1.mono hb) (r2.mono (by omega)) (r3.mono (by omega)) (r4.mono (by omega)) i1 i2 i3 r4.inB h1 h2 h3 h4
  have two := h.two.below hW
  have lo : ∀ k, own [⟨v1, n1, x1⟩, ⟨v2, n2, x2⟩, ⟨v3, n3, x3⟩, ⟨v4, n4, x4⟩] k → wr.heap.size ≤ k := fun k hk => by
    rcases o k hk with x | x
    · exact (i1 k x).1
    · omega
  refine ⟨two.growA f (fun k hk => ⟨fun x => ?_, fun x => ?_, fun x => ?_, fun x => ?_⟩) hg hr ho, fun k hk => ?_, ?_⟩
  · have := (h.two.fa.lt x).2; have := lo k hk; omega
  · have := (h.two.fl.lt x).2; have := lo k hk; omega
  · have := (h.two.ca.lt k x).2; have := lo k hk; omega
  · have := (h.two.cl.lt k x).2; have := lo k hk; omega
  · rcases o k hk with x | x
    · exact .inl x
    · exact .inr ⟨x.1, x.2.1⟩
  · have hbW := h.bl.trans (hW.mono hb)
    exact hbW.grown hg (hbW.size) (fun q hq => (h.two.ca.lt q hq).1)
/-- a round's three lists of fields -/
theorem OwnSt.fields {w wr W' W2 W3 : World} {k : Nat} {la ll es : List El} {va vl va' vl' : Value} (h : OwnSt w wr k la ll va vl) {v1 vt l2 l3 : Value} {m1 m2 m3 a1 b0 a6 : Nat} {x1 x2 x3 : List Value} (two : Two W' w.heap.size (la ++ es) ll va' vl) (hes : ∀ q, own es q → v1.ownBlock = some q ∨ a1 ≤ q ∧ q < b0)
    (hva : va'.ownBlock = va.ownBlock ∨ ∃ c0, va'.ownBlock = some c0 ∧ a1 ≤ c0 ∧ c0 < W'.heap.size) (ha1 : a1 ≤ W'.heap.size) (hb0 : b0 ≤ W'.heap.size) (hbl : Below w.heap.size w W') (hW : Below W'.heap.size W' W2) (i1 : inB v1 wr.heap.size a1) (i2 : inB vt wr.heap.size a1) (hap : ∀ q, v1.ownBlock = some q → vt.ownBlock ≠ some q) (h1 : wr.heap.size ≤ a1)
    (r1 : Row W2 wr.heap.size 2 vt m1 x1) (r2 : Row W2 W'.heap.size 2 l2 m2 x2) (r3 : Row W2 a6 2 l3 m3 x3) (i3 : inB l2 W'.heap.size a6) (h6 : W'.heap.size ≤ a6)
    (hg : W2.grownBy W3 vl.ownBlock) (hr : Row W3 w.heap.size 1 vl' (ll.length + 3) (ll.map (·.v) ++ [vt, l2, l3])) (ho : vl'.ownBlock = vl.ownBlock ∨ vl'.ownBlock = some W2.heap.size)
    (e4 : es.length = 4) (ez : ∀ e ∈ es, e.n ≤ 4194304) (z1 : m1 ≤ 64) (z2 : m2 ≤ 64) (z3 : m3 ≤ 64) :
    OwnSt w W3 (k + 1) (la ++ es) (ll ++ [⟨vt, m1, x1⟩, ⟨l2, m2, x2⟩, ⟨l3, m3, x3⟩]) va' vl' := by
  have hb := h.bl.size
  have hb' := hbl.size
  obtain ⟨f, o⟩ := fam3 (base := w.heap.size) (a4 := W2.heap.size) (r1.mono hb) (r2.mono hb') (r3.mono (by omega)) i2 i3 r3.inB (by omega) h6
  have hi : ∀ q, own [⟨vt, m1, x1⟩, ⟨l2, m2, x2⟩, ⟨l3, m3, x3⟩] q → vt.ownBlock = some q ∧ wr.heap.size ≤ q ∧ q < a1 ∨ W'.heap.size ≤ q := fun q hq => by
    rcases o q hq with x | x | x
    · exact .inl ⟨x, i2 q x⟩
    · exact .inr x.1
    · exact .inr x.1
  have hgr := (two.below hW).growL f (fun q hq => ⟨fun x => ?_, fun x => ?_, fun x => ?_, fun x => ?_⟩) hg hr ho
  · refine ⟨hgr, by rw [List.length_append, h.na, e4]; omega, by rw [List.length_append, h.nl]; simp; omega, ?_, ?_, ?_⟩
    · intro e he
      rcases List.mem_append.1 he with he | he
      · exact h.za e he
      · exact ez e he
    · intro e he
      rcases List.mem_append.1 he with he | he
      · exact h.zl e he
      · simp only [List.mem_cons, List.not_mem_nil, or_false] at he
        rcases he with rfl | rfl | rfl
        · exact z1
        · exact z2
        · exact z3
    · have hbW := hbl.trans (hW.mono hb')
      exact hbW.grown hg hbW.size (fun q hq => (two.cl.lt q hq).1)
  · rcases own_append.1 x with x | x
    · have := (h.two.fa.lt x).2
      rcases hi q hq with y | y <;> omega
    · rcases hes q x with z | z
      · rcases hi q hq with y | y
        · exact hap q z y.1
        · have := i1 q z; omega
      · rcases hi q hq with y | y <;> omega
  · have := (h.two.fl.lt x).2
    rcases hi q hq with y | y <;> omega
  · rcases hva with e | ⟨c0, e, hc0⟩
    · rw [e] at x
      have := (h.two.ca.lt q x).2
      rcases hi q hq with y | y <;> omega
    · rw [e] at x
      injection x with x
      rcases hi q hq with y | y <;> omega
  · have := (h.two.cl.lt q x).2
    rcases hi q hq with y | y <;> omega
/-- the first j lists of bytes are full of their marks -/
def DoneA (la : List El) (j : Nat) : Prop := ∀ i, i < j → ∀ e, la[i]? = some e → ∀ r, r < e.n → e.xs[r]? = some (.int .u8 (3 * (i : Int)))
theorem OwnSt.putA {w wr : World} {k : Nat} {la ll : List El} {va vl : Value} (h : OwnSt w wr k la ll va vl) {j : Nat} {e : El} (hj : la[j]? = some e) {g o c : Nat} (he : e.v = .slice (some ⟨g, o, none⟩) e.n c) {r : Nat} (hr : r < e.n) (u : Value) :
    OwnSt w (wr.setCell ⟨g, o + r, none⟩ u) k (la.set j { e with xs := e.xs.set r u }) ll va vl := by
  have hm : e ∈ la := List.mem_of_getElem? hj
  have hrow := h.two.fa.row e hm
  have hl := hrow.1
  rw [he] at hrow
  have hs := hrow.set (j := r) (u := u) (by omega)
  have hlt := hrow.lt g rfl
  refine ⟨h.two.setA hj ?_ (by rw [he]; exact hs), by rw [List.length_set]; exact h.na, h.nl, ?_, h.zl, h.bl.setCell (p := ⟨g, o + r, none⟩) hlt.1 u⟩
  · rw [he]
    exact (show Chg (fun k => (Value.slice (some ⟨g, o, none⟩) e.n c).ownBlock = some k) wr wr from Chg.refl _ _).setCell (p := ⟨g, o + r, none⟩) (fun _ => rfl) u
  · intro f hf
    obtain ⟨i, hi, rfl⟩ := List.getElem_of_mem hf
    rw [List.length_set] at hi
    rw [List.getElem_set]
    split
    · exact h.za e hm
    · exact h.za _ (List.getElem_mem _)
theorem DoneA.set {la : List El} {j : Nat} (h : DoneA la j) (f : El) : DoneA (la.set j f) j := fun i hi e he => h i hi e (by rwa [List.getElem?_set_ne (by omega)] at he)
theorem DoneA.more {la : List El} {j : Nat} {e : El} (h : DoneA la j) (hj : la[j]? = some e) (hd : ∀ r, r < e.n → e.xs[r]? = some (.int .u8 (3 * (j : Int)))) : DoneA la (j + 1) := fun i hi f hf => by
  by_cases hij : i = j
  · subst hij
    rw [hj] at hf
    cases hf
    exact hd
  · exact h i (by omega) f hf
/-- where the list of lists holds list j -/
theorem OwnSt.atA {w wr : World} {k n : Nat} {la ll : List El} {vl : Value} {A : Option Addr} {c : Nat} (h : OwnSt w wr k la ll (.slice A n c) vl) {j : Nat} {e : El} (hj : la[j]? = some e) :
    ∃ g o, A = some ⟨g, o, none⟩ ∧ wr.cell? ⟨g, o + j, none⟩ = some e.v ∧ ∃ Ae ce, e.v = .slice Ae e.n ce ∧ (0 < e.n → ∃ ge oe, Ae = some ⟨ge, oe, none⟩ ∧ (∀ r, r < e.n → ∃ u, wr.cell? ⟨ge, oe + r, none⟩ = some u ∧ e.xs[r]? = some u) ∧ ∀ r, r < e.n → wr.frozen? ⟨ge, oe + r, none⟩ = false) := by
  have hm : e ∈ la := List.mem_of_getElem? hj
  have hjl : j < la.length := (List.getElem?_eq_some_iff.1 hj).1
  obtain ⟨A', c', e1, _, _, _, hrd⟩ := h.two.ca.form
  injection e1 with e1 _ _
  subst e1
  obtain ⟨g, o, e2, _, hc⟩ := hrd.2 (by omega)
  have hcell := hc j e.v (by rw [List.getElem?_map, hj]; rfl)
  have hrow := h.two.fa.row e hm
  obtain ⟨Ae, ce, e3, _, _, _, _⟩ := hrow.form
  refine ⟨g, o, e2, hcell, Ae, ce, e3, fun h0 => ?_⟩
  have hl := hrow.1
  rw [e3] at hrow
  obtain ⟨ge, oe, e4, _, _, hcl, hfr⟩ := hrow.own h0
  refine ⟨ge, oe, e4, fun r hr => ?_, fun r hr => hfr r (by omega)⟩
  have hrl : r < e.xs.length := by omega
  exact ⟨e.xs[r], hcl r _ (List.getElem?_eq_getElem hrl), List.getElem?_eq_getElem hrl⟩
/-- where the list of lists of fields holds list j -/
theorem OwnSt.atL {w wr : World} {k n : Nat} {la ll : List El} {va : Value} {A : Option Addr} {c : Nat} (h : OwnSt w wr k la ll va (.slice A n c)) {j : Nat} {e : El} (hj : ll[j]? = some e) :
    ∃ g o, A = some ⟨g, o, none⟩ ∧ wr.cell? ⟨g, o + j, none⟩ = some e.v ∧ ∃ Ae ce, e.v = .slice Ae e.n ce ∧ (0 < e.n → ∃ ge oe, Ae = some ⟨ge, oe, none⟩ ∧ (∀ r, r < e.n * 2 → ∃ u, wr.cell? ⟨ge, oe + r, none⟩ = some u ∧ e.xs[r]? = some u) ∧ ∀ r, r < e.n * 2 → wr.frozen? ⟨ge, oe + r, none⟩ = false) := by
  have hm : e ∈ ll := List.mem_of_getElem? hj
  have hjl : j < ll.length := (List.getElem?_eq_some_iff.1 hj).1
  obtain ⟨A', c', e1, _, _, _, hrd⟩ := h.two.cl.form
  injection e1 with e1 _ _
  subst e1
  obtain ⟨g, o, e2, _, hc⟩ := hrd.2 (by omega)
  have hcell := hc j e.v (by rw [List.getElem?_map, hj]; rfl)
  have hrow := h.two.fl.row e hm
  obtain ⟨Ae, ce, e3, _, _, _, _⟩ := hrow.form
  refine ⟨g, o, e2, hcell, Ae, ce, e3, fun h0 => ?_⟩
  have hl := hrow.1
  rw [e3] at hrow
  obtain ⟨ge, oe, e4, _, _, hcl, hfr⟩ := hrow.own h0
  refine ⟨ge, oe, e4, fun r hr => ?_, fun r hr => hfr r (by omega)⟩
  have hrl : r < e.xs.length := by omega
  exact ⟨e.xs[r], hcl r _ (List.getElem?_eq_getElem hrl), List.getElem?_eq_getElem hrl⟩
end Go.Proofs.YtabecgdaiakgiaaDoor
