/- Two families of rows of any sizes, written over and grown; their lists hold the first of them. No condition. -/
import Derived.Test.YtabecgdaiakgiaaDoorFam
import Derived.Test.YtabecgdaiakgiaaDoorMB
namespace Go.Proofs.YtabecgdaiakgiaaDoor
open Go.RowKit

structure Two2 (w : World) (base sa sl na nl : Nat) (la ll : List El) (va vl : Value) : Prop where
  fa : Fam w base sa la
  fl : Fam w base sl ll
  ca : Row w base 1 va na ((la.take na).map (·.v))
  cl : Row w base 1 vl nl ((ll.take nl).map (·.v))
  x1 : ∀ k, own la k → ¬ own ll k
  x2 : ∀ k, va.ownBlock = some k → ¬ own la k ∧ ¬ own ll k ∧ vl.ownBlock ≠ some k
  x3 : ∀ k, vl.ownBlock = some k → ¬ own la k ∧ ¬ own ll k
theorem take_set {n i : Nat} {l : List El} {e : El} (hi : l[i]? = some e) (xs : List Value) : ((l.set i { e with xs := xs }).take n).map (·.v) = (l.take n).map (·.v) := by
  rw [List.map_take, vals_set hi, ← List.map_take]
section
variable {w w' : World} {base sa sl na nl : Nat} {la ll : List El} {va vl : Value} {S : Nat → Prop}
theorem Two2.nil (w : World) (base sa sl : Nat) : Two2 w base sa sl 0 0 [] [] (.slice none 0 0) (.slice none 0 0) :=
  ⟨Fam.nil _ _ _, Fam.nil _ _ _, Row.nil _ _ _, Row.nil _ _ _, fun k ⟨e, he, _⟩ => (List.not_mem_nil he).elim, fun k hk => by simp [Value.ownBlock] at hk, fun k hk => by simp [Value.ownBlock] at hk⟩
theorem Two2.below (h : Two2 w base sa sl na nl la ll va vl) (hb : Below w.heap.size w w') : Two2 w' base sa sl na nl la ll va vl :=
  ⟨h.fa.below hb, h.fl.below hb, h.ca.below_all hb, h.cl.below_all hb, h.x1, h.x2, h.x3⟩
theorem Two2.chg (h : Two2 w base sa sl na nl la ll va vl) (hc : Chg S w w') (hs : ∀ k, S k → ¬ own la k ∧ ¬ own ll k ∧ va.ownBlock ≠ some k ∧ vl.ownBlock ≠ some k) : Two2 w' base sa sl na nl la ll va vl :=
  ⟨h.fa.chg hc (fun k hk hk2 => (hs k hk2).1 hk), h.fl.chg hc (fun k hk hk2 => (hs k hk2).2.1 hk), h.ca.chg hc (fun k hk hk2 => (hs k hk2).2.2.1 hk), h.cl.chg hc (fun k hk hk2 => (hs k hk2).2.2.2 hk), h.x1, h.x2, h.x3⟩
theorem Two2.setA (h : Two2 w base sa sl na nl la ll va vl) {i : Nat} {e : El} (hi : la[i]? = some e) (hc : Chg (fun k => e.v.ownBlock = some k) w w') {xs : List Value} (hr : Row w' base sa e.v e.n xs) : Two2 w' base sa sl na nl (la.set i { e with xs := xs }) ll va vl := by
  have hm : e ∈ la := List.mem_of_getElem? hi
  refine ⟨h.fa.set hi hc hr, h.fl.chg hc (fun k hk hk2 => h.x1 k ⟨e, hm, hk2⟩ hk), ?_, ?_, ?_, ?_, ?_⟩
  · rw [take_set hi]
    exact h.ca.chg hc (fun k hk hk2 => (h.x2 k hk).1 ⟨e, hm, hk2⟩)
  · exact h.cl.chg hc (fun k hk hk2 => (h.x3 k hk).1 ⟨e, hm, hk2⟩)
  · intro k hk; exact h.x1 k ((own_set hi xs).1 hk)
  · intro k hk
    obtain ⟨a, b, c⟩ := h.x2 k hk
    exact ⟨fun x => a ((own_set hi xs).1 x), b, c⟩
  · intro k hk
    obtain ⟨a, b⟩ := h.x3 k hk
    exact ⟨fun x => a ((own_set hi xs).1 x), b⟩
theorem Two2.setL (h : Two2 w base sa sl na nl la ll va vl) {i : Nat} {e : El} (hi : ll[i]? = some e) (hc : Chg (fun k => e.v.ownBlock = some k) w w') {xs : List Value} (hr : Row w' base sl e.v e.n xs) : Two2 w' base sa sl na nl la (ll.set i { e with xs := xs }) va vl := by
  have hm : e ∈ ll := List.mem_of_getElem? hi
  refine ⟨h.fa.chg hc (fun k hk hk2 => h.x1 k hk ⟨e, hm, hk2⟩), h.fl.set hi hc hr, ?_, ?_, ?_, ?_, ?_⟩
  · exact h.ca.chg hc (fun k hk hk2 => (h.x2 k hk).2.1 ⟨e, hm, hk2⟩)
  · rw [take_set hi]
    exact h.cl.chg hc (fun k hk hk2 => (h.x3 k hk).2 ⟨e, hm, hk2⟩)
  · intro k hk hk2; exact h.x1 k hk ((own_set hi xs).1 hk2)
  · intro k hk
    obtain ⟨a, b, c⟩ := h.x2 k hk
    exact ⟨a, fun x => b ((own_set hi xs).1 x), c⟩
  · intro k hk
    obtain ⟨a, b⟩ := h.x3 k hk
    exact ⟨a, fun x => b ((own_set hi xs).1 x)⟩
/-- no block of the families nor of their lists -/
def Away2 (la ll : List El) (va vl : Value) (k : Nat) : Prop := ¬ own la k ∧ ¬ own ll k ∧ va.ownBlock ≠ some k ∧ vl.ownBlock ≠ some k
theorem Two2.new (h : Two2 w base sa sl na nl la ll va vl) {k : Nat} (hk : w.heap.size ≤ k) : Away2 la ll va vl k :=
  ⟨fun x => by have := (h.fa.lt x).2; omega, fun x => by have := (h.fl.lt x).2; omega, fun x => by have := (h.ca.lt k x).2; omega, fun x => by have := (h.cl.lt k x).2; omega⟩
end
/-- more rows are held in the first list -/
theorem Two2.growA {w w' : World} {base sa sl nl : Nat} {la ll es : List El} {va vl va' : Value} (h : Two2 w base sa sl la.length nl la ll va vl) (he : Fam w base sa es) (y1 : ∀ k, own es k → Away2 la ll va vl k)
    (hg : w.grownBy w' va.ownBlock) (hr : Row w' base 1 va' (la.length + es.length) (la.map (·.v) ++ es.map (·.v))) (ho : va'.ownBlock = va.ownBlock ∨ va'.ownBlock = some w.heap.size) : Two2 w' base sa sl (la ++ es).length nl (la ++ es) ll va' vl := by
  have hc : Chg (fun k => va.ownBlock = some k) w w' := (Chg.refl _ _).grown hg (fun k _ hk => hk)
  have hav : ∀ k, va'.ownBlock = some k → va.ownBlock = some k ∨ w.heap.size ≤ k := fun k hk => by
    rcases ho with e | e
    · rw [e] at hk; exact .inl hk
    · rw [e] at hk; injection hk with hk; exact .inr (by omega)
  refine ⟨?_, ?_, ?_, ?_, ?_, ?_, ?_⟩
  · refine (h.fa.join he (fun k hk hk2 => (y1 k hk2).1 hk)).chg hc (fun k hk hk2 => ?_)
    rcases own_append.1 hk with x | x
    · exact (h.x2 k hk2).1 x
    · exact (y1 k x).2.2.1 hk2
  · exact h.fl.chg hc (fun k hk hk2 => (h.x2 k hk2).2.1 hk)
  · rw [List.take_length, List.length_append, List.map_append]; exact hr
  · exact h.cl.chg hc (fun k hk hk2 => (h.x2 k hk2).2.2 hk)
  · intro k hk hk2
    rcases own_append.1 hk with x | x
    · exact h.x1 k x hk2
    · exact (y1 k x).2.1 hk2
  · intro k hk
    rcases hav k hk with x | x
    · obtain ⟨a, b, c⟩ := h.x2 k x
      refine ⟨fun y => ?_, b, c⟩
      rcases own_append.1 y with y | y
      · exact a y
      · exact (y1 k y).2.2.1 x
    · refine ⟨fun y => ?_, fun y => ?_, fun y => ?_⟩
      · rcases own_append.1 y with y | y
        · have := (h.fa.lt y).2; omega
        · have := (he.lt y).2; omega
      · have := (h.fl.lt y).2; omega
      · have := (h.cl.lt k y).2; omega
  · intro k hk
    obtain ⟨a, b⟩ := h.x3 k hk
    refine ⟨fun y => ?_, b⟩
    rcases own_append.1 y with y | y
    · exact a y
    · exact (y1 k y).2.2.2 hk
/-- more rows are held in the second list -/
theorem Two2.growL {w w' : World} {base sa sl na : Nat} {la ll es : List El} {va vl vl' : Value} (h : Two2 w base sa sl na ll.length la ll va vl) (he : Fam w base sl es) (y1 : ∀ k, own es k → Away2 la ll va vl k)
    (hg : w.grownBy w' vl.ownBlock) (hr : Row w' base 1 vl' (ll.length + es.length) (ll.map (·.v) ++ es.map (·.v))) (ho : vl'.ownBlock = vl.ownBlock ∨ vl'.ownBlock = some w.heap.size) : Two2 w' base sa sl na (ll ++ es).length la (ll ++ es) va vl' := by
  have hc : Chg (fun k => vl.ownBlock = some k) w w' := (Chg.refl _ _).grown hg (fun k _ hk => hk)
  have hav : ∀ k, vl'.ownBlock = some k → vl.ownBlock = some k ∨ w.heap.size ≤ k := fun k hk => by
    rcases ho with e | e
    · rw [e] at hk; exact .inl hk
    · rw [e] at hk; injection hk with hk; exact .inr (by omega)
  refine ⟨?_, ?_, ?_, ?_, ?_, ?_, ?_⟩
  · exact h.fa.chg hc (fun k hk hk2 => (h.x3 k hk2).1 hk)
  · refine (h.fl.join he (fun k hk hk2 => (y1 k hk2).2.1 hk)).chg hc (fun k hk hk2 => ?_)
    rcases own_append.1 hk with x | x
    · exact (h.x3 k hk2).2 x
    · exact (y1 k x).2.2.2 hk2
  · exact h.ca.chg hc (fun k hk hk2 => (h.x2 k hk).2.2 hk2)
  · rw [List.take_length, List.length_append, List.map_append]; exact hr
  · intro k hk hk2
    rcases own_append.1 hk2 with x | x
    · exact h.x1 k hk x
    · exact (y1 k x).1 hk
  · intro k hk
    obtain ⟨a, b, c⟩ := h.x2 k hk
    refine ⟨a, fun y => ?_, fun y => ?_⟩
    · rcases own_append.1 y with y | y
      · exact b y
      · exact (y1 k y).2.2.1 hk
    · rcases hav k y with x | x
      · exact c x
      · have := (h.ca.lt k hk).2; omega
  · intro k hk
    rcases hav k hk with x | x
    · obtain ⟨a, b⟩ := h.x3 k x
      refine ⟨a, fun y => ?_⟩
      rcases own_append.1 y with y | y
      · exact b y
      · exact (y1 k y).2.2.2 x
    · refine ⟨fun y => ?_, fun y => ?_⟩
      · have := (h.fa.lt y).2; omega
      · rcases own_append.1 y with y | y
        · have := (h.fl.lt y).2; omega
        · have := (he.lt y).2; omega
/-- one row more, that no list holds -/
theorem Two2.pushA {w : World} {base sa sl na nl : Nat} {la ll : List El} {va vl : Value} (h : Two2 w base sa sl na nl la ll va vl) (hn : na ≤ la.length) {e : El} (hr : Row w base sa e.v e.n e.xs) (y : ∀ k, e.v.ownBlock = some k → Away2 la ll va vl k) : Two2 w base sa sl na nl (la ++ [e]) ll va vl := by
  have ho : ∀ k, own (la ++ [e]) k → own la k ∨ e.v.ownBlock = some k := fun k hk => by
    rcases own_append.1 hk with x | x
    · exact .inl x
    · rcases own_cons.1 x with x | ⟨_, x, _⟩
      · exact .inr x
      · cases x
  refine ⟨h.fa.push hr (fun k hk => (y k hk).1), h.fl, by rw [List.take_append_of_le_length hn]; exact h.ca, h.cl, fun k hk => ?_, fun k hk => ?_, fun k hk => ?_⟩
  · rcases ho k hk with x | x
    · exact h.x1 k x
    · exact (y k x).2.1
  · obtain ⟨a, b, c⟩ := h.x2 k hk
    refine ⟨fun x => ?_, b, c⟩
    rcases ho k x with x | x
    · exact a x
    · exact (y k x).2.2.1 hk
  · obtain ⟨a, b⟩ := h.x3 k hk
    refine ⟨fun x => ?_, b⟩
    rcases ho k x with x | x
    · exact a x
    · exact (y k x).2.2.2 hk
theorem Two2.pushL {w : World} {base sa sl na nl : Nat} {la ll : List El} {va vl : Value} (h : Two2 w base sa sl na nl la ll va vl) (hn : nl ≤ ll.length) {e : El} (hr : Row w base sl e.v e.n e.xs) (y : ∀ k, e.v.ownBlock = some k → Away2 la ll va vl k) : Two2 w base sa sl na nl la (ll ++ [e]) va vl := by
  have ho : ∀ k, own (ll ++ [e]) k → own ll k ∨ e.v.ownBlock = some k := fun k hk => by
    rcases own_append.1 hk with x | x
    · exact .inl x
    · rcases own_cons.1 x with x | ⟨_, x, _⟩
      · exact .inr x
      · cases x
  refine ⟨h.fa, h.fl.push hr (fun k hk => (y k hk).2.1), h.ca, by rw [List.take_append_of_le_length hn]; exact h.cl, fun k hk hk2 => ?_, fun k hk => ?_, fun k hk => ?_⟩
  · rcases ho k hk2 with x | x
    · exact h.x1 k hk x
    · exact (y k x).1 hk
  · obtain ⟨a, b, c⟩ := h.x2 k hk
    refine ⟨a, fun x => ?_, c⟩
    rcases ho k x with x | x
    · exact b x
    · exact (y k x).2.2.1 hk
  · obtain ⟨a, b⟩ := h.x3 k hk
    refine ⟨a, fun x => ?_⟩
    rcases ho k x with x | x
    · exact b x
    · exact (y k x).2.2.2 hk
/-- the families, what is below them as it was -/
structure St2 (w wr : World) (sa sl na nl Ba Bl : Nat) (la ll : List El) (va vl : Value) : Prop where
  two : Two2 wr w.heap.size sa sl na nl la ll va vl
  ha : na ≤ la.length
  hl : nl ≤ ll.length
  za : ∀ e ∈ la, e.n ≤ Ba
  zl : ∀ e ∈ ll, e.n ≤ Bl
  bl : Below w.heap.size w wr
section
variable {w wr W W1 W2 W3 : World} {sa sl na nl Ba Bl : Nat} {la ll lo mo : List El} {va vl vo vm vo' vm' v7 : Value} {ma ml : Nat → List Value} {j k : Nat} {e : El} {S : Nat → Prop}
theorem St2.below (h : St2 w wr sa sl na nl Ba Bl la ll va vl) (hb : Below wr.heap.size wr W) : St2 w W sa sl na nl Ba Bl la ll va vl :=
  ⟨h.two.below hb, h.ha, h.hl, h.za, h.zl, h.bl.trans (hb.mono h.bl.size)⟩
theorem St2.new (h : St2 w wr sa sl na nl Ba Bl la ll va vl) (hk : wr.heap.size ≤ k) : Away2 la ll va vl k := h.two.new hk
/-- row j of the first family is written over -/
theorem St2.setA (h : St2 w wr sa sl na nl Ba Bl la ll va vl) (hj : la[j]? = some e) (hc : Chg (fun k => e.v.ownBlock = some k) wr W) {xs : List Value} (hr : Row W w.heap.size sa e.v e.n xs) : St2 w W sa sl na nl Ba Bl (la.set j { e with xs := xs }) ll va vl := by
  have hm : e ∈ la := List.mem_of_getElem? hj
  refine ⟨h.two.setA hj hc hr, by rw [List.length_set]; exact h.ha, h.hl, ?_, h.zl, Below.chg h.bl hc h.bl.size (fun k hk => ((h.two.fa.row e hm).lt k hk).1)⟩
  intro f hf
  obtain ⟨i, hi, rfl⟩ := List.getElem_of_mem hf
  rw [List.length_set] at hi
  rw [List.getElem_set]
  split
  · exact h.za e hm
  · exact h.za _ (List.getElem_mem _)
theorem St2.setL (h : St2 w wr sa sl na nl Ba Bl la ll va vl) (hj : ll[j]? = some e) (hc : Chg (fun k => e.v.ownBlock = some k) wr W) {xs : List Value} (hr : Row W w.heap.size sl e.v e.n xs) : St2 w W sa sl na nl Ba Bl la (ll.set j { e with xs := xs }) va vl := by
  have hm : e ∈ ll := List.mem_of_getElem? hj
  refine ⟨h.two.setL hj hc hr, h.ha, by rw [List.length_set]; exact h.hl, h.za, ?_, Below.chg h.bl hc h.bl.size (fun k hk => ((h.two.fl.row e hm).lt k hk).1)⟩
  intro f hf
  obtain ⟨i, hi, rfl⟩ := List.getElem_of_mem hf
  rw [List.length_set] at hi
  rw [List.getElem_set]
  split
  · exact h.zl e hm
  · exact h.zl _ (List.getElem_mem _)
theorem set_same {l : List El} (hj : l[j]? = some e) : l.set j { e with xs := e.xs } = l := by
  obtain ⟨hx, rfl⟩ := List.getElem?_eq_some_iff.1 hj
  exact List.set_getElem_self hx
/-- where the lists hold row j -/
theorem St2.cellA {g o c n : Nat} (h : St2 w wr sa sl na nl Ba Bl la ll (.slice (some ⟨g, o, none⟩) n c) vl) (hj : la[j]? = some e) (hjn : j < na) : wr.cell? ⟨g, o + j, none⟩ = some e.v := by
  obtain ⟨A', c', e1, _, _, _, hrd⟩ := h.two.ca.form
  injection e1 with e1 _ _
  obtain ⟨g', o', e2, _, hc⟩ := hrd.2 (by omega)
  rw [← e1] at e2
  injection e2 with e2
  injection e2 with e2 e3 _
  subst e2 e3
  exact hc j e.v (by rw [List.getElem?_map, List.getElem?_take_of_lt hjn, hj]; rfl)
theorem St2.cellL {g o c n : Nat} (h : St2 w wr sa sl na nl Ba Bl la ll va (.slice (some ⟨g, o, none⟩) n c)) (hj : ll[j]? = some e) (hjn : j < nl) : wr.cell? ⟨g, o + j, none⟩ = some e.v := by
  obtain ⟨A', c', e1, _, _, _, hrd⟩ := h.two.cl.form
  injection e1 with e1 _ _
  obtain ⟨g', o', e2, _, hc⟩ := hrd.2 (by omega)
  rw [← e1] at e2
  injection e2 with e2
  injection e2 with e2 e3 _
  subst e2 e3
  exact hc j e.v (by rw [List.getElem?_map, List.getElem?_take_of_lt hjn, hj]; rfl)
theorem St2.ptrA (h : St2 w wr sa sl na nl Ba Bl la ll va vl) (hn : 0 < na) : ∃ g o c, va = .slice (some ⟨g, o, none⟩) na c := by
  obtain ⟨A', c', e1, _, _, _, hrd⟩ := h.two.ca.form
  obtain ⟨g', o', e2, _, hc⟩ := hrd.2 hn
  subst e2
  exact ⟨_, _, _, e1⟩
theorem St2.ptrL (h : St2 w wr sa sl na nl Ba Bl la ll va vl) (hn : 0 < nl) : ∃ g o c, vl = .slice (some ⟨g, o, none⟩) nl c := by
  obtain ⟨A', c', e1, _, _, _, hrd⟩ := h.two.cl.form
  obtain ⟨g', o', e2, _, hc⟩ := hrd.2 hn
  subst e2
  exact ⟨_, _, _, e1⟩
/-- j rows of the first family, each one longer by its mark, in a list vo -/
structure Long2 (w wr : World) (sa sl na nl Ba Bl : Nat) (ma : Nat → List Value) (la ll : List El) (va vl : Value) (j : Nat) (lo : List El) (vo : Value) : Prop where
  st : St2 w wr sa sl na nl Ba Bl la ll va vl
  len : lo.length = j
  c : Row wr w.heap.size 1 vo j (lo.map (·.v))
  el : ∀ (i : Nat) e f, la[i]? = some e → lo[i]? = some f → f.n = e.n + 1 ∧ f.xs = e.xs ++ ma i ∧ Row wr w.heap.size sa f.v f.n f.xs ∧ ∀ k, f.v.ownBlock = some k → e.v.ownBlock = some k ∨ Away2 la ll va vl k
  x : ∀ k, vo.ownBlock = some k → Away2 la ll va vl k ∧ ¬ own lo k
theorem Long2.nil (h : St2 w wr sa sl na nl Ba Bl la ll va vl) : Long2 w wr sa sl na nl Ba Bl ma la ll va vl 0 [] (.slice none 0 0) :=
  ⟨h, rfl, Row.nil _ _ _, fun i e f _ hf => by simp at hf, fun k hk => by simp [Value.ownBlock] at hk⟩
theorem Long2.low (h : Long2 w wr sa sl na nl Ba Bl ma la ll va vl j lo vo) (hj : j ≤ la.length) (hk : own lo k) : k < wr.heap.size := by
  obtain ⟨f, hf, hk⟩ := hk
  obtain ⟨i, hi, rfl⟩ := List.getElem_of_mem hf
  have hl := h.len
  obtain ⟨_, _, r, _⟩ := h.el i la[i] lo[i] (List.getElem?_eq_getElem (by omega)) (List.getElem?_eq_getElem hi)
  exact (r.lt k hk).2
theorem Long2.below (h : Long2 w wr sa sl na nl Ba Bl ma la ll va vl j lo vo) (hb : Below wr.heap.size wr W) : Long2 w W sa sl na nl Ba Bl ma la ll va vl j lo vo :=
  ⟨h.st.below hb, h.len, h.c.below_all hb, fun i e f he hf => by
    obtain ⟨a, b, c, d⟩ := h.el i e f he hf
    exact ⟨a, b, c.below_all hb, d⟩, h.x⟩
/-- the list that grows, behind row j's growth -/
theorem Long2.mid (h : Long2 w wr sa sl na nl Ba Bl ma la ll va vl j lo vo) (he : la[j]? = some e) (hb : Below wr.heap.size wr W) (hg : W.grownBy W1 e.v.ownBlock) : Row W1 w.heap.size 1 vo j (lo.map (·.v)) :=
  (h.c.below_all hb).chg ((show Chg (fun k => e.v.ownBlock = some k) W W from Chg.refl _ _).grown hg (fun k _ hk => hk)) (fun k hk hk2 => (h.x k hk).1.1 ⟨e, List.mem_of_getElem? he, hk2⟩)
/-- the families behind row j's growth -/
theorem Long2.one (h : Long2 w wr sa sl na nl Ba Bl ma la ll va vl j lo vo) (he : la[j]? = some e) (hb : Below wr.heap.size wr W) (hg : W.grownBy W1 e.v.ownBlock) (hro : Row W1 w.heap.size sa e.v e.n e.xs) : St2 w W1 sa sl na nl Ba Bl la ll va vl := by
  have t := (h.st.below hb).setA he ((show Chg (fun k => e.v.ownBlock = some k) W W from Chg.refl _ _).grown hg (fun k _ hk => hk)) hro
  rw [set_same he] at t
  exact t
/-- one round: row j grown by its mark, the outcome taken into the list -/
theorem Long2.step (h : Long2 w wr sa sl na nl Ba Bl ma la ll va vl j lo vo) (he : la[j]? = some e)
    (hb : Below wr.heap.size wr W) (hg : W.grownBy W1 e.v.ownBlock) (hro : Row W1 w.heap.size sa e.v e.n e.xs) (hr1 : Row W1 w.heap.size sa v7 (e.n + 1) (e.xs ++ ma j)) (ho1 : v7.ownBlock = e.v.ownBlock ∨ v7.ownBlock = some W.heap.size)
    (hb1 : Below W1.heap.size W1 W2) (hg2 : W2.grownBy W3 vo.ownBlock) (hr2 : Row W3 w.heap.size 1 vo' (j + 1) (lo.map (·.v) ++ [v7])) (ho2 : vo'.ownBlock = vo.ownBlock ∨ vo'.ownBlock = some W2.heap.size) :
    Long2 w W3 sa sl na nl Ba Bl ma la ll va vl (j + 1) (lo ++ [⟨v7, e.n + 1, e.xs ++ ma j⟩]) vo' := by
  have hm : e ∈ la := List.mem_of_getElem? he
  have hjl : j < la.length := (List.getElem?_eq_some_iff.1 he).1
  have hlen := h.len
  have s1 := hb.size
  have s2 := hg.size
  have s3 := hb1.size
  have c1 : Chg (fun k => e.v.ownBlock = some k) W W1 := (Chg.refl _ _).grown hg (fun k _ hk => hk)
  have c2 : Chg (fun k => vo.ownBlock = some k) W2 W3 := (Chg.refl _ _).grown hg2 (fun k _ hk => hk)
  have t1 := h.one he hb hg hro
  have t2 := t1.below hb1
  have t3 : St2 w W3 sa sl na nl Ba Bl la ll va vl := ⟨t2.two.chg c2 (fun k hk => (h.x k hk).1), t2.ha, t2.hl, t2.za, t2.zl, Below.chg t2.bl c2 t2.bl.size (fun q hq => (h.c.lt q hq).1)⟩
  have hw := h.st.bl.size
  have new7 : ∀ k, v7.ownBlock = some k → e.v.ownBlock = some k ∨ k = W.heap.size := fun k hk => by
    rcases ho1 with y | y
    · rw [y] at hk; exact .inl hk
    · rw [y] at hk; injection hk with hk; exact .inr hk.symm
  have voe : ∀ k, vo.ownBlock = some k → e.v.ownBlock ≠ some k := fun k hk hk2 => (h.x k hk).1.1 ⟨e, hm, hk2⟩
  have vo7 : ∀ k, vo.ownBlock = some k → v7.ownBlock ≠ some k := fun k hk hk2 => by
    rcases new7 k hk2 with y | y
    · exact voe k hk y
    · have := (h.c.lt k hk).2; omega
  refine ⟨t3, by rw [List.length_append, hlen]; rfl, by rw [List.map_append]; exact hr2, ?_, ?_⟩
  · intro i a f ha hf
    by_cases hij : i < j
    · rw [List.getElem?_append_left (by omega)] at hf
      obtain ⟨p1, p2, p3, p4⟩ := h.el i a f ha hf
      refine ⟨p1, p2, ?_, p4⟩
      have q1 := (p3.below_all hb).chg c1 (fun k hk hk2 => by
        rcases p4 k hk with y | y
        · exact (h.st.two.fa.apart_at ha he (by omega) y) hk2
        · exact y.1 ⟨e, hm, hk2⟩)
      exact (q1.below_all hb1).chg c2 (fun k hk hk2 => (h.x k hk2).2 ⟨f, List.mem_of_getElem? hf, hk⟩)
    · have hij2 : i = j := by
        have := (List.getElem?_eq_some_iff.1 hf).1
        rw [List.length_append, hlen] at this
        simp at this
        omega
      subst hij2
      rw [List.getElem?_append_right (by omega), hlen, Nat.sub_self] at hf
      cases hf
      rw [he] at ha
      cases ha
      refine ⟨rfl, rfl, (hr1.below_all hb1).chg c2 (fun k hk hk2 => vo7 k hk2 hk), fun k hk => ?_⟩
      rcases new7 k hk with y | y
      · exact .inl y
      · exact .inr (h.st.new (by omega))
  · intro k hk
    rcases ho2 with y | y
    · rw [y] at hk
      obtain ⟨a1, a5⟩ := h.x k hk
      refine ⟨a1, fun x => ?_⟩
      rcases own_append.1 x with y | y
      · exact a5 y
      · rcases own_cons.1 y with y | ⟨_, y, _⟩
        · exact vo7 k hk y
        · cases y
    · rw [y] at hk
      injection hk with hk
      refine ⟨h.st.new (by omega), fun x => ?_⟩
      rcases own_append.1 x with y | y
      · have := h.low (by omega) y; omega
      · rcases own_cons.1 y with y | ⟨_, y, _⟩
        · rcases new7 k y with z | z
          · have := ((h.st.two.fa.row e hm).lt k z).2; omega
          · have := (hr1.lt k y).2; omega
        · cases y
/-- no block of the lists so far -/
def Away3 (la ll lo : List El) (va vl vo : Value) (k : Nat) : Prop := Away2 la ll va vl k ∧ ¬ own lo k ∧ vo.ownBlock ≠ some k
theorem Long2.chg (h : Long2 w wr sa sl na nl Ba Bl ma la ll va vl j lo vo) (hc : Chg S wr W) (hs : ∀ k, S k → Away3 la ll lo va vl vo k) (hb : Below w.heap.size w W) : Long2 w W sa sl na nl Ba Bl ma la ll va vl j lo vo :=
  ⟨⟨h.st.two.chg hc (fun k hk => (hs k hk).1), h.st.ha, h.st.hl, h.st.za, h.st.zl, hb⟩, h.len, h.c.chg hc (fun k hk hk2 => (hs k hk2).2.2 hk), fun i e f he hf => by
    obtain ⟨a, b, c, d⟩ := h.el i e f he hf
    exact ⟨a, b, c.chg hc (fun k hk hk2 => (hs k hk2).2.1 ⟨f, List.mem_of_getElem? hf, hk⟩), d⟩, h.x⟩
/-- a row of the second family grown in its own block, and still reading as it did -/
theorem Long2.turnL (h : Long2 w wr sa sl na nl Ba Bl ma la ll va vl j lo vo) {i : Nat} (he : ll[i]? = some e) (hc : Chg (fun k => e.v.ownBlock = some k) wr W) (hr : Row W w.heap.size sl e.v e.n e.xs) : Long2 w W sa sl na nl Ba Bl ma la ll va vl j lo vo := by
  have hm : e ∈ ll := List.mem_of_getElem? he
  have t1 := h.st.setL he hc hr
  rw [set_same he] at t1
  refine ⟨t1, h.len, h.c.chg hc (fun k hk hk2 => (h.x k hk).1.2.1 ⟨e, hm, hk2⟩), fun q a f ha hf => ?_, h.x⟩
  obtain ⟨p1, p2, p3, p4⟩ := h.el q a f ha hf
  refine ⟨p1, p2, p3.chg hc (fun k hk hk2 => ?_), p4⟩
  rcases p4 k hk with y | y
  · exact h.st.two.x1 k ⟨a, List.mem_of_getElem? ha, y⟩ ⟨e, hm, hk2⟩
  · exact y.2.1 ⟨e, hm, hk2⟩
theorem Long2.new (h : Long2 w wr sa sl na nl Ba Bl ma la ll va vl j lo vo) (hj : j ≤ la.length) (hk : wr.heap.size ≤ k) : Away3 la ll lo va vl vo k :=
  ⟨h.st.new hk, fun x => by have := h.low hj x; omega, fun x => by have := (h.c.lt k x).2; omega⟩
/-- j rows of the second family, each one longer by its mark, in a list vm -/
structure More2 (w wr : World) (sa sl na nl Ba Bl : Nat) (ma ml : Nat → List Value) (la ll lo : List El) (va vl vo : Value) (j : Nat) (mo : List El) (vm : Value) : Prop where
  lg : Long2 w wr sa sl na nl Ba Bl ma la ll va vl na lo vo
  len : mo.length = j
  c : Row wr w.heap.size 1 vm j (mo.map (·.v))
  el : ∀ (i : Nat) e f, ll[i]? = some e → mo[i]? = some f → f.n = e.n + 1 ∧ f.xs = e.xs ++ ml i ∧ Row wr w.heap.size sl f.v f.n f.xs ∧ ∀ k, f.v.ownBlock = some k → e.v.ownBlock = some k ∨ Away3 la ll lo va vl vo k
  x : ∀ k, vm.ownBlock = some k → Away3 la ll lo va vl vo k ∧ ¬ own mo k
theorem More2.nil (h : Long2 w wr sa sl na nl Ba Bl ma la ll va vl na lo vo) : More2 w wr sa sl na nl Ba Bl ma ml la ll lo va vl vo 0 [] (.slice none 0 0) :=
  ⟨h, rfl, Row.nil _ _ _, fun i e f _ hf => by simp at hf, fun k hk => by simp [Value.ownBlock] at hk⟩
theorem More2.low (h : More2 w wr sa sl na nl Ba Bl ma ml la ll lo va vl vo j mo vm) (hj : j ≤ ll.length) (hk : own mo k) : k < wr.heap.size := by
  obtain ⟨f, hf, hk⟩ := hk
  obtain ⟨i, hi, rfl⟩ := List.getElem_of_mem hf
  have hl := h.len
  obtain ⟨_, _, r, _⟩ := h.el i ll[i] mo[i] (List.getElem?_eq_getElem (by omega)) (List.getElem?_eq_getElem hi)
  exact (r.lt k hk).2
theorem More2.below (h : More2 w wr sa sl na nl Ba Bl ma ml la ll lo va vl vo j mo vm) (hb : Below wr.heap.size wr W) : More2 w W sa sl na nl Ba Bl ma ml la ll lo va vl vo j mo vm :=
  ⟨h.lg.below hb, h.len, h.c.below_all hb, fun i e f he hf => by
    obtain ⟨a, b, c, d⟩ := h.el i e f he hf
    exact ⟨a, b, c.below_all hb, d⟩, h.x⟩
theorem More2.mid (h : More2 w wr sa sl na nl Ba Bl ma ml la ll lo va vl vo j mo vm) (he : ll[j]? = some e) (hb : Below wr.heap.size wr W) (hg : W.grownBy W1 e.v.ownBlock) : Row W1 w.heap.size 1 vm j (mo.map (·.v)) :=
  (h.c.below_all hb).chg ((show Chg (fun k => e.v.ownBlock = some k) W W from Chg.refl _ _).grown hg (fun k _ hk => hk)) (fun k hk hk2 => (h.x k hk).1.1.2.1 ⟨e, List.mem_of_getElem? he, hk2⟩)
theorem More2.one (h : More2 w wr sa sl na nl Ba Bl ma ml la ll lo va vl vo j mo vm) (he : ll[j]? = some e) (hb : Below wr.heap.size wr W) (hg : W.grownBy W1 e.v.ownBlock) (hro : Row W1 w.heap.size sl e.v e.n e.xs) : Long2 w W1 sa sl na nl Ba Bl ma la ll va vl na lo vo :=
  (h.lg.below hb).turnL he ((show Chg (fun k => e.v.ownBlock = some k) W W from Chg.refl _ _).grown hg (fun k _ hk => hk)) hro
theorem More2.step (h : More2 w wr sa sl na nl Ba Bl ma ml la ll lo va vl vo j mo vm) (he : ll[j]? = some e)
    (hb : Below wr.heap.size wr W) (hg : W.grownBy W1 e.v.ownBlock) (hro : Row W1 w.heap.size sl e.v e.n e.xs) (hr1 : Row W1 w.heap.size sl v7 (e.n + 1) (e.xs ++ ml j)) (ho1 : v7.ownBlock = e.v.ownBlock ∨ v7.ownBlock = some W.heap.size)
    (hb1 : Below W1.heap.size W1 W2) (hg2 : W2.grownBy W3 vm.ownBlock) (hr2 : Row W3 w.heap.size 1 vm' (j + 1) (mo.map (·.v) ++ [v7])) (ho2 : vm'.ownBlock = vm.ownBlock ∨ vm'.ownBlock = some W2.heap.size) :
    More2 w W3 sa sl na nl Ba Bl ma ml la ll lo va vl vo (j + 1) (mo ++ [⟨v7, e.n + 1, e.xs ++ ml j⟩]) vm' := by
  have hm : e ∈ ll := List.mem_of_getElem? he
  have hjl : j < ll.length := (List.getElem?_eq_some_iff.1 he).1
  have h12 := h.lg.st.ha
  have hlen := h.len
  have s1 := hb.size
  have s2 := hg.size
  have s3 := hb1.size
  have c1 : Chg (fun k => e.v.ownBlock = some k) W W1 := (Chg.refl _ _).grown hg (fun k _ hk => hk)
  have c2 : Chg (fun k => vm.ownBlock = some k) W2 W3 := (Chg.refl _ _).grown hg2 (fun k _ hk => hk)
  have hw := h.lg.st.bl.size
  have l1 := h.one he hb hg hro
  have l2 := l1.below hb1
  have l3 := l2.chg c2 (fun k hk => (h.x k hk).1) (Below.chg l2.st.bl c2 l2.st.bl.size (fun q hq => (h.c.lt q hq).1))
  have new7 : ∀ k, v7.ownBlock = some k → e.v.ownBlock = some k ∨ k = W.heap.size := fun k hk => by
    rcases ho1 with y | y
    · rw [y] at hk; exact .inl hk
    · rw [y] at hk; injection hk with hk; exact .inr hk.symm
  have voe : ∀ k, vm.ownBlock = some k → e.v.ownBlock ≠ some k := fun k hk hk2 => (h.x k hk).1.1.2.1 ⟨e, hm, hk2⟩
  have vo7 : ∀ k, vm.ownBlock = some k → v7.ownBlock ≠ some k := fun k hk hk2 => by
    rcases new7 k hk2 with y | y
    · exact voe k hk y
    · have := (h.c.lt k hk).2; omega
  refine ⟨l3, by rw [List.length_append, hlen]; rfl, by rw [List.map_append]; exact hr2, ?_, ?_⟩
  · intro i a f ha hf
    by_cases hij : i < j
    · rw [List.getElem?_append_left (by omega)] at hf
      obtain ⟨p1, p2, p3, p4⟩ := h.el i a f ha hf
      refine ⟨p1, p2, ?_, p4⟩
      have q1 := (p3.below_all hb).chg c1 (fun k hk hk2 => by
        rcases p4 k hk with y | y
        · exact (h.lg.st.two.fl.apart_at ha he (by omega) y) hk2
        · exact y.1.2.1 ⟨e, hm, hk2⟩)
      exact (q1.below_all hb1).chg c2 (fun k hk hk2 => (h.x k hk2).2 ⟨f, List.mem_of_getElem? hf, hk⟩)
    · have hij2 : i = j := by
        have := (List.getElem?_eq_some_iff.1 hf).1
        rw [List.length_append, hlen] at this
        simp at this
        omega
      subst hij2
      rw [List.getElem?_append_right (by omega), hlen, Nat.sub_self] at hf
      cases hf
      rw [he] at ha
      cases ha
      refine ⟨rfl, rfl, (hr1.below_all hb1).chg c2 (fun k hk hk2 => vo7 k hk2 hk), fun k hk => ?_⟩
      rcases new7 k hk with y | y
      · exact .inl y
      · exact .inr (h.lg.new h12 (by omega))
  · intro k hk
    rcases ho2 with y | y
    · rw [y] at hk
      obtain ⟨a1, a2⟩ := h.x k hk
      refine ⟨a1, fun x => ?_⟩
      rcases own_append.1 x with y | y
      · exact a2 y
      · rcases own_cons.1 y with y | ⟨_, y, _⟩
        · exact vo7 k hk y
        · cases y
    · rw [y] at hk
      injection hk with hk
      refine ⟨h.lg.new h12 (by omega), fun x => ?_⟩
      rcases own_append.1 x with y | y
      · have := h.low (by omega) y; omega
      · rcases own_cons.1 y with y | ⟨_, y, _⟩
        · rcases new7 k y with z | z
          · have := ((h.lg.st.two.fl.row e hm).lt k z).2; omega
          · have := (hr1.lt k y).2; omega
        · cases y
/-- what a list of rows holds at j -/
theorem Row.has {base m : Nat} {g o c : Nat} {l : List El} {f : El} (h : Row w base 1 (.slice (some ⟨g, o, none⟩) m c) m (l.map (·.v))) (hf : l[j]? = some f) : w.cell? ⟨g, o + j, none⟩ = some f.v := by
  have hx : (l.map (·.v))[j]? = some f.v := by rw [List.getElem?_map, hf]; rfl
  have hl := h.1
  have hj : j < m := by
    have := (List.getElem?_eq_some_iff.1 hx).1
    omega
  obtain ⟨g', o', e1, _, _, hc, _⟩ := h.own (by omega)
  injection e1 with e1
  injection e1 with e2 e3 _
  subst e2 e3
  exact hc j _ hx
/-- what is looked at in the end: row j and the one that it was grown to -/
theorem Long2.check (h : Long2 w wr sa sl na nl Ba Bl ma la ll va vl na lo vo) {gc oc cv gk ok co : Nat} (hva : va = .slice (some ⟨gc, oc, none⟩) na cv) (hvo : vo = .slice (some ⟨gk, ok, none⟩) na co) (he : la[j]? = some e) (hj : j < na) (hs : 0 < sa) (hm : (ma j).length = sa) :
    ∃ gf of cf Ae ce, wr.cell? ⟨gc, oc + j, none⟩ = some (.slice Ae e.n ce) ∧ wr.cell? ⟨gk, ok + j, none⟩ = some (.slice (some ⟨gf, of, none⟩) (e.n + 1) cf) ∧
      (0 < e.n → ∃ ge oe, Ae = some ⟨ge, oe, none⟩ ∧ ∀ r u, e.xs[r]? = some u → wr.cell? ⟨ge, oe + r, none⟩ = some u) ∧ (∀ r u, e.xs[r]? = some u → wr.cell? ⟨gf, of + r, none⟩ = some u) ∧ (∀ r u, (ma j)[r]? = some u → wr.cell? ⟨gf, of + (e.n * sa + r), none⟩ = some u) := by
  have hll := h.len
  have hf : lo[j]? = some (lo[j]'(by omega)) := List.getElem?_eq_getElem (by omega)
  generalize lo[j]'(by omega) = f at hf
  obtain ⟨p1, p2, p3, _⟩ := h.el j e f he hf
  have hrow := h.st.two.fa.row e (List.mem_of_getElem? he)
  obtain ⟨Ae, ce, e3, _, _, _, _⟩ := hrow.form
  obtain ⟨Af, cf, f3, _, _, _, _⟩ := p3.form
  have hcc := (hva ▸ h.st).cellA he hj
  have hck := (hvo ▸ h.c).has hf
  rw [e3] at hrow hcc
  rw [f3, p1] at hck
  rw [f3, p1, p2] at p3
  obtain ⟨gf, of, rfl, _, _, hcf, _⟩ := p3.own (by omega)
  have hxl := hrow.1
  refine ⟨gf, of, cf, Ae, ce, hcc, hck, fun h0 => ?_, fun r u hu => ?_, fun r u hu => ?_⟩
  · obtain ⟨ge, oe, rfl, _, _, hce, _⟩ := hrow.own h0
    exact ⟨ge, oe, rfl, hce⟩
  · exact hcf r u (by rw [List.getElem?_append_left (List.getElem?_eq_some_iff.1 hu).1]; exact hu)
  · exact hcf (e.n * sa + r) u (by rw [List.getElem?_append_right (by omega), hxl, Nat.add_sub_cancel_left]; exact hu)
theorem More2.check (h : More2 w wr sa sl na nl Ba Bl ma ml la ll lo va vl vo nl mo vm) {gc oc cv gk ok co : Nat} (hvl : vl = .slice (some ⟨gc, oc, none⟩) nl cv) (hvm : vm = .slice (some ⟨gk, ok, none⟩) nl co) (he : ll[j]? = some e) (hj : j < nl) (hs : 0 < sl) (hm : (ml j).length = sl) :
    ∃ gf of cf Ae ce, wr.cell? ⟨gc, oc + j, none⟩ = some (.slice Ae e.n ce) ∧ wr.cell? ⟨gk, ok + j, none⟩ = some (.slice (some ⟨gf, of, none⟩) (e.n + 1) cf) ∧
      (0 < e.n → ∃ ge oe, Ae = some ⟨ge, oe, none⟩ ∧ ∀ r u, e.xs[r]? = some u → wr.cell? ⟨ge, oe + r, none⟩ = some u) ∧ (∀ r u, e.xs[r]? = some u → wr.cell? ⟨gf, of + r, none⟩ = some u) ∧ (∀ r u, (ml j)[r]? = some u → wr.cell? ⟨gf, of + (e.n * sl + r), none⟩ = some u) := by
  have hll := h.len
  have hf : mo[j]? = some (mo[j]'(by omega)) := List.getElem?_eq_getElem (by omega)
  generalize mo[j]'(by omega) = f at hf
  obtain ⟨p1, p2, p3, _⟩ := h.el j e f he hf
  have hrow := h.lg.st.two.fl.row e (List.mem_of_getElem? he)
  obtain ⟨Ae, ce, e3, _, _, _, _⟩ := hrow.form
  obtain ⟨Af, cf, f3, _, _, _, _⟩ := p3.form
  have hcc := (hvl ▸ h.lg.st).cellL he hj
  have hck := (hvm ▸ h.c).has hf
  rw [e3] at hrow hcc
  rw [f3, p1] at hck
  rw [f3, p1, p2] at p3
  obtain ⟨gf, of, rfl, _, _, hcf, _⟩ := p3.own (by omega)
  have hxl := hrow.1
  refine ⟨gf, of, cf, Ae, ce, hcc, hck, fun h0 => ?_, fun r u hu => ?_, fun r u hu => ?_⟩
  · obtain ⟨ge, oe, rfl, _, _, hce, _⟩ := hrow.own h0
    exact ⟨ge, oe, rfl, hce⟩
  · exact hcf r u (by rw [List.getElem?_append_left (List.getElem?_eq_some_iff.1 hu).1]; exact hu)
  · exact hcf (e.n * sl + r) u (by rw [List.getElem?_append_right (by omega), hxl, Nat.add_sub_cancel_left]; exact hu)
end
end Go.Proofs.YtabecgdaiakgiaaDoor
