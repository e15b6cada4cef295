/- Families of rows: every list in memory of its own. No condition. -/
import Derived.Test.YtabecgdaiakgiaaDoorApp2
import Derived.Test.YtabecgdaiakgiaaDoorChg
namespace Go.Proofs.YtabecgdaiakgiaaDoor
open Go.RowKit

/-- a list in memory: where it lies, how many elements, which cells -/
structure El where
  v : Value
  n : Nat
  xs : List Value
def own (l : List El) (k : Nat) : Prop := ∃ e ∈ l, e.v.ownBlock = some k
structure Fam (w : World) (base sz : Nat) (l : List El) : Prop where
  row : ∀ e ∈ l, Row w base sz e.v e.n e.xs
  apart : l.Pairwise fun e f => ∀ k, e.v.ownBlock = some k → f.v.ownBlock ≠ some k

section
variable {w w' : World} {base sz : Nat} {l : List El} {S : Nat → Prop}
theorem own_append {a b : List El} {k : Nat} : own (a ++ b) k ↔ own a k ∨ own b k := by
  unfold own
  constructor
  · rintro ⟨e, he, h⟩
    rcases List.mem_append.1 he with he | he
    · exact .inl ⟨e, he, h⟩
    · exact .inr ⟨e, he, h⟩
  · rintro (⟨e, he, h⟩ | ⟨e, he, h⟩)
    · exact ⟨e, List.mem_append_left _ he, h⟩
    · exact ⟨e, List.mem_append_right _ he, h⟩
theorem own_cons {e : El} {b : List El} {k : Nat} : own (e :: b) k ↔ e.v.ownBlock = some k ∨ own b k := by
  unfold own; simp
theorem Fam.nil (w : World) (base sz : Nat) : Fam w base sz [] := ⟨fun _ h => (List.not_mem_nil h).elim, List.Pairwise.nil⟩
theorem Fam.chg (h : Fam w base sz l) (hc : Chg S w w') (hs : ∀ k, own l k → ¬ S k) : Fam w' base sz l :=
  ⟨fun e he => (h.row e he).chg hc fun k hk => hs k ⟨e, he, hk⟩, h.apart⟩
theorem Fam.below (h : Fam w base sz l) (hb : Below w.heap.size w w') : Fam w' base sz l :=
  ⟨fun e he => (h.row e he).below_all hb, h.apart⟩
theorem Fam.lt (h : Fam w base sz l) {k : Nat} (hk : own l k) : base ≤ k ∧ k < w.heap.size := by
  obtain ⟨e, he, hk⟩ := hk
  exact (h.row e he).lt k hk
theorem Fam.push (h : Fam w base sz l) {e : El} (hr : Row w base sz e.v e.n e.xs) (ha : ∀ k, e.v.ownBlock = some k → ¬ own l k) : Fam w base sz (l ++ [e]) := by
  refine ⟨fun f hf => ?_, ?_⟩
  · rcases List.mem_append.1 hf with hf | hf
    · exact h.row f hf
    · rw [List.mem_singleton.1 hf]; exact hr
  · rw [List.pairwise_append]
    refine ⟨h.apart, List.pairwise_singleton _ _, fun f hf g hg k hk hk2 => ?_⟩
    rw [List.mem_singleton.1 hg] at hk2
    exact ha k hk2 ⟨f, hf, hk⟩
theorem Fam.apart_at (h : Fam w base sz l) {i j : Nat} {e f : El} (hi : l[i]? = some e) (hj : l[j]? = some f) (hne : i ≠ j) {k : Nat} (hk : e.v.ownBlock = some k) : f.v.ownBlock ≠ some k := by
  obtain ⟨hi1, rfl⟩ := List.getElem?_eq_some_iff.1 hi
  obtain ⟨hj1, rfl⟩ := List.getElem?_eq_some_iff.1 hj
  have hp := List.pairwise_iff_getElem.1 h.apart
  rcases Nat.lt_or_gt_of_ne hne with hlt | hlt
  · exact hp i j hi1 hj1 hlt k hk
  · intro e2; exact hp j i hj1 hi1 hlt k e2 hk
/-- the element at i is written over -/
theorem Fam.set (h : Fam w base sz l) {i : Nat} {e : El} (hi : l[i]? = some e) (hc : Chg (fun k => e.v.ownBlock = some k) w w') {xs : List Value} (hr : Row w' base sz e.v e.n xs) : Fam w' base sz (l.set i { e with xs := xs }) := by
  have hil : i < l.length := (List.getElem?_eq_some_iff.1 hi).1
  have he : l[i] = e := (List.getElem?_eq_some_iff.1 hi).2
  refine ⟨fun f hf => ?_, ?_⟩
  · obtain ⟨j, hj, rfl⟩ := List.getElem_of_mem hf
    rw [List.length_set] at hj
    rw [List.getElem_set]
    split
    · exact hr
    · rename_i hne
      refine (h.row _ (List.getElem_mem _)).chg hc fun k hk hk2 => ?_
      exact h.apart_at (List.getElem?_eq_getElem hj) hi (fun x => hne x.symm) hk hk2
  · rw [List.pairwise_iff_getElem]
    have hp := List.pairwise_iff_getElem.1 h.apart
    intro a b ha hb hab k
    rw [List.length_set] at ha hb
    have := hp a b ha hb hab k
    rw [List.getElem_set, List.getElem_set]
    split <;> split
    · rename_i e1 e2; omega
    · rename_i e1 _; subst e1; rw [he] at this; exact this
    · rename_i _ e2; subst e2; rw [he] at this; exact this
    · exact this
theorem own_set {i : Nat} {e : El} (hi : l[i]? = some e) (xs : List Value) {k : Nat} : own (l.set i { e with xs := xs }) k ↔ own l k := by
  have hil : i < l.length := (List.getElem?_eq_some_iff.1 hi).1
  have he : l[i] = e := (List.getElem?_eq_some_iff.1 hi).2
  constructor
  · rintro ⟨f, hf, hk⟩
    obtain ⟨j, hj, rfl⟩ := List.getElem_of_mem hf
    rw [List.length_set] at hj
    rw [List.getElem_set] at hk
    split at hk
    · exact ⟨e, by rw [← he]; exact List.getElem_mem _, hk⟩
    · exact ⟨_, List.getElem_mem _, hk⟩
  · rintro ⟨f, hf, hk⟩
    obtain ⟨j, hj, rfl⟩ := List.getElem_of_mem hf
    by_cases hij : i = j
    · subst hij
      refine ⟨{ e with xs := xs }, ?_, by rw [he] at hk; exact hk⟩
      rw [List.mem_iff_getElem?]
      exact ⟨i, by simp [hil]⟩
    · refine ⟨l[j], ?_, hk⟩
      rw [List.mem_iff_getElem?]
      exact ⟨j, by rw [List.getElem?_set_ne hij]; exact List.getElem?_eq_getElem hj⟩
theorem vals_set {i : Nat} {e : El} (hi : l[i]? = some e) (xs : List Value) : (l.set i { e with xs := xs }).map (·.v) = l.map (·.v) := by
  have he : l[i]'((List.getElem?_eq_some_iff.1 hi).1) = e := (List.getElem?_eq_some_iff.1 hi).2
  apply List.ext_getElem
  · simp
  · intro j h1 h2
    simp only [List.getElem_map, List.getElem_set]
    split
    · rename_i x; subst x; rw [he]
    · rfl
end
/-- two families and the lists that hold them, all apart -/
structure Two (w : World) (base : Nat) (la ll : List El) (va vl : Value) : Prop where
  fa : Fam w base 1 la
  fl : Fam w base 2 ll
  ca : Row w base 1 va la.length (la.map (·.v))
  cl : Row w base 1 vl ll.length (ll.map (·.v))
  x1 : ∀ k, own la k → ¬ own ll k
  x2 : ∀ k, va.ownBlock = some k → ¬ own la k ∧ ¬ own ll k ∧ vl.ownBlock ≠ some k
  x3 : ∀ k, vl.ownBlock = some k → ¬ own la k ∧ ¬ own ll k

section
variable {w w' : World} {base : Nat} {la ll : List El} {va vl : Value} {S : Nat → Prop}
theorem Two.nil (w : World) (base : Nat) : Two w base [] [] (.slice none 0 0) (.slice none 0 0) :=
  ⟨Fam.nil _ _ _, Fam.nil _ _ _, Row.nil _ _ _, Row.nil _ _ _, fun k ⟨e, he, _⟩ => (List.not_mem_nil he).elim, fun k hk => by simp [Value.ownBlock] at hk, fun k hk => by simp [Value.ownBlock] at hk⟩
theorem Two.below (h : Two w base la ll va vl) (hb : Below w.heap.size w w') : Two w' base la ll va vl :=
  ⟨h.fa.below hb, h.fl.below hb, h.ca.below_all hb, h.cl.below_all hb, h.x1, h.x2, h.x3⟩
/-- a list of bytes is written over -/
theorem Two.setA (h : Two w base la ll va vl) {i : Nat} {e : El} (hi : la[i]? = some e) (hc : Chg (fun k => e.v.ownBlock = some k) w w') {xs : List Value} (hr : Row w' base 1 e.v e.n xs) : Two w' base (la.set i { e with xs := xs }) ll va vl := by
  have hm : e ∈ la := List.mem_of_getElem? hi
  refine ⟨h.fa.set hi hc hr, h.fl.chg hc (fun k hk hk2 => h.x1 k ⟨e, hm, hk2⟩ hk), ?_, ?_, ?_, ?_, ?_⟩
  · rw [List.length_set, vals_set hi]
    exact h.ca.chg hc (fun k hk hk2 => (h.x2 k hk).1 ⟨e, hm, hk2⟩)
  · exact h.cl.chg hc (fun k hk hk2 => (h.x3 k hk).1 ⟨e, hm, hk2⟩)
  · intro k hk; exact h.x1 k ((own_set hi xs).1 hk)
  · intro k hk
    obtain ⟨a, b, c⟩ := h.x2 k hk
    exact ⟨fun x => a ((own_set hi xs).1 x), b, c⟩
  · intro k hk
    obtain ⟨a, b⟩ := h.x3 k hk
    exact ⟨fun x => a ((own_set hi xs).1 x), b⟩
/-- a list of fields is written over -/
theorem Two.setL (h : Two w base la ll va vl) {i : Nat} {e : El} (hi : ll[i]? = some e) (hc : Chg (fun k => e.v.ownBlock = some k) w w') {xs : List Value} (hr : Row w' base 2 e.v e.n xs) : Two w' base la (ll.set i { e with xs := xs }) va vl := by
  have hm : e ∈ ll := List.mem_of_getElem? hi
  refine ⟨h.fa.chg hc (fun k hk hk2 => h.x1 k hk ⟨e, hm, hk2⟩), h.fl.set hi hc hr, ?_, ?_, ?_, ?_, ?_⟩
  · exact h.ca.chg hc (fun k hk hk2 => (h.x2 k hk).2.1 ⟨e, hm, hk2⟩)
  · rw [List.length_set, vals_set hi]
    exact h.cl.chg hc (fun k hk hk2 => (h.x3 k hk).2 ⟨e, hm, hk2⟩)
  · intro k hk hk2; exact h.x1 k hk ((own_set hi xs).1 hk2)
  · intro k hk
    obtain ⟨a, b, c⟩ := h.x2 k hk
    exact ⟨a, fun x => b ((own_set hi xs).1 x), c⟩
  · intro k hk
    obtain ⟨a, b⟩ := h.x3 k hk
    exact ⟨a, fun x => b ((own_set hi xs).1 x)⟩
end

theorem Fam.join {w : World} {base sz : Nat} {a b : List El} (ha : Fam w base sz a) (hb : Fam w base sz b) (hx : ∀ k, own a k → ¬ own b k) : Fam w base sz (a ++ b) := by
  refine ⟨fun f hf => ?_, ?_⟩
  · rcases List.mem_append.1 hf with hf | hf
    · exact ha.row f hf
    · exact hb.row f hf
  · rw [List.pairwise_append]
    exact ⟨ha.apart, hb.apart, fun f hf g hg k hk hk2 => hx k ⟨f, hf, hk⟩ ⟨g, hg, hk2⟩⟩
/-- more lists of bytes are held -/
theorem Two.growA {w w' : World} {base : Nat} {la ll es : List El} {va vl va' : Value} (h : Two w base la ll va vl) (he : Fam w base 1 es) (y1 : ∀ k, own es k → ¬ own la k ∧ ¬ own ll k ∧ va.ownBlock ≠ some k ∧ vl.ownBlock ≠ some k)
    (hg : w.grownBy w' va.ownBlock) (hr : Row w' base 1 va' (la.length + es.length) (la.map (·.v) ++ es.map (·.v))) (ho : va'.ownBlock = va.ownBlock ∨ va'.ownBlock = some w.heap.size) : Two w' base (la ++ es) ll va' vl := by
  have hc : Chg (fun k => va.ownBlock = some k) w w' := (Chg.refl _ _).grown hg (fun k _ hk => hk)
  have hav : ∀ k, va'.ownBlock = some k → va.ownBlock = some k ∨ w.heap.size ≤ k := fun k hk => by
    rcases ho with e | e
    · rw [e] at hk; exact .inl hk
    · rw [e] at hk; injection hk with hk; exact .inr (by omega)
  refine ⟨?_, ?_, ?_, ?_, ?_, ?_, ?_⟩
  · refine (h.fa.join he (fun k hk hk2 => (y1 k hk2).1 hk)).chg hc (fun k hk hk2 => ?_)
    rcases own_append.1 hk with x | x
    · exact (h.x2 k hk2).1 x
    · exact (y1 k x).2.2.1 hk2
  · exact h.fl.chg hc (fun k hk hk2 => (h.x2 k hk2).2.1 hk)
  · rw [List.length_append, List.map_append]; exact hr
  · exact h.cl.chg hc (fun k hk hk2 => (h.x2 k hk2).2.2 hk)
  · intro k hk hk2
    rcases own_append.1 hk with x | x
    · exact h.x1 k x hk2
    · exact (y1 k x).2.1 hk2
  · intro k hk
    rcases hav k hk with x | x
    · obtain ⟨a, b, c⟩ := h.x2 k x
      refine ⟨fun y => ?_, b, c⟩
      rcases own_append.1 y with y | y
      · exact a y
      · exact (y1 k y).2.2.1 x
    · refine ⟨fun y => ?_, fun y => ?_, fun y => ?_⟩
      · rcases own_append.1 y with y | y
        · have := (h.fa.lt y).2; omega
        · have := (he.lt y).2; omega
      · have := (h.fl.lt y).2; omega
      · have := (h.cl.lt k y).2; omega
  · intro k hk
    obtain ⟨a, b⟩ := h.x3 k hk
    refine ⟨fun y => ?_, b⟩
    rcases own_append.1 y with y | y
    · exact a y
    · exact (y1 k y).2.2.2 hk
/-- more lists of fields are held -/
theorem Two.growL {w w' : World} {base : Nat} {la ll es : List El} {va vl vl' : Value} (h : Two w base la ll va vl) (he : Fam w base 2 es) (y1 : ∀ k, own es k → ¬ own la k ∧ ¬ own ll k ∧ va.ownBlock ≠ some k ∧ vl.ownBlock ≠ some k)
    (hg : w.grownBy w' vl.ownBlock) (hr : Row w' base 1 vl' (ll.length + es.length) (ll.map (·.v) ++ es.map (·.v))) (ho : vl'.ownBlock = vl.ownBlock ∨ vl'.ownBlock = some w.heap.size) : Two w' base la (ll ++ es) va vl' := by
  have hc : Chg (fun k => vl.ownBlock = some k) w w' := (Chg.refl _ _).grown hg (fun k _ hk => hk)
  have hav : ∀ k, vl'.ownBlock = some k → vl.ownBlock = some k ∨ w.heap.size ≤ k := fun k hk => by
    rcases ho with e | e
    · rw [e] at hk; exact .inl hk
    · rw [e] at hk; injection hk with hk; exact .inr (by omega)
  refine ⟨?_, ?_, ?_, ?_, ?_, ?_, ?_⟩
  · exact h.fa.chg hc (fun k hk hk2 => (h.x3 k hk2).1 hk)
  · refine (h.fl.join he (fun k hk hk2 => (y1 k hk2).2.1 hk)).chg hc (fun k hk hk2 => ?_)
    rcases own_append.1 hk with x | x
    · exact (h.x3 k hk2).2 x
    · exact (y1 k x).2.2.2 hk2
  · exact h.ca.chg hc (fun k hk hk2 => (h.x2 k hk).2.2 hk2)
  · rw [List.length_append, List.map_append]; exact hr
  · intro k hk hk2
    rcases own_append.1 hk2 with x | x
    · exact h.x1 k hk x
    · exact (y1 k x).1 hk
  · intro k hk
    obtain ⟨a, b, c⟩ := h.x2 k hk
    refine ⟨a, fun y => ?_, fun y => ?_⟩
    · rcases own_append.1 y with y | y
      · exact b y
      · exact (y1 k y).2.2.1 hk
    · rcases hav k y with x | x
      · exact c x
      · have := (h.ca.lt k hk).2; omega
  · intro k hk
    rcases hav k hk with x | x
    · obtain ⟨a, b⟩ := h.x3 k x
      refine ⟨a, fun y => ?_⟩
      rcases own_append.1 y with y | y
      · exact b y
      · exact (y1 k y).2.2.2 x
    · refine ⟨fun y => ?_, fun y => ?_⟩
      · have := (h.fa.lt y).2; omega
      · rcases own_append.1 y with y | y
        · have := (h.fl.lt y).2; omega
        · have := (he.lt y).2; omega
end Go.Proofs.YtabecgdaiakgiaaDoor
