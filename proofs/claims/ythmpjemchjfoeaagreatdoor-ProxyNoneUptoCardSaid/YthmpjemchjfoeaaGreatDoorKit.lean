/-
  Words for memory and laws on append over any row that a call owns (whatever its block's element type, its place in the block and its marks). No condition.
-/
import Derived.Test.YthmpjemchjfoeaaGreatDoorRows
import Derived.WalkKit
import Derived.WalkSpells
import Derived.WalkLawsBesides
import Derived.Lib.AppendStr
import Derived.LoopN
import Derived.Lib.Hide
import Derived.Deep.Cut
import Derived.Deep.DeepMust
import Derived.Deep.QuietTactic
import Derived.BigQuiet
import Derived.ScopeJumps
namespace Go.Proofs.YthmpjemchjfoeaaGreatDoor
open Go.RowKit

/-- n elements of sz cells each lie at A, all below block B: the cells xs. -/
def Rd (w : World) (B sz : Nat) (A : Option Addr) (n : Nat) (xs : List Value) : Prop :=
  xs.length = n * sz ∧ (0 < n → ∃ g o, A = some ⟨g, o, none⟩ ∧ g < B ∧ ∀ j u, xs[j]? = some u → w.cell? ⟨g, o + j, none⟩ = some u)

theorem cell_lt {w : World} {g o : Nat} {u : Value} (h : w.cell? ⟨g, o, none⟩ = some u) : g < w.heap.size := World.block_lt_of_cell? w _ h

section
variable {w w' : World} {B B' sz n : Nat} {A : Option Addr} {xs : List Value}
theorem Rd.nil (w : World) (B sz : Nat) (A : Option Addr) : Rd w B sz A 0 [] := ⟨by simp, fun h => absurd h (by omega)⟩
theorem Rd.keep (h : Rd w B sz A n xs) (hk : ∀ g o, g < B → w'.cell? ⟨g, o, none⟩ = w.cell? ⟨g, o, none⟩) : Rd w' B sz A n xs :=
  ⟨h.1, fun hn => by
    obtain ⟨g, o, e, hb, hc⟩ := h.2 hn
    exact ⟨g, o, e, hb, fun j u hu => (hk _ _ hb).trans (hc j u hu)⟩⟩
theorem Rd.more (h : Rd w B sz A n xs) (hB : B ≤ B') : Rd w B' sz A n xs :=
  ⟨h.1, fun hn => by
    obtain ⟨g, o, e, hb, hc⟩ := h.2 hn
    exact ⟨g, o, e, by omega, hc⟩⟩
theorem Rd.below (h : Rd w B sz A n xs) (hb : Below B w w') : Rd w' B sz A n xs := h.keep fun g o hg => hb.cell (p := ⟨g, o, none⟩) hg
theorem Rd.drew (h : Rd w B sz A n xs) : Rd w.drew B sz A n xs := h
theorem Rd.drewN (h : Rd w B sz A n xs) (k : Nat) : Rd (w.drewN k) B sz A n xs := h
theorem Rd.alloc (h : Rd w B sz A n xs) (hB : B ≤ w.heap.size) (o : Obj) : Rd (w.alloc o) B sz A n xs := h.keep fun g q hg => World.cell?_alloc_lt w o ⟨g, q, none⟩ (by show g < _; omega)
theorem Rd.setCell (h : Rd w B sz A n xs) {p : Addr} (hB : B ≤ p.block) (u : Value) : Rd (w.setCell p u) B sz A n xs :=
  h.keep fun g o hg => World.cell?_setCell_other w p ⟨g, o, none⟩ u (fun e => by subst e; exact absurd hg (by show ¬ g < B; simp at hB; omega))
theorem Rd.grown (h : Rd w B sz A n xs) {row : Option Nat} (hg : w.grownBy w' row) (hB : B ≤ w.heap.size) (hr : ∀ g, row = some g → B ≤ g) : Rd w' B sz A n xs :=
  h.keep fun g o hlt => World.cell?_of_block (w := w) (a := ⟨g, o, none⟩) (hg.block g (by omega) (fun e => by have := hr _ e.symm; omega))
theorem Rd.shift (h : Rd w B sz A n xs) {k cap : Nat} (hk : k ≤ n) (hc : n ≤ cap) :
    Rd w B sz (if cap = k then A else A.map (·.add (k * sz))) (n - k) (xs.drop (k * sz)) := by
  refine ⟨by rw [List.length_drop, h.1, Nat.sub_mul], fun hn => ?_⟩
  obtain ⟨g, o, rfl, hb, hcell⟩ := h.2 (by omega)
  rw [if_neg (by omega)]
  refine ⟨g, o + k * sz, by simp [Addr.add_lit], hb, fun j u hu => ?_⟩
  rw [Nat.add_assoc]
  exact hcell _ u (by rw [← hu, List.getElem?_drop])
theorem Rd.pre (h : Rd w B sz A n xs) {k : Nat} (hk : k ≤ n) : Rd w B sz A k (xs.take (k * sz)) := by
  refine ⟨by rw [List.length_take, h.1]; exact Nat.min_eq_left (Nat.mul_le_mul_right _ hk), fun hn => ?_⟩
  obtain ⟨g, o, rfl, hb, hcell⟩ := h.2 (by omega)
  exact ⟨g, o, rfl, hb, fun j u hu => hcell j u (by
    rw [List.getElem?_take] at hu
    split at hu
    · exact hu
    · cases hu)⟩
end

/-- v's n elements are the cells xs; its block, one of base on, is the call's own as far as v's capacity goes: no cell there is frozen. -/
def Row (w : World) (base sz : Nat) (v : Value) (n : Nat) (xs : List Value) : Prop :=
  xs.length = n * sz ∧
  ((v = .slice none 0 0 ∧ n = 0) ∨
   ∃ g o cap cur t fr, v = .slice (some ⟨g, o, none⟩) n cap ∧ base ≤ g ∧ w.heap[g]? = some (.cells cur t fr) ∧ n ≤ cap ∧ cap ≤ maxLen ∧ o + cap * sz ≤ cur.size ∧
     (∀ j, o ≤ j → j < o + cap * sz → ¬ (fr.1 ≤ j ∧ j < fr.2)) ∧ (cur.toList.drop o).take (n * sz) = xs)

section
variable {w w' : World} {base base' sz n : Nat} {v : Value} {xs : List Value}
theorem Row.nil (w : World) (base sz : Nat) : Row w base sz (.slice none 0 0) 0 [] := ⟨by simp, .inl ⟨rfl, rfl⟩⟩
theorem Row.of_own {e : TypeId} (h : w.ownsRow base e sz v n xs) : Row w base sz v n xs := by
  refine ⟨h.1, ?_⟩
  rcases h.2 with ⟨h1, h2⟩ | ⟨g, cap, cur, rfl, hb, hg, hnc, hm, hs, ht⟩
  · exact .inl ⟨h1, h2⟩
  · exact .inr ⟨g, 0, cap, cur, e, (0, 0), rfl, hb, hg, hnc, hm, by omega, by intro j _ _; simp, by simpa using ht⟩
theorem Row.lt (h : Row w base sz v n xs) : ∀ k, v.ownBlock = some k → base ≤ k ∧ k < w.heap.size := by
  intro k hk
  rcases h.2 with ⟨rfl, _⟩ | ⟨g, o, cap, cur, t, fr, rfl, hb, hg, _⟩
  · simp [Value.ownBlock] at hk
  · simp [Value.ownBlock] at hk
    subst hk
    exact ⟨hb, (Array.getElem?_eq_some_iff.1 hg).1⟩
theorem Row.block_eq (h : Row w base sz v n xs) (hk : ∀ k, v.ownBlock = some k → w'.heap[k]? = w.heap[k]?) : Row w' base sz v n xs := by
  refine ⟨h.1, ?_⟩
  rcases h.2 with hn | ⟨g, o, cap, cur, t, fr, rfl, hb, hgg, rest⟩
  · exact .inl hn
  · exact .inr ⟨g, o, cap, cur, t, fr, rfl, hb, by rw [hk g rfl]; exact hgg, rest⟩
theorem Row.kept {row : Option Nat} (h : Row w base sz v n xs) (hg : w.grownBy w' row) (hne : v.ownBlock = none ∨ v.ownBlock ≠ row) : Row w' base sz v n xs :=
  h.block_eq fun k hk => hg.block k (h.lt k hk).2 (by rcases hne with e | e <;> rw [hk] at e; cases e; exact e)
theorem Row.alloc (h : Row w base sz v n xs) (o : Obj) : Row (w.alloc o) base sz v n xs :=
  h.kept (World.grownBy_alloc w o none) (by cases hv : v.ownBlock <;> simp)
theorem Row.drew (h : Row w base sz v n xs) : Row w.drew base sz v n xs := h
theorem Row.drewN (h : Row w base sz v n xs) (k : Nat) : Row (w.drewN k) base sz v n xs := h
theorem Row.below {B : Nat} (h : Row w base sz v n xs) (hb : Below B w w') (hlt : ∀ k, v.ownBlock = some k → k < B) : Row w' base sz v n xs :=
  h.block_eq fun k hk => hb.block k (hlt k hk)
theorem Row.below_all (h : Row w base sz v n xs) (hb : Below w.heap.size w w') : Row w' base sz v n xs := h.below hb fun k hk => (h.lt k hk).2
theorem Row.setCell (h : Row w base sz v n xs) {p : Addr} (hp : v.ownBlock ≠ some p.block) (u : Value) : Row (w.setCell p u) base sz v n xs :=
  h.block_eq fun k hk => Below.heap_setCell _ _ _ _ (fun e => hp (by rw [hk, e]))
theorem Row.mono (h : Row w base sz v n xs) (hb : base' ≤ base) : Row w base' sz v n xs := by
  refine ⟨h.1, ?_⟩
  rcases h.2 with hn | ⟨g, o, cap, cur, t, fr, rfl, hb', rest⟩
  · exact .inl hn
  · exact .inr ⟨g, o, cap, cur, t, fr, rfl, by omega, rest⟩
/-- what a row holds can be read -/
theorem Row.form (h : Row w base sz v n xs) : ∃ A c, v = .slice A n c ∧ n ≤ c ∧ c ≤ maxLen ∧ (A = none → n = 0 ∧ c = 0) ∧ Rd w w.heap.size sz A n xs := by
  rcases h.2 with ⟨rfl, rfl⟩ | ⟨g, o, cap, cur, t, fr, rfl, hb, hg, hnc, hm, hs, _, ht⟩
  · exact ⟨none, 0, rfl, Nat.le_refl _, Nat.zero_le _, fun _ => ⟨rfl, rfl⟩, h.1, fun hh => absurd hh (by omega)⟩
  · refine ⟨_, cap, rfl, hnc, hm, (fun e => by cases e), h.1, fun _ => ⟨g, o, rfl, (Array.getElem?_eq_some_iff.1 hg).1, fun j u hu => ?_⟩⟩
    rw [cell_of_row w g (o + j) cur t fr hg]
    rw [← ht, List.getElem?_take] at hu
    split at hu
    · rw [List.getElem?_drop] at hu; simpa using hu
    · cases hu
/-- an address of its own: a cell there is not frozen, and lies from base on -/
theorem Row.own {A : Option Addr} {c : Nat} (h : Row w base sz (.slice A n c) n xs) (hn : 0 < n) : ∃ g o, A = some ⟨g, o, none⟩ ∧ base ≤ g ∧ g < w.heap.size ∧ (∀ j u, xs[j]? = some u → w.cell? ⟨g, o + j, none⟩ = some u) ∧ (∀ j, j < xs.length → w.frozen? ⟨g, o + j, none⟩ = false) := by
  rcases h.2 with ⟨_, rfl⟩ | ⟨g, o, cap, cur, t, fr, he, hb, hg, hnc, hm, hs, hf, ht⟩
  · omega
  · injection he with hA _ hcap
    subst hA
    subst hcap
    have hr := h.form
    obtain ⟨A', c', e, _, _, _, hrd⟩ := hr
    injection e with e1 _ _
    subst e1
    obtain ⟨g', o', e2, _, hc⟩ := hrd.2 hn
    injection e2 with e2
    injection e2 with e3 e4 _
    subst e3 e4
    refine ⟨g, o, rfl, hb, (Array.getElem?_eq_some_iff.1 hg).1, hc, fun j hj => ?_⟩
    have hj' : j < c * sz := by rw [h.1] at hj; exact Nat.lt_of_lt_of_le hj (Nat.mul_le_mul_right _ hnc)
    have := hf (o + j) (by omega) (by omega)
    simp only [World.frozen?, hg]
    simpa using this
theorem Row.set {g o c j : Nat} {u : Value} (h : Row w base sz (.slice (some ⟨g, o, none⟩) n c) n xs) (hj : j < xs.length) : Row (w.setCell ⟨g, o + j, none⟩ u) base sz (.slice (some ⟨g, o, none⟩) n c) n (xs.set j u) := by
  refine ⟨by rw [List.length_set]; exact h.1, ?_⟩
  rcases h.2 with ⟨e, _⟩ | ⟨g', o', cap, cur, t, fr, he, hb, hg, hnc, hm, hs, hf, ht⟩
  · cases e
  · injection he with hA _ hcap
    injection hA with hA
    injection hA with e1 e2 _
    subst e1 e2 hcap
    refine .inr ⟨g, o, c, cur.setIfInBounds (o + j) u, t, fr, rfl, hb, ?_, hnc, hm, by simpa using hs, hf, ?_⟩
    · simp [World.setCell, Array.getElem?_modify, hg]
    · rw [← ht]
      apply List.ext_getElem?
      intro i
      simp only [List.getElem?_take, List.getElem?_set, List.getElem?_drop, Array.toList_setIfInBounds, List.length_take, List.length_drop]
      rw [h.1] at hj
      have hle : n * sz ≤ c * sz := Nat.mul_le_mul_right _ hnc
      by_cases hi : i < n * sz
      · simp only [hi, if_true, Array.length_toList]
        by_cases e : j = i
        · subst e; simp; rw [if_pos (by omega), if_pos (by omega)]
        · simp [e]
      · have : ¬ j = i := by omega
        simp [hi, this]
end

/-- a list stored into cells that are not frozen -/
theorem run_storeCells_fr (P : Program) (g o : Nat) (t : TypeId) (fr : Nat × Nat) : ∀ (vs : List Value) (i : Nat) (cur : Array Value) (w : World), w.heap[g]? = some (.cells cur t fr) → o + i + vs.length ≤ cur.size →
    (∀ j, o + i ≤ j → j < o + i + vs.length → ¬ (fr.1 ≤ j ∧ j < fr.2)) → (∀ v ∈ vs, v.oneCell' = true) →
    (storeCells ⟨g, o, none⟩ vs i).run P w = .ok () (w.setRow g (cur.toList.take (o + i) ++ vs ++ cur.toList.drop (o + i + vs.length)).toArray)
  | [], i, cur, w, hg, _, _, _ => by
    simp only [storeCells, List.append_nil, List.length_nil, Nat.add_zero, List.take_append_drop, Array.toArray_toList]
    rw [setRow_self w g cur t fr hg]
    rfl
  | v :: rest, i, cur, w, hg, hl, hf, h1 => by
    have hi : o + i < cur.size := by simp at hl; omega
    have hadd : (⟨g, o, none⟩ : Addr).add i = ⟨g, o + i, none⟩ := by unfold Addr.add; split <;> simp_all
    have hcell : w.cell? ⟨g, o + i, none⟩ = some cur[o + i] := by simp [World.cell?, hg, hi]
    have hfro : w.frozen? ⟨g, o + i, none⟩ = false := by
      have := hf (o + i) (Nat.le_refl _) (by simp)
      simp only [World.frozen?, hg]
      simpa using this
    have hst : (store ((⟨g, o, none⟩ : Addr).add i) v).run P w = .ok () (w.setRow g (cur.setIfInBounds (o + i) v)) := by
      rw [hadd, run_store P w _ v _ (h1 v (by simp)), hcell]
      simp [hfro, setCell_eq_setRow w g (o + i) cur t fr v hg]
    have ih := run_storeCells_fr P g o t fr rest (i + 1) (cur.setIfInBounds (o + i) v) (w.setRow g (cur.setIfInBounds (o + i) v)) (setRow_heap w g cur _ t _ hg) (by simp at hl ⊢; omega)
      (fun j h2 h3 => hf j (by omega) (by simp; omega)) (fun x hx => h1 x (by simp [hx]))
    simp only [storeCells, Sem.run_bind, hst, Result.andThen_ok, ih, setRow_setRow]
    congr 3
    have e := list_seg_step cur.toList (o + i) v rest (by simp at hl ⊢; omega)
    simpa [Array.toList_setIfInBounds, Nat.add_assoc] using e

/-- What is appended: m elements, the cells news: a slice's, nil's, a string's. -/
structure Src (P : Program) (w : World) (tx : TypeId) (size : Nat) (x : Value) (m : Nat) (news : List Value) : Prop where
  noint : ∃ d, P.underlying tx = some d ∧ ∀ k, d ≠ .int k
  len : ∀ W : World, (Builtin.lenOf x).run P W = .ok m W
  first : (Builtin.firstCells size m x).run P w = .ok news.toArray w
  firstD : (Builtin.firstCells size m x).run P w.drew = .ok news.toArray w.drew
  hl : news.length = m * size
  one : ∀ u ∈ news, u.oneCell' = true

theorem Src.slice {P : Program} {w : World} {tx e : TypeId} {size B : Nat} {A : Option Addr} {m c : Nat} {news : List Value} (ht : P.underlying tx = some (.slice e)) (h : Rd w B size A m news) (h0 : A = none → m = 0) (h1 : ∀ u ∈ news, u.oneCell' = true) :
    Src P w tx size (.slice A m c) m news := by
  have key : ∀ W : World, (∀ a, W.cell? a = w.cell? a) → (Builtin.firstCells size m (.slice A m c)).run P W = .ok news.toArray W := by
    intro W hW
    cases A with
    | none =>
      have hm := h0 rfl
      subst hm
      have hn : news = [] := List.eq_nil_of_length_eq_zero (by simpa using h.1)
      subst hn
      exact run_firstCells_none W size 0 0 c
    | some ad =>
      rcases Nat.eq_zero_or_pos m with hm | hm
      · subst hm
        have hn : news = [] := List.eq_nil_of_length_eq_zero (by simpa using h.1)
        subst hn
        exact run_firstCells_some (P := P) W size 0 ad 0 c [] (by simp) (by intro j v hv; simp at hv)
      · obtain ⟨g, o, e, hb, hc⟩ := h.2 hm
        injection e with e
        subst e
        exact run_firstCells_some (P := P) W size m ⟨g, o, none⟩ m c news h.1 (fun j v hv => by rw [hW, Addr.add_lit]; exact hc j v hv)
  exact ⟨⟨_, ht, by intro k hk; cases hk⟩, fun W => by simp [Builtin.lenOf, Sem.run_pure], key w (fun _ => rfl), key w.drew (fun _ => rfl), h.1, h1⟩

theorem Src.string {P : Program} {w : World} {tx : TypeId} (ht : P.underlying tx = some .string) (s : ByteArray) : Src P w tx 1 (.string s) s.size (Lib.strCells s) :=
  ⟨⟨_, ht, by intro k hk; cases hk⟩, fun W => by simp [Builtin.lenOf, Sem.run_pure], Lib.run_firstCells_string w 1 s, Lib.run_firstCells_string w.drew 1 s, by rw [Lib.strCells_length]; omega, Lib.strCells_oneCell s⟩

section
variable {P : Program} (w : World)
/-- THE LAW: append to a row. -/
theorem run_app (base : Nat) (ts tx ty e : TypeId) (i : TypeInfo) (z : Value) (size bytes : Nat) (ht : P.underlying ts = some (.slice e)) (hi : P.info? e = some i) (hz : i.zero = some z)
    (hsize : i.size = size) (hby : i.bytes = bytes) (hzs : z.cells.size = size)
    (v : Value) (n : Nat) (xs : List Value) (hown : Row w base size v n xs) (x : Value) (m : Nat) (news : List Value) (hx : Src P w tx size x m news)
    (hmax : n + m ≤ 140737488355328) (hbytes : (n + m) * bytes ≤ 140737488355328) (hb1 : 0 < bytes) (hbase : base ≤ w.heap.size) :
    ∃ v' w', (Builtin.append_ #[ts, tx] ty #[v, x]).run P w = .ok v' w' ∧ Row w' base size v' (n + m) (xs ++ news) ∧ w.grownBy w' v.ownBlock ∧
      (v'.ownBlock = v.ownBlock ∨ v'.ownBlock = some w.heap.size) := by
  subst hsize
  subst hby
  obtain ⟨d, hd, hdn⟩ := hx.noint
  have hlen : (xs ++ news).length = (n + m) * i.size := by rw [List.length_append, hown.1, hx.hl, Nat.add_mul]
  have grown : ∀ (old : Nat), old < n + m →
      Row (w.drew.alloc (.cells (xs.toArray ++ news.toArray ++ Builtin.zeroCells z.cells (grownCap w (n + m) old e - (n + m))) e)) base i.size
        (.slice (some ⟨w.heap.size, 0, none⟩) (n + m) (grownCap w (n + m) old e)) (n + m) (xs ++ news) := by
    intro old ho
    have hge := grownCap_ge w (n + m) old e
    have hcm : grownCap w (n + m) old e ≤ maxLen := grownCap_le_maxLen w (n + m) old e (by simp only [maxLen]; omega)
    refine ⟨hlen, .inr ⟨w.heap.size, 0, _, _, e, (0, 0), rfl, hbase, heap_alloc_new w.drew _, hge, hcm, ?_, by intro j _ _; simp, ?_⟩⟩
    · simp only [Array.size_append, List.size_toArray, size_zeroCells, hzs, hown.1, hx.hl, ← Nat.add_mul]
      have : n + m + (grownCap w (n + m) old e - (n + m)) = grownCap w (n + m) old e := by omega
      rw [this]
      omega
    · simp only [Array.toList_append, List.append_assoc, List.drop_zero]
      rw [← List.append_assoc, ← hlen]
      exact List.take_left
  have hgro : ∀ (old : Nat) (row : Option Nat), w.grownBy (w.drew.alloc (.cells (xs.toArray ++ news.toArray ++ Builtin.zeroCells z.cells (grownCap w (n + m) old e - (n + m))) e)) row :=
    fun old row => ⟨rfl, rfl, rfl, by simp, fun k hk _ => Below.heap_alloc w.drew _ k hk⟩
  have hfit : ∀ old, old < n + m → ¬ (281474976710656 < Builtin.nextslicecap (n + m) old * i.bytes) := fun old ho => by
    have := growslice_fits ho hbytes; omega
  have h63 : ¬ (9223372036854775807 < ((n : Int) + (m : Int))) := by omega
  have hf := hx.first
  have hfD := hx.firstD
  have hL := hx.len
  rcases hown.2 with ⟨rfl, rfl⟩ | ⟨g, o, cap, cur, t, fr, rfl, hbg, hg, hnc, hcm, hcs, hfr, htake⟩
  · have hx0 : xs = [] := List.eq_nil_of_length_eq_zero (by simpa using hown.1)
    subst hx0
    by_cases hm : m = 0
    · subst hm
      have hn : news = [] := List.eq_nil_of_length_eq_zero (by simpa using hx.hl)
      subst hn
      refine ⟨.slice none 0 0, w, ?_, Row.nil w base i.size, World.grownBy.refl w _, .inl rfl⟩
      simp [Builtin.append_, run_underlying ht, run_underlying hd, sizeOf, typeInfo, hi, hL, hf]
    · have hf0 := hfit 0 (by omega)
      refine ⟨_, _, ?_, grown 0 (by omega), hgro 0 _, .inr rfl⟩
      simp only [Nat.zero_add] at hf0 h63 ⊢
      have hb0 : ¬ i.bytes = 0 := by omega
      simp [Builtin.append_, run_underlying ht, run_underlying hd, sizeOf, typeInfo, zeroValue, hi, hz, hL, hm, hf0, hfD, Question.forced, newRow, grownCap, hb0, run_firstCells_none (P := P) w.drew]
  · by_cases hroom : n + m ≤ cap
    · have hcm2 : (n + m) * i.size ≤ cap * i.size := Nat.mul_le_mul_right _ hroom
      have hfit2 : o + n * i.size + news.length ≤ cur.size := by rw [hx.hl]; rw [Nat.add_mul] at hcm2; omega
      have hst := run_storeCells_fr P g (o + n * i.size) t fr news 0 cur w hg (by simpa using hfit2)
        (fun j h2 h3 => hfr j (by omega) (by rw [hx.hl] at h3; rw [Nat.add_mul] at hcm2; omega)) hx.one
      simp only [Nat.add_zero] at hst
      refine ⟨_, _, ?_, ⟨hlen, .inr ⟨g, o, cap, _, t, fr, rfl, hbg, setRow_heap w g cur (cur.toList.take (o + n * i.size) ++ news ++ cur.toList.drop (o + n * i.size + news.length)).toArray t _ hg, hroom, hcm, ?_, hfr, ?_⟩⟩, ⟨rfl, rfl, rfl, by simp, fun k _ hk => setRow_other w g k _ (fun e => hk (by simp [Value.ownBlock, e]))⟩, .inl rfl⟩
      · simp [Builtin.append_, run_underlying ht, run_underlying hd, sizeOf, typeInfo, hi, hL, hroom, hf, Addr.add_lit, hst]
      · simp only [List.size_toArray, List.length_append, List.length_take, List.length_drop, Array.length_toList]
        omega
      · have e1 : (cur.toList.take (o + n * i.size) ++ news ++ cur.toList.drop (o + n * i.size + news.length)).toArray.toList.drop o = (cur.toList.drop o).take (n * i.size) ++ news ++ cur.toList.drop (o + n * i.size + news.length) := by
          simp only [List.append_assoc]
          rw [List.drop_append_of_le_length (by simp; omega), List.drop_take]
          simp
        rw [e1, htake, ← hlen]
        exact List.take_left
    · have holds : ∀ j u, xs[j]? = some u → w.drew.cell? ((⟨g, o, none⟩ : Addr).add j) = some u := by
        intro j u hu
        rw [Addr.add_lit]
        show w.cell? _ = _
        rw [cell_of_row w g (o + j) cur t fr hg]
        rw [← htake, List.getElem?_take] at hu
        split at hu
        · rw [List.getElem?_drop] at hu; simpa using hu
        · cases hu
      have hfo := run_firstCells_some (P := P) w.drew i.size n ⟨g, o, none⟩ n cap xs hown.1 holds
      have hf0 := hfit cap (by omega)
      refine ⟨_, _, ?_, grown cap (by omega), hgro cap _, .inr rfl⟩
      have hb0 : ¬ i.bytes = 0 := by omega
      simp [Builtin.append_, run_underlying ht, run_underlying hd, sizeOf, typeInfo, zeroValue, hi, hz, hL, hroom, hf0, hfD, hfo, Question.forced, newRow, grownCap, hb0]
      congr 2
      apply Array.ext'
      simp [List.append_assoc]

theorem wp_app {o : Oper} {a : Act} {K : Act → World → Prop} {Q : Exit → Act → World → Prop} (s x : Operand) (ts tx : TypeId)
    (ho : o.op = .call { callee := .builtin .append, args := #[s, x], argTypes := #[ts, tx] })
    (base : Nat) (e : TypeId) (i : TypeInfo) (z : Value) (size bytes : Nat) (ht : P.underlying ts = some (.slice e)) (hi : P.info? e = some i) (hz : i.zero = some z)
    (hsize : i.size = size) (hby : i.bytes = bytes) (hzs : z.cells.size = size)
    (v : Value) (n : Nat) (xs : List Value) (hs : a.eval s = v) (hown : Row w base size v n xs) (xv : Value) (m : Nat) (news : List Value) (hxv : a.eval x = xv) (hx : Src P w tx size xv m news)
    (hmax : n + m ≤ 140737488355328) (hbytes : (n + m) * bytes ≤ 140737488355328) (hb1 : 0 < bytes) (hbase : base ≤ w.heap.size)
    (h : ∀ v' w', Row w' base size v' (n + m) (xs ++ news) → w.grownBy w' v.ownBlock → (v'.ownBlock = v.ownBlock ∨ v'.ownBlock = some w.heap.size) → K (a.put o.dst v') w') : o.wp P a w K Q := by
  obtain ⟨v', w', hrun, h2, h3, h4⟩ := run_app (P := P) w base ts tx o.type e i z size bytes ht hi hz hsize hby hzs v n xs hown xv m news hx hmax hbytes hb1 hbase
  unfold Oper.wp execOp
  simp only [ho, resolve, invoke, builtin, Sem.run_bind, Sem.run_pure, Result.andThen_ok, List.map_toArray, List.map_cons, List.map_nil, hs, hxv, hrun]
  exact h v' w' h2 h3 h4

theorem wpList_app {ops : Array Oper} {rest : List Oper} {o : Oper} {a : Act} {Q : Exit → Act → World → Prop} (hgd : o.guard = none) (s x : Operand) (ts tx : TypeId)
    (ho : o.op = .call { callee := .builtin .append, args := #[s, x], argTypes := #[ts, tx] })
    (base : Nat) (e : TypeId) (i : TypeInfo) (z : Value) (size bytes : Nat) (ht : P.underlying ts = some (.slice e)) (hi : P.info? e = some i) (hz : i.zero = some z)
    (hsize : i.size = size) (hby : i.bytes = bytes) (hzs : z.cells.size = size)
    (v : Value) (n : Nat) (xs : List Value) (hs : a.eval s = v) (hown : Row w base size v n xs) (xv : Value) (m : Nat) (news : List Value) (hxv : a.eval x = xv) (hx : Src P w tx size xv m news)
    (hmax : n + m ≤ 140737488355328) (hbytes : (n + m) * bytes ≤ 140737488355328) (hb1 : 0 < bytes) (hbase : base ≤ w.heap.size)
    (h : ∀ v' w', Row w' base size v' (n + m) (xs ++ news) → w.grownBy w' v.ownBlock → (v'.ownBlock = v.ownBlock ∨ v'.ownBlock = some w.heap.size) → wpList P ops Q rest (a.put o.dst v') w') : wpList P ops Q (o :: rest) a w :=
  wpList_plain hgd fun _ hK => wp_app w s x ts tx ho base e i z size bytes ht hi hz hsize hby hzs v n xs hs hown xv m news hxv hx hmax hbytes hb1 hbase fun v' w' h2 h3 h4 => hK _ _ (h v' w' h2 h3 h4)

/-- the same in a region that draws its order -/
theorem step_app {ops : Array Oper} {o : Oper} {a : Act} {K : Act → World → Prop} {Q : Exit → Act → World → Prop} {E : Prop} (hgd : o.guard = none) (s x : Operand) (ts tx : TypeId)
    (ho : o.op = .call { callee := .builtin .append, args := #[s, x], argTypes := #[ts, tx] })
    (base : Nat) (e : TypeId) (i : TypeInfo) (z : Value) (size bytes : Nat) (ht : P.underlying ts = some (.slice e)) (hi : P.info? e = some i) (hz : i.zero = some z)
    (hsize : i.size = size) (hby : i.bytes = bytes) (hzs : z.cells.size = size)
    (v : Value) (n : Nat) (xs : List Value) (hs : a.eval s = v) (hown : Row w base size v n xs) (xv : Value) (m : Nat) (news : List Value) (hxv : a.eval x = xv) (hx : Src P w tx size xv m news)
    (hmax : n + m ≤ 140737488355328) (hbytes : (n + m) * bytes ≤ 140737488355328) (hb1 : 0 < bytes) (hbase : base ≤ w.heap.size)
    (h : ∀ v' w', Row w' base size v' (n + m) (xs ++ news) → w.grownBy w' v.ownBlock → (v'.ownBlock = v.ownBlock ∨ v'.ownBlock = some w.heap.size) → K (a.put o.dst v') w') :
    if Region.wanted o (yielded ops a.tmps) = true then Oper.wp P o a w K Q else E := by
  have hw : Region.wanted o (yielded ops a.tmps) = true := by simp [Region.wanted, hgd]
  rw [if_pos hw]
  exact wp_app w s x ts tx ho base e i z size bytes ht hi hz hsize hby hzs v n xs hs hown xv m news hxv hx hmax hbytes hb1 hbase h
end

/-- Behind an append: nothing below the row's base has turned. -/
theorem Below.app {B base sz n : Nat} {a w w' : World} {v : Value} {xs : List Value} (h : Below B a w) (hown : Row w base sz v n xs) (hg : w.grownBy w' v.ownBlock) (hB : B ≤ base) (hB2 : B ≤ w.heap.size) : Below B a w' :=
  h.grown hg hB2 (fun k hk => Nat.le_trans hB (hown.lt k hk).1)

/-- a byte as a cell, bytes as cells -/
def bytesV (l : List UInt8) : List Value := l.map fun c => .int .u8 c.toNat
theorem bytesV_one (l : List UInt8) : ∀ u ∈ bytesV l, u.oneCell' = true := by
  intro u hu
  obtain ⟨_, _, rfl⟩ := List.mem_map.1 hu
  rfl
theorem bytesV_len (l : List UInt8) : (bytesV l).length = l.length := by simp [bytesV]
theorem bytesV_get {l : List UInt8} {j : Nat} (h : j < l.length) : (bytesV l)[j]? = some (.int .u8 l[j].toNat) := by simp [bytesV, h]
theorem strCells_eq (s : ByteArray) : Lib.strCells s = bytesV s.data.toList := rfl
theorem bytesV_append (a b : List UInt8) : bytesV (a ++ b) = bytesV a ++ bytesV b := by simp [bytesV]

/-- string(b) -/
theorem conv_str {P : Program} {w : World} {B : Nat} (src dst e : TypeId) (hs : P.underlying src = some (.slice e)) (he : P.underlying e = some (.int .u8)) (hd : P.underlying dst = some .string)
    {A : Option Addr} {n c : Nat} {l : List UInt8} (h : Rd w B 1 A n (bytesV l)) (h0 : A = none → n = 0) : (convert src dst (.slice A n c)).run P w = .ok (.string ⟨l.toArray⟩) w := by
  have hn : l.length = n := by have := h.1; rw [bytesV_len] at this; omega
  cases A with
  | none =>
    have := h0 rfl
    subst this
    have : l = [] := List.eq_nil_of_length_eq_zero hn
    subst this
    exact run_convert_bytes_nil (P := P) (w := w) src e hs he 0 c dst hd
  | some ad =>
    rw [run_convert_bytes_string w src dst e (some ad) n c hs he hd]
    rcases Nat.eq_zero_or_pos n with h0 | h0
    · subst h0
      have : l = [] := List.eq_nil_of_length_eq_zero hn
      subst this
      exact run_bytesToString (P := P) w ad 0 c [] (by simpa using run_loadCells_list (P := P) w ad [] (by intro j v hv; simp at hv))
    · obtain ⟨g, o, e', _, hc⟩ := h.2 h0
      injection e' with e'
      subst e'
      have hl : (loadCells ⟨g, o, none⟩ n).run P w = .ok (bytesV l).toArray w := by
        have := run_loadCells_list (P := P) w ⟨g, o, none⟩ (bytesV l) (fun j v hv => by rw [Addr.add_lit]; exact hc j v hv)
        rw [bytesV_len, hn] at this
        exact this
      have e2 : bytesV l = (l.map fun c => (c.toNat : Int)).map (Value.int .u8) := by simp [bytesV]
      rw [e2] at hl
      rw [run_bytesToString (P := P) w ⟨g, o, none⟩ n c _ hl, foldl_push_bytes]
      have e3 : l.map ((fun n : Int => UInt8.ofNat n.toNat) ∘ fun c : UInt8 => (c.toNat : Int)) = l := by
        have : ∀ l : List UInt8, l.map ((fun n : Int => UInt8.ofNat n.toNat) ∘ fun c : UInt8 => (c.toNat : Int)) = l := fun l => by
          induction l with
          | nil => rfl
          | cons c l ih => simp [ih]
        exact this l
      simp [e3]

section
variable {Q : Exit → Act → World → Prop} {J : Act → World → Prop} {a : Act} {w : World} {l : Nat}
@[go_sem] theorem jump_normal : Exit.jump l J Q .normal a w = Q .normal a w := rfl
@[go_sem] theorem jump_exit (id : Nat) : Exit.jump l J Q (.exit id) a w = Q (.exit id) a w := rfl
@[go_sem] theorem jump_ret : Exit.jump l J Q .ret a w = Q .ret a w := rfl
@[go_sem] theorem jump_panic (ch : List PanicEntry) : Exit.jump l J Q (.panic ch) a w = Q (.panic ch) a w := rfl
@[go_sem] theorem jump_goto : Exit.jump l J Q (.goto l) a w = J a w := by simp [Exit.jump]
end

/-- the row of '[]T{}' -/
theorem empty_row (w : World) (t : TypeId) (sz : Nat) : Row (w.alloc (.cells #[] t)) w.heap.size sz (.slice (some ⟨w.heap.size, 0, none⟩) 0 0) 0 [] :=
  ⟨by simp, .inr ⟨w.heap.size, 0, 0, _, t, (0, 0), rfl, Nat.le_refl _, heap_alloc_new w _, Nat.le_refl _, Nat.zero_le _, by simp, by intro j _ _; simp, by simp⟩⟩
/-- the row of a slice that is built whole -/
theorem built_row (w : World) (us : List Value) (t : TypeId) (sz n : Nat) (h : us.length = n * sz) (hm : n ≤ 1048576) : Row (w.alloc (.cells us.toArray t)) w.heap.size sz (.slice (some ⟨w.heap.size, 0, none⟩) n n) n us :=
  ⟨h, .inr ⟨w.heap.size, 0, n, _, t, (0, 0), rfl, Nat.le_refl _, heap_alloc_new w _, Nat.le_refl _, by unfold maxLen; omega, by simp [h], by intro j _ _; simp, by simp [← h]⟩⟩
/-- what a slice that was just built of some values appends -/
theorem Src.built {P : Program} {w : World} {tx e : TypeId} {sz n : Nat} (us : List Value) (t : TypeId) (ht : P.underlying tx = some (.slice e)) (h : us.length = n * sz) (h1 : ∀ u ∈ us, u.oneCell' = true) :
    Src P (w.alloc (.cells us.toArray t)) tx sz (.slice (some ⟨w.heap.size, 0, none⟩) n n) n us := by
  refine Src.slice (B := w.heap.size + 1) ht ⟨h, fun _ => ⟨w.heap.size, 0, rfl, by omega, fun j u hu => ?_⟩⟩ (fun e => by cases e) h1
  rw [Nat.zero_add, World.cell?_alloc_at _ _ _ _ rfl]
  simpa using hu
theorem below_drewN {B : Nat} {a w : World} (h : Below B a w) (n : Nat) : Below B a (w.drewN n) := Go.below_drewN h n
theorem Below.of_drewN {B q : Nat} {w w' : World} (h : Below B (w.drewN q) w') : Below B w w' := (below_drewN (Below.refl _ _) q).trans h
theorem Below.of_drew {B : Nat} {w w' : World} (h : Below B w.drew w') : Below B w w' := ((Below.refl _ _).drew).trans h
theorem bytesV_drop (l : List UInt8) (k : Nat) : (bytesV l).drop k = bytesV (l.drop k) := by simp [bytesV]
theorem bytesV_take (l : List UInt8) (k : Nat) : (bytesV l).take k = bytesV (l.take k) := by simp [bytesV]
theorem size_data (s : ByteArray) : s.data.toList.length = s.size := by rw [Array.length_toList]; rfl
end Go.Proofs.YthmpjemchjfoeaaGreatDoor
