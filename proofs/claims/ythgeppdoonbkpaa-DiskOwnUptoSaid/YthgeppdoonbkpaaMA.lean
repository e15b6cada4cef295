/- Words for memory and laws on append over any row that a call owns (whatever its block's element type, its place in the block and its marks). No condition. | From a walk that ends '.bool true' and leaves what was there alone, to the row's own post; arguments opened. No condition. | Plain words on bytes: tokens, folding, trimming. No program in sight. No condition. | Blocks that hold a call's own variables: their cells, through what follows. No condition. | What a call has turned: its own blocks, and new ones. No condition. | Rows of bytes that a call appends to. No condition but sizes. | Small words for regions that draw their order and only call what leaves memory below alone. No condition. -/
import Derived.Test.YthgeppdoonbkpaaRows
import Derived.WalkKit
import Derived.WalkSpells
import Derived.WalkLawsBesides
import Derived.Lib.AppendStr
import Derived.LoopN
import Derived.Lib.Hide
import Derived.Deep.Cut
import Derived.Deep.DeepMust
import Derived.Deep.QuietTactic
import Derived.BigQuiet
import Derived.ScopeJumps
import Derived.ProofKit
import Derived.OpenShut
import Derived.SizedLaws
import Derived.Carry
import Derived.Lib.Split
import Derived.Lib.SplitLaws
import Derived.Lib.SlTrimSet
import Derived.Lib.IndexLaws
import Derived.Lib.IndexAny
import Derived.Deep.MidRow
import Derived.BigFrame
import Derived.Laws.ResultCell
import Derived.Deep.RegionHeld3
namespace Go.Proofs.Ythgeppdoonbkpaa
open Go.RowKit

/-- n elements of sz cells each lie at A, all below block B: the cells xs. -/
def Rd (w : World) (B sz : Nat) (A : Option Addr) (n : Nat) (xs : List Value) : Prop :=
  xs.length = n * sz ∧ (0 < n → ∃ g o, A = some ⟨g, o, none⟩ ∧ g < B ∧ ∀ j u, xs[j]? = some u → w.cell? ⟨g, o + j, none⟩ = some u)

theorem cell_lt {w : World} {g o : Nat} {u : Value} (h : w.cell? ⟨g, o, none⟩ = some u) : g < w.heap.size := World.block_lt_of_cell? w _ h

section
variable {w w' : World} {B B' sz n : Nat} {A : Option Addr} {xs : List Value}
theorem Rd.nil (w : World) (B sz : Nat) (A : Option Addr) : Rd w B sz A 0 [] := ⟨by simp, fun h => absurd h (by omega)⟩
theorem Rd.keep (h : Rd w B sz A n xs) (hk : ∀ g o, g < B → w'.cell? ⟨g, o, none⟩ = w.cell? ⟨g, o, none⟩) : Rd w' B sz A n xs :=
  ⟨h.1, fun hn => by
    obtain ⟨g, o, e, hb, hc⟩ := h.2 hn
    exact ⟨g, o, e, hb, fun j u hu => (hk _ _ hb).trans (hc j u hu)⟩⟩
theorem Rd.more (h : Rd w B sz A n xs) (hB : B ≤ B') : Rd w B' sz A n xs :=
  ⟨h.1, fun hn => by
    obtain ⟨g, o, e, hb, hc⟩ := h.2 hn
    exact ⟨g, o, e, by omega, hc⟩⟩
theorem Rd.below (h : Rd w B sz A n xs) (hb : Below B w w') : Rd w' B sz A n xs := h.keep fun g o hg => hb.cell (p := ⟨g, o, none⟩) hg
theorem Rd.drew (h : Rd w B sz A n xs) : Rd w.drew B sz A n xs := h
theorem Rd.drewN (h : Rd w B sz A n xs) (k : Nat) : Rd (w.drewN k) B sz A n xs := h
theorem Rd.alloc (h : Rd w B sz A n xs) (hB : B ≤ w.heap.size) (o : Obj) : Rd (w.alloc o) B sz A n xs := h.keep fun g q hg => World.cell?_alloc_lt w o ⟨g, q, none⟩ (by show g < _; omega)
theorem Rd.setCell (h : Rd w B sz A n xs) {p : Addr} (hB : B ≤ p.block) (u : Value) : Rd (w.setCell p u) B sz A n xs :=
  h.keep fun g o hg => World.cell?_setCell_other w p ⟨g, o, none⟩ u (fun e => by subst e; exact absurd hg (by show ¬ g < B; simp at hB; omega))
theorem Rd.grown (h : Rd w B sz A n xs) {row : Option Nat} (hg : w.grownBy w' row) (hB : B ≤ w.heap.size) (hr : ∀ g, row = some g → B ≤ g) : Rd w' B sz A n xs :=
  h.keep fun g o hlt => World.cell?_of_block (w := w) (a := ⟨g, o, none⟩) (hg.block g (by omega) (fun e => by have := hr _ e.symm; omega))
theorem Rd.shift (h : Rd w B sz A n xs) {k cap : Nat} (hk : k ≤ n) (hc : n ≤ cap) :
    Rd w B sz (if cap = k then A else A.map (·.add (k * sz))) (n - k) (xs.drop (k * sz)) := by
  refine ⟨by rw [List.length_drop, h.1, Nat.sub_mul], fun hn => ?_⟩
  obtain ⟨g, o, rfl, hb, hcell⟩ := h.2 (by omega)
  rw [if_neg (by omega)]
  refine ⟨g, o + k * sz, by simp [Addr.add_lit], hb, fun j u hu => ?_⟩
  rw [Nat.add_assoc]
  exact hcell _ u (by rw [← hu, List.getElem?_drop])
theorem Rd.pre (h : Rd w B sz A n xs) {k : Nat} (hk : k ≤ n) : Rd w B sz A k (xs.take (k * sz)) := by
  refine ⟨by rw [List.length_take, h.1]; exact Nat.min_eq_left (Nat.mul_le_mul_right _ hk), fun hn => ?_⟩
  obtain ⟨g, o, rfl, hb, hcell⟩ := h.2 (by omega)
  exact ⟨g, o, rfl, hb, fun j u hu => hcell j u (by
    rw [List.getElem?_take] at hu
    split at hu
    · exact hu
    · cases hu)⟩
end

/-- v's n elements are the cells xs; its block, one of base on, is the call's own as far as v's capacity goes: no cell there is frozen. -/
def Row (w : World) (base sz : Nat) (v : Value) (n : Nat) (xs : List Value) : Prop :=
  xs.length = n * sz ∧
  ((v = .slice none 0 0 ∧ n = 0) ∨
   ∃ g o cap cur t fr, v = .slice (some ⟨g, o, none⟩) n cap ∧ base ≤ g ∧ w.heap[g]? = some (.cells cur t fr) ∧ n ≤ cap ∧ cap ≤ maxLen ∧ o + cap * sz ≤ cur.size ∧
     (∀ j, o ≤ j → j < o + cap * sz → ¬ (fr.1 ≤ j ∧ j < fr.2)) ∧ (cur.toList.drop o).take (n * sz) = xs)

section
variable {w w' : World} {base base' sz n : Nat} {v : Value} {xs : List Value}
theorem Row.nil (w : World) (base sz : Nat) : Row w base sz (.slice none 0 0) 0 [] := ⟨by simp, .inl ⟨rfl, rfl⟩⟩
theorem Row.of_own {e : TypeId} (h : w.ownsRow base e sz v n xs) : Row w base sz v n xs := by
  refine ⟨h.1, ?_⟩
  rcases h.2 with ⟨h1, h2⟩ | ⟨g, cap, cur, rfl, hb, hg, hnc, hm, hs, ht⟩
  · exact .inl ⟨h1, h2⟩
  · exact .inr ⟨g, 0, cap, cur, e, (0, 0), rfl, hb, hg, hnc, hm, by omega, by intro j _ _; simp, by simpa using ht⟩
theorem Row.lt (h : Row w base sz v n xs) : ∀ k, v.ownBlock = some k → base ≤ k ∧ k < w.heap.size := by
  intro k hk
  rcases h.2 with ⟨rfl, _⟩ | ⟨g, o, cap, cur, t, fr, rfl, hb, hg, _⟩
  · simp [Value.ownBlock] at hk
  · simp [Value.ownBlock] at hk
    subst hk
    exact ⟨hb, (Array.getElem?_eq_some_iff.1 hg).1⟩
theorem Row.block_eq (h : Row w base sz v n xs) (hk : ∀ k, v.ownBlock = some k → w'.heap[k]? = w.heap[k]?) : Row w' base sz v n xs := by
  refine ⟨h.1, ?_⟩
  rcases h.2 with hn | ⟨g, o, cap, cur, t, fr, rfl, hb, hgg, rest⟩
  · exact .inl hn
  · exact .inr ⟨g, o, cap, cur, t, fr, rfl, hb, by rw [hk g rfl]; exact hgg, rest⟩
theorem Row.kept {row : Option Nat} (h : Row w base sz v n xs) (hg : w.grownBy w' row) (hne : v.ownBlock = none ∨ v.ownBlock ≠ row) : Row w' base sz v n xs :=
  h.block_eq fun k hk => hg.block k (h.lt k hk).2 (by rcases hne with e | e <;> rw [hk] at e; cases e; exact e)
theorem Row.alloc (h : Row w base sz v n xs) (o : Obj) : Row (w.alloc o) base sz v n xs :=
  h.kept (World.grownBy_alloc w o none) (by cases hv : v.ownBlock <;> simp)
theorem Row.drew (h : Row w base sz v n xs) : Row w.drew base sz v n xs := h
theorem Row.drewN (h : Row w base sz v n xs) (k : Nat) : Row (w.drewN k) base sz v n xs := h
theorem Row.below {B : Nat} (h : Row w base sz v n xs) (hb : Below B w w') (hlt : ∀ k, v.ownBlock = some k → k < B) : Row w' base sz v n xs :=
  h.block_eq fun k hk => hb.block k (hlt k hk)
theorem Row.below_all (h : Row w base sz v n xs) (hb : Below w.heap.size w w') : Row w' base sz v n xs := h.below hb fun k hk => (h.lt k hk).2
theorem Row.setCell (h : Row w base sz v n xs) {p : Addr} (hp : v.ownBlock ≠ some p.block) (u : Value) : Row (w.setCell p u) base sz v n xs :=
  h.block_eq fun k hk => Below.heap_setCell _ _ _ _ (fun e => hp (by rw [hk, e]))
theorem Row.mono (h : Row w base sz v n xs) (hb : base' ≤ base) : Row w base' sz v n xs := by
  refine ⟨h.1, ?_⟩
  rcases h.2 with hn | ⟨g, o, cap, cur, t, fr, rfl, hb', rest⟩
  · exact .inl hn
  · exact .inr ⟨g, o, cap, cur, t, fr, rfl, by omega, rest⟩
/-- what a row holds can be read -/
theorem Row.form (h : Row w base sz v n xs) : ∃ A c, v = .slice A n c ∧ n ≤ c ∧ c ≤ maxLen ∧ (A = none → n = 0 ∧ c = 0) ∧ Rd w w.heap.size sz A n xs := by
  rcases h.2 with ⟨rfl, rfl⟩ | ⟨g, o, cap, cur, t, fr, rfl, hb, hg, hnc, hm, hs, _, ht⟩
  · exact ⟨none, 0, rfl, Nat.le_refl _, Nat.zero_le _, fun _ => ⟨rfl, rfl⟩, h.1, fun hh => absurd hh (by omega)⟩
  · refine ⟨_, cap, rfl, hnc, hm, (fun e => by cases e), h.1, fun _ => ⟨g, o, rfl, (Array.getElem?_eq_some_iff.1 hg).1, fun j u hu => ?_⟩⟩
    rw [cell_of_row w g (o + j) cur t fr hg]
    rw [← ht, List.getElem?_take] at hu
    split at hu
    · rw [List.getElem?_drop] at hu; simpa using hu
    · cases hu
/-- an address of its own: a cell there is not frozen, and lies from base on -/
theorem Row.own {A : Option Addr} {c : Nat} (h : Row w base sz (.slice A n c) n xs) (hn : 0 < n) : ∃ g o, A = some ⟨g, o, none⟩ ∧ base ≤ g ∧ g < w.heap.size ∧ (∀ j u, xs[j]? = some u → w.cell? ⟨g, o + j, none⟩ = some u) ∧ (∀ j, j < xs.length → w.frozen? ⟨g, o + j, none⟩ = false) := by
  rcases h.2 with ⟨_, rfl⟩ | ⟨g, o, cap, cur, t, fr, he, hb, hg, hnc, hm, hs, hf, ht⟩
  · omega
  · injection he with hA _ hcap
    subst hA
    subst hcap
    have hr := h.form
    obtain ⟨A', c', e, _, _, _, hrd⟩ := hr
    injection e with e1 _ _
    subst e1
    obtain ⟨g', o', e2, _, hc⟩ := hrd.2 hn
    injection e2 with e2
    injection e2 with e3 e4 _
    subst e3 e4
    refine ⟨g, o, rfl, hb, (Array.getElem?_eq_some_iff.1 hg).1, hc, fun j hj => ?_⟩
    have hj' : j < c * sz := by rw [h.1] at hj; exact Nat.lt_of_lt_of_le hj (Nat.mul_le_mul_right _ hnc)
    have := hf (o + j) (by omega) (by omega)
    simp only [World.frozen?, hg]
    simpa using this
theorem Row.set {g o c j : Nat} {u : Value} (h : Row w base sz (.slice (some ⟨g, o, none⟩) n c) n xs) (hj : j < xs.length) : Row (w.setCell ⟨g, o + j, none⟩ u) base sz (.slice (some ⟨g, o, none⟩) n c) n (xs.set j u) := by
  refine ⟨by rw [List.length_set]; exact h.1, ?_⟩
  rcases h.2 with ⟨e, _⟩ | ⟨g', o', cap, cur, t, fr, he, hb, hg, hnc, hm, hs, hf, ht⟩
  · cases e
  · injection he with hA _ hcap
    injection hA with hA
    injection hA with e1 e2 _
    subst e1 e2 hcap
    refine .inr ⟨g, o, c, cur.setIfInBounds (o + j) u, t, fr, rfl, hb, ?_, hnc, hm, by simpa using hs, hf, ?_⟩
    · simp [World.setCell, Array.getElem?_modify, hg]
    · rw [← ht]
      apply List.ext_getElem?
      intro i
      simp only [List.getElem?_take, List.getElem?_set, List.getElem?_drop, Array.toList_setIfInBounds, List.length_take, List.length_drop]
      rw [h.1] at hj
      have hle : n * sz ≤ c * sz := Nat.mul_le_mul_right _ hnc
      by_cases hi : i < n * sz
      · simp only [hi, if_true, Array.length_toList]
        by_cases e : j = i
        · subst e; simp; rw [if_pos (by omega), if_pos (by omega)]
        · simp [e]
      · have : ¬ j = i := by omega
        simp [hi, this]
end

/-- a list stored into cells that are not frozen -/
theorem run_storeCells_fr (P : Program) (g o : Nat) (t : TypeId) (fr : Nat × Nat) : ∀ (vs : List Value) (i : Nat) (cur : Array Value) (w : World), w.heap[g]? = some (.cells cur t fr) → o + i + vs.length ≤ cur.size →
    (∀ j, o + i ≤ j → j < o + i + vs.length → ¬ (fr.1 ≤ j ∧ j < fr.2)) → (∀ v ∈ vs, v.oneCell' = true) →
    (storeCells ⟨g, o, none⟩ vs i).run P w = .ok () (w.setRow g (cur.toList.take (o + i) ++ vs ++ cur.toList.drop (o + i + vs.length)).toArray)
  | [], i, cur, w, hg, _, _, _ => by
    simp only [storeCells, List.append_nil, List.length_nil, Nat.add_zero, List.take_append_drop, Array.toArray_toList]
    rw [setRow_self w g cur t fr hg]
    rfl
  | v :: rest, i, cur, w, hg, hl, hf, h1 => by
    have hi : o + i < cur.size := by simp at hl; omega
    have hadd : (⟨g, o, none⟩ : Addr).add i = ⟨g, o + i, none⟩ := by unfold Addr.add; split <;> simp_all
    have hcell : w.cell? ⟨g, o + i, none⟩ = some cur[o + i] := by simp [World.cell?, hg, hi]
    have hfro : w.frozen? ⟨g, o + i, none⟩ = false := by
      have := hf (o + i) (Nat.le_refl _) (by simp)
      simp only [World.frozen?, hg]
      simpa using this
    have hst : (store ((⟨g, o, none⟩ : Addr).add i) v).run P w = .ok () (w.setRow g (cur.setIfInBounds (o + i) v)) := by
      rw [hadd, run_store P w _ v _ (h1 v (by simp)), hcell]
      simp [hfro, setCell_eq_setRow w g (o + i) cur t fr v hg]
    have ih := run_storeCells_fr P g o t fr rest (i + 1) (cur.setIfInBounds (o + i) v) (w.setRow g (cur.setIfInBounds (o + i) v)) (setRow_heap w g cur _ t _ hg) (by simp at hl ⊢; omega)
      (fun j h2 h3 => hf j (by omega) (by simp; omega)) (fun x hx => h1 x (by simp [hx]))
    simp only [storeCells, Sem.run_bind, hst, Result.andThen_ok, ih, setRow_setRow]
    congr 3
    have e := list_seg_step cur.toList (o + i) v rest (by simp at hl ⊢; omega)
    simpa [Array.toList_setIfInBounds, Nat.add_assoc] using e

/-- What is appended: m elements, the cells news: a slice's, nil's, a string's. -/
structure Src (P : Program) (w : World) (tx : TypeId) (size : Nat) (x : Value) (m : Nat) (news : List Value) : Prop where
  noint : ∃ d, P.underlying tx = some d ∧ ∀ k, d ≠ .int k
  len : ∀ W : World, (Builtin.lenOf x).run P W = .ok m W
  first : (Builtin.firstCells size m x).run P w = .ok news.toArray w
  firstD : (Builtin.firstCells size m x).run P w.drew = .ok news.toArray w.drew
  hl : news.length = m * size
  one : ∀ u ∈ news, u.oneCell' = true

theorem Src.slice {P : Program} {w : World} {tx e : TypeId} {size B : Nat} {A : Option Addr} {m c : Nat} {news : List Value} (ht : P.underlying tx = some (.slice e)) (h : Rd w B size A m news) (h0 : A = none → m = 0) (h1 : ∀ u ∈ news, u.oneCell' = true) :
    Src P w tx size (.slice A m c) m news := by
  have key : ∀ W : World, (∀ a, W.cell? a = w.cell? a) → (Builtin.firstCells size m (.slice A m c)).run P W = .ok news.toArray W := by
    intro W hW
    cases A with
    | none =>
      have hm := h0 rfl
      subst hm
      have hn : news = [] := List.eq_nil_of_length_eq_zero (by simpa using h.1)
      subst hn
      exact run_firstCells_none W size 0 0 c
    | some ad =>
      rcases Nat.eq_zero_or_pos m with hm | hm
      · subst hm
        have hn : news = [] := List.eq_nil_of_length_eq_zero (by simpa using h.1)
        subst hn
        exact run_firstCells_some (P := P) W size 0 ad 0 c [] (by simp) (by intro j v hv; simp at hv)
      · obtain ⟨g, o, e, hb, hc⟩ := h.2 hm
        injection e with e
        subst e
        exact run_firstCells_some (P := P) W size m ⟨g, o, none⟩ m c news h.1 (fun j v hv => by rw [hW, Addr.add_lit]; exact hc j v hv)
  exact ⟨⟨_, ht, by intro k hk; cases hk⟩, fun W => by simp [Builtin.lenOf, Sem.run_pure], key w (fun _ => rfl), key w.drew (fun _ => rfl), h.1, h1⟩

theorem Src.string {P : Program} {w : World} {tx : TypeId} (ht : P.underlying tx = some .string) (s : ByteArray) : Src P w tx 1 (.string s) s.size (Lib.strCells s) :=
  ⟨⟨_, ht, by intro k hk; cases hk⟩, fun W => by simp [Builtin.lenOf, Sem.run_pure], Lib.run_firstCells_string w 1 s, Lib.run_firstCells_string w.drew 1 s, by rw [Lib.strCells_length]; omega, Lib.strCells_oneCell s⟩

section
variable {P : Program} (w : World)
/-- THE LAW: append to a row. -/
theorem run_app (base : Nat) (ts tx ty e : TypeId) (i : TypeInfo) (z : Value) (size bytes : Nat) (ht : P.underlying ts = some (.slice e)) (hi : P.info? e = some i) (hz : i.zero = some z)
    (hsize : i.size = size) (hby : i.bytes = bytes) (hzs : z.cells.size = size)
    (v : Value) (n : Nat) (xs : List Value) (hown : Row w base size v n xs) (x : Value) (m : Nat) (news : List Value) (hx : Src P w tx size x m news)
    (hmax : n + m ≤ 140737488355328) (hbytes : (n + m) * bytes ≤ 140737488355328) (hb1 : 0 < bytes) (hbase : base ≤ w.heap.size) :
    ∃ v' w', (Builtin.append_ #[ts, tx] ty #[v, x]).run P w = .ok v' w' ∧ Row w' base size v' (n + m) (xs ++ news) ∧ w.grownBy w' v.ownBlock ∧
      (v'.ownBlock = v.ownBlock ∨ v'.ownBlock = some w.heap.size) := by
  subst hsize
  subst hby
  obtain ⟨d, hd, hdn⟩ := hx.noint
  have hlen : (xs ++ news).length = (n + m) * i.size := by rw [List.length_append, hown.1, hx.hl, Nat.add_mul]
  have grown : ∀ (old : Nat), old < n + m →
      Row (w.drew.alloc (.cells (xs.toArray ++ news.toArray ++ Builtin.zeroCells z.cells (grownCap w (n + m) old e - (n + m))) e)) base i.size
        (.slice (some ⟨w.heap.size, 0, none⟩) (n + m) (grownCap w (n + m) old e)) (n + m) (xs ++ news) := by
    intro old ho
    have hge := grownCap_ge w (n + m) old e
    have hcm : grownCap w (n + m) old e ≤ maxLen := grownCap_le_maxLen w (n + m) old e (by simp only [maxLen]; omega)
    refine ⟨hlen, .inr ⟨w.heap.size, 0, _, _, e, (0, 0), rfl, hbase, heap_alloc_new w.drew _, hge, hcm, ?_, by intro j _ _; simp, ?_⟩⟩
    · simp only [Array.size_append, List.size_toArray, size_zeroCells, hzs, hown.1, hx.hl, ← Nat.add_mul]
      have : n + m + (grownCap w (n + m) old e - (n + m)) = grownCap w (n + m) old e := by omega
      rw [this]
      omega
    · simp only [Array.toList_append, List.append_assoc, List.drop_zero]
      rw [← List.append_assoc, ← hlen]
      exact List.take_left
  have hgro : ∀ (old : Nat) (row : Option Nat), w.grownBy (w.drew.alloc (.cells (xs.toArray ++ news.toArray ++ Builtin.zeroCells z.cells (grownCap w (n + m) old e - (n + m))) e)) row :=
    fun old row => ⟨rfl, rfl, rfl, by simp, fun k hk _ => Below.heap_alloc w.drew _ k hk⟩
  have hfit : ∀ old, old < n + m → ¬ (281474976710656 < Builtin.nextslicecap (n + m) old * i.bytes) := fun old ho => by
    have := growslice_fits ho hbytes; omega
  have h63 : ¬ (9223372036854775807 < ((n : Int) + (m : Int))) := by omega
  have hf := hx.first
  have hfD := hx.firstD
  have hL := hx.len
  rcases hown.2 with ⟨rfl, rfl⟩ | ⟨g, o, cap, cur, t, fr, rfl, hbg, hg, hnc, hcm, hcs, hfr, htake⟩
  · have hx0 : xs = [] := List.eq_nil_of_length_eq_zero (by simpa using hown.1)
    subst hx0
    by_cases hm : m = 0
    · subst hm
      have hn : news = [] := List.eq_nil_of_length_eq_zero (by simpa using hx.hl)
      subst hn
      refine ⟨.slice none 0 0, w, ?_, Row.nil w base i.size, World.grownBy.refl w _, .inl rfl⟩
      simp [Builtin.append_, run_underlying ht, run_underlying hd, sizeOf, typeInfo, hi, hL, hf]
    · have hf0 := hfit 0 (by omega)
      refine ⟨_, _, ?_, grown 0 (by omega), hgro 0 _, .inr rfl⟩
      simp only [Nat.zero_add] at hf0 h63 ⊢
      have hb0 : ¬ i.bytes = 0 := by omega
      simp [Builtin.append_, run_underlying ht, run_underlying hd, sizeOf, typeInfo, zeroValue, hi, hz, hL, hm, hf0, hfD, Question.forced, newRow, grownCap, hb0, run_firstCells_none (P := P) w.drew]
  · by_cases hroom : n + m ≤ cap
    · have hcm2 : (n + m) * i.size ≤ cap * i.size := Nat.mul_le_mul_right _ hroom
      have hfit2 : o + n * i.size + news.length ≤ cur.size := by rw [hx.hl]; rw [Nat.add_mul] at hcm2; omega
      have hst := run_storeCells_fr P g (o + n * i.size) t fr news 0 cur w hg (by simpa using hfit2)
        (fun j h2 h3 => hfr j (by omega) (by rw [hx.hl] at h3; rw [Nat.add_mul] at hcm2; omega)) hx.one
      simp only [Nat.add_zero] at hst
      refine ⟨_, _, ?_, ⟨hlen, .inr ⟨g, o, cap, _, t, fr, rfl, hbg, setRow_heap w g cur (cur.toList.take (o + n * i.size) ++ news ++ cur.toList.drop (o + n * i.size + news.length)).toArray t _ hg, hroom, hcm, ?_, hfr, ?_⟩⟩, ⟨rfl, rfl, rfl, by simp, fun k _ hk => setRow_other w g k _ (fun e => hk (by simp [Value.ownBlock, e]))⟩, .inl rfl⟩
      · simp [Builtin.append_, run_underlying ht, run_underlying hd, sizeOf, typeInfo, hi, hL, hroom, hf, Addr.add_lit, hst]
      · simp only [List.size_toArray, List.length_append, List.length_take, List.length_drop, Array.length_toList]
        omega
      · have e1 : (cur.toList.take (o + n * i.size) ++ news ++ cur.toList.drop (o + n * i.size + news.length)).toArray.toList.drop o = (cur.toList.drop o).take (n * i.size) ++ news ++ cur.toList.drop (o + n * i.size + news.length) := by
          simp only [List.append_assoc]
          rw [List.drop_append_of_le_length (by simp; omega), List.drop_take]
          simp
        rw [e1, htake, ← hlen]
        exact List.take_left
    · have holds : ∀ j u, xs[j]? = some u → w.drew.cell? ((⟨g, o, none⟩ : Addr).add j) = some u := by
        intro j u hu
        rw [Addr.add_lit]
        show w.cell? _ = _
        rw [cell_of_row w g (o + j) cur t fr hg]
        rw [← htake, List.getElem?_take] at hu
        split at hu
        · rw [List.getElem?_drop] at hu; simpa using hu
        · cases hu
      have hfo := run_firstCells_some (P := P) w.drew i.size n ⟨g, o, none⟩ n cap xs hown.1 holds
      have hf0 := hfit cap (by omega)
      refine ⟨_, _, ?_, grown cap (by omega), hgro cap _, .inr rfl⟩
      have hb0 : ¬ i.bytes = 0 := by omega
      simp [Builtin.append_, run_underlying ht, run_underlying hd, sizeOf, typeInfo, zeroValue, hi, hz, hL, hroom, hf0, hfD, hfo, Question.forced, newRow, grownCap, hb0]
      congr 2
      apply Array.ext'
      simp [List.append_assoc]

theorem wp_app {o : Oper} {a : Act} {K : Act → World → Prop} {Q : Exit → Act → World → Prop} (s x : Operand) (ts tx : TypeId)
    (ho : o.op = .call { callee := .builtin .append, args := #[s, x], argTypes := #[ts, tx] })
    (base : Nat) (e : TypeId) (i : TypeInfo) (z : Value) (size bytes : Nat) (ht : P.underlying ts = some (.slice e)) (hi : P.info? e = some i) (hz : i.zero = some z)
    (hsize : i.size = size) (hby : i.bytes = bytes) (hzs : z.cells.size = size)
    (v : Value) (n : Nat) (xs : List Value) (hs : a.eval s = v) (hown : Row w base size v n xs) (xv : Value) (m : Nat) (news : List Value) (hxv : a.eval x = xv) (hx : Src P w tx size xv m news)
    (hmax : n + m ≤ 140737488355328) (hbytes : (n + m) * bytes ≤ 140737488355328) (hb1 : 0 < bytes) (hbase : base ≤ w.heap.size)
    (h : ∀ v' w', Row w' base size v' (n + m) (xs ++ news) → w.grownBy w' v.ownBlock → (v'.ownBlock = v.ownBlock ∨ v'.ownBlock = some w.heap.size) → K (a.put o.dst v') w') : o.wp P a w K Q := by
  obtain ⟨v', w', hrun, h2, h3, h4⟩ := run_app (P := P) w base ts tx o.type e i z size bytes ht hi hz hsize hby hzs v n xs hown xv m news hx hmax hbytes hb1 hbase
  unfold Oper.wp execOp
  simp only [ho, resolve, invoke, builtin, Sem.run_bind, Sem.run_pure, Result.andThen_ok, List.map_toArray, List.map_cons, List.map_nil, hs, hxv, hrun]
  exact h v' w' h2 h3 h4

theorem wpList_app {ops : Array Oper} {rest : List Oper} {o : Oper} {a : Act} {Q : Exit → Act → World → Prop} (hgd : o.guard = none) (s x : Operand) (ts tx : TypeId)
    (ho : o.op = .call { callee := .builtin .append, args := #[s, x], argTypes := #[ts, tx] })
    (base : Nat) (e : TypeId) (i : TypeInfo) (z : Value) (size bytes : Nat) (ht : P.underlying ts = some (.slice e)) (hi : P.info? e = some i) (hz : i.zero = some z)
    (hsize : i.size = size) (hby : i.bytes = bytes) (hzs : z.cells.size = size)
    (v : Value) (n : Nat) (xs : List Value) (hs : a.eval s = v) (hown : Row w base size v n xs) (xv : Value) (m : Nat) (news : List Value) (hxv : a.eval x = xv) (hx : Src P w tx size xv m news)
    (hmax : n + m ≤ 140737488355328) (hbytes : (n + m) * bytes ≤ 140737488355328) (hb1 : 0 < bytes) (hbase : base ≤ w.heap.size)
    (h : ∀ v' w', Row w' base size v' (n + m) (xs ++ news) → w.grownBy w' v.ownBlock → (v'.ownBlock = v.ownBlock ∨ v'.ownBlock = some w.heap.size) → wpList P ops Q rest (a.put o.dst v') w') : wpList P ops Q (o :: rest) a w :=
  wpList_plain hgd fun _ hK => wp_app w s x ts tx ho base e i z size bytes ht hi hz hsize hby hzs v n xs hs hown xv m news hxv hx hmax hbytes hb1 hbase fun v' w' h2 h3 h4 => hK _ _ (h v' w' h2 h3 h4)

/-- the same in a region that draws its order -/
theorem step_app {ops : Array Oper} {o : Oper} {a : Act} {K : Act → World → Prop} {Q : Exit → Act → World → Prop} {E : Prop} (hgd : o.guard = none) (s x : Operand) (ts tx : TypeId)
    (ho : o.op = .call { callee := .builtin .append, args := #[s, x], argTypes := #[ts, tx] })
    (base : Nat) (e : TypeId) (i : TypeInfo) (z : Value) (size bytes : Nat) (ht : P.underlying ts = some (.slice e)) (hi : P.info? e = some i) (hz : i.zero = some z)
    (hsize : i.size = size) (hby : i.bytes = bytes) (hzs : z.cells.size = size)
    (v : Value) (n : Nat) (xs : List Value) (hs : a.eval s = v) (hown : Row w base size v n xs) (xv : Value) (m : Nat) (news : List Value) (hxv : a.eval x = xv) (hx : Src P w tx size xv m news)
    (hmax : n + m ≤ 140737488355328) (hbytes : (n + m) * bytes ≤ 140737488355328) (hb1 : 0 < bytes) (hbase : base ≤ w.heap.size)
    (h : ∀ v' w', Row w' base size v' (n + m) (xs ++ news) → w.grownBy w' v.ownBlock → (v'.ownBlock = v.ownBlock ∨ v'.ownBlock = some w.heap.size) → K (a.put o.dst v') w') :
    if Region.wanted o (yielded ops a.tmps) = true then Oper.wp P o a w K Q else E := by
  have hw : Region.wanted o (yielded ops a.tmps) = true := by simp [Region.wanted, hgd]
  rw [if_pos hw]
  exact wp_app w s x ts tx ho base e i z size bytes ht hi hz hsize hby hzs v n xs hs hown xv m news hxv hx hmax hbytes hb1 hbase h
end

/-- Behind an append: nothing below the row's base has turned. -/
theorem Below.app {B base sz n : Nat} {a w w' : World} {v : Value} {xs : List Value} (h : Below B a w) (hown : Row w base sz v n xs) (hg : w.grownBy w' v.ownBlock) (hB : B ≤ base) (hB2 : B ≤ w.heap.size) : Below B a w' :=
  h.grown hg hB2 (fun k hk => Nat.le_trans hB (hown.lt k hk).1)

/-- a byte as a cell, bytes as cells -/
def bytesV (l : List UInt8) : List Value := l.map fun c => .int .u8 c.toNat
theorem bytesV_one (l : List UInt8) : ∀ u ∈ bytesV l, u.oneCell' = true := by
  intro u hu
  obtain ⟨_, _, rfl⟩ := List.mem_map.1 hu
  rfl
theorem bytesV_len (l : List UInt8) : (bytesV l).length = l.length := by simp [bytesV]
theorem bytesV_get {l : List UInt8} {j : Nat} (h : j < l.length) : (bytesV l)[j]? = some (.int .u8 l[j].toNat) := by simp [bytesV, h]
theorem strCells_eq (s : ByteArray) : Lib.strCells s = bytesV s.data.toList := rfl
theorem bytesV_append (a b : List UInt8) : bytesV (a ++ b) = bytesV a ++ bytesV b := by simp [bytesV]

/-- string(b) -/
theorem conv_str {P : Program} {w : World} {B : Nat} (src dst e : TypeId) (hs : P.underlying src = some (.slice e)) (he : P.underlying e = some (.int .u8)) (hd : P.underlying dst = some .string)
    {A : Option Addr} {n c : Nat} {l : List UInt8} (h : Rd w B 1 A n (bytesV l)) (h0 : A = none → n = 0) : (convert src dst (.slice A n c)).run P w = .ok (.string ⟨l.toArray⟩) w := by
  have hn : l.length = n := by have := h.1; rw [bytesV_len] at this; omega
  cases A with
  | none =>
    have := h0 rfl
    subst this
    have : l = [] := List.eq_nil_of_length_eq_zero hn
    subst this
    exact run_convert_bytes_nil (P := P) (w := w) src e hs he 0 c dst hd
  | some ad =>
    rw [run_convert_bytes_string w src dst e (some ad) n c hs he hd]
    rcases Nat.eq_zero_or_pos n with h0 | h0
    · subst h0
      have : l = [] := List.eq_nil_of_length_eq_zero hn
      subst this
      exact run_bytesToString (P := P) w ad 0 c [] (by simpa using run_loadCells_list (P := P) w ad [] (by intro j v hv; simp at hv))
    · obtain ⟨g, o, e', _, hc⟩ := h.2 h0
      injection e' with e'
      subst e'
      have hl : (loadCells ⟨g, o, none⟩ n).run P w = .ok (bytesV l).toArray w := by
        have := run_loadCells_list (P := P) w ⟨g, o, none⟩ (bytesV l) (fun j v hv => by rw [Addr.add_lit]; exact hc j v hv)
        rw [bytesV_len, hn] at this
        exact this
      have e2 : bytesV l = (l.map fun c => (c.toNat : Int)).map (Value.int .u8) := by simp [bytesV]
      rw [e2] at hl
      rw [run_bytesToString (P := P) w ⟨g, o, none⟩ n c _ hl, foldl_push_bytes]
      have e3 : l.map ((fun n : Int => UInt8.ofNat n.toNat) ∘ fun c : UInt8 => (c.toNat : Int)) = l := by
        have : ∀ l : List UInt8, l.map ((fun n : Int => UInt8.ofNat n.toNat) ∘ fun c : UInt8 => (c.toNat : Int)) = l := fun l => by
          induction l with
          | nil => rfl
          | cons c l ih => simp [ih]
        exact this l
      simp [e3]

section
variable {Q : Exit → Act → World → Prop} {J : Act → World → Prop} {a : Act} {w : World} {l : Nat}
@[go_sem] theorem jump_normal : Exit.jump l J Q .normal a w = Q .normal a w := rfl
@[go_sem] theorem jump_exit (id : Nat) : Exit.jump l J Q (.exit id) a w = Q (.exit id) a w := rfl
@[go_sem] theorem jump_ret : Exit.jump l J Q .ret a w = Q .ret a w := rfl
@[go_sem] theorem jump_panic (ch : List PanicEntry) : Exit.jump l J Q (.panic ch) a w = Q (.panic ch) a w := rfl
@[go_sem] theorem jump_goto : Exit.jump l J Q (.goto l) a w = J a w := by simp [Exit.jump]
end

/-- the row of '[]T{}' -/
theorem empty_row (w : World) (t : TypeId) (sz : Nat) : Row (w.alloc (.cells #[] t)) w.heap.size sz (.slice (some ⟨w.heap.size, 0, none⟩) 0 0) 0 [] :=
  ⟨by simp, .inr ⟨w.heap.size, 0, 0, _, t, (0, 0), rfl, Nat.le_refl _, heap_alloc_new w _, Nat.le_refl _, Nat.zero_le _, by simp, by intro j _ _; simp, by simp⟩⟩
/-- the row of a slice that is built whole -/
theorem built_row (w : World) (us : List Value) (t : TypeId) (sz n : Nat) (h : us.length = n * sz) (hm : n ≤ 1048576) : Row (w.alloc (.cells us.toArray t)) w.heap.size sz (.slice (some ⟨w.heap.size, 0, none⟩) n n) n us :=
  ⟨h, .inr ⟨w.heap.size, 0, n, _, t, (0, 0), rfl, Nat.le_refl _, heap_alloc_new w _, Nat.le_refl _, by unfold maxLen; omega, by simp [h], by intro j _ _; simp, by simp [← h]⟩⟩
/-- what a slice that was just built of some values appends -/
theorem Src.built {P : Program} {w : World} {tx e : TypeId} {sz n : Nat} (us : List Value) (t : TypeId) (ht : P.underlying tx = some (.slice e)) (h : us.length = n * sz) (h1 : ∀ u ∈ us, u.oneCell' = true) :
    Src P (w.alloc (.cells us.toArray t)) tx sz (.slice (some ⟨w.heap.size, 0, none⟩) n n) n us := by
  refine Src.slice (B := w.heap.size + 1) ht ⟨h, fun _ => ⟨w.heap.size, 0, rfl, by omega, fun j u hu => ?_⟩⟩ (fun e => by cases e) h1
  rw [Nat.zero_add, World.cell?_alloc_at _ _ _ _ rfl]
  simpa using hu
theorem below_drewN {B : Nat} {a w : World} (h : Below B a w) (n : Nat) : Below B a (w.drewN n) := Go.below_drewN h n
theorem Below.of_drewN {B q : Nat} {w w' : World} (h : Below B (w.drewN q) w') : Below B w w' := (below_drewN (Below.refl _ _) q).trans h
theorem Below.of_drew {B : Nat} {w w' : World} (h : Below B w.drew w') : Below B w w' := ((Below.refl _ _).drew).trans h
theorem bytesV_drop (l : List UInt8) (k : Nat) : (bytesV l).drop k = bytesV (l.drop k) := by simp [bytesV]
theorem bytesV_take (l : List UInt8) (k : Nat) : (bytesV l).take k = bytesV (l.take k) := by simp [bytesV]
theorem size_data (s : ByteArray) : s.data.toList.length = s.size := by rw [Array.length_toList]; rfl
end Go.Proofs.Ythgeppdoonbkpaa

namespace Go.Proofs.Ythgeppdoonbkpaa
open Go.ChangeShapes Go.WideShapes Go.ChangeAt Go.RowKit
open Go.ChangeMaps (open_string shut_string)

section
variable {H : Type} {enc : TypeId × Value → H} {P : Program}

theorem trodAll_below (hl : laidOutB P = true) {W W' : World} (hb : Below W.heap.size W W') : ∀ {ts : List TypeId} {vs : List Value} {ds : List (DataW H)} {ps : List MemPlace},
    (ts.all fun t => P.readableRec t && decide (t < P.types.size)) = true → DataW.TrodAll enc P W 0 (fun _ => true) true ts vs ds ps → (∀ x ∈ ps, x.block < W.heap.size) →
    DataW.TrodAll enc P W' 0 (fun b => decide (b < W.heap.size)) true ts vs ds ps
  | [], vs, ds, ps, _, h, _ => by
    obtain ⟨rfl, rfl, rfl⟩ := trodAll_nil h
    exact trodAll_mk0
  | t :: ts, vs, ds, ps, hr, h, hlt => by
    simp only [List.all_cons, Bool.and_eq_true, decide_eq_true_eq] at hr
    obtain ⟨v, vs', d, ds', p, q, rfl, rfl, rfl, h0, h1⟩ := trodAll_cons h
    exact ⟨p, q, Below.trod hl hr.1.1 hr.1.2 h0 hb (fun x hx => hlt x (by simp [hx])), trodAll_below hl hb hr.2 h1 (fun x hx => hlt x (by simp [hx])), rfl⟩

/-- THE POST OF A LAW. -/
theorem law_post {f : Func} {s : ChangeSpec} {W W' : World} {args : Array Value} {ds gs : List (DataW H)} {before : List MemPlace} {tb : TypeId}
    (hW : DataW.Whole enc P f.params.toList s.vars false W args.toList ds gs before) (hv : s.vars = []) (hfn : s.fn H (ds ++ gs) = { results := [.lit (.bool true)], args := ds })
    (hres : f.resultTypes = #[tb]) (hbool : P.underlying tb = some .bool) (hl : laidOutB P = true) (hr : (f.params.toList.all fun t => P.readableRec t && decide (t < P.types.size)) = true)
    (hb : Below W.heap.size W W') : s.post enc P f false true false false W args (.bool true) W' := by
  have hW' := hW
  obtain ⟨p, q, hA, hV, rfl, hz, hn⟩ := hW
  have hlt : ∀ x ∈ p, x.block < W.heap.size := fun x hx => hW'.lt x (by simp [hx])
  refine ⟨ds, gs, p ++ q, [], p, [], hW', ?_, ?_, ?_, hb.frame _, fun h => by cases h⟩
  · rw [hfn, hres]
    exact trodAll_mk1 (shut_bool hbool true)
  · rw [hfn]
    exact trodAll_below hl hb hr hA hlt
  · rw [hfn, hv]
    rfl

theorem wf_u8 {x : Int} (h : (Lit.int .u8 x).wf = true) : 0 ≤ x ∧ x < 256 := by
  have := bounds_u8 h
  omega

/-- bytes that came in -/
theorem open_bytes {t e : TypeId} (ht : P.underlying t = some (.slice e)) (he : P.underlying e = some (.int .u8)) (hc : P.cellsOf e = 1) {W : World} {base : Nat} {v : Value} {d : DataW H} {p : List MemPlace}
    (hv : Value.okWide P W .any base t v) (h : DataW.Trod enc P W 0 (fun _ => true) true t v d p) :
    ∃ (A : Option Addr) (n c : Nat) (l : List UInt8), v = .slice A n c ∧ n ≤ c ∧ c ≤ maxLen ∧ (A = none → n = 0) ∧ Rd W W.heap.size 1 A n (bytesV l) ∧
      (d = .nil ∧ n = 0 ∧ l = [] ∨ ∃ es sp : List (DataW H), d = .slice es sp ∧ es.length = n ∧ es.length + sp.length = c ∧ es = l.map fun b => .lit (.int .u8 (b.toNat : Int))) := by
  obtain ⟨a0, len, cap, rfl⟩ := okWide_slice ht hv
  obtain ⟨fuel, hf⟩ := h
  rcases open_ints ht he hc hf with ⟨hcs, hx⟩ | ⟨a, len', cap', zs, hcs, hsp, hle, hm, hz, hx, hcell, hwz⟩
  · obtain ⟨rfl, rfl, rfl⟩ : a0 = none ∧ len = 0 ∧ cap = 0 := by simpa [Value.cells] using hcs
    exact ⟨none, 0, 0, [], rfl, Nat.le_refl _, by simp [maxLen], fun _ => rfl, Rd.nil _ _ _ _, .inl ⟨by simpa using congrArg Prod.fst hx, rfl, rfl⟩⟩
  · obtain ⟨rfl, rfl, rfl⟩ : a0 = some a ∧ len = len' ∧ cap = cap' := by simpa [Value.cells] using hcs
    have hz' : zs.length = cap := by simpa using hz
    have hall : ∀ z ∈ zs, 0 ≤ z ∧ z < 256 := fun z h => wf_u8 (hwz z h)
    have hb : ∀ xs : List Int, (∀ z ∈ xs, 0 ≤ z ∧ z < 256) → bytesV (xs.map fun z => UInt8.ofNat z.toNat) = xs.map (Value.int .u8) ∧ (xs.map fun z => UInt8.ofNat z.toNat).map (fun b => (b.toNat : Int)) = xs := by
      intro xs
      induction xs with
      | nil => intro _; exact ⟨rfl, rfl⟩
      | cons z xs ih =>
        intro h
        obtain ⟨i1, i2⟩ := ih fun y hy => h y (by simp [hy])
        have h0 := h z (by simp)
        have e : ((UInt8.ofNat z.toNat).toNat : Int) = z := by
          rw [UInt8.toNat_ofNat', Nat.mod_eq_of_lt (by omega)]; omega
        constructor
        · simp only [bytesV, List.map_cons, e] at i1 ⊢
          rw [i1]
        · simp only [List.map_cons, e, i2]
    obtain ⟨b1, b2⟩ := hb (zs.take len) fun z h => hall z (List.mem_of_mem_take h)
    refine ⟨some a, len, cap, (zs.take len).map fun z => UInt8.ofNat z.toNat, rfl, hle, hm, (fun e => by cases e), ?_, .inr ⟨lits .u8 (zs.take len), lits .u8 (zs.drop len), by simpa using congrArg Prod.fst hx, ?_, ?_, ?_⟩⟩
    · refine ⟨by rw [bytesV_len]; simp; omega, fun hn => ?_⟩
      obtain ⟨g, o, sp⟩ := a
      obtain rfl : sp = none := by simpa [Addr.add] using World.cell?_spot (hcell 0 (by omega))
      refine ⟨g, o, rfl, cell_lt (by have := hcell 0 (by omega); rw [Addr.add_lit] at this; exact this), fun j u hu => ?_⟩
      rw [b1] at hu
      have hj : j < len := by
        have := (List.getElem?_eq_some_iff.1 hu).1
        simp at this
        omega
      have h1 := hcell j (by omega)
      rw [Addr.add_lit] at h1
      rw [h1]
      have : (List.map (Value.int .u8) (List.take len zs))[j]? = some (.int .u8 (zs.getD j 0)) := by
        simp [hj, List.getD, show j < zs.length by omega]
      rw [this] at hu
      exact hu
    · simp [lits]; omega
    · simp [lits]; omega
    · show (zs.take len).map _ = _
      rw [List.map_map]
      refine List.map_congr_left fun z hz => ?_
      have h0 := hall z (List.mem_of_mem_take hz)
      have e : ((UInt8.ofNat z.toNat).toNat : Int) = z := by
        rw [UInt8.toNat_ofNat', Nat.mod_eq_of_lt (by omega)]; omega
      simp only [Function.comp, e]
end
end Go.Proofs.Ythgeppdoonbkpaa

namespace Go.Proofs.Ythgeppdoonbkpaa
abbrev Bs := List UInt8

/-- bytes of a token (P22.4) -/
def marks : Bs := [33, 35, 36, 37, 38, 39, 42, 43, 45, 46, 94, 95, 124, 126, 96]
def isTok (c : UInt8) : Bool := (97 ≤ c && c ≤ 122) || (65 ≤ c && c ≤ 90) || (48 ≤ c && c ≤ 57) || marks.contains c
def token (l : Bs) : Bool := !l.isEmpty && l.all isTok
def small (c : UInt8) : UInt8 := if 65 ≤ c && c ≤ 90 then c + 32 else c
def fold (l : Bs) : Bs := l.map small
def isBlank (c : UInt8) : Bool := c == 32 || c == 9
def trim (l : Bs) : Bs := ((l.reverse.dropWhile isBlank).reverse).dropWhile isBlank

theorem trimS_trim (l : Bs) : Lib.trimS l [32, 9] = trim l := by
  have e : (fun c : UInt8 => ([32, 9] : Bs).contains c) = isBlank := by
    funext c
    rw [Bool.eq_iff_iff]
    simp [isBlank]
  simp only [Lib.trimS, Lib.trimLeftS, Lib.trimRightS, trim, e]

/-- the tests on a byte, as the walk asks them of its number -/
def letterI (x : Nat) : Prop := (97 ≤ x ∧ x ≤ 122) ∨ (65 ≤ x ∧ x ≤ 90) ∨ (48 ≤ x ∧ x ≤ 57)
instance (x : Nat) : Decidable (letterI x) := by unfold letterI; infer_instance
theorem isTok_eq (c : UInt8) : isTok c = (decide (letterI c.toNat) || marks.contains c) := by
  simp only [isTok, UInt8.le_iff_toNat_le]
  have e1 : (97 : UInt8).toNat = 97 := rfl
  have e2 : (122 : UInt8).toNat = 122 := rfl
  have e3 : (65 : UInt8).toNat = 65 := rfl
  have e4 : (90 : UInt8).toNat = 90 := rfl
  have e5 : (48 : UInt8).toNat = 48 := rfl
  have e6 : (57 : UInt8).toNat = 57 := rfl
  rw [Bool.eq_iff_iff]
  simp only [e1, e2, e3, e4, e5, e6, Bool.or_eq_true, Bool.and_eq_true, decide_eq_true_eq]
  unfold letterI
  simp only [or_assoc]
theorem small_toNat (c : UInt8) : (small c).toNat = if 65 ≤ c.toNat ∧ c.toNat ≤ 90 then c.toNat + 32 else c.toNat := by
  simp only [small, UInt8.le_iff_toNat_le]
  have e3 : (65 : UInt8).toNat = 65 := rfl
  have e4 : (90 : UInt8).toNat = 90 := rfl
  simp only [e3, e4]
  by_cases h : 65 ≤ c.toNat ∧ c.toNat ≤ 90
  · have h1 : (decide (65 ≤ c.toNat) && decide (c.toNat ≤ 90)) = true := by simp [h]
    rw [if_pos h1, if_pos h, UInt8.toNat_add]
    have : (32 : UInt8).toNat = 32 := rfl
    rw [this]
    omega
  · have h1 : ¬ (decide (65 ≤ c.toNat) && decide (c.toNat ≤ 90)) = true := by simp only [Bool.and_eq_true, decide_eq_true_eq]; exact h
    rw [if_neg h1, if_neg h]

theorem fold_snoc (l : Bs) (c : UInt8) : fold (l ++ [c]) = fold l ++ [small c] := by simp [fold]
theorem fold_len (l : Bs) : (fold l).length = l.length := by simp [fold]

/-- Lib.indexByte on marks -/
theorem index_marks (c : UInt8) : decide (0 ≤ Lib.indexByte marks c) = marks.contains c := (Lib.contains_iff_indexByte marks c).symm

def trimL (l : Bs) : Bs := l.dropWhile isBlank
def trimR (l : Bs) : Bs := (l.reverse.dropWhile isBlank).reverse
theorem trim_eq (l : Bs) : trim l = trimL (trimR l) := rfl
theorem trimR_cons (c : UInt8) (t : Bs) : trimR (c :: t) = if trimR t = [] ∧ isBlank c = true then [] else c :: trimR t := by
  unfold trimR
  rw [List.reverse_cons, List.dropWhile_append]
  by_cases h : (t.reverse.dropWhile isBlank).isEmpty = true
  · have h' : t.reverse.dropWhile isBlank = [] := by simpa using h
    rw [if_pos h, h']
    by_cases hc : isBlank c = true
    · simp [hc]
    · simp [hc]
  · have h' : t.reverse.dropWhile isBlank ≠ [] := by simpa using h
    rw [if_neg h, if_neg (by simp [h'])]
    simp
theorem trim_comm (l : Bs) : trimR (trimL l) = trimL (trimR l) := by
  induction l with
  | nil => rfl
  | cons c t ih =>
    by_cases hc : isBlank c = true
    · have e : trimL (c :: t) = trimL t := by simp [trimL, hc]
      rw [e, ih, trimR_cons]
      by_cases h : trimR t = []
      · rw [if_pos ⟨h, hc⟩, h]
      · rw [if_neg (fun x => h x.1)]; simp [trimL, hc]
    · have e : trimL (c :: t) = c :: t := by simp [trimL, hc]
      rw [e, trimR_cons, if_neg (fun x => hc x.2)]
      simp [trimL, hc]
theorem trimL_step (c : UInt8) (t : Bs) (h : isBlank c = true) : trimL (c :: t) = trimL t := by simp [trimL, h]
theorem trimL_stop (c : UInt8) (t : Bs) (h : isBlank c = false) : trimL (c :: t) = c :: t := by simp [trimL, h]
theorem trimR_step (l : Bs) (c : UInt8) (h : isBlank c = true) : trimR (l ++ [c]) = trimR l := by simp [trimR, h]
theorem trimR_stop (l : Bs) (c : UInt8) (h : isBlank c = false) : trimR (l ++ [c]) = l ++ [c] := by simp [trimR, h]
theorem trim_le (l : Bs) : (trim l).length ≤ l.length := by
  unfold trim
  exact Nat.le_trans (List.dropWhile_sublist _).length_le (by simpa using (List.dropWhile_sublist (p := isBlank) (l := l.reverse)).length_le)
end Go.Proofs.Ythgeppdoonbkpaa

namespace Go.Proofs.Ythgeppdoonbkpaa
open Go.RowKit

/-- block b holds the cells cs, none frozen -/
def Var (w : World) (b : Nat) (t : TypeId) (cs : List Value) : Prop := w.heap[b]? = some (.cells cs.toArray t (0, 0))

section
variable {w w' : World} {b B : Nat} {t : TypeId} {cs : List Value}
theorem Var.lt (h : Var w b t cs) : b < w.heap.size := (Array.getElem?_eq_some_iff.1 h).1
theorem Var.new (w : World) (t : TypeId) (cs : List Value) : Var (w.alloc (.cells cs.toArray t)) w.heap.size t cs := heap_alloc_new w _
theorem Var.alloc (h : Var w b t cs) (o : Obj) : Var (w.alloc o) b t cs := (Below.heap_alloc w o b h.lt).trans h
theorem Var.drew (h : Var w b t cs) : Var w.drew b t cs := h
theorem Var.drewN (h : Var w b t cs) (k : Nat) : Var (w.drewN k) b t cs := h
theorem Var.below (h : Var w b t cs) (hb : Below B w w') (hlt : b < B) : Var w' b t cs := (hb.block b hlt).trans h
theorem Var.below_all (h : Var w b t cs) (hb : Below w.heap.size w w') : Var w' b t cs := h.below hb h.lt
theorem Var.grown {row : Option Nat} (h : Var w b t cs) (hg : w.grownBy w' row) (hne : row ≠ some b) : Var w' b t cs := (hg.block b h.lt (fun e => hne e.symm)).trans h
theorem Var.cell (h : Var w b t cs) {j : Nat} {u : Value} (hj : cs[j]? = some u) : w.cell? ⟨b, j, none⟩ = some u := by
  rw [cell_of_row w b j cs.toArray t (0, 0) h]; simpa using hj
theorem Var.frozen (h : Var w b t cs) (j : Nat) : w.frozen? ⟨b, j, none⟩ = false := by
  unfold Var at h
  simp [World.frozen?, h]
theorem Var.range (h : Var w b t cs) : World.rangeAt w b 0 cs := fun j u hj => by
  rw [Nat.zero_add]; exact h.cell hj
theorem Var.set (h : Var w b t cs) (j : Nat) (u : Value) : Var (w.setCell ⟨b, j, none⟩ u) b t (cs.set j u) := by
  unfold Var at h ⊢
  simp [World.setCell, Array.getElem?_modify, h]
theorem Var.set_other (h : Var w b t cs) {p : Addr} (hp : p.block ≠ b) (u : Value) : Var (w.setCell p u) b t cs :=
  (Below.heap_setCell _ _ _ _ (fun e => hp e.symm)).trans h
end
theorem Rd.keeps {w w' : World} {sz n : Nat} {A : Option Addr} {xs : List Value} (h : Rd w w.heap.size sz A n xs) (hb : Below w.heap.size w w') : Rd w' w'.heap.size sz A n xs := (h.below hb).more hb.size
/-- A guarded load of a variable of several cells whose guard says yes. -/
theorem wpList_load_mid_g {P : Program} {ops : Array Oper} {rest : List Oper} {op : Oper} {a : Act} {w : World} {Q : Exit → Act → World → Prop} (hw : Region.wanted op (yielded ops a.tmps) = true) (ty : TypeId) (x : Operand) (ho : op.op = .load ty x)
    (b o : Nat) (hx : a.eval x = .pointer (some ⟨b, o, none⟩)) (cs : List Value) (d : TypeDesc) (hc : w.rangeAt b o cs)
    (hu : P.underlying ty = some d) (hd : d.isRow = true) (hi : (P.info? ty).map (·.size) = some cs.length)
    (h : wpList P ops Q rest (a.put op.dst (.agg cs.toArray)) w) : wpList P ops Q (op :: rest) a w :=
  BigFrame.wpList_want hw fun _ hK => wp_load_mid ty x ho b o hx cs d hc hu hd hi (hK _ _ h)

theorem World.grownBy.set (w : World) (p : Addr) (u : Value) : w.grownBy (w.setCell p u) (some p.block) :=
  ⟨rfl, rfl, rfl, by simp, fun k _ hk => Below.heap_setCell _ _ _ _ (fun e => hk (by rw [e]))⟩
theorem World.grownBy.comp {a b c : World} {r : Option Nat} (h : a.grownBy b r) (k : b.grownBy c r) : a.grownBy c r :=
  ⟨k.os.trans h.os, k.tape.trans h.tape, k.output.trans h.output, Nat.le_trans h.size k.size, fun j hj hr => (k.block j (Nat.lt_of_lt_of_le hj h.size) hr).trans (h.block j hj hr)⟩
theorem Var.there {w : World} {b : Nat} {t : TypeId} {cs : List Value} (h : Var w b t cs) : w.there b 0 cs.length := fun j hj => by
  rw [Nat.zero_add]
  exact ⟨by rw [h.cell (j := j) (List.getElem?_eq_getElem hj)]; rfl, h.frozen j⟩
theorem setCells_var {b : Nat} {t : TypeId} : ∀ (vs : List Value) (o : Nat) (w : World) (cs : List Value), Var w b t cs → o + vs.length ≤ cs.length →
    Var (w.setCells b o vs) b t (cs.take o ++ vs ++ cs.drop (o + vs.length)) ∧ w.grownBy (w.setCells b o vs) (some b) ∧ (w.setCells b o vs).heap.size = w.heap.size
  | [], o, w, cs, h, _ => ⟨by simpa [World.setCells] using h, World.grownBy.refl w _, rfl⟩
  | v :: r, o, w, cs, h, hl => by
    simp only [List.length_cons] at hl
    obtain ⟨h1, h2, h3⟩ := setCells_var r (o + 1) _ (cs.set o v) (h.set o v) (by rw [List.length_set]; omega)
    refine ⟨?_, World.grownBy.comp (World.grownBy.set w ⟨b, o, none⟩ v) h2, h3.trans (by simp)⟩
    have e : (cs.set o v).take (o + 1) ++ r ++ (cs.set o v).drop (o + 1 + r.length) = cs.take o ++ (v :: r) ++ cs.drop (o + (v :: r).length) := by
      have e1 : (cs.take o).length = o := by rw [List.length_take]; omega
      have e2 : (cs.set o v).take (o + 1) = cs.take o ++ [v] := by
        rw [List.take_set, List.take_succ_eq_append_getElem (by omega), List.set_append_right _ _ (by omega), e1, Nat.sub_self]; rfl
      have e3 : (cs.set o v).drop (o + 1 + r.length) = cs.drop (o + 1 + r.length) := List.drop_set_of_lt (by omega)
      rw [e2, e3, List.length_cons, show o + (r.length + 1) = o + 1 + r.length by omega]
      simp
    rw [e] at h1
    exact h1
/-- The whole variable is stored anew. -/
theorem wpList_put {P : Program} {ops : Array Oper} {rest : List Oper} {op : Oper} {a : Act} {w : World} {Q : Exit → Act → World → Prop} (hgd : op.guard = none) (ty : TypeId) (x y : Operand) (ho : op.op = .store ty x y)
    (b : Nat) (hx : a.eval x = .pointer (some ⟨b, 0, none⟩)) {t : TypeId} {cs : List Value} (hv : Var w b t cs) (us : List Value) (hy : a.eval y = .agg us.toArray) (hl : us.length = cs.length)
    (hi : (P.info? ty).map (·.size) = some us.length) (h1 : ∀ u ∈ us, u.oneCell' = true)
    (h : ∀ w', Var w' b t us → w.grownBy w' (some b) → w'.heap.size = w.heap.size → wpList P ops Q rest (a.put op.dst undef) w') : wpList P ops Q (op :: rest) a w := by
  obtain ⟨k1, k2, k3⟩ := setCells_var us 0 w cs hv (by omega)
  refine wpList_store_mid hgd ty x y ho b 0 us.toArray hx hy (by have := hv.there; rw [← hl] at this; simpa using this) (by simpa using hi) (all_oneCell_toArray h1) ?_
  refine h _ ?_ k2 k3
  rw [Nat.zero_add, hl, List.drop_length, List.take_zero, List.nil_append, List.append_nil] at k1
  exact k1
/-- What a function returns whose first result is a variable of several cells. -/
theorem results_var {P : Program} {fn : Func} {p u : Tmp} {ty : TypeId} (h : fn.results = #[.cell p ty, .tmp u]) (tmps : Array Value) {w : World} {b : Nat} {t : TypeId} {cs : List Value} (d : TypeDesc)
    (hp : tmps.getD p undef = .pointer (some ⟨b, 0, none⟩)) (hv : Var w b t cs) (hu : P.underlying ty = some d) (hd : (match d with | .struct _ | .array _ _ => true | _ => false) = true) (hi : (P.info? ty).map (·.size) = some cs.length) :
    (results fn tmps).run P w = .ok (.tuple #[.agg cs.toArray, tmps.getD u undef]) w := by
  have hl := run_loadVar_row (P := P) w b t ty cs.toArray (0, 0) d hv hu hd (by simpa using hi)
  rw [results_cell_tmp h, hp]
  simp [asAddr, Result.andThen, hl]

/-- A scope out of which the run jumps forward to one label: behind it the rest is walked. -/
theorem wp_scope_to {P : Program} {a : Act} {w : World} {Q : Exit → Act → World → Prop} {c rest : Code} (l : Nat) (hf : findLabel c l = some rest)
    (first : ∀ J : Act → World → Prop, (∀ a w, rest.wp P (Exit.jump l (fun _ _ => False) Q) a w → J a w) → c.wp P (Exit.jump l J Q) a w) : (Code.scope c).wp P Q a w :=
  wp_scope_jumps l (fun a w => rest.wp P (Exit.jump l (fun _ _ => False) Q) a w) (fun _ _ => 0) hf (first _ fun _ _ h => h) fun a w h => wp_mono h fun e a w hq => by
    cases e with
    | goto l' => exact absurd hq.2 id
    | _ => exact hq

end Go.Proofs.Ythgeppdoonbkpaa
namespace Go.Proofs.Ythgeppdoonbkpaa
open Go.RowKit

/-- w' is w but for the blocks of S, and new ones -/
structure Chg (S : Nat → Prop) (w w' : World) : Prop where
  os : w'.os = w.os
  tape : w'.tape = w.tape
  output : w'.output = w.output
  size : w.heap.size ≤ w'.heap.size
  block : ∀ k, k < w.heap.size → ¬ S k → w'.heap[k]? = w.heap[k]?

section
variable {S S' : Nat → Prop} {w w' w1 w2 : World} {B base sz n b : Nat} {v : Value} {xs cs : List Value} {t : TypeId} {A : Option Addr}
theorem Chg.refl (S : Nat → Prop) (w : World) : Chg S w w := ⟨rfl, rfl, rfl, Nat.le_refl _, fun _ _ _ => rfl⟩
theorem Chg.trans (h : Chg S w w1) (k : Chg S' w1 w2) (hs : ∀ j, j < w.heap.size → S' j → S j) : Chg S w w2 :=
  ⟨k.os.trans h.os, k.tape.trans h.tape, k.output.trans h.output, Nat.le_trans h.size k.size, fun j hj hn => (k.block j (Nat.lt_of_lt_of_le hj h.size) (fun e => hn (hs j hj e))).trans (h.block j hj hn)⟩
theorem Chg.more (h : Chg S w w') (hs : ∀ j, j < w.heap.size → S j → S' j) : Chg S' w w' :=
  ⟨h.os, h.tape, h.output, h.size, fun j hj hn => h.block j hj (fun e => hn (hs j hj e))⟩
theorem Chg.drew (h : Chg S w w') : Chg S w w'.drew := ⟨h.os, h.tape, h.output, h.size, h.block⟩
theorem Chg.drewN (h : Chg S w w') (q : Nat) : Chg S w (w'.drewN q) := ⟨h.os, h.tape, h.output, h.size, h.block⟩
theorem Chg.alloc (h : Chg S w w') (o : Obj) : Chg S w (w'.alloc o) :=
  h.trans (S' := fun _ => False) ⟨rfl, rfl, rfl, by simp, fun k hk _ => Below.heap_alloc w' o k hk⟩ (fun _ _ e => e.elim)
theorem Chg.setCell (h : Chg S w w') {p : Addr} (hp : p.block < w.heap.size → S p.block) (u : Value) : Chg S w (w'.setCell p u) :=
  h.trans (S' := fun k => k = p.block) ⟨rfl, rfl, rfl, by simp, fun k _ hn => Below.heap_setCell _ _ _ _ hn⟩ (fun j hj e => by subst e; exact hp hj)
theorem Chg.grown {row : Option Nat} (h : Chg S w w') (hg : w'.grownBy w1 row) (hr : ∀ k, k < w.heap.size → row = some k → S k) : Chg S w w1 :=
  h.trans (S' := fun k => row = some k) ⟨hg.os, hg.tape, hg.output, hg.size, fun k hk hn => hg.block k hk (fun e => hn e.symm)⟩ hr
theorem Chg.then_below (h : Chg S w w') (hb : Below w'.heap.size w' w1) : Chg S w w1 :=
  h.trans (S' := fun _ => False) ⟨hb.os, hb.tape, hb.output, hb.size, fun k hk _ => hb.block k hk⟩ (fun _ _ e => e.elim)
theorem Chg.of_below (hb : Below w.heap.size w w') : Chg S w w' := (Chg.refl S w).then_below hb
theorem Chg.below (h : Chg S w w') (hB : B ≤ w.heap.size) (hS : ∀ k, S k → B ≤ k) : Below B w w' :=
  ⟨h.os, h.tape, h.output, h.size, fun k hk => h.block k (by omega) (fun e => by have := hS k e; omega)⟩
theorem Below.chg (h0 : Below B w w1) (h : Chg S w1 w2) (hB : B ≤ w1.heap.size) (hS : ∀ k, S k → B ≤ k) : Below B w w2 := h0.trans (h.below hB hS)
theorem Row.chg (h : Row w base sz v n xs) (hc : Chg S w w') (hs : ∀ k, v.ownBlock = some k → ¬ S k) : Row w' base sz v n xs :=
  h.block_eq fun k hk => hc.block k (h.lt k hk).2 (hs k hk)
theorem Var.chg (h : Var w b t cs) (hc : Chg S w w') (hs : ¬ S b) : Var w' b t cs := (hc.block b h.lt hs).trans h
theorem Rd.chg (h : Rd w B sz A n xs) (hc : Chg S w w') (hB : B ≤ w.heap.size) (hs : ∀ k, k < B → ¬ S k) : Rd w' B sz A n xs :=
  h.keep fun g o hg => World.cell?_of_block (w := w) (a := ⟨g, o, none⟩) (hc.block g (by omega) (hs g hg))
end
end Go.Proofs.Ythgeppdoonbkpaa

namespace Go.Proofs.Ythgeppdoonbkpaa
open Go.RowKit

theorem infoByte : (Try.prog.info? 5).map (fun i => (i.zero, i.size, i.bytes)) = some (some (.int .u8 0), 1, 1) := by kernel_rfl
/-- the value v's elements are the bytes L; its block, from base on, is the call's own -/
def RowB (w : World) (base : Nat) (v : Value) (L : Bs) : Prop := Row w base 1 v L.length (bytesV L)
/-- what is appended: the bytes M -/
def SrcB (w : World) (tx : TypeId) (x : Value) (M : Bs) : Prop := Src Try.prog w tx 1 x M.length (bytesV M)

section
variable {w w' : World} {base B : Nat} {v : Value} {L M : Bs}
theorem RowB.nil (w : World) (base : Nat) : RowB w base (.slice none 0 0) [] := Row.nil w base 1
theorem RowB.alloc (h : RowB w base v L) (o : Obj) : RowB (w.alloc o) base v L := Row.alloc h o
theorem RowB.drew (h : RowB w base v L) : RowB w.drew base v L := h
theorem RowB.drewN (h : RowB w base v L) (k : Nat) : RowB (w.drewN k) base v L := h
theorem RowB.below_all (h : RowB w base v L) (hb : Below w.heap.size w w') : RowB w' base v L := Row.below_all h hb
theorem RowB.kept {row : Option Nat} (h : RowB w base v L) (hg : w.grownBy w' row) (hne : v.ownBlock = none ∨ v.ownBlock ≠ row) : RowB w' base v L := Row.kept h hg hne
theorem RowB.form (h : RowB w base v L) : ∃ A c, v = .slice A L.length c ∧ L.length ≤ c ∧ c ≤ maxLen ∧ (A = none → L.length = 0 ∧ c = 0) ∧ Rd w w.heap.size 1 A L.length (bytesV L) := Row.form h
theorem SrcB.str (w : World) (s : ByteArray) : SrcB w 9 (.string s) s.data.toList := by
  have h := Src.string (P := Try.prog) (w := w) (tx := 9) Try.underlying9 s
  unfold SrcB
  rw [size_data]
  exact h
theorem SrcB.slice {A : Option Addr} {n c : Nat} (h : Rd w B 1 A n (bytesV M)) (h0 : A = none → n = 0) : SrcB w 22 (.slice A n c) M := by
  have hn : M.length = n := by have := h.1; rw [bytesV_len] at this; omega
  subst hn
  exact Src.slice Try.underlying22 h h0 (bytesV_one M)
theorem SrcB.built (M : Bs) (us : List Value) (hu : us = bytesV M) : SrcB (w.alloc (.cells us.toArray 5)) 22 (.slice (some ⟨w.heap.size, 0, none⟩) M.length M.length) M := by
  subst hu
  exact Src.built (bytesV M) 5 Try.underlying22 (by rw [bytesV_len]; omega) (bytesV_one M)
end

/-- append to bytes -/
theorem wpList_appB {ops : Array Oper} {rest : List Oper} {o : Oper} {a : Act} {w : World} {Q : Exit → Act → World → Prop} (hgd : o.guard = none) (s x : Operand) (tx : TypeId)
    (ho : o.op = .call { callee := .builtin .append, args := #[s, x], argTypes := #[22, tx] })
    (base : Nat) {v : Value} {L M : Bs} (hs : a.eval s = v) (hown : RowB w base v L) {xv : Value} (hxv : a.eval x = xv) (hx : SrcB w tx xv M)
    (hmax : L.length + M.length ≤ 134217728) (hbase : base ≤ w.heap.size)
    (h : ∀ v' w', RowB w' base v' (L ++ M) → Below base w w' → w.grownBy w' v.ownBlock → (v'.ownBlock = v.ownBlock ∨ v'.ownBlock = some w.heap.size) → wpList Try.prog ops Q rest (a.put o.dst v') w') : wpList Try.prog ops Q (o :: rest) a w := by
  obtain ⟨j0, hj0, jz0, jz1, jz2⟩ := info_parts infoByte
  refine wpList_app (P := Try.prog) w hgd s x 22 tx ho base 5 j0 (.int .u8 0) 1 1 Try.underlying22 hj0 jz0 jz1 jz2 rfl v L.length (bytesV L) hs hown xv M.length (bytesV M) hxv hx (by omega) (by omega) (by omega) hbase ?_
  intro v' w' h1 h2 h3
  refine h v' w' ?_ (Below.app (Below.refl _ _) hown h2 (Nat.le_refl _) hbase) h2 h3
  unfold RowB
  rw [List.length_append, bytesV_append]
  exact h1
/-- the same in a region that draws its order -/
theorem step_appB {ops : Array Oper} {o : Oper} {a : Act} {w : World} {K : Act → World → Prop} {Q : Exit → Act → World → Prop} {E : Prop} (hgd : o.guard = none) (s x : Operand) (tx : TypeId)
    (ho : o.op = .call { callee := .builtin .append, args := #[s, x], argTypes := #[22, tx] })
    (base : Nat) {v : Value} {L M : Bs} (hs : a.eval s = v) (hown : RowB w base v L) {xv : Value} (hxv : a.eval x = xv) (hx : SrcB w tx xv M)
    (hmax : L.length + M.length ≤ 134217728) (hbase : base ≤ w.heap.size)
    (h : ∀ v' w', RowB w' base v' (L ++ M) → Below base w w' → w.grownBy w' v.ownBlock → (v'.ownBlock = v.ownBlock ∨ v'.ownBlock = some w.heap.size) → K (a.put o.dst v') w') :
    if Region.wanted o (yielded ops a.tmps) = true then Oper.wp Try.prog o a w K Q else E := by
  obtain ⟨j0, hj0, jz0, jz1, jz2⟩ := info_parts infoByte
  refine step_app (P := Try.prog) w hgd s x 22 tx ho base 5 j0 (.int .u8 0) 1 1 Try.underlying22 hj0 jz0 jz1 jz2 rfl v L.length (bytesV L) hs hown xv M.length (bytesV M) hxv hx (by omega) (by omega) (by omega) hbase ?_
  intro v' w' h1 h2 h3
  refine h v' w' ?_ (Below.app (Below.refl _ _) hown h2 (Nat.le_refl _) hbase) h2 h3
  unfold RowB
  rw [List.length_append, bytesV_append]
  exact h1
end Go.Proofs.Ythgeppdoonbkpaa

namespace Go.Proofs.Ythgeppdoonbkpaa
open Go.RowKit

theorem Held.trans {W0 W W1 : World} {X : Prop} (h : Below W0.heap.size W0 W ∧ X) (hl : Below W.heap.size W W1) : Below W0.heap.size W0 W1 := h.1.trans (hl.mono h.1.size)
theorem Held.rd {W0 W : World} {X : Prop} {sz n : Nat} {A : Option Addr} {xs : List Value} (h : Below W0.heap.size W0 W ∧ X) (hr : Rd W0 W0.heap.size sz A n xs) : Rd W W.heap.size sz A n xs := hr.keeps h.1
end Go.Proofs.Ythgeppdoonbkpaa
