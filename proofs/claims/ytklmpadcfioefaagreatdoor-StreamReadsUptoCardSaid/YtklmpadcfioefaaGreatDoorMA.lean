/- Words for memory and laws on append over any row that a call owns (whatever its block's element type, its place in the block and its marks). No condition. | From a walk that ends '.bool true' and leaves what was there alone, to the row's own post; arguments opened. No condition. | Plain words on bytes: tokens, folding, trimming. No program in sight. No condition. | Token, Fold, trim: the program's and the reference's, walked. No condition but sizes. | Fold: the program's (with its closure) and the reference's; trim. | head.Values and the reference's; fields, texts in memory. | Plain words on lists of texts: what stands between commas. No program in sight. No condition. | Arguments opened: texts, fields, a head; their sizes out of the second form's bound. No condition. | The reference's Token. | trim: the reference's; strings.Trim at blanks. | head.List. | Plain words on heads: lines, the first line, fields; what is parsed. No program in sight. No condition. | head.written, head.minor, head.Parse's closure; the reference's place, text, minor; strings.Cut at a byte; slices.ContainsFunc. Conditions: sizes. | Plain law: no line can be smuggled into a head that is parsed. No program in sight. | Blocks that hold a call's own variables: their cells, through what follows. No condition. | A set of texts in a map that the call makes. No condition. -/
import Derived.Test.YtklmpadcfioefaaGreatDoorRows
import Derived.WalkKit
import Derived.WalkSpells
import Derived.WalkLawsBesides
import Derived.Lib.AppendStr
import Derived.LoopN
import Derived.Lib.Hide
import Derived.Deep.Cut
import Derived.Deep.DeepMust
import Derived.Deep.QuietTactic
import Derived.BigQuiet
import Derived.ScopeJumps
import Derived.ProofKit
import Derived.OpenShut
import Derived.SizedLaws
import Derived.Carry
import Derived.Lib.Split
import Derived.Lib.SplitLaws
import Derived.Lib.SlTrimSet
import Derived.Lib.IndexLaws
import Derived.Lib.IndexAny
import Derived.Test.YtklmpadcfioefaaGreatDoorShelf
import Derived.Shelf.Strings.SlTrimAscii
import Derived.Lib.ConvBytes
import Derived.Lib.AtoiErrMem
import Derived.Deep.MidRow
import Derived.MapKept
import Derived.Lib.SlicesS
import Derived.Deep.SlicePairs
import Derived.SliceStrings
import Derived.BigFrame
import Derived.Laws.ResultCell
import Derived.Maps.OwnOps
import Derived.Maps.OwnSet
import Derived.Maps.Views
namespace Go.Proofs.YtklmpadcfioefaaGreatDoor
open Go.RowKit

/-- n elements of sz cells each lie at A, all below block B: the cells xs. -/
def Rd (w : World) (B sz : Nat) (A : Option Addr) (n : Nat) (xs : List Value) : Prop :=
  xs.length = n * sz ∧ (0 < n → ∃ g o, A = some ⟨g, o, none⟩ ∧ g < B ∧ ∀ j u, xs[j]? = some u → w.cell? ⟨g, o + j, none⟩ = some u)

theorem cell_lt {w : World} {g o : Nat} {u : Value} (h : w.cell? ⟨g, o, none⟩ = some u) : g < w.heap.size := World.block_lt_of_cell? w _ h

section
variable {w w' : World} {B B' sz n : Nat} {A : Option Addr} {xs : List Value}
theorem Rd.nil (w : World) (B sz : Nat) (A : Option Addr) : Rd w B sz A 0 [] := ⟨by simp, fun h => absurd h (by omega)⟩
theorem Rd.keep (h : Rd w B sz A n xs) (hk : ∀ g o, g < B → w'.cell? ⟨g, o, none⟩ = w.cell? ⟨g, o, none⟩) : Rd w' B sz A n xs :=
  ⟨h.1, fun hn => by
    obtain ⟨g, o, e, hb, hc⟩ := h.2 hn
    exact ⟨g, o, e, hb, fun j u hu => (hk _ _ hb).trans (hc j u hu)⟩⟩
theorem Rd.more (h : Rd w B sz A n xs) (hB : B ≤ B') : Rd w B' sz A n xs :=
  ⟨h.1, fun hn => by
    obtain ⟨g, o, e, hb, hc⟩ := h.2 hn
    exact ⟨g, o, e, by omega, hc⟩⟩
theorem Rd.below (h : Rd w B sz A n xs) (hb : Below B w w') : Rd w' B sz A n xs := h.keep fun g o hg => hb.cell (p := ⟨g, o, none⟩) hg
theorem Rd.drew (h : Rd w B sz A n xs) : Rd w.drew B sz A n xs := h
theorem Rd.drewN (h : Rd w B sz A n xs) (k : Nat) : Rd (w.drewN k) B sz A n xs := h
theorem Rd.alloc (h : Rd w B sz A n xs) (hB : B ≤ w.heap.size) (o : Obj) : Rd (w.alloc o) B sz A n xs := h.keep fun g q hg => World.cell?_alloc_lt w o ⟨g, q, none⟩ (by show g < _; omega)
theorem Rd.setCell (h : Rd w B sz A n xs) {p : Addr} (hB : B ≤ p.block) (u : Value) : Rd (w.setCell p u) B sz A n xs :=
  h.keep fun g o hg => World.cell?_setCell_other w p ⟨g, o, none⟩ u (fun e => by subst e; exact absurd hg (by show ¬ g < B; simp at hB; omega))
theorem Rd.grown (h : Rd w B sz A n xs) {row : Option Nat} (hg : w.grownBy w' row) (hB : B ≤ w.heap.size) (hr : ∀ g, row = some g → B ≤ g) : Rd w' B sz A n xs :=
  h.keep fun g o hlt => World.cell?_of_block (w := w) (a := ⟨g, o, none⟩) (hg.block g (by omega) (fun e => by have := hr _ e.symm; omega))
theorem Rd.shift (h : Rd w B sz A n xs) {k cap : Nat} (hk : k ≤ n) (hc : n ≤ cap) :
    Rd w B sz (if cap = k then A else A.map (·.add (k * sz))) (n - k) (xs.drop (k * sz)) := by
  refine ⟨by rw [List.length_drop, h.1, Nat.sub_mul], fun hn => ?_⟩
  obtain ⟨g, o, rfl, hb, hcell⟩ := h.2 (by omega)
  rw [if_neg (by omega)]
  refine ⟨g, o + k * sz, by simp [Addr.add_lit], hb, fun j u hu => ?_⟩
  rw [Nat.add_assoc]
  exact hcell _ u (by rw [← hu, List.getElem?_drop])
theorem Rd.pre (h : Rd w B sz A n xs) {k : Nat} (hk : k ≤ n) : Rd w B sz A k (xs.take (k * sz)) := by
  refine ⟨by rw [List.length_take, h.1]; exact Nat.min_eq_left (Nat.mul_le_mul_right _ hk), fun hn => ?_⟩
  obtain ⟨g, o, rfl, hb, hcell⟩ := h.2 (by omega)
  exact ⟨g, o, rfl, hb, fun j u hu => hcell j u (by
    rw [List.getElem?_take] at hu
    split at hu
    · exact hu
    · cases hu)⟩
end

/-- v's n elements are the cells xs; its block, one of base on, is the call's own as far as v's capacity goes: no cell there is frozen. -/
def Row (w : World) (base sz : Nat) (v : Value) (n : Nat) (xs : List Value) : Prop :=
  xs.length = n * sz ∧
  ((v = .slice none 0 0 ∧ n = 0) ∨
   ∃ g o cap cur t fr, v = .slice (some ⟨g, o, none⟩) n cap ∧ base ≤ g ∧ w.heap[g]? = some (.cells cur t fr) ∧ n ≤ cap ∧ cap ≤ maxLen ∧ o + cap * sz ≤ cur.size ∧
     (∀ j, o ≤ j → j < o + cap * sz → ¬ (fr.1 ≤ j ∧ j < fr.2)) ∧ (cur.toList.drop o).take (n * sz) = xs)

section
variable {w w' : World} {base base' sz n : Nat} {v : Value} {xs : List Value}
theorem Row.nil (w : World) (base sz : Nat) : Row w base sz (.slice none 0 0) 0 [] := ⟨by simp, .inl ⟨rfl, rfl⟩⟩
theorem Row.lt (h : Row w base sz v n xs) : ∀ k, v.ownBlock = some k → base ≤ k ∧ k < w.heap.size := by
  intro k hk
  rcases h.2 with ⟨rfl, _⟩ | ⟨g, o, cap, cur, t, fr, rfl, hb, hg, _⟩
  · simp [Value.ownBlock] at hk
  · simp [Value.ownBlock] at hk
    subst hk
    exact ⟨hb, (Array.getElem?_eq_some_iff.1 hg).1⟩
theorem Row.block_eq (h : Row w base sz v n xs) (hk : ∀ k, v.ownBlock = some k → w'.heap[k]? = w.heap[k]?) : Row w' base sz v n xs := by
  refine ⟨h.1, ?_⟩
  rcases h.2 with hn | ⟨g, o, cap, cur, t, fr, rfl, hb, hgg, rest⟩
  · exact .inl hn
  · exact .inr ⟨g, o, cap, cur, t, fr, rfl, hb, by rw [hk g rfl]; exact hgg, rest⟩
theorem Row.kept {row : Option Nat} (h : Row w base sz v n xs) (hg : w.grownBy w' row) (hne : v.ownBlock = none ∨ v.ownBlock ≠ row) : Row w' base sz v n xs :=
  h.block_eq fun k hk => hg.block k (h.lt k hk).2 (by rcases hne with e | e <;> rw [hk] at e; cases e; exact e)
theorem Row.alloc (h : Row w base sz v n xs) (o : Obj) : Row (w.alloc o) base sz v n xs :=
  h.kept (World.grownBy_alloc w o none) (by cases hv : v.ownBlock <;> simp)
theorem Row.drew (h : Row w base sz v n xs) : Row w.drew base sz v n xs := h
theorem Row.drewN (h : Row w base sz v n xs) (k : Nat) : Row (w.drewN k) base sz v n xs := h
theorem Row.below {B : Nat} (h : Row w base sz v n xs) (hb : Below B w w') (hlt : ∀ k, v.ownBlock = some k → k < B) : Row w' base sz v n xs :=
  h.block_eq fun k hk => hb.block k (hlt k hk)
theorem Row.below_all (h : Row w base sz v n xs) (hb : Below w.heap.size w w') : Row w' base sz v n xs := h.below hb fun k hk => (h.lt k hk).2
theorem Row.setCell (h : Row w base sz v n xs) {p : Addr} (hp : v.ownBlock ≠ some p.block) (u : Value) : Row (w.setCell p u) base sz v n xs :=
  h.block_eq fun k hk => Below.heap_setCell _ _ _ _ (fun e => hp (by rw [hk, e]))
theorem Row.mono (h : Row w base sz v n xs) (hb : base' ≤ base) : Row w base' sz v n xs := by
  refine ⟨h.1, ?_⟩
  rcases h.2 with hn | ⟨g, o, cap, cur, t, fr, rfl, hb', rest⟩
  · exact .inl hn
  · exact .inr ⟨g, o, cap, cur, t, fr, rfl, by omega, rest⟩
/-- what a row holds can be read -/
theorem Row.form (h : Row w base sz v n xs) : ∃ A c, v = .slice A n c ∧ n ≤ c ∧ c ≤ maxLen ∧ (A = none → n = 0 ∧ c = 0) ∧ Rd w w.heap.size sz A n xs := by
  rcases h.2 with ⟨rfl, rfl⟩ | ⟨g, o, cap, cur, t, fr, rfl, hb, hg, hnc, hm, hs, _, ht⟩
  · exact ⟨none, 0, rfl, Nat.le_refl _, Nat.zero_le _, fun _ => ⟨rfl, rfl⟩, h.1, fun hh => absurd hh (by omega)⟩
  · refine ⟨_, cap, rfl, hnc, hm, (fun e => by cases e), h.1, fun _ => ⟨g, o, rfl, (Array.getElem?_eq_some_iff.1 hg).1, fun j u hu => ?_⟩⟩
    rw [cell_of_row w g (o + j) cur t fr hg]
    rw [← ht, List.getElem?_take] at hu
    split at hu
    · rw [List.getElem?_drop] at hu; simpa using hu
    · cases hu
/-- an address of its own: a cell there is not frozen, and lies from base on -/
theorem Row.own {A : Option Addr} {c : Nat} (h : Row w base sz (.slice A n c) n xs) (hn : 0 < n) : ∃ g o, A = some ⟨g, o, none⟩ ∧ base ≤ g ∧ g < w.heap.size ∧ (∀ j u, xs[j]? = some u → w.cell? ⟨g, o + j, none⟩ = some u) ∧ (∀ j, j < xs.length → w.frozen? ⟨g, o + j, none⟩ = false) := by
  rcases h.2 with ⟨_, rfl⟩ | ⟨g, o, cap, cur, t, fr, he, hb, hg, hnc, hm, hs, hf, ht⟩
  · omega
  · injection he with hA _ hcap
    subst hA
    subst hcap
    have hr := h.form
    obtain ⟨A', c', e, _, _, _, hrd⟩ := hr
    injection e with e1 _ _
    subst e1
    obtain ⟨g', o', e2, _, hc⟩ := hrd.2 hn
    injection e2 with e2
    injection e2 with e3 e4 _
    subst e3 e4
    refine ⟨g, o, rfl, hb, (Array.getElem?_eq_some_iff.1 hg).1, hc, fun j hj => ?_⟩
    have hj' : j < c * sz := by rw [h.1] at hj; exact Nat.lt_of_lt_of_le hj (Nat.mul_le_mul_right _ hnc)
    have := hf (o + j) (by omega) (by omega)
    simp only [World.frozen?, hg]
    simpa using this
theorem Row.set {g o c j : Nat} {u : Value} (h : Row w base sz (.slice (some ⟨g, o, none⟩) n c) n xs) (hj : j < xs.length) : Row (w.setCell ⟨g, o + j, none⟩ u) base sz (.slice (some ⟨g, o, none⟩) n c) n (xs.set j u) := by
  refine ⟨by rw [List.length_set]; exact h.1, ?_⟩
  rcases h.2 with ⟨e, _⟩ | ⟨g', o', cap, cur, t, fr, he, hb, hg, hnc, hm, hs, hf, ht⟩
  · cases e
  · injection he with hA _ hcap
    injection hA with hA
    injection hA with e1 e2 _
    subst e1 e2 hcap
    refine .inr ⟨g, o, c, cur.setIfInBounds (o + j) u, t, fr, rfl, hb, ?_, hnc, hm, by simpa using hs, hf, ?_⟩
    · simp [World.setCell, Array.getElem?_modify, hg]
    · rw [← ht]
      apply List.ext_getElem?
      intro i
      simp only [List.getElem?_take, List.getElem?_set, List.getElem?_drop, Array.toList_setIfInBounds, List.length_take, List.length_drop]
      rw [h.1] at hj
      have hle : n * sz ≤ c * sz := Nat.mul_le_mul_right _ hnc
      by_cases hi : i < n * sz
      · simp only [hi, if_true, Array.length_toList]
        by_cases e : j = i
        · subst e; simp; rw [if_pos (by omega), if_pos (by omega)]
        · simp [e]
      · have : ¬ j = i := by omega
        simp [hi, this]
end

/-- a list stored into cells that are not frozen -/
theorem run_storeCells_fr (P : Program) (g o : Nat) (t : TypeId) (fr : Nat × Nat) : ∀ (vs : List Value) (i : Nat) (cur : Array Value) (w : World), w.heap[g]? = some (.cells cur t fr) → o + i + vs.length ≤ cur.size →
    (∀ j, o + i ≤ j → j < o + i + vs.length → ¬ (fr.1 ≤ j ∧ j < fr.2)) → (∀ v ∈ vs, v.oneCell' = true) →
    (storeCells ⟨g, o, none⟩ vs i).run P w = .ok () (w.setRow g (cur.toList.take (o + i) ++ vs ++ cur.toList.drop (o + i + vs.length)).toArray)
  | [], i, cur, w, hg, _, _, _ => by
    simp only [storeCells, List.append_nil, List.length_nil, Nat.add_zero, List.take_append_drop, Array.toArray_toList]
    rw [setRow_self w g cur t fr hg]
    rfl
  | v :: rest, i, cur, w, hg, hl, hf, h1 => by
    have hi : o + i < cur.size := by simp at hl; omega
    have hadd : (⟨g, o, none⟩ : Addr).add i = ⟨g, o + i, none⟩ := by unfold Addr.add; split <;> simp_all
    have hcell : w.cell? ⟨g, o + i, none⟩ = some cur[o + i] := by simp [World.cell?, hg, hi]
    have hfro : w.frozen? ⟨g, o + i, none⟩ = false := by
      have := hf (o + i) (Nat.le_refl _) (by simp)
      simp only [World.frozen?, hg]
      simpa using this
    have hst : (store ((⟨g, o, none⟩ : Addr).add i) v).run P w = .ok () (w.setRow g (cur.setIfInBounds (o + i) v)) := by
      rw [hadd, run_store P w _ v _ (h1 v (by simp)), hcell]
      simp [hfro, setCell_eq_setRow w g (o + i) cur t fr v hg]
    have ih := run_storeCells_fr P g o t fr rest (i + 1) (cur.setIfInBounds (o + i) v) (w.setRow g (cur.setIfInBounds (o + i) v)) (setRow_heap w g cur _ t _ hg) (by simp at hl ⊢; omega)
      (fun j h2 h3 => hf j (by omega) (by simp; omega)) (fun x hx => h1 x (by simp [hx]))
    simp only [storeCells, Sem.run_bind, hst, Result.andThen_ok, ih, setRow_setRow]
    congr 3
    have e := list_seg_step cur.toList (o + i) v rest (by simp at hl ⊢; omega)
    simpa [Array.toList_setIfInBounds, Nat.add_assoc] using e

/-- What is appended: m elements, the cells news: a slice's, nil's, a string's. -/
structure Src (P : Program) (w : World) (tx : TypeId) (size : Nat) (x : Value) (m : Nat) (news : List Value) : Prop where
  noint : ∃ d, P.underlying tx = some d ∧ ∀ k, d ≠ .int k
  len : ∀ W : World, (Builtin.lenOf x).run P W = .ok m W
  first : (Builtin.firstCells size m x).run P w = .ok news.toArray w
  firstD : (Builtin.firstCells size m x).run P w.drew = .ok news.toArray w.drew
  hl : news.length = m * size
  one : ∀ u ∈ news, u.oneCell' = true

theorem Src.slice {P : Program} {w : World} {tx e : TypeId} {size B : Nat} {A : Option Addr} {m c : Nat} {news : List Value} (ht : P.underlying tx = some (.slice e)) (h : Rd w B size A m news) (h0 : A = none → m = 0) (h1 : ∀ u ∈ news, u.oneCell' = true) :
    Src P w tx size (.slice A m c) m news := by
  have key : ∀ W : World, (∀ a, W.cell? a = w.cell? a) → (Builtin.firstCells size m (.slice A m c)).run P W = .ok news.toArray W := by
    intro W hW
    cases A with
    | none =>
      have hm := h0 rfl
      subst hm
      have hn : news = [] := List.eq_nil_of_length_eq_zero (by simpa using h.1)
      subst hn
      exact run_firstCells_none W size 0 0 c
    | some ad =>
      rcases Nat.eq_zero_or_pos m with hm | hm
      · subst hm
        have hn : news = [] := List.eq_nil_of_length_eq_zero (by simpa using h.1)
        subst hn
        exact run_firstCells_some (P := P) W size 0 ad 0 c [] (by simp) (by intro j v hv; simp at hv)
      · obtain ⟨g, o, e, hb, hc⟩ := h.2 hm
        injection e with e
        subst e
        exact run_firstCells_some (P := P) W size m ⟨g, o, none⟩ m c news h.1 (fun j v hv => by rw [hW, Addr.add_lit]; exact hc j v hv)
  exact ⟨⟨_, ht, by intro k hk; cases hk⟩, fun W => by simp [Builtin.lenOf, Sem.run_pure], key w (fun _ => rfl), key w.drew (fun _ => rfl), h.1, h1⟩

theorem Src.string {P : Program} {w : World} {tx : TypeId} (ht : P.underlying tx = some .string) (s : ByteArray) : Src P w tx 1 (.string s) s.size (Lib.strCells s) :=
  ⟨⟨_, ht, by intro k hk; cases hk⟩, fun W => by simp [Builtin.lenOf, Sem.run_pure], Lib.run_firstCells_string w 1 s, Lib.run_firstCells_string w.drew 1 s, by rw [Lib.strCells_length]; omega, Lib.strCells_oneCell s⟩

section
variable {P : Program} (w : World)
/-- THE LAW: append to a row. -/
theorem run_app (base : Nat) (ts tx ty e : TypeId) (i : TypeInfo) (z : Value) (size bytes : Nat) (ht : P.underlying ts = some (.slice e)) (hi : P.info? e = some i) (hz : i.zero = some z)
    (hsize : i.size = size) (hby : i.bytes = bytes) (hzs : z.cells.size = size)
    (v : Value) (n : Nat) (xs : List Value) (hown : Row w base size v n xs) (x : Value) (m : Nat) (news : List Value) (hx : Src P w tx size x m news)
    (hmax : n + m ≤ 140737488355328) (hbytes : (n + m) * bytes ≤ 140737488355328) (hb1 : 0 < bytes) (hbase : base ≤ w.heap.size) :
    ∃ v' w', (Builtin.append_ #[ts, tx] ty #[v, x]).run P w = .ok v' w' ∧ Row w' base size v' (n + m) (xs ++ news) ∧ w.grownBy w' v.ownBlock ∧
      (v'.ownBlock = v.ownBlock ∨ v'.ownBlock = some w.heap.size) := by
  subst hsize
  subst hby
  obtain ⟨d, hd, hdn⟩ := hx.noint
  have hlen : (xs ++ news).length = (n + m) * i.size := by rw [List.length_append, hown.1, hx.hl, Nat.add_mul]
  have grown : ∀ (old : Nat), old < n + m →
      Row (w.drew.alloc (.cells (xs.toArray ++ news.toArray ++ Builtin.zeroCells z.cells (grownCap w (n + m) old e - (n + m))) e)) base i.size
        (.slice (some ⟨w.heap.size, 0, none⟩) (n + m) (grownCap w (n + m) old e)) (n + m) (xs ++ news) := by
    intro old ho
    have hge := grownCap_ge w (n + m) old e
    have hcm : grownCap w (n + m) old e ≤ maxLen := grownCap_le_maxLen w (n + m) old e (by simp only [maxLen]; omega)
    refine ⟨hlen, .inr ⟨w.heap.size, 0, _, _, e, (0, 0), rfl, hbase, heap_alloc_new w.drew _, hge, hcm, ?_, by intro j _ _; simp, ?_⟩⟩
    · simp only [Array.size_append, List.size_toArray, size_zeroCells, hzs, hown.1, hx.hl, ← Nat.add_mul]
      have : n + m + (grownCap w (n + m) old e - (n + m)) = grownCap w (n + m) old e := by omega
      rw [this]
      omega
    · simp only [Array.toList_append, List.append_assoc, List.drop_zero]
      rw [← List.append_assoc, ← hlen]
      exact List.take_left
  have hgro : ∀ (old : Nat) (row : Option Nat), w.grownBy (w.drew.alloc (.cells (xs.toArray ++ news.toArray ++ Builtin.zeroCells z.cells (grownCap w (n + m) old e - (n + m))) e)) row :=
    fun old row => ⟨rfl, rfl, rfl, by simp, fun k hk _ => Below.heap_alloc w.drew _ k hk⟩
  have hfit : ∀ old, old < n + m → ¬ (281474976710656 < Builtin.nextslicecap (n + m) old * i.bytes) := fun old ho => by
    have := growslice_fits ho hbytes; omega
  have h63 : ¬ (9223372036854775807 < ((n : Int) + (m : Int))) := by omega
  have hf := hx.first
  have hfD := hx.firstD
  have hL := hx.len
  rcases hown.2 with ⟨rfl, rfl⟩ | ⟨g, o, cap, cur, t, fr, rfl, hbg, hg, hnc, hcm, hcs, hfr, htake⟩
  · have hx0 : xs = [] := List.eq_nil_of_length_eq_zero (by simpa using hown.1)
    subst hx0
    by_cases hm : m = 0
    · subst hm
      have hn : news = [] := List.eq_nil_of_length_eq_zero (by simpa using hx.hl)
      subst hn
      refine ⟨.slice none 0 0, w, ?_, Row.nil w base i.size, World.grownBy.refl w _, .inl rfl⟩
      simp [Builtin.append_, run_underlying ht, run_underlying hd, sizeOf, typeInfo, hi, hL, hf]
    · have hf0 := hfit 0 (by omega)
      refine ⟨_, _, ?_, grown 0 (by omega), hgro 0 _, .inr rfl⟩
      simp only [Nat.zero_add] at hf0 h63 ⊢
      have hb0 : ¬ i.bytes = 0 := by omega
      simp [Builtin.append_, run_underlying ht, run_underlying hd, sizeOf, typeInfo, zeroValue, hi, hz, hL, hm, hf0, hfD, Question.forced, newRow, grownCap, hb0, run_firstCells_none (P := P) w.drew]
  · by_cases hroom : n + m ≤ cap
    · have hcm2 : (n + m) * i.size ≤ cap * i.size := Nat.mul_le_mul_right _ hroom
      have hfit2 : o + n * i.size + news.length ≤ cur.size := by rw [hx.hl]; rw [Nat.add_mul] at hcm2; omega
      have hst := run_storeCells_fr P g (o + n * i.size) t fr news 0 cur w hg (by simpa using hfit2)
        (fun j h2 h3 => hfr j (by omega) (by rw [hx.hl] at h3; rw [Nat.add_mul] at hcm2; omega)) hx.one
      simp only [Nat.add_zero] at hst
      refine ⟨_, _, ?_, ⟨hlen, .inr ⟨g, o, cap, _, t, fr, rfl, hbg, setRow_heap w g cur (cur.toList.take (o + n * i.size) ++ news ++ cur.toList.drop (o + n * i.size + news.length)).toArray t _ hg, hroom, hcm, ?_, hfr, ?_⟩⟩, ⟨rfl, rfl, rfl, by simp, fun k _ hk => setRow_other w g k _ (fun e => hk (by simp [Value.ownBlock, e]))⟩, .inl rfl⟩
      · simp [Builtin.append_, run_underlying ht, run_underlying hd, sizeOf, typeInfo, hi, hL, hroom, hf, Addr.add_lit, hst]
      · simp only [List.size_toArray, List.length_append, List.length_take, List.length_drop, Array.length_toList]
        omega
      · have e1 : (cur.toList.take (o + n * i.size) ++ news ++ cur.toList.drop (o + n * i.size + news.length)).toArray.toList.drop o = (cur.toList.drop o).take (n * i.size) ++ news ++ cur.toList.drop (o + n * i.size + news.length) := by
          simp only [List.append_assoc]
          rw [List.drop_append_of_le_length (by simp; omega), List.drop_take]
          simp
        rw [e1, htake, ← hlen]
        exact List.take_left
    · have holds : ∀ j u, xs[j]? = some u → w.drew.cell? ((⟨g, o, none⟩ : Addr).add j) = some u := by
        intro j u hu
        rw [Addr.add_lit]
        show w.cell? _ = _
        rw [cell_of_row w g (o + j) cur t fr hg]
        rw [← htake, List.getElem?_take] at hu
        split at hu
        · rw [List.getElem?_drop] at hu; simpa using hu
        · cases hu
      have hfo := run_firstCells_some (P := P) w.drew i.size n ⟨g, o, none⟩ n cap xs hown.1 holds
      have hf0 := hfit cap (by omega)
      refine ⟨_, _, ?_, grown cap (by omega), hgro cap _, .inr rfl⟩
      have hb0 : ¬ i.bytes = 0 := by omega
      simp [Builtin.append_, run_underlying ht, run_underlying hd, sizeOf, typeInfo, zeroValue, hi, hz, hL, hroom, hf0, hfD, hfo, Question.forced, newRow, grownCap, hb0]
      congr 2
      apply Array.ext'
      simp [List.append_assoc]

theorem wp_app {o : Oper} {a : Act} {K : Act → World → Prop} {Q : Exit → Act → World → Prop} (s x : Operand) (ts tx : TypeId)
    (ho : o.op = .call { callee := .builtin .append, args := #[s, x], argTypes := #[ts, tx] })
    (base : Nat) (e : TypeId) (i : TypeInfo) (z : Value) (size bytes : Nat) (ht : P.underlying ts = some (.slice e)) (hi : P.info? e = some i) (hz : i.zero = some z)
    (hsize : i.size = size) (hby : i.bytes = bytes) (hzs : z.cells.size = size)
    (v : Value) (n : Nat) (xs : List Value) (hs : a.eval s = v) (hown : Row w base size v n xs) (xv : Value) (m : Nat) (news : List Value) (hxv : a.eval x = xv) (hx : Src P w tx size xv m news)
    (hmax : n + m ≤ 140737488355328) (hbytes : (n + m) * bytes ≤ 140737488355328) (hb1 : 0 < bytes) (hbase : base ≤ w.heap.size)
    (h : ∀ v' w', Row w' base size v' (n + m) (xs ++ news) → w.grownBy w' v.ownBlock → (v'.ownBlock = v.ownBlock ∨ v'.ownBlock = some w.heap.size) → K (a.put o.dst v') w') : o.wp P a w K Q := by
  obtain ⟨v', w', hrun, h2, h3, h4⟩ := run_app (P := P) w base ts tx o.type e i z size bytes ht hi hz hsize hby hzs v n xs hown xv m news hx hmax hbytes hb1 hbase
  unfold Oper.wp execOp
  simp only [ho, resolve, invoke, builtin, Sem.run_bind, Sem.run_pure, Result.andThen_ok, List.map_toArray, List.map_cons, List.map_nil, hs, hxv, hrun]
  exact h v' w' h2 h3 h4

theorem wpList_app {ops : Array Oper} {rest : List Oper} {o : Oper} {a : Act} {Q : Exit → Act → World → Prop} (hgd : o.guard = none) (s x : Operand) (ts tx : TypeId)
    (ho : o.op = .call { callee := .builtin .append, args := #[s, x], argTypes := #[ts, tx] })
    (base : Nat) (e : TypeId) (i : TypeInfo) (z : Value) (size bytes : Nat) (ht : P.underlying ts = some (.slice e)) (hi : P.info? e = some i) (hz : i.zero = some z)
    (hsize : i.size = size) (hby : i.bytes = bytes) (hzs : z.cells.size = size)
    (v : Value) (n : Nat) (xs : List Value) (hs : a.eval s = v) (hown : Row w base size v n xs) (xv : Value) (m : Nat) (news : List Value) (hxv : a.eval x = xv) (hx : Src P w tx size xv m news)
    (hmax : n + m ≤ 140737488355328) (hbytes : (n + m) * bytes ≤ 140737488355328) (hb1 : 0 < bytes) (hbase : base ≤ w.heap.size)
    (h : ∀ v' w', Row w' base size v' (n + m) (xs ++ news) → w.grownBy w' v.ownBlock → (v'.ownBlock = v.ownBlock ∨ v'.ownBlock = some w.heap.size) → wpList P ops Q rest (a.put o.dst v') w') : wpList P ops Q (o :: rest) a w :=
  wpList_plain hgd fun _ hK => wp_app w s x ts tx ho base e i z size bytes ht hi hz hsize hby hzs v n xs hs hown xv m news hxv hx hmax hbytes hb1 hbase fun v' w' h2 h3 h4 => hK _ _ (h v' w' h2 h3 h4)

/-- the same in a region that draws its order -/
theorem step_app {ops : Array Oper} {o : Oper} {a : Act} {K : Act → World → Prop} {Q : Exit → Act → World → Prop} {E : Prop} (hgd : o.guard = none) (s x : Operand) (ts tx : TypeId)
    (ho : o.op = .call { callee := .builtin .append, args := #[s, x], argTypes := #[ts, tx] })
    (base : Nat) (e : TypeId) (i : TypeInfo) (z : Value) (size bytes : Nat) (ht : P.underlying ts = some (.slice e)) (hi : P.info? e = some i) (hz : i.zero = some z)
    (hsize : i.size = size) (hby : i.bytes = bytes) (hzs : z.cells.size = size)
    (v : Value) (n : Nat) (xs : List Value) (hs : a.eval s = v) (hown : Row w base size v n xs) (xv : Value) (m : Nat) (news : List Value) (hxv : a.eval x = xv) (hx : Src P w tx size xv m news)
    (hmax : n + m ≤ 140737488355328) (hbytes : (n + m) * bytes ≤ 140737488355328) (hb1 : 0 < bytes) (hbase : base ≤ w.heap.size)
    (h : ∀ v' w', Row w' base size v' (n + m) (xs ++ news) → w.grownBy w' v.ownBlock → (v'.ownBlock = v.ownBlock ∨ v'.ownBlock = some w.heap.size) → K (a.put o.dst v') w') :
    if Region.wanted o (yielded ops a.tmps) = true then Oper.wp P o a w K Q else E := by
  have hw : Region.wanted o (yielded ops a.tmps) = true := by simp [Region.wanted, hgd]
  rw [if_pos hw]
  exact wp_app w s x ts tx ho base e i z size bytes ht hi hz hsize hby hzs v n xs hs hown xv m news hxv hx hmax hbytes hb1 hbase h
end

/-- Behind an append: nothing below the row's base has turned. -/
theorem Below.app {B base sz n : Nat} {a w w' : World} {v : Value} {xs : List Value} (h : Below B a w) (hown : Row w base sz v n xs) (hg : w.grownBy w' v.ownBlock) (hB : B ≤ base) (hB2 : B ≤ w.heap.size) : Below B a w' :=
  h.grown hg hB2 (fun k hk => Nat.le_trans hB (hown.lt k hk).1)

/-- a byte as a cell, bytes as cells -/
def bytesV (l : List UInt8) : List Value := l.map fun c => .int .u8 c.toNat
theorem bytesV_one (l : List UInt8) : ∀ u ∈ bytesV l, u.oneCell' = true := by
  intro u hu
  obtain ⟨_, _, rfl⟩ := List.mem_map.1 hu
  rfl
theorem bytesV_len (l : List UInt8) : (bytesV l).length = l.length := by simp [bytesV]
theorem bytesV_get {l : List UInt8} {j : Nat} (h : j < l.length) : (bytesV l)[j]? = some (.int .u8 l[j].toNat) := by simp [bytesV, h]
theorem bytesV_append (a b : List UInt8) : bytesV (a ++ b) = bytesV a ++ bytesV b := by simp [bytesV]

/-- string(b) -/
theorem conv_str {P : Program} {w : World} {B : Nat} (src dst e : TypeId) (hs : P.underlying src = some (.slice e)) (he : P.underlying e = some (.int .u8)) (hd : P.underlying dst = some .string)
    {A : Option Addr} {n c : Nat} {l : List UInt8} (h : Rd w B 1 A n (bytesV l)) (h0 : A = none → n = 0) : (convert src dst (.slice A n c)).run P w = .ok (.string ⟨l.toArray⟩) w := by
  have hn : l.length = n := by have := h.1; rw [bytesV_len] at this; omega
  cases A with
  | none =>
    have := h0 rfl
    subst this
    have : l = [] := List.eq_nil_of_length_eq_zero hn
    subst this
    exact run_convert_bytes_nil (P := P) (w := w) src e hs he 0 c dst hd
  | some ad =>
    rw [run_convert_bytes_string w src dst e (some ad) n c hs he hd]
    rcases Nat.eq_zero_or_pos n with h0 | h0
    · subst h0
      have : l = [] := List.eq_nil_of_length_eq_zero hn
      subst this
      exact run_bytesToString (P := P) w ad 0 c [] (by simpa using run_loadCells_list (P := P) w ad [] (by intro j v hv; simp at hv))
    · obtain ⟨g, o, e', _, hc⟩ := h.2 h0
      injection e' with e'
      subst e'
      have hl : (loadCells ⟨g, o, none⟩ n).run P w = .ok (bytesV l).toArray w := by
        have := run_loadCells_list (P := P) w ⟨g, o, none⟩ (bytesV l) (fun j v hv => by rw [Addr.add_lit]; exact hc j v hv)
        rw [bytesV_len, hn] at this
        exact this
      have e2 : bytesV l = (l.map fun c => (c.toNat : Int)).map (Value.int .u8) := by simp [bytesV]
      rw [e2] at hl
      rw [run_bytesToString (P := P) w ⟨g, o, none⟩ n c _ hl, foldl_push_bytes]
      have e3 : l.map ((fun n : Int => UInt8.ofNat n.toNat) ∘ fun c : UInt8 => (c.toNat : Int)) = l := by
        have : ∀ l : List UInt8, l.map ((fun n : Int => UInt8.ofNat n.toNat) ∘ fun c : UInt8 => (c.toNat : Int)) = l := fun l => by
          induction l with
          | nil => rfl
          | cons c l ih => simp [ih]
        exact this l
      simp [e3]

section
variable {Q : Exit → Act → World → Prop} {J : Act → World → Prop} {a : Act} {w : World} {l : Nat}
@[go_sem] theorem jump_normal : Exit.jump l J Q .normal a w = Q .normal a w := rfl
@[go_sem] theorem jump_exit (id : Nat) : Exit.jump l J Q (.exit id) a w = Q (.exit id) a w := rfl
@[go_sem] theorem jump_ret : Exit.jump l J Q .ret a w = Q .ret a w := rfl
@[go_sem] theorem jump_panic (ch : List PanicEntry) : Exit.jump l J Q (.panic ch) a w = Q (.panic ch) a w := rfl
@[go_sem] theorem jump_goto : Exit.jump l J Q (.goto l) a w = J a w := by simp [Exit.jump]
end

/-- the row of '[]T{}' -/
theorem empty_row (w : World) (t : TypeId) (sz : Nat) : Row (w.alloc (.cells #[] t)) w.heap.size sz (.slice (some ⟨w.heap.size, 0, none⟩) 0 0) 0 [] :=
  ⟨by simp, .inr ⟨w.heap.size, 0, 0, _, t, (0, 0), rfl, Nat.le_refl _, heap_alloc_new w _, Nat.le_refl _, Nat.zero_le _, by simp, by intro j _ _; simp, by simp⟩⟩
/-- what a slice that was just built of some values appends -/
theorem Src.built {P : Program} {w : World} {tx e : TypeId} {sz n : Nat} (us : List Value) (t : TypeId) (ht : P.underlying tx = some (.slice e)) (h : us.length = n * sz) (h1 : ∀ u ∈ us, u.oneCell' = true) :
    Src P (w.alloc (.cells us.toArray t)) tx sz (.slice (some ⟨w.heap.size, 0, none⟩) n n) n us := by
  refine Src.slice (B := w.heap.size + 1) ht ⟨h, fun _ => ⟨w.heap.size, 0, rfl, by omega, fun j u hu => ?_⟩⟩ (fun e => by cases e) h1
  rw [Nat.zero_add, World.cell?_alloc_at _ _ _ _ rfl]
  simpa using hu
theorem below_drewN {B : Nat} {a w : World} (h : Below B a w) (n : Nat) : Below B a (w.drewN n) := Go.below_drewN h n
theorem bytesV_drop (l : List UInt8) (k : Nat) : (bytesV l).drop k = bytesV (l.drop k) := by simp [bytesV]
theorem bytesV_take (l : List UInt8) (k : Nat) : (bytesV l).take k = bytesV (l.take k) := by simp [bytesV]
end Go.Proofs.YtklmpadcfioefaaGreatDoor

namespace Go.Proofs.YtklmpadcfioefaaGreatDoor
open Go.ChangeShapes Go.WideShapes Go.ChangeAt Go.RowKit
open Go.ChangeMaps (open_string shut_string)

section
variable {H : Type} {enc : TypeId × Value → H} {P : Program}

theorem trodAll_below (hl : laidOutB P = true) {W W' : World} (hb : Below W.heap.size W W') : ∀ {ts : List TypeId} {vs : List Value} {ds : List (DataW H)} {ps : List MemPlace},
    (ts.all fun t => P.readableRec t && decide (t < P.types.size)) = true → DataW.TrodAll enc P W 0 (fun _ => true) true ts vs ds ps → (∀ x ∈ ps, x.block < W.heap.size) →
    DataW.TrodAll enc P W' 0 (fun b => decide (b < W.heap.size)) true ts vs ds ps
  | [], vs, ds, ps, _, h, _ => by
    obtain ⟨rfl, rfl, rfl⟩ := trodAll_nil h
    exact trodAll_mk0
  | t :: ts, vs, ds, ps, hr, h, hlt => by
    simp only [List.all_cons, Bool.and_eq_true, decide_eq_true_eq] at hr
    obtain ⟨v, vs', d, ds', p, q, rfl, rfl, rfl, h0, h1⟩ := trodAll_cons h
    exact ⟨p, q, Below.trod hl hr.1.1 hr.1.2 h0 hb (fun x hx => hlt x (by simp [hx])), trodAll_below hl hb hr.2 h1 (fun x hx => hlt x (by simp [hx])), rfl⟩

/-- THE POST OF A LAW. -/
theorem law_post {f : Func} {s : ChangeSpec} {W W' : World} {args : Array Value} {ds gs : List (DataW H)} {before : List MemPlace} {tb : TypeId}
    (hW : DataW.Whole enc P f.params.toList s.vars false W args.toList ds gs before) (hv : s.vars = []) (hfn : s.fn H (ds ++ gs) = { results := [.lit (.bool true)], args := ds })
    (hres : f.resultTypes = #[tb]) (hbool : P.underlying tb = some .bool) (hl : laidOutB P = true) (hr : (f.params.toList.all fun t => P.readableRec t && decide (t < P.types.size)) = true)
    (hb : Below W.heap.size W W') : s.post enc P f false true false false W args (.bool true) W' := by
  have hW' := hW
  obtain ⟨p, q, hA, hV, rfl, hz, hn⟩ := hW
  have hlt : ∀ x ∈ p, x.block < W.heap.size := fun x hx => hW'.lt x (by simp [hx])
  refine ⟨ds, gs, p ++ q, [], p, [], hW', ?_, ?_, ?_, hb.frame _, fun h => by cases h⟩
  · rw [hfn, hres]
    exact trodAll_mk1 (shut_bool hbool true)
  · rw [hfn]
    exact trodAll_below hl hb hr hA hlt
  · rw [hfn, hv]
    rfl

theorem wf_u8 {x : Int} (h : (Lit.int .u8 x).wf = true) : 0 ≤ x ∧ x < 256 := by
  have := bounds_u8 h
  omega

end
end Go.Proofs.YtklmpadcfioefaaGreatDoor

namespace Go.Proofs.YtklmpadcfioefaaGreatDoor
abbrev Bs := List UInt8

/-- bytes of a token (P22.4) -/
def marks : Bs := [33, 35, 36, 37, 38, 39, 42, 43, 45, 46, 94, 95, 124, 126, 96]
def isTok (c : UInt8) : Bool := (97 ≤ c && c ≤ 122) || (65 ≤ c && c ≤ 90) || (48 ≤ c && c ≤ 57) || marks.contains c
def token (l : Bs) : Bool := !l.isEmpty && l.all isTok
def small (c : UInt8) : UInt8 := if 65 ≤ c && c ≤ 90 then c + 32 else c
def fold (l : Bs) : Bs := l.map small
def isBlank (c : UInt8) : Bool := c == 32 || c == 9
def trim (l : Bs) : Bs := ((l.reverse.dropWhile isBlank).reverse).dropWhile isBlank

theorem trimS_trim (l : Bs) : Lib.trimS l [32, 9] = trim l := by
  have e : (fun c : UInt8 => ([32, 9] : Bs).contains c) = isBlank := by
    funext c
    rw [Bool.eq_iff_iff]
    simp [isBlank]
  simp only [Lib.trimS, Lib.trimLeftS, Lib.trimRightS, trim, e]

/-- the tests on a byte, as the walk asks them of its number -/
def letterI (x : Nat) : Prop := (97 ≤ x ∧ x ≤ 122) ∨ (65 ≤ x ∧ x ≤ 90) ∨ (48 ≤ x ∧ x ≤ 57)
instance (x : Nat) : Decidable (letterI x) := by unfold letterI; infer_instance
theorem isTok_eq (c : UInt8) : isTok c = (decide (letterI c.toNat) || marks.contains c) := by
  simp only [isTok, UInt8.le_iff_toNat_le]
  have e1 : (97 : UInt8).toNat = 97 := rfl
  have e2 : (122 : UInt8).toNat = 122 := rfl
  have e3 : (65 : UInt8).toNat = 65 := rfl
  have e4 : (90 : UInt8).toNat = 90 := rfl
  have e5 : (48 : UInt8).toNat = 48 := rfl
  have e6 : (57 : UInt8).toNat = 57 := rfl
  rw [Bool.eq_iff_iff]
  simp only [e1, e2, e3, e4, e5, e6, Bool.or_eq_true, Bool.and_eq_true, decide_eq_true_eq]
  unfold letterI
  simp only [or_assoc]
theorem small_toNat (c : UInt8) : (small c).toNat = if 65 ≤ c.toNat ∧ c.toNat ≤ 90 then c.toNat + 32 else c.toNat := by
  simp only [small, UInt8.le_iff_toNat_le]
  have e3 : (65 : UInt8).toNat = 65 := rfl
  have e4 : (90 : UInt8).toNat = 90 := rfl
  simp only [e3, e4]
  by_cases h : 65 ≤ c.toNat ∧ c.toNat ≤ 90
  · have h1 : (decide (65 ≤ c.toNat) && decide (c.toNat ≤ 90)) = true := by simp [h]
    rw [if_pos h1, if_pos h, UInt8.toNat_add]
    have : (32 : UInt8).toNat = 32 := rfl
    rw [this]
    omega
  · have h1 : ¬ (decide (65 ≤ c.toNat) && decide (c.toNat ≤ 90)) = true := by simp only [Bool.and_eq_true, decide_eq_true_eq]; exact h
    rw [if_neg h1, if_neg h]

theorem fold_snoc (l : Bs) (c : UInt8) : fold (l ++ [c]) = fold l ++ [small c] := by simp [fold]
theorem fold_len (l : Bs) : (fold l).length = l.length := by simp [fold]

/-- Lib.indexByte on marks -/
theorem index_marks (c : UInt8) : decide (0 ≤ Lib.indexByte marks c) = marks.contains c := (Lib.contains_iff_indexByte marks c).symm

def trimL (l : Bs) : Bs := l.dropWhile isBlank
def trimR (l : Bs) : Bs := (l.reverse.dropWhile isBlank).reverse
theorem trim_eq (l : Bs) : trim l = trimL (trimR l) := rfl
theorem trimR_cons (c : UInt8) (t : Bs) : trimR (c :: t) = if trimR t = [] ∧ isBlank c = true then [] else c :: trimR t := by
  unfold trimR
  rw [List.reverse_cons, List.dropWhile_append]
  by_cases h : (t.reverse.dropWhile isBlank).isEmpty = true
  · have h' : t.reverse.dropWhile isBlank = [] := by simpa using h
    rw [if_pos h, h']
    by_cases hc : isBlank c = true
    · simp [hc]
    · simp [hc]
  · have h' : t.reverse.dropWhile isBlank ≠ [] := by simpa using h
    rw [if_neg h, if_neg (by simp [h'])]
    simp
theorem trim_comm (l : Bs) : trimR (trimL l) = trimL (trimR l) := by
  induction l with
  | nil => rfl
  | cons c t ih =>
    by_cases hc : isBlank c = true
    · have e : trimL (c :: t) = trimL t := by simp [trimL, hc]
      rw [e, ih, trimR_cons]
      by_cases h : trimR t = []
      · rw [if_pos ⟨h, hc⟩, h]
      · rw [if_neg (fun x => h x.1)]; simp [trimL, hc]
    · have e : trimL (c :: t) = c :: t := by simp [trimL, hc]
      rw [e, trimR_cons, if_neg (fun x => hc x.2)]
      simp [trimL, hc]
theorem trimL_step (c : UInt8) (t : Bs) (h : isBlank c = true) : trimL (c :: t) = trimL t := by simp [trimL, h]
theorem trimL_stop (c : UInt8) (t : Bs) (h : isBlank c = false) : trimL (c :: t) = c :: t := by simp [trimL, h]
theorem trimR_step (l : Bs) (c : UInt8) (h : isBlank c = true) : trimR (l ++ [c]) = trimR l := by simp [trimR, h]
theorem trimR_stop (l : Bs) (c : UInt8) (h : isBlank c = false) : trimR (l ++ [c]) = l ++ [c] := by simp [trimR, h]
theorem trim_le (l : Bs) : (trim l).length ≤ l.length := by
  unfold trim
  exact Nat.le_trans (List.dropWhile_sublist _).length_le (by simpa using (List.dropWhile_sublist (p := isBlank) (l := l.reverse)).length_le)
end Go.Proofs.YtklmpadcfioefaaGreatDoor

namespace Go.Proofs.YtklmpadcfioefaaGreatDoor
open Go.RowKit

theorem size_data (s : ByteArray) : s.data.toList.length = s.size := by rw [Array.length_toList]; rfl
theorem byte_at (s : ByteArray) (k : Nat) (h : k < s.size) : s.data.toList[k]'(by rw [size_data]; exact h) = s[k] := by
  rw [Array.getElem_toList]; rfl
theorem take_succ_data (s : ByteArray) (k : Nat) (h : k < s.size) : s.data.toList.take (k + 1) = s.data.toList.take k ++ [s[k]] := by
  rw [List.take_succ_eq_append_getElem (by rw [size_data]; exact h), byte_at s k h]

theorem idx_marks (c : UInt8) (w : World) : Calls Tryz.prog 87 #[.string ⟨#[33, 35, 36, 37, 38, 39, 42, 43, 45, 46, 94, 95, 124, 126, 96]⟩, .int .u8 (c.toNat : Int)] w fun e w' =>
    ∃ i : Int, e = .returned (.int .i64 i) ∧ decide (0 ≤ i) = marks.contains c ∧ w = w' :=
  (Tryz.strings_IndexByte ⟨#[33, 35, 36, 37, 38, 39, 42, 43, 45, 46, 94, 95, 124, 126, 96]⟩ (c.toNat : Int) w).mono fun e w' ⟨he, hw⟩ =>
    ⟨_, he, by simp only [Int.toNat_natCast, Nat.toUInt8_eq, UInt8.ofNat_toNat]; exact index_marks c, hw.symm⟩

set_option maxHeartbeats 1000000 in
theorem hToken_any (s : ByteArray) (w : World) (hs : s.size ≤ 9223372036854775807) :
    Calls Tryz.prog 47 #[.string s] w fun e w' => e = .returned (.bool (token s.data.toList)) ∧ w = w' := by
  have hne : (!s.data.toList.isEmpty) = (!(s.toList == [])) := by
    rw [ByteArray.toList_eq]; cases s.data.toList <;> rfl
  go_enter Tryz.func47, Tryz.ntmps47
  go_wp2
  go_loop [7] (fun i => ∃ k : Nat, k ≤ s.size ∧ i = .int .i64 k ∧ (s.data.toList.take k).all isTok = true) (fun i => s.size - (intOf i).toNat)
  case atStart => exact ⟨0, Nat.zero_le _, rfl, rfl⟩
  case round =>
    obtain ⟨k, hk, rfl, hall⟩ := hrel
    by_cases hlt : k < s.size
    · have hts := take_succ_data s k hlt
      have HT : Hid ((s.data.toList.take (k + 1)).all isTok = ((s.data.toList.take k).all isTok && isTok s[k])) := by show _ = _; rw [hts]; simp
      have hx := UInt8.toNat_lt s[k]
      have HI := Lib.hid (isTok_eq s[k])
      have HA := Lib.hid hall
      clear hall hts
      by_cases hL : letterI s[k].toNat
      · have HY : Hid (isTok s[k] = true) := by show _ = _; rw [HI.out]; simp [hL]
        unfold letterI at hL
        go_wp2_with fail
        all_goals
          go_round
          case rel => exact ⟨k + 1, by omega, by go_num, by rw [HT.out, HA.out, HY.out]; rfl⟩
          case measure => simp [intOf]; omega
      · have HN : Hid (isTok s[k] = marks.contains s[k]) := by show _ = _; rw [HI.out]; simp [hL]
        have hm := idx_marks s[k] w
        generalize hmc : marks.contains s[k] = mc at hm
        have HC := Lib.hid hmc
        have HM := Lib.hid hm
        clear hm hmc
        unfold letterI at hL
        cases mc
        · go_wp2_with (go_at_call 87; refine (HM.out).mono ?_; rintro e w' ⟨i, rfl, hdi, rfl⟩; have hdi' : i < 0 := (by simpa using hdi); clear hdi)
          all_goals try (exfalso; simp only [Bool.not_eq_eq_eq_not, Bool.not_true, Bool.not_false, decide_eq_false_iff_not, decide_eq_true_eq] at *; omega)
          all_goals go_ret
          all_goals
            refine ⟨?_, rfl⟩
            have : token s.data.toList = false := by
              have h1 : isTok s[k] = false := by rw [HN.out, HC.out]
              have h2 : s[k] ∈ s.data.toList := by rw [← byte_at s k hlt]; exact List.getElem_mem _
              unfold token
              have h3 : s.data.toList.all isTok = false := by
                rw [List.all_eq_false]; exact ⟨s[k], h2, by simp [h1]⟩
              rw [h3, Bool.and_false]
            rw [this]
            rfl
        · go_wp2_with (go_at_call 87; refine (HM.out).mono ?_; rintro e w' ⟨i, rfl, hdi, rfl⟩; have hdi' : 0 ≤ i := (by simpa using hdi); clear hdi)
          all_goals
            go_round
            case rel => exact ⟨k + 1, by omega, by go_num, by rw [HT.out, HA.out, HN.out, HC.out]; rfl⟩
            case measure => simp [intOf]; omega
    · have e1 : s.data.toList.take k = s.data.toList := List.take_of_length_le (by rw [size_data]; omega)
      have HA : Hid (token s.data.toList = !(s.toList == [])) := by
        show _ = _
        rw [e1] at hall
        rw [← hne]; unfold token; rw [hall, Bool.and_true]
      clear hall hne e1
      go_wp2
      all_goals go_ret
      all_goals exact ⟨by rw [HA.out]; simp, rfl⟩

end Go.Proofs.YtklmpadcfioefaaGreatDoor

namespace Go.Proofs.YtklmpadcfioefaaGreatDoor
open Go.RowKit

theorem info5 : (Tryz.prog.info? 5).map (fun i => (i.zero, i.size, i.bytes)) = some (some (.int .u8 0), 1, 1) := by kernel_rfl

theorem ret_int {k : IntKind} {a b : Int} (h : a = b) : Ending.returned (.int k a) = .returned (.int k b) := by rw [h]

set_option maxHeartbeats 400000 in
theorem hFold1_any (c : UInt8) (w : World) : Calls Tryz.prog 88 #[.int .u8 (c.toNat : Int)] w fun e w' => e = .returned (.int .u8 ((small c).toNat : Int)) ∧ w = w' := by
  have hx : c.toNat < 256 := UInt8.toNat_lt c
  have HS := Lib.hid (small_toNat c)
  by_cases h : 65 ≤ c.toNat ∧ c.toNat ≤ 90
  · have HV : Hid ((small c).toNat = c.toNat + 32) := by show _ = _; rw [HS.out, if_pos h]
    obtain ⟨h1, h2⟩ := h
    go_enter Tryz.func88, Tryz.ntmps88
    go_wp2
    go_ret
    exact ⟨ret_int (by rw [HV.out]; omega), rfl⟩
  · have HV : Hid ((small c).toNat = c.toNat) := by show _ = _; rw [HS.out, if_neg h]
    go_enter Tryz.func88, Tryz.ntmps88
    go_wp2
    all_goals go_ret
    all_goals exact ⟨by rw [HV.out]; rfl, rfl⟩

set_option maxHeartbeats 1000000 in
set_option maxRecDepth 100000 in
theorem rFold_any (s : ByteArray) (w : World) (hs : s.size ≤ 16777216) :
    Calls Tryz.prog 104 #[.string s] w fun e w' => e = .returned (.string ⟨(fold s.data.toList).toArray⟩) ∧ Below w.heap.size w w' := by
  obtain ⟨i0, hi, hz0, hz1, hz2⟩ := info_parts info5
  go_enter Tryz.func104, Tryz.ntmps104
  go_wp2
  go_loopw [3, 4] (fun v i wr => ∃ k : Nat, k ≤ s.size ∧ i = .int .i64 k ∧ Row wr w.heap.size 1 v k (bytesV (fold (s.data.toList.take k))) ∧ Below w.heap.size w wr) (fun _ i _ => s.size - (intOf i).toNat)
  case atStart => exact ⟨0, Nat.zero_le _, rfl, Row.nil _ _ _, Below.refl _ _⟩
  case round =>
    obtain ⟨k, hk, rfl, hrow, hb⟩ := hrel
    by_cases hlt : k < s.size
    · have hts := take_succ_data s k hlt
      have HT : Hid (bytesV (fold (s.data.toList.take (k + 1))) = bytesV (fold (s.data.toList.take k)) ++ [.int .u8 ((small s[k]).toNat : Int)]) := by show _ = _; rw [hts, fold_snoc, bytesV_append]; rfl
      have hx : s[k].toNat < 256 := UInt8.toNat_lt s[k]
      have HS := Lib.hid (small_toNat s[k])
      clear hts
      have hsz := hb.size
      by_cases h : 65 ≤ s[k].toNat ∧ s[k].toNat ≤ 90
      · have HV : Hid (((small s[k]).toNat : Int) = (s[k].toNat : Int) + 32) := by show _ = _; rw [HS.out, if_pos h]; omega
        obtain ⟨h1, h2⟩ := h
        go_wp2_with (at_builtin; go_must (refine wpList_app _ rfl (.tmp 23) (.tmp 25) 26 26 rfl w.heap.size 5 i0 (.int .u8 0) 1 1 Tryz.underlying26 hi hz0 hz1 hz2 rfl u3 k (bytesV (fold (s.data.toList.take k))) rfl (hrow.alloc _) _ 1 [.int .u8 ((s[k].toNat : Int) + 32)] rfl (Src.built [.int .u8 ((s[k].toNat : Int) + 32)] 5 Tryz.underlying26 rfl (by intro u hu; simp at hu; subst hu; rfl)) (by omega) (by omega) (by omega) (by simp; omega) ?_); intro v1 w1 hrow1 hg1 _)
        all_goals
          have hrow2 : Row w1 w.heap.size 1 v1 (k + 1) (bytesV (fold (s.data.toList.take (k + 1)))) := by rw [HT.out, HV.out]; exact hrow1
          have hb2 : Below w.heap.size w w1 := Below.app (hb.alloc hsz _) (hrow.alloc _) hg1 (Nat.le_refl _) (by simp; omega)
          clear hrow1 hg1 hrow hb
          go_wp2
          go_roundw
          case rel => exact ⟨k + 1, by omega, by go_num, hrow2, hb2⟩
          case measure => simp [intOf]; omega
      · have HV : Hid (((small s[k]).toNat : Int) = (s[k].toNat : Int)) := by show _ = _; rw [HS.out, if_neg h]
        go_wp2_with (at_builtin; go_must (refine wpList_app _ rfl (.tmp 23) (.tmp 25) 26 26 rfl w.heap.size 5 i0 (.int .u8 0) 1 1 Tryz.underlying26 hi hz0 hz1 hz2 rfl u3 k (bytesV (fold (s.data.toList.take k))) rfl (hrow.alloc _) _ 1 [.int .u8 ((s[k].toNat : Int))] rfl (Src.built [.int .u8 ((s[k].toNat : Int))] 5 Tryz.underlying26 rfl (by intro u hu; simp at hu; subst hu; rfl)) (by omega) (by omega) (by omega) (by simp; omega) ?_); intro v1 w1 hrow1 hg1 _)
        all_goals
          have hrow2 : Row w1 w.heap.size 1 v1 (k + 1) (bytesV (fold (s.data.toList.take (k + 1)))) := by rw [HT.out, HV.out]; exact hrow1
          have hb2 : Below w.heap.size w w1 := Below.app (hb.alloc hsz _) (hrow.alloc _) hg1 (Nat.le_refl _) (by simp; omega)
          clear hrow1 hg1 hrow hb
          go_wp2
          go_roundw
          case rel => exact ⟨k + 1, by omega, by go_num, hrow2, hb2⟩
          case measure => simp [intOf]; omega
    · have e1 : s.data.toList.take k = s.data.toList := List.take_of_length_le (by rw [size_data]; omega)
      rw [e1] at hrow
      obtain ⟨A, c, rfl, hc1, hc2, h0, hrd⟩ := hrow.form
      have hcv := conv_str (P := Tryz.prog) 26 9 5 Tryz.underlying26 Tryz.underlying5 Tryz.underlying9 (c := c) hrd (fun e => (h0 e).1)
      clear hrow hrd h0
      go_wp2
      go_ret
      exact ⟨rfl, hb⟩

theorem bytes_row (w : World) (e : TypeId) (s : ByteArray) (hs : s.size ≤ maxLen) : Row (Lib.bytesWorld w e s) w.heap.size 1 (.slice (some ⟨w.heap.size, 0, none⟩) s.size (grownCap w s.size 0 e)) s.size (bytesV s.data.toList) := by
  have hge := grownCap_ge w s.size 0 e
  have hsz : (Lib.bytesCells w e s).size = grownCap w s.size 0 e := by
    simp [Lib.bytesCells]
    have : s.data.size = s.size := rfl
    omega
  refine ⟨by rw [bytesV_len, size_data]; omega, .inr ⟨w.heap.size, 0, _, _, e, _, rfl, Nat.le_refl _, Lib.bytesWorld_at_new w e s, hge, grownCap_le_maxLen w s.size 0 e hs, by rw [hsz]; omega, ?_, ?_⟩⟩
  · intro j h1 h2
    rw [hsz]
    simp only
    omega
  · simp only [Lib.bytesCells, List.drop_zero, Array.toList_append, Array.toList_map, Nat.mul_one]
    rw [List.take_append_of_le_length (by simp)]
    exact List.take_of_length_le (by simp)

theorem set_fold (l : Bs) (k : Nat) (h : k < l.length) : (bytesV (fold (l.take k) ++ l.drop k)).set k (.int .u8 ((small l[k]).toNat : Int)) = bytesV (fold (l.take (k + 1)) ++ l.drop (k + 1)) := by
  rw [List.take_succ_eq_append_getElem h, fold_snoc, List.drop_eq_getElem_cons h, bytesV_append, bytesV_append, bytesV_append]
  rw [List.set_append_right _ _ (by rw [bytesV_len, fold_len, List.length_take]; omega)]
  have e : k - (bytesV (fold (l.take k))).length = 0 := by rw [bytesV_len, fold_len, List.length_take]; omega
  rw [e, List.append_assoc]
  rfl

set_option maxHeartbeats 1000000 in
set_option maxRecDepth 100000 in
theorem hFold_any (s : ByteArray) (w : World) (hs : s.size ≤ 16777216) :
    Calls Tryz.prog 52 #[.string s] w fun e w' => e = .returned (.string ⟨(fold s.data.toList).toArray⟩) ∧ Below w.heap.size w w' := by
  have hcb := fun (w : World) => Lib.run_convert_string_bytes (P := Tryz.prog) w 9 26 5 s Tryz.underlying9 Tryz.underlying26 Tryz.underlying5
  have hrow0 := bytes_row w 5 s (by unfold maxLen; omega)
  have hb0 := Lib.bytesWorld_below w 5 s
  go_enter Tryz.func52, Tryz.ntmps52
  go_wp2
  generalize grownCap w s.size 0 5 = cp at hrow0 ⊢
  go_loopw [11] (fun i wr => ∃ k : Nat, k ≤ s.size ∧ i = .int .i64 k ∧ Row wr w.heap.size 1 (.slice (some ⟨w.heap.size, 0, none⟩) s.size cp) s.size (bytesV (fold (s.data.toList.take k) ++ s.data.toList.drop k)) ∧ Below w.heap.size w wr) (fun i _ => s.size - (intOf i).toNat)
  case atStart => exact ⟨0, Nat.zero_le _, rfl, by simpa [fold] using hrow0, hb0⟩
  case round =>
    obtain ⟨k, hk, rfl, hrow, hb⟩ := hrel
    clear hcb hrow0 hb0
    by_cases hlt : k < s.size
    · have hd : k < s.data.toList.length := by rw [size_data]; exact hlt
      obtain ⟨g, o, e1, _, _, hcell, hfro⟩ := hrow.own (by omega)
      injection e1 with e1
      injection e1 with e1 e2 _
      subst e1 e2
      have hlen : (bytesV (fold (s.data.toList.take k) ++ s.data.toList.drop k)).length = s.size := by
        rw [bytesV_len, List.length_append, fold_len, List.length_take, List.length_drop, size_data]; omega
      have c1 := hcell k (.int .u8 ((s[k]).toNat : Int)) (by
        rw [bytesV_append, List.getElem?_append_right (by rw [bytesV_len, fold_len, List.length_take]; omega), bytesV_len, fold_len, List.length_take, show k - min k s.data.toList.length = 0 by omega, List.drop_eq_getElem_cons hd, byte_at s k hlt]
        rfl)
      have f1 := hfro k (by omega)
      rw [Nat.zero_add] at c1 f1
      have hrow2 := hrow.set (j := k) (u := .int .u8 ((small s[k]).toNat : Int)) (by omega)
      have hsf := set_fold s.data.toList k hd
      rw [byte_at s k hlt] at hsf
      rw [hsf, Nat.zero_add] at hrow2
      clear hcell hfro hlen hsf hrow
      go_wp2_with (go_at_call 88; refine (hFold1_any s[k] _).mono ?_; rintro e w' ⟨rfl, rfl⟩)
      go_roundw
      case rel => exact ⟨k + 1, by omega, by go_num, hrow2, hb.setCell (Nat.le_refl _) _⟩
      case measure => simp [intOf]; omega
    · have e1 : s.data.toList.take k = s.data.toList := List.take_of_length_le (by rw [size_data]; omega)
      have e2 : s.data.toList.drop k = [] := List.drop_of_length_le (by rw [size_data]; omega)
      rw [e1, e2, List.append_nil] at hrow
      obtain ⟨A, c, e3, hc1, hc2, h0, hrd⟩ := hrow.form
      injection e3 with e3 _ e4
      subst e3 e4
      have hcv := conv_str (P := Tryz.prog) 26 9 5 Tryz.underlying26 Tryz.underlying5 Tryz.underlying9 (c := cp) hrd (fun e => (h0 e).1)
      clear hrow hrd h0 e1 e2
      go_wp2
      go_ret
      exact ⟨rfl, hb⟩
end Go.Proofs.YtklmpadcfioefaaGreatDoor

namespace Go.Proofs.YtklmpadcfioefaaGreatDoor
open Go.RowKit

abbrev Fl := ByteArray × ByteArray
def fieldsV (l : List Fl) : List Value := l.flatMap fun f => [.string f.1, .string f.2]
def strsV (l : List ByteArray) : List Value := l.map Value.string
theorem strsV_len (l : List ByteArray) : (strsV l).length = l.length := by simp [strsV]
theorem fieldsV_len (l : List Fl) : (fieldsV l).length = l.length * 2 := by
  induction l with
  | nil => rfl
  | cons f l ih => simp only [fieldsV, List.flatMap_cons, List.length_append, List.length_cons, List.length_nil] at ih ⊢; omega
theorem fieldsV_get : ∀ (l : List Fl) (k : Nat) (h : k < l.length), (fieldsV l)[k * 2]? = some (.string l[k].1) ∧ (fieldsV l)[k * 2 + 1]? = some (.string l[k].2)
  | f :: l, 0, _ => ⟨rfl, rfl⟩
  | f :: l, k + 1, h => by
    have := fieldsV_get l k (by simpa using h)
    have e : (fieldsV (f :: l)) = .string f.1 :: .string f.2 :: fieldsV l := rfl
    rw [e, show (k + 1) * 2 = k * 2 + 1 + 1 by omega]
    simpa using this
def headV (rq : Bool) (m t : ByteArray) (st : Int) (rs : ByteArray) (mn : Int) (f : Value) : Value := .agg #[.bool rq, .string m, .string t, .int .i64 st, .string rs, .int .i64 mn, f]

def vals (fs : List Fl) (name : ByteArray) : List ByteArray := (fs.filter fun f => fold f.1.data.toList == fold name.data.toList).map (·.2)
theorem vals_step (fs : List Fl) (name : ByteArray) (k : Nat) (h : k < fs.length) : vals (fs.take (k + 1)) name = vals (fs.take k) name ++ (if fold fs[k].1.data.toList = fold name.data.toList then [fs[k].2] else []) := by
  unfold vals
  rw [List.take_succ_eq_append_getElem h, List.filter_append, List.map_append]
  congr 1
  by_cases e : fold fs[k].1.data.toList = fold name.data.toList <;> simp [e]
theorem vals_le (fs : List Fl) (name : ByteArray) : (vals fs name).length ≤ fs.length := by
  unfold vals; rw [List.length_map]; exact List.length_filter_le _ _

theorem info9 : (Tryz.prog.info? 9).map (fun i => (i.zero, i.size, i.bytes)) = some (some (.string ⟨#[]⟩), 1, 16) := by kernel_rfl

set_option maxHeartbeats 1000000 in
set_option maxRecDepth 100000 in
theorem hValues_any (rq : Bool) (m t : ByteArray) (st : Int) (rs : ByteArray) (mn : Int) (A : Option Addr) (n c : Nat) (fs : List Fl) (name : ByteArray) (w : World) (hrd : Rd w w.heap.size 2 A n (fieldsV fs))
    (hn : n ≤ 16777216) (hname : name.size ≤ 16777216) (hfs : ∀ f ∈ fs, f.1.size ≤ 16777216) :
    Calls Tryz.prog 27 #[headV rq m t st rs mn (.slice A n c), .string name] w fun e w' => ∃ v, e = .returned v ∧ Row w' w.heap.size 1 v (vals fs name).length (strsV (vals fs name)) ∧ Below w.heap.size w w' := by
  have hlen : fs.length = n := by have := hrd.1; rw [fieldsV_len] at this; omega
  obtain ⟨i0, hi, hz0, hz1, hz2⟩ := info_parts info9
  unfold headV
  go_enter Tryz.func27, Tryz.ntmps27
  go_wp2
  go_loopw [4, 10] (fun v4 i wr => ∃ k : Nat, k ≤ n ∧ i = .int .i64 k ∧ Row wr w.heap.size 1 v4 (vals (fs.take k) name).length (strsV (vals (fs.take k) name)) ∧ Below w.heap.size w wr) (fun _ i _ => n - (intOf i).toNat)
  case atStart => exact ⟨0, Nat.zero_le _, rfl, Row.nil _ _ _, (Below.refl _ _).alloc (Nat.le_refl _) _⟩
  case round =>
    obtain ⟨k, hk, rfl, hrow, hb⟩ := hrel
    by_cases hlt : k < n
    · obtain ⟨g, o, rfl, hg, hcell⟩ := hrd.2 (by omega)
      obtain ⟨G1, G2⟩ := fieldsV_get fs k (by omega)
      have c1 := (hb.cell (p := ⟨g, o + k * 2, none⟩) hg).trans (hcell _ _ G1)
      have c2 := (hb.cell (p := ⟨g, o + (k * 2 + 1), none⟩) hg).trans (hcell _ _ G2)
      clear hcell G1 G2
      have hr : World.rangeAt wr g (o + k * 2) [.string fs[k].1, .string fs[k].2] := by
        intro j v hj
        match j, hj with
        | 0, hj => cases hj; exact c1
        | 1, hj => cases hj; exact c2
      have hsz := hb.size
      have hs1 : fs[k].1.size ≤ 16777216 := hfs _ (List.getElem_mem _)
      have HV := Lib.hid (vals_step fs name k (by omega))
      have HP : Hid ((vals (fs.take k) name).length ≤ k) := Lib.hid (Nat.le_trans (vals_le _ _) (by rw [List.length_take]; omega))
      by_cases he : fold fs[k].1.data.toList = fold name.data.toList
      · rw [if_pos he] at HV
        generalize vals (fs.take k) name = pv at HV HP hrow
        have hpv := HP.out
        go_wp2_with (first
          | (refine wpList_load_mid rfl 89 (.tmp 12) rfl g (o + k * 2) rfl [.string fs[k].1, .string fs[k].2] _ hr Tryz.underlying89 rfl (by kernel_rfl) ?_)
          | (go_at_call 52; have c3' := c3; go_must (refine (hFold_any name _ hname).mono ?_; rintro _ w2 ⟨rfl, hb2⟩; have hs2 := hb2.size; have c4 : w2.cell? ⟨wr.heap.size, 1, none⟩ = some (.string fs[k].2) := (hb2.cell (by show wr.heap.size < _; omega)).trans c3; have hB2 : Below w.heap.size w w2 := hB1.trans (hb2.mono (by omega)); have hrow2 := hrow1.below_all hb2))
          | (go_at_call 52; refine (hFold_any fs[k].1 _ hs1).mono ?_; rintro _ w1 ⟨rfl, hb1⟩; have hs1' : wr.heap.size + 1 ≤ w1.heap.size := by (have := hb1.size; simpa using this)
             have c3 : w1.cell? ⟨wr.heap.size, 1, none⟩ = some (.string fs[k].2) := (hb1.cell (by simp)).trans (World.cell?_alloc_new _ _ _ _)
             have hB1 : Below w.heap.size w w1 := (hb.alloc hsz _).trans (hb1.mono (by simp; omega))
             have hrow1 := (hrow.alloc _).below_all hb1
             rw [he])
          | (at_builtin; go_must (refine wpList_app _ rfl (.tmp 20) (.tmp 23) 27 27 rfl w.heap.size 9 i0 (.string ⟨#[]⟩) 1 16 Tryz.underlying27 hi hz0 hz1 hz2 rfl u4 pv.length (strsV pv) rfl (hrow2.alloc _) _ 1 [.string fs[k].2] rfl (Src.built [.string fs[k].2] 9 Tryz.underlying27 rfl (by intro u hu; simp at hu; subst hu; rfl)) (by omega) (by omega) (by omega) (by simp; omega) ?_); intro v1 w3 hrow3 hg3 _; have hB3 : Below w.heap.size w w3 := Below.app (hB2.alloc (by omega) _) (hrow2.alloc _) hg3 (Nat.le_refl _) (by simp; omega)))
        go_roundw
        case rel => exact ⟨k + 1, by omega, by go_num, by rw [HV.out, strsV, List.map_append, List.length_append]; exact hrow3, hB3⟩
        case measure => simp [intOf]; omega
      · rw [if_neg he, List.append_nil] at HV
        have hne : (fold fs[k].1.data.toList == fold name.data.toList) = false := by simpa using he
        generalize vals (fs.take k) name = pv at HV HP hrow
        go_wp2_with (first
          | (refine wpList_load_mid rfl 89 (.tmp 12) rfl g (o + k * 2) rfl [.string fs[k].1, .string fs[k].2] _ hr Tryz.underlying89 rfl (by kernel_rfl) ?_)
          | (go_at_call 52; have c3' := c3; go_must (refine (hFold_any name _ hname).mono ?_; rintro _ w2 ⟨rfl, hb2⟩; have hs2 := hb2.size; have c4 : w2.cell? ⟨wr.heap.size, 1, none⟩ = some (.string fs[k].2) := (hb2.cell (by show wr.heap.size < _; omega)).trans c3; have hB2 : Below w.heap.size w w2 := hB1.trans (hb2.mono (by omega)); have hrow2 := hrow1.below_all hb2))
          | (go_at_call 52; refine (hFold_any fs[k].1 _ hs1).mono ?_; rintro _ w1 ⟨rfl, hb1⟩; have hs1' : wr.heap.size + 1 ≤ w1.heap.size := by (have := hb1.size; simpa using this)
             have c3 : w1.cell? ⟨wr.heap.size, 1, none⟩ = some (.string fs[k].2) := (hb1.cell (by simp)).trans (World.cell?_alloc_new _ _ _ _)
             have hB1 : Below w.heap.size w w1 := (hb.alloc hsz _).trans (hb1.mono (by simp; omega))
             have hrow1 := (hrow.alloc _).below_all hb1
             skip))
        go_roundw
        case rel => exact ⟨k + 1, by omega, by go_num, by rw [HV.out]; exact hrow2, hB2⟩
        case measure => simp [intOf]; omega
    · have e1 : fs.take k = fs := List.take_of_length_le (by omega)
      rw [e1] at hrow
      go_wp2
      go_ret
      exact ⟨_, rfl, hrow, hb⟩
end Go.Proofs.YtklmpadcfioefaaGreatDoor

namespace Go.Proofs.YtklmpadcfioefaaGreatDoor

/-- what stands between commas, behind a piece that is begun -/
def pieces (cur : Bs) : Bs → List Bs
  | [] => [cur]
  | c :: t => if c = 44 then cur :: pieces [] t else pieces (cur ++ [c]) t
/-- the trimmed ones that are not empty -/
def sel (l : List Bs) : List ByteArray := (l.map fun p => (⟨(trim p).toArray⟩ : ByteArray)).filter fun p => !(p.data.toList.isEmpty)
def listed (vs : List ByteArray) : List ByteArray := vs.flatMap fun s => sel (pieces [] s.data.toList)

theorem pieces_none : ∀ (s cur : Bs), 44 ∉ s → pieces cur s = [cur ++ s]
  | [], cur, _ => by simp [pieces]
  | c :: t, cur, h => by
    have h1 : c ≠ 44 := fun e => h (by simp [e])
    have h2 : 44 ∉ t := fun e => h (by simp [e])
    rw [pieces, if_neg h1, pieces_none t _ h2]; simp
theorem pieces_hit : ∀ (a t cur : Bs), 44 ∉ a → pieces cur (a ++ 44 :: t) = (cur ++ a) :: pieces [] t
  | [], t, cur, _ => by simp [pieces]
  | c :: a, t, cur, h => by
    have h1 : c ≠ 44 := fun e => h (by simp [e])
    have h2 : 44 ∉ a := fun e => h (by simp [e])
    rw [List.cons_append, pieces, if_neg h1, pieces_hit a t _ h2]; simp

theorem mem_get {l : Bs} {c : UInt8} (h : ∀ k : Nat, l[k]? ≠ some c) : c ∉ l := fun e => by
  obtain ⟨k, hk, e⟩ := List.getElem_of_mem e
  exact h k (by rw [List.getElem?_eq_getElem hk, e])

theorem splitK_pieces : ∀ (k : Nat) (s : Bs), Lib.count s [44] ≤ k → Lib.splitK [44] 0 k s = pieces [] s
  | 0, s, h => by
    rw [Lib.count_one] at h
    have : 44 ∉ s := List.count_eq_zero.1 (by omega)
    rw [pieces_none s [] this]; rfl
  | k + 1, s, h => by
    rw [Lib.splitK]
    by_cases hi : Lib.index s [44] = -1
    · rw [if_pos (by rw [hi]; rfl)]
      rw [Lib.index_one] at hi
      rw [pieces_none s [] (mem_get (Lib.indexByte_none hi))]; rfl
    · rw [if_neg (by simpa using hi)]
      have hge := Lib.index_ge s [44]
      obtain ⟨j, hj⟩ : ∃ j : Nat, Lib.index s [44] = j := ⟨(Lib.index s [44]).toNat, by omega⟩
      have hj' := hj
      rw [Lib.index_one] at hj'
      obtain ⟨hs, hb⟩ := Lib.indexByte_some hj'
      have hlt : j < s.length := (List.getElem?_eq_some_iff.1 hs).1
      have hc := Lib.count_hit (sub := [44]) (by simp) hj
      rw [hj]
      simp only [Int.toNat_natCast, Nat.add_zero, List.length_cons, List.length_nil, Nat.zero_add] at hc ⊢
      rw [splitK_pieces k _ (by omega)]
      have e : s = s.take j ++ 44 :: s.drop (j + 1) := by
        conv => lhs; rw [← List.take_append_drop j s, List.drop_eq_getElem_cons hlt]
        have : s[j] = 44 := (List.getElem?_eq_some_iff.1 hs).2
        rw [this]
      have hn : 44 ∉ s.take j := mem_get fun q hq => by
        rw [List.getElem?_take] at hq
        split at hq
        · exact hb q ‹_› hq
        · cases hq
      conv => rhs; rw [e, pieces_hit _ _ _ hn]
      simp

theorem sel_append (a b : List Bs) : sel (a ++ b) = sel a ++ sel b := by simp [sel]
theorem listed_take (vs : List ByteArray) (k : Nat) (h : k < vs.length) : listed (vs.take (k + 1)) = listed (vs.take k) ++ sel (pieces [] vs[k].data.toList) := by
  unfold listed
  rw [List.take_succ_eq_append_getElem h, List.flatMap_append]; simp only [List.flatMap_cons, List.flatMap_nil, List.append_nil]
theorem pieces_len : ∀ (s cur : Bs), (pieces cur s).length ≤ s.length + 1
  | [], cur => by simp [pieces]
  | c :: t, cur => by
    rw [pieces]
    split
    · have := pieces_len t []; simp; omega
    · have := pieces_len t (cur ++ [c]); simp; omega
theorem pieces_le : ∀ (s cur p : Bs), p ∈ pieces cur s → p.length ≤ cur.length + s.length
  | [], cur, p, h => by simp [pieces] at h; subst h; simp
  | c :: t, cur, p, h => by
    rw [pieces] at h
    split at h
    · rcases List.mem_cons.1 h with rfl | h
      · omega
      · have := pieces_le t [] p h; simp at this ⊢; omega
    · have := pieces_le t (cur ++ [c]) p h; simp at this ⊢; omega
theorem sel_len (l : List Bs) : (sel l).length ≤ l.length := by
  unfold sel; exact Nat.le_trans (List.length_filter_le _ _) (by simp)
def total (vs : List ByteArray) : Nat := (vs.map fun s => s.size + 1).sum
theorem listed_len (vs : List ByteArray) : (listed vs).length ≤ total vs := by
  induction vs with
  | nil => simp [listed, total]
  | cons s vs ih =>
    have h1 := pieces_len s.data.toList []
    have h2 := sel_len (pieces [] s.data.toList)
    have h3 : s.data.toList.length = s.size := rfl
    simp only [listed, total, List.flatMap_cons, List.length_append, List.map_cons, List.sum_cons] at ih ⊢
    omega
theorem total_take (vs : List ByteArray) (k : Nat) : total (vs.take k) ≤ total vs := by
  unfold total
  conv => rhs; rw [← List.take_append_drop k vs, List.map_append, List.sum_append]
  omega
end Go.Proofs.YtklmpadcfioefaaGreatDoor

namespace Go.Proofs.YtklmpadcfioefaaGreatDoor
open Go.ChangeShapes Go.WideShapes Go.ChangeAt Go.RowKit

theorem cellsStr : Tryz.prog.cellsOf 9 = 1 := by kernel_rfl
theorem cellsU8 : Tryz.prog.cellsOf 5 = 1 := by kernel_rfl
theorem laidOut : laidOutB Tryz.prog = true := by kernel_rfl
section
variable {H : Type}
theorem bulk_part {d : DataW H} {l : List (DataW H)} (h : d ∈ l) : Rows.uptoBulk d ≤ Rows.uptoBulkAll l := by
  induction l with
  | nil => cases h
  | cons x r ih =>
    simp only [Rows.uptoBulkAll]
    cases List.mem_cons.1 h with
    | inl e => subst e; omega
    | inr e => have := ih e; omega
theorem bulk_one (d : DataW H) : 1 ≤ Rows.uptoBulk d := by
  cases d with
  | lit l => cases l <;> simp [Rows.uptoBulk]
  | nil => simp [Rows.uptoBulk]
  | ptr d => simp [Rows.uptoBulk]
  | slice elems spare => simp [Rows.uptoBulk]
  | agg parts => simp [Rows.uptoBulk]
  | iface t d => simp [Rows.uptoBulk]
  | map entries => simp [Rows.uptoBulk]
  | held h => simp [Rows.uptoBulk]
theorem bulk_len (l : List (DataW H)) : l.length ≤ Rows.uptoBulkAll l := by
  induction l with
  | nil => simp [Rows.uptoBulkAll]
  | cons x r ih => have := bulk_one x; simp only [Rows.uptoBulkAll, List.length_cons]; omega
theorem bulk_str (s : ByteArray) : Rows.uptoBulk (DataW.lit (H := H) (.string s.data.toList)) = s.size + 1 := by
  have e : s.data.toList.length = s.size := by rw [Array.length_toList]; rfl
  simp [Rows.uptoBulk, e]
theorem bulk_strs (l : List ByteArray) : Rows.uptoBulkAll (strs (H := H) l) = total l := by
  induction l with
  | nil => rfl
  | cons s l ih => simp only [strs, total, List.map_cons, Rows.uptoBulkAll, List.sum_cons, bulk_str] at ih ⊢; rw [ih]

variable {enc : TypeId × Value → H}

theorem open_texts {W : World} {fuel : Nat} {v : Value} {x : DataW H × List MemPlace} (h : DataW.trod enc Tryz.prog W 0 (fun _ => true) true fuel 27 [v] = some x) :
    ∃ (A : Option Addr) (n c : Nat) (vs : List ByteArray), v = .slice A n c ∧ n ≤ c ∧ (A = none → n = 0) ∧ Rd W W.heap.size 1 A n (strsV vs) ∧ n ≤ Rows.uptoBulk x.1 ∧ total vs ≤ Rows.uptoBulk x.1 ∧ (∀ s ∈ vs, s.size ≤ Rows.uptoBulk x.1) := by
  rcases open_strings Tryz.underlying27 Tryz.underlying9 cellsStr h with ⟨hcs, rfl⟩ | ⟨a, len, cap, ss, hcs, hb, hl, hm, hlen, rfl, hc, _⟩
  · injection hcs with e _
    exact ⟨none, 0, 0, [], e, Nat.le_refl _, fun _ => rfl, Rd.nil _ _ _ _, Nat.zero_le _, Nat.zero_le _, fun f hf => by cases hf⟩
  · injection hcs with e _
    have hls : len ≤ ss.length := by rw [hlen]; split <;> omega
    have hfl : (ss.take len).length = len := by simp; omega
    refine ⟨some a, len, cap, ss.take len, e, hl, (fun e => by cases e), ⟨by rw [strsV_len, hfl]; omega, fun hn => ?_⟩, ?_, ?_, ?_⟩
    · obtain ⟨g, o, sp⟩ := a
      have c0 := hc 0 (by omega)
      obtain rfl : sp = none := by simpa [Addr.add] using World.cell?_spot c0
      refine ⟨g, o, rfl, cell_lt (by rw [Addr.add_lit] at c0; exact c0), fun j u hu => ?_⟩
      have hj : j < len := by
        have := (List.getElem?_eq_some_iff.1 hu).1
        rw [strsV_len, hfl] at this
        exact this
      have c1 := hc j (by omega)
      rw [Addr.add_lit] at c1
      rw [c1, ← hu]
      simp [strsV, hj, List.getD, show j < ss.length by omega]
    · simp only [Rows.uptoBulk]
      have := bulk_len (strs (H := H) (ss.take len))
      have e : (strs (H := H) (ss.take len)).length = len := by simp only [strs, List.length_map]; exact hfl
      rw [e] at this
      omega
    · simp only [Rows.uptoBulk, bulk_strs]
      omega
    · intro s hs
      have hp : (DataW.lit (.string s.data.toList) : DataW H) ∈ strs (H := H) (ss.take len) := List.mem_map_of_mem hs
      have := bulk_part hp
      simp only [Rows.uptoBulk] at this ⊢
      have e : s.data.toList.length = s.size := by rw [Array.length_toList]; rfl
      omega

end
end Go.Proofs.YtklmpadcfioefaaGreatDoor

namespace Go.Proofs.YtklmpadcfioefaaGreatDoor
open Go.RowKit

theorem marks_step (m : Nat) (h : m < ({ data := #[33, 35, 36, 37, 38, 39, 42, 43, 45, 46, 94, 95, 124, 126, 96] } : ByteArray).size) (c : UInt8) :
    (marks.take (m + 1)).contains c = ((marks.take m).contains c || ((({ data := #[33, 35, 36, 37, 38, 39, 42, 43, 45, 46, 94, 95, 124, 126, 96] } : ByteArray)[m].toNat : Int) == (c.toNat : Int))) := by
  have hm : m < marks.length := h
  have e : ({ data := #[33, 35, 36, 37, 38, 39, 42, 43, 45, 46, 94, 95, 124, 126, 96] } : ByteArray)[m] = marks[m]'hm := (byte_at { data := #[33, 35, 36, 37, 38, 39, 42, 43, 45, 46, 94, 95, 124, 126, 96] } m h).symm
  rw [List.take_succ_eq_append_getElem hm, ← e]
  rw [Bool.eq_iff_iff]
  simp only [List.contains_iff_mem, List.mem_append, List.mem_singleton, Bool.or_eq_true, beq_iff_eq]
  rw [← UInt8.toNat_inj]
  constructor <;> rintro (h1 | h1) <;> first | exact Or.inl h1 | exact Or.inr (by omega)

theorem tok_false {s : ByteArray} {k : Nat} (h : k < s.size) (h1 : isTok s[k] = false) : token s.data.toList = false := by
  have h2 : s[k] ∈ s.data.toList := by rw [← byte_at s k h]; exact List.getElem_mem _
  unfold token
  have h3 : s.data.toList.all isTok = false := by
    rw [List.all_eq_false]; exact ⟨s[k], h2, by simp [h1]⟩
  rw [h3, Bool.and_false]

set_option maxHeartbeats 4000000 in
theorem rToken_any (s : ByteArray) (w : World) (hs : s.size ≤ 9223372036854775807) :
    Calls Tryz.prog 99 #[.string s] w fun e w' => e = .returned (.bool (token s.data.toList)) ∧ w = w' := by
  have hne : (decide ((0 : Int) < (s.size : Int))) = !s.data.toList.isEmpty := by
    rw [← size_data]; cases s.data.toList <;> simp
  go_enter Tryz.func99, Tryz.ntmps99
  go_wp2
  go_loop [4] (fun i => ∃ k : Nat, k ≤ s.size ∧ i = .int .i64 k ∧ (s.data.toList.take k).all isTok = true) (fun i => s.size - (intOf i).toNat)
  case atStart => exact ⟨0, Nat.zero_le _, rfl, rfl⟩
  case round =>
    obtain ⟨k, hk, rfl, hall⟩ := hrel
    by_cases hlt : k < s.size
    · have hts := take_succ_data s k hlt
      have HT : Hid ((s.data.toList.take (k + 1)).all isTok = ((s.data.toList.take k).all isTok && isTok s[k])) := by show _ = _; rw [hts]; simp
      have hx : s[k].toNat < 256 := UInt8.toNat_lt s[k]
      have HI := Lib.hid (isTok_eq s[k])
      have HA := Lib.hid hall
      clear hall hts hne
      by_cases hL : letterI s[k].toNat
      · have HY : Hid (isTok s[k] = true) := by show _ = _; rw [HI.out]; simp [hL]
        unfold letterI at hL
        rcases hL with hL | hL | hL
        all_goals
          go_wp2
          go_loop [6, 7] (fun ok j => ∃ m : Nat, m ≤ 15 ∧ j = .int .i64 m ∧ ok = .bool true) (fun _ j => 15 - (intOf j).toNat)
          case atStart => exact ⟨0, by omega, rfl, by first | rfl | (simp; omega)⟩
          case round =>
            obtain ⟨m, hm, rfl, rfl⟩ := hrel
            by_cases hm15 : m < 15
            · go_wp2
              go_round
              case rel => exact ⟨m + 1, by omega, by go_num, rfl⟩
              case measure => simp [intOf]; omega
            · go_wp2
              go_round
              case rel => exact ⟨k + 1, by omega, by go_num, by rw [HT.out, HA.out, HY.out]; rfl⟩
              case measure => simp [intOf]; omega
      · have HN : Hid (isTok s[k] = marks.contains s[k]) := by show _ = _; rw [HI.out]; simp [hL]
        unfold letterI at hL
        rcases (show s[k].toNat < 48 ∨ (57 < s[k].toNat ∧ s[k].toNat < 65) ∨ (90 < s[k].toNat ∧ s[k].toNat < 97) ∨ 122 < s[k].toNat by omega) with hL | hL | hL | hL
        all_goals
          go_wp2
          go_loop [6, 7] (fun ok j => ∃ m : Nat, m ≤ 15 ∧ j = .int .i64 m ∧ ok = .bool ((marks.take m).contains s[k])) (fun _ j => 15 - (intOf j).toNat)
          case atStart => exact ⟨0, by omega, rfl, by first | rfl | (simp; omega)⟩
          case round =>
            obtain ⟨m, hm, rfl, rfl⟩ := hrel
            generalize hb : (marks.take m).contains s[k] = b
            have HB := Lib.hid hb
            clear hb
            by_cases hm15 : m < 15
            · have hmi : (m : Int) < 15 := by omega
              cases b
              · go_wp2
                go_round
                case rel => exact ⟨m + 1, by omega, by go_num, by rw [marks_step m (by simpa [ByteArray.size] using hm15), HB.out]; rfl⟩
                case measure => simp [intOf]; omega
              · go_wp2
                go_round
                case rel => exact ⟨m + 1, by omega, by go_num, by rw [marks_step m (by simpa [ByteArray.size] using hm15), HB.out]; rfl⟩
                case measure => simp [intOf]; omega
            · have HM : Hid (isTok s[k] = b) := by
                show _ = _
                have e : marks.take m = marks := List.take_of_length_le (by show 15 ≤ m; omega)
                rw [HN.out, ← HB.out, e]
              cases b
              · go_wp2
                go_ret
                exact ⟨by rw [tok_false hlt HM.out]; rfl, rfl⟩
              · go_wp2
                go_round
                case rel => exact ⟨k + 1, by omega, by go_num, by rw [HT.out, HA.out, HM.out]; rfl⟩
                case measure => simp [intOf]; omega
    · have e1 : s.data.toList.take k = s.data.toList := List.take_of_length_le (by rw [size_data]; omega)
      have HA : Hid (token s.data.toList = decide ((0 : Int) < (s.size : Int))) := by
        show _ = _
        rw [e1] at hall
        rw [hne]; unfold token; rw [hall, Bool.and_true]
      clear hall hne e1
      go_wp2
      all_goals go_ret
      all_goals exact ⟨by rw [HA.out]; simp, rfl⟩
end Go.Proofs.YtklmpadcfioefaaGreatDoor

namespace Go.Proofs.YtklmpadcfioefaaGreatDoor
open Go.RowKit

theorem trim116 : (Tryz.prog.info? (Tryz.lays160_ren.t 116)).map (fun i => (i.zero, i.size)) = some (some (.agg (Array.replicate 256 (.bool false))), 256) := by kernel_rfl

theorem sTrim_any (s : ByteArray) (w : World) (hs : s.size ≤ 9223372036854775807) :
    Calls Tryz.prog 46 #[.string s, .string ⟨#[32, 9]⟩] w fun e w' => e = .returned (.string ⟨(trim s.data.toList).toArray⟩) ∧ Below w.heap.size w w' :=
  (Any.strings_Trim_laid Tryz.lays160 trim116 s ⟨#[32, 9]⟩ w hs (by decide) (ascii_of_all (by decide))).mono fun e w' ⟨he, hb⟩ => ⟨by rw [he]; exact congrArg (fun l : Bs => Ending.returned (.string ⟨l.toArray⟩)) (trimS_trim s.data.toList), hb⟩

theorem data_cons (s : ByteArray) (h : 0 < s.size) : s.data.toList = s[0] :: (s.extract 1 s.size).data.toList := by
  have hl : 0 < s.data.toList.length := by rw [← Lib.size_eq]; exact h
  rw [Lib.extract_to_end]
  have := List.drop_eq_getElem_cons hl
  rw [List.drop_zero] at this
  rw [this]
  rfl
theorem data_snoc (s : ByteArray) (h : 0 < s.size) : s.data.toList = (s.extract 0 (s.size - 1)).data.toList ++ [s[s.size - 1]] := by
  have hl : s.size - 1 < s.data.toList.length := by rw [← Lib.size_eq]; omega
  rw [Lib.extract_data, Nat.sub_zero, List.drop_zero]
  have e : s[s.size - 1] = s.data.toList[s.size - 1] := rfl
  rw [e, ← List.take_succ_eq_append_getElem hl]
  rw [List.take_of_length_le]
  rw [← Lib.size_eq]; omega
theorem blank_iff (c : UInt8) : isBlank c = (((c.toNat : Int) == 9) || ((c.toNat : Int) == 32)) := by
  have h1 : (c == 32) = ((c.toNat : Int) == 32) := by
    rw [Bool.eq_iff_iff]; simp only [beq_iff_eq]
    constructor
    · intro h; rw [h]; rfl
    · intro h; exact UInt8.toNat_inj.mp (by have : (32 : UInt8).toNat = 32 := rfl; omega)
  have h2 : (c == 9) = ((c.toNat : Int) == 9) := by
    rw [Bool.eq_iff_iff]; simp only [beq_iff_eq]
    constructor
    · intro h; rw [h]; rfl
    · intro h; exact UInt8.toNat_inj.mp (by have : (9 : UInt8).toNat = 9 := rfl; omega)
  rw [isBlank, h1, h2, Bool.or_comm]

set_option maxHeartbeats 2000000 in
set_option maxRecDepth 100000 in
theorem rtrim_any (s : ByteArray) (w : World) (hs : s.size ≤ 9223372036854775807) :
    Calls Tryz.prog 98 #[.string s] w fun e w' => e = .returned (.string ⟨(trim s.data.toList).toArray⟩) ∧ w = w' := by
  have HG : Hid (trim s.data.toList = trimR (trimL s.data.toList)) := by show _ = _; rw [trim_comm, trim_eq]
  go_enter Tryz.func98, Tryz.ntmps98
  go_wp2
  go_loop [0] (fun v => ∃ x : ByteArray, v = .string x ∧ x.size ≤ s.size ∧ trimL x.data.toList = trimL s.data.toList) (fun v => match v with | .string x => x.size | _ => 0)
  case atStart => exact ⟨s, rfl, Nat.le_refl _, rfl⟩
  case round =>
    obtain ⟨x, rfl, hx, heq⟩ := hrel
    have HE := Lib.hid heq
    clear heq
    have hsz : (x.extract 1 x.size).size = x.size - 1 := by rw [ByteArray.size_extract]; omega
    by_cases h0 : 0 < x.size
    · have HB := Lib.hid (blank_iff x[0])
      have HC := Lib.hid (data_cons x h0)
      by_cases h9 : x[0].toNat = 9
      · have hb : isBlank x[0] = true := by rw [HB.out, h9]; rfl
        go_wp2
        refine ⟨⟨_, rfl, by omega, ?_⟩, by show ByteArray.size _ < x.size; omega⟩
        rw [← HE.out, HC.out, trimL_step _ _ hb]
      · by_cases h32 : x[0].toNat = 32
        · have hb : isBlank x[0] = true := by rw [HB.out, h32]; rfl
          go_wp2
          refine ⟨⟨_, rfl, by omega, ?_⟩, by show ByteArray.size _ < x.size; omega⟩
          rw [← HE.out, HC.out, trimL_step _ _ hb]
        · have hb : isBlank x[0] = false := by rw [HB.out]; simp; omega
          have HX : Hid (trimR x.data.toList = trim s.data.toList) := by show _ = _; rw [HG.out, ← HE.out, HC.out, trimL_stop _ _ hb]
          go_wp2
          case roundEnd => exfalso; simp only [beq_iff_eq] at *; omega
          go_loop [0] (fun v => ∃ y : ByteArray, v = .string y ∧ y.size ≤ s.size ∧ trimR y.data.toList = trim s.data.toList) (fun v => match v with | .string y => y.size | _ => 0)
          case atStart => exact ⟨x, rfl, hx, HX.out⟩
          case round =>
            obtain ⟨y, rfl, hy, hyeq⟩ := hrel
            have HY := Lib.hid hyeq
            clear hyeq
            have hsy : (y.extract 0 (y.size - 1)).size = y.size - 1 := by rw [ByteArray.size_extract]; omega
            by_cases k0 : 0 < y.size
            · have hi : y.size - 1 < y.size := by omega
              have GB := Lib.hid (blank_iff y[y.size - 1])
              have GC := Lib.hid (data_snoc y k0)
              by_cases k9 : y[y.size - 1].toNat = 9
              · have hb : isBlank y[y.size - 1] = true := by rw [GB.out, k9]; rfl
                go_wp2
                refine ⟨⟨_, rfl, by omega, ?_⟩, by show ByteArray.size _ < y.size; omega⟩
                rw [← HY.out, GC.out, trimR_step _ _ hb]
              · by_cases k32 : y[y.size - 1].toNat = 32
                · have hb : isBlank y[y.size - 1] = true := by rw [GB.out, k32]; rfl
                  go_wp2
                  refine ⟨⟨_, rfl, by omega, ?_⟩, by show ByteArray.size _ < y.size; omega⟩
                  rw [← HY.out, GC.out, trimR_step _ _ hb]
                · have hb : isBlank y[y.size - 1] = false := by rw [GB.out]; simp; omega
                  have HZ : Hid (y.data.toList = trim s.data.toList) := by show _ = _; rw [← HY.out, GC.out, trimR_stop _ _ hb]
                  go_wp2
                  case roundEnd => exfalso; simp only [beq_iff_eq] at *; omega
                  (try simp only [Exit.inBlock, Exit.then]); (show bodyPost _ _ _ _ _ _); refine bodyPost_ret (results_tmp rfl _ _ _) rfl ?_
                  exact ⟨by rw [← HZ.out]; rfl, rfl⟩
            · have HZ : Hid (y.data.toList = trim s.data.toList) := by
                show _ = _
                have : y.data.toList = [] := List.eq_nil_of_length_eq_zero (by rw [← Lib.size_eq]; omega)
                rw [← HY.out, this]; rfl
              go_wp2
              (try simp only [Exit.inBlock, Exit.then]); (show bodyPost _ _ _ _ _ _); refine bodyPost_ret (results_tmp rfl _ _ _) rfl ?_
              exact ⟨by rw [← HZ.out]; rfl, rfl⟩
    · have HX : Hid (trimR x.data.toList = trim s.data.toList) := by
        show _ = _
        have : x.data.toList = [] := List.eq_nil_of_length_eq_zero (by rw [← Lib.size_eq]; omega)
        rw [HG.out, ← HE.out, this]; rfl
      go_wp2
      go_loop [0] (fun v => ∃ y : ByteArray, v = .string y ∧ y.size ≤ s.size ∧ trimR y.data.toList = trim s.data.toList) (fun v => match v with | .string y => y.size | _ => 0)
      case atStart => exact ⟨x, rfl, hx, HX.out⟩
      case round =>
        obtain ⟨y, rfl, hy, hyeq⟩ := hrel
        have HY := Lib.hid hyeq
        clear hyeq
        have hsy : (y.extract 0 (y.size - 1)).size = y.size - 1 := by rw [ByteArray.size_extract]; omega
        by_cases k0 : 0 < y.size
        · have hi : y.size - 1 < y.size := by omega
          have GB := Lib.hid (blank_iff y[y.size - 1])
          have GC := Lib.hid (data_snoc y k0)
          by_cases k9 : y[y.size - 1].toNat = 9
          · have hb : isBlank y[y.size - 1] = true := by rw [GB.out, k9]; rfl
            go_wp2
            refine ⟨⟨_, rfl, by omega, ?_⟩, by show ByteArray.size _ < y.size; omega⟩
            rw [← HY.out, GC.out, trimR_step _ _ hb]
          · by_cases k32 : y[y.size - 1].toNat = 32
            · have hb : isBlank y[y.size - 1] = true := by rw [GB.out, k32]; rfl
              go_wp2
              refine ⟨⟨_, rfl, by omega, ?_⟩, by show ByteArray.size _ < y.size; omega⟩
              rw [← HY.out, GC.out, trimR_step _ _ hb]
            · have hb : isBlank y[y.size - 1] = false := by rw [GB.out]; simp; omega
              have HZ : Hid (y.data.toList = trim s.data.toList) := by show _ = _; rw [← HY.out, GC.out, trimR_stop _ _ hb]
              go_wp2
              case roundEnd => exfalso; simp only [beq_iff_eq] at *; omega
              (try simp only [Exit.inBlock, Exit.then]); (show bodyPost _ _ _ _ _ _); refine bodyPost_ret (results_tmp rfl _ _ _) rfl ?_
              exact ⟨by rw [← HZ.out]; rfl, rfl⟩
        · have HZ : Hid (y.data.toList = trim s.data.toList) := by
            show _ = _
            have : y.data.toList = [] := List.eq_nil_of_length_eq_zero (by rw [← Lib.size_eq]; omega)
            rw [← HY.out, this]; rfl
          go_wp2
          (try simp only [Exit.inBlock, Exit.then]); (show bodyPost _ _ _ _ _ _); refine bodyPost_ret (results_tmp rfl _ _ _) rfl ?_
          exact ⟨by rw [← HZ.out]; rfl, rfl⟩
end Go.Proofs.YtklmpadcfioefaaGreatDoor

namespace Go.Proofs.YtklmpadcfioefaaGreatDoor
open Go.RowKit

theorem shaped_below {w w' : World} (h : w.ShapedOpen Tryz.prog) (hb : Below w.heap.size w w') : w'.ShapedOpen Tryz.prog := h.keptBut (hb.frame fun _ => False) fun _ h => h.elim

theorem split_data (s : ByteArray) : (Lib.splitB ⟨#[44]⟩ 0 (Lib.countB s ⟨#[44]⟩) s).map (·.data.toList) = pieces [] s.data.toList := by
  rw [Lib.splitB_data]
  exact splitK_pieces _ _ (Nat.le_refl _)

theorem Rd.grow_ne {w w' : World} {B sz n g o : Nat} {xs : List Value} {row : Option Nat} (h : Rd w B sz (some ⟨g, o, none⟩) n xs) (hg : w.grownBy w' row) (hB : B ≤ w.heap.size) (hne : row ≠ some g) : Rd w' B sz (some ⟨g, o, none⟩) n xs :=
  ⟨h.1, fun hn => by
    obtain ⟨g', o', e, hb, hc⟩ := h.2 hn
    injection e with e
    injection e with e1 e2 _
    subst e1 e2
    exact ⟨g, o, rfl, hb, fun j u hu => (World.cell?_of_block (w := w) (a := ⟨g, o + j, none⟩) (hg.block g (by omega) (fun e => hne e.symm))).trans (hc j u hu)⟩⟩

/-- strings.Split at a comma, as a row -/
theorem split_row (s : ByteArray) (w : World) (h : w.ShapedOpen Tryz.prog) (hs : s.size ≤ 16777216) :
    Calls Tryz.prog 40 #[.string s, .string ⟨#[44]⟩] w fun e w' => ∃ (ps : List ByteArray) (g : Nat), e = .returned (.slice (some ⟨g, 0, none⟩) ps.length ps.length) ∧ ps.map (·.data.toList) = pieces [] s.data.toList ∧
      ps.length ≤ s.size + 1 ∧ w.heap.size ≤ g ∧ Rd w' w'.heap.size 1 (some ⟨g, 0, none⟩) ps.length (strsV ps) ∧ Below w.heap.size w w' :=
  (Tryz.strings_Split_shaped s ⟨#[44]⟩ w h (by omega) (by decide)).mono fun e w' ⟨he, hw⟩ => by
    have hl := Lib.splitB_all ⟨#[44]⟩ (by decide) 0 _ s rfl
    have hd := split_data s
    generalize hps : Lib.splitB ⟨#[44]⟩ 0 (Lib.countB s ⟨#[44]⟩) s = ps at hl hd hw
    refine ⟨ps, w.heap.size, by rw [he, hl], hd, ?_, Nat.le_refl _, ?_, ?_⟩
    · have := pieces_len s.data.toList []
      rw [← hd, List.length_map] at this
      exact this
    · subst hw
      refine ⟨by rw [strsV_len]; omega, fun _ => ⟨w.heap.size, 0, rfl, by simp, fun j u hu => ?_⟩⟩
      rw [Nat.zero_add, World.cell?_alloc_at _ _ _ _ rfl]
      simpa [strsV] using hu
    · subst hw
      exact (Below.refl _ _).alloc (Nat.le_refl _) _

theorem strs_get {l : List ByteArray} {j : Nat} (h : j < l.length) : (strsV l)[j]? = some (.string l[j]) := by simp [strsV, h]
def selB (ps : List ByteArray) : List ByteArray := sel (ps.map (·.data.toList))
theorem selB_take (ps : List ByteArray) (k : Nat) (h : k < ps.length) : selB (ps.take (k + 1)) = selB (ps.take k) ++ (if trim ps[k].data.toList = [] then [] else [⟨(trim ps[k].data.toList).toArray⟩]) := by
  unfold selB
  rw [List.take_succ_eq_append_getElem h, List.map_append, sel_append]
  congr 1
  by_cases e : trim ps[k].data.toList = [] <;> simp [sel, e]
theorem selB_len (ps : List ByteArray) (k : Nat) : (selB (ps.take k)).length ≤ k := by
  unfold selB
  refine Nat.le_trans (sel_len _) ?_
  simp; omega

set_option maxHeartbeats 2000000 in
set_option maxRecDepth 100000 in
theorem hList_any (A : Option Addr) (n c : Nat) (vs : List ByteArray) (w : World) (hsh : w.ShapedOpen Tryz.prog) (hrd : Rd w w.heap.size 1 A n (strsV vs))
    (hn : n ≤ 16777216) (hvs : ∀ s ∈ vs, s.size ≤ 16777216) (htot : total vs ≤ 16777216) :
    Calls Tryz.prog 50 #[.slice A n c] w fun e w' => ∃ v, e = .returned v ∧ Row w' w.heap.size 1 v (listed vs).length (strsV (listed vs)) ∧ Below w.heap.size w w' := by
  have hlen : vs.length = n := by have := hrd.1; rw [strsV_len] at this; omega
  obtain ⟨i0, hi, hz0, hz1, hz2⟩ := info_parts info9
  go_enter Tryz.func50, Tryz.ntmps50
  go_wp2
  go_loopw [2, 9] (fun v2 i wr => ∃ k : Nat, k ≤ n ∧ i = .int .i64 k ∧ Row wr w.heap.size 1 v2 (listed (vs.take k)).length (strsV (listed (vs.take k))) ∧ Below w.heap.size w wr) (fun _ i _ => n - (intOf i).toNat)
  case atStart => exact ⟨0, Nat.zero_le _, rfl, Row.nil _ _ _, Below.refl _ _⟩
  case round =>
    obtain ⟨k, hk, rfl, hrow, hb⟩ := hrel
    by_cases hlt : k < n
    · obtain ⟨g, o, rfl, hg, hcell⟩ := hrd.2 (by omega)
      have c1 := (hb.cell (p := ⟨g, o + k, none⟩) hg).trans (hcell _ _ (strs_get (l := vs) (j := k) (by omega)))
      have hsz := hb.size
      have hs1 : vs[k].size ≤ 16777216 := hvs _ (List.getElem_mem _)
      have HL := Lib.hid (listed_take vs k (by omega))
      have HN : Hid ((listed (vs.take k)).length ≤ 16777216) := Lib.hid (Nat.le_trans (listed_len _) (Nat.le_trans (total_take vs k) htot))
      have hshr := shaped_below hsh hb
      clear hcell
      generalize listed (vs.take k) = pv at HL HN hrow
      have hpv := HN.out
      go_wp2_with (go_at_call 40; go_must (refine (split_row vs[k] _ hshr hs1).mono ?_; rintro _ w1 ⟨ps, g1, rfl, hps, hpl, hg1, hrd1, hb1⟩))
      have hrow1 := hrow.below_all hb1
      have hB1 : Below w.heap.size w w1 := hb.trans (hb1.mono hsz)
      have hsz1 := hB1.size
      have hown : u2.ownBlock ≠ some g1 := fun e => by have := (hrow.lt _ e).2; omega
      go_loopw [2, 16] (fun v2 i wi => ∃ j : Nat, j ≤ ps.length ∧ i = .int .i64 j ∧ Row wi w.heap.size 1 v2 (pv ++ selB (ps.take j)).length (strsV (pv ++ selB (ps.take j))) ∧ Below w.heap.size w wi ∧ v2.ownBlock ≠ some g1 ∧ Rd wi wi.heap.size 1 (some ⟨g1, 0, none⟩) ps.length (strsV ps)) (fun _ i _ => ps.length - (intOf i).toNat)
      case atStart => exact ⟨0, Nat.zero_le _, rfl, by simpa [selB, sel] using hrow1, hB1, hown, hrd1⟩
      case round =>
        obtain ⟨j, hj, rfl, hrowi, hbi, hoi, hrdi⟩ := hrel
        have hszi := hbi.size
        by_cases hjl : j < ps.length
        · obtain ⟨g2, o2, e2, hg2, hcell2⟩ := hrdi.2 (by omega)
          injection e2 with e2
          injection e2 with e2 e3 _
          subst e2 e3
          have c2 := hcell2 _ _ (strs_get (l := ps) (j := j) (by omega))
          rw [Nat.zero_add] at c2
          have HS := Lib.hid (selB_take ps j hjl)
          have HK : Hid ((selB (ps.take j)).length ≤ j) := Lib.hid (selB_len ps j)
          clear hcell2
          generalize selB (ps.take j) = sj at HS HK hrowi
          have hpj : (ps[j]).size ≤ 9223372036854775807 := by
            have h1 : ps[j].data.toList ∈ pieces [] vs[k].data.toList := by rw [← hps]; exact List.mem_map_of_mem (List.getElem_mem _)
            have h2 := pieces_le _ _ _ h1
            have h3 : ps[j].data.toList.length = ps[j].size := rfl
            have h4 : vs[k].data.toList.length = vs[k].size := rfl
            simp only [List.length_nil] at h2
            omega
          by_cases he : trim ps[j].data.toList = []
          · rw [if_pos he, List.append_nil] at HS
            go_wp2_with (go_at_call 46; go_must (refine (sTrim_any ps[j] _ hpj).mono ?_; rintro _ w2 ⟨rfl, hb2⟩; rw [he]))
            refine ⟨⟨j + 1, by omega, by go_num, ?_, hbi.trans (hb2.mono hszi), hoi, (hrdi.below hb2).more hb2.size⟩, by simp [intOf]; omega⟩
            rw [HS.out]
            exact hrowi.below_all hb2
          · rw [if_neg he] at HS
            have hne : (trim ps[j].data.toList == []) = false := by simpa using he
            have hke := HK.out
            have hll : (pv ++ sj).length ≤ 33554500 := by rw [List.length_append]; omega
            generalize hpsj : pv ++ sj = pj at hrowi hll
            go_wp2_with (first
              | (go_at_call 46; go_must (refine (sTrim_any ps[j] _ hpj).mono ?_; rintro _ w2 ⟨rfl, hb2⟩; have hrow2 := hrowi.below_all hb2; have hs2 := hb2.size; have hB2 := hbi.trans (hb2.mono hszi)))
              | (at_builtin; go_must (refine wpList_app _ rfl (.tmp 24) (.tmp 26) 27 27 rfl w.heap.size 9 i0 (.string ⟨#[]⟩) 1 16 Tryz.underlying27 hi hz0 hz1 hz2 rfl u2 pj.length (strsV pj) rfl (hrow2.alloc _) _ 1 [.string ⟨(trim ps[j].data.toList).toArray⟩] rfl (Src.built [.string ⟨(trim ps[j].data.toList).toArray⟩] 9 Tryz.underlying27 rfl (by intro u hu; simp at hu; subst hu; rfl)) (by omega) (by omega) (by omega) (by simp; omega) ?_); intro v1 w3 hrow3 hg3 hg4; have hB3 : Below w.heap.size w w3 := Below.app (hB2.alloc (by omega) _) (hrow2.alloc _) hg3 (Nat.le_refl _) (by simp; omega)))
            refine ⟨⟨j + 1, by omega, by go_num, ?_, hB3, ?_, ?_⟩, by simp [intOf]; omega⟩
            · rw [HS.out, ← List.append_assoc, hpsj, strsV, List.map_append, List.length_append]
              exact hrow3
            · rcases hg4 with e | e
              · rw [e]; exact hoi
              · rw [e]; intro e; injection e with e; simp at e; omega
            · exact (Rd.grow_ne (((hrdi.below hb2).more hb2.size).alloc (Nat.le_refl _) _) hg3 (by simp) hoi).more (Nat.le_trans (by simp) hg3.size)
        · have e1 : ps.take j = ps := List.take_of_length_le (by omega)
          rw [e1] at hrowi
          have e2 : selB ps = sel (pieces [] vs[k].data.toList) := by unfold selB; rw [hps]
          rw [e2] at hrowi
          go_wp2
          go_roundw
          case rel => exact ⟨k + 1, by omega, by go_num, by rw [HL.out]; exact hrowi, hbi⟩
          case measure => simp [intOf]; omega
    · have e1 : vs.take k = vs := List.take_of_length_le (by omega)
      rw [e1] at hrow
      go_wp2
      go_ret
      exact ⟨_, rfl, hrow, hb⟩
end Go.Proofs.YtklmpadcfioefaaGreatDoor

namespace Go.Proofs.YtklmpadcfioefaaGreatDoor

/-- what stands between pairs 13 10 -/
def lines (cur : Bs) : Bs → List Bs
  | [] => [cur]
  | [c] => [cur ++ [c]]
  | c :: d :: t => if c = 13 ∧ d = 10 then cur :: lines [] t else lines (cur ++ [c]) (d :: t)

theorem index_pair (c d : UInt8) (t : Bs) : ([13, 10] : Bs).isPrefixOf (c :: d :: t) = decide (c = 13 ∧ d = 10) := by
  by_cases h : c = 13 <;> by_cases h' : d = 10 <;> simp [List.isPrefixOf, h, h'] <;> first | (intro e; exact absurd e.symm h) | (intro e; exact absurd e.symm h') | skip

theorem lines_index : ∀ (s cur : Bs), lines cur s = if Lib.index s [13, 10] = -1 then [cur ++ s] else (cur ++ s.take (Lib.index s [13, 10]).toNat) :: lines [] (s.drop ((Lib.index s [13, 10]).toNat + 2))
  | [], cur => by simp [lines, Lib.index]
  | [c], cur => by simp [lines, Lib.index, List.isPrefixOf]
  | c :: d :: t, cur => by
    by_cases h : c = 13 ∧ d = 10
    · have e : Lib.index (c :: d :: t) [13, 10] = 0 := by rw [Lib.index, index_pair, if_pos (by simpa using h)]
      rw [lines, if_pos h, e]; simp
    · have hp : ([13, 10] : Bs).isPrefixOf (c :: d :: t) = false := by rw [index_pair]; simpa using h
      have e : Lib.index (c :: d :: t) [13, 10] = if Lib.index (d :: t) [13, 10] == -1 then -1 else Lib.index (d :: t) [13, 10] + 1 := by rw [Lib.index, hp]; rfl
      rw [lines, if_neg h, lines_index (d :: t) (cur ++ [c]), e]
      have hge := Lib.index_ge (d :: t) [13, 10]
      generalize Lib.index (d :: t) [13, 10] = k at hge
      by_cases hk : k = -1
      · subst hk; simp
      · have hb : ¬ (k == -1) = true := by simpa using hk
        rw [if_neg hk, if_neg hb, if_neg (by omega), show (k + 1).toNat = k.toNat + 1 by omega]
        simp [show k.toNat + 1 + 2 = k.toNat + 2 + 1 by omega]

theorem splitK_lines : ∀ (k : Nat) (s : Bs), Lib.count s [13, 10] ≤ k → Lib.splitK [13, 10] 0 k s = lines [] s
  | 0, s, h => by
    have hi : Lib.index s [13, 10] = -1 := by
      by_cases e : Lib.index s [13, 10] = -1
      · exact e
      · have hge := Lib.index_ge s [13, 10]
        obtain ⟨j, hj⟩ : ∃ j : Nat, Lib.index s [13, 10] = j := ⟨(Lib.index s [13, 10]).toNat, by omega⟩
        have := Lib.count_hit (sub := [13, 10]) (by simp) hj
        omega
    rw [lines_index, if_pos hi]; rfl
  | k + 1, s, h => by
    rw [Lib.splitK, lines_index]
    by_cases hi : Lib.index s [13, 10] = -1
    · rw [if_pos (by rw [hi]; rfl), if_pos hi]; rfl
    · rw [if_neg (by simpa using hi), if_neg hi]
      have hge := Lib.index_ge s [13, 10]
      obtain ⟨j, hj⟩ : ∃ j : Nat, Lib.index s [13, 10] = j := ⟨(Lib.index s [13, 10]).toNat, by omega⟩
      have hc := Lib.count_hit (sub := [13, 10]) (by simp) hj
      rw [hj]
      simp only [Int.toNat_natCast, Nat.add_zero, List.length_cons, List.length_nil, Nat.zero_add, List.nil_append] at hc ⊢
      rw [splitK_lines k _ (by omega)]

theorem lines_len : ∀ (s cur : Bs), (lines cur s).length ≤ s.length + 1
  | [], cur => by simp [lines]
  | [c], cur => by simp [lines]
  | c :: d :: t, cur => by
    rw [lines]
    split
    · have := lines_len t []; simp; omega
    · have := lines_len (d :: t) (cur ++ [c]); simp at this ⊢; omega
theorem lines_le : ∀ (s cur p : Bs), p ∈ lines cur s → p.length ≤ cur.length + s.length
  | [], cur, p, h => by simp [lines] at h; simp [h]
  | [c], cur, p, h => by simp [lines] at h; simp [h]
  | c :: d :: t, cur, p, h => by
    rw [lines] at h
    split at h
    · rcases List.mem_cons.1 h with rfl | h
      · omega
      · have := lines_le t [] p h; simp at this ⊢; omega
    · have := lines_le (d :: t) (cur ++ [c]) p h; simp at this ⊢; omega
theorem lines_ne : ∀ (s cur : Bs), lines cur s ≠ []
  | [], cur => by simp [lines]
  | [c], cur => by simp [lines]
  | c :: d :: t, cur => by
    rw [lines]
    split
    · simp
    · exact lines_ne (d :: t) _

/-- all behind the first of these ends at a byte: before it, behind it -/
def cutAt (c : UInt8) : Bs → Option (Bs × Bs)
  | [] => none
  | x :: l => if x = c then some ([], l) else (cutAt c l).map fun p => (x :: p.1, p.2)

theorem cutAt_none {c : UInt8} : ∀ {l : Bs}, cutAt c l = none ↔ c ∉ l
  | [] => by simp [cutAt]
  | x :: l => by
    rw [cutAt]
    by_cases h : x = c
    · simp [h]
    · have h' : ¬ c = x := fun e => h e.symm
      simp [h, h', cutAt_none (l := l)]
theorem cutAt_some {c : UInt8} : ∀ {l a b : Bs}, cutAt c l = some (a, b) ↔ l = a ++ c :: b ∧ c ∉ a
  | [], a, b => by simp [cutAt]
  | x :: l, a, b => by
    rw [cutAt]
    by_cases h : x = c
    · subst h
      cases a with
      | nil => simp
      | cons y a => simp; intro e _ h; exact absurd e h
    · rw [if_neg h, Option.map_eq_some_iff]
      constructor
      · rintro ⟨⟨p, q⟩, hp, e⟩
        cases e
        obtain ⟨e1, e2⟩ := cutAt_some.1 hp
        exact ⟨by simp [e1], by simp [e2]; exact fun e => h e.symm⟩
      · rintro ⟨e1, e2⟩
        cases a with
        | nil => simp at e1; exact absurd e1.1 h
        | cons y a =>
          simp only [List.cons_append, List.cons.injEq] at e1
          obtain ⟨rfl, e1⟩ := e1
          exact ⟨(a, b), cutAt_some.2 ⟨e1, fun e => e2 (by simp [e])⟩, rfl⟩
theorem cutAt_at {c : UInt8} {l : Bs} {k : Nat} (hk : k < l.length) (hc : l[k] = c) (hn : ∀ j (h : j < k), l[j] ≠ c) : cutAt c l = some (l.take k, l.drop (k + 1)) := by
  refine cutAt_some.2 ⟨?_, fun h => ?_⟩
  · conv => lhs; rw [← List.take_append_drop k l, List.drop_eq_getElem_cons hk, hc]
  · obtain ⟨j, hj, e⟩ := List.getElem_of_mem h
    rw [List.getElem_take] at e
    simp at hj
    exact hn j (by omega) e

def isDigit (c : UInt8) : Bool := 48 ≤ c && c ≤ 57
def isText (c : UInt8) : Bool := c == 9 || (32 ≤ c && c != 127)
def isReason (c : UInt8) : Bool := 32 ≤ c && c != 127
def isSeen (c : UInt8) : Bool := 33 ≤ c && c ≤ 126
def minorP (l : Bs) : Option Nat := if l = [72, 84, 84, 80, 47, 49, 46, 48] then some 0 else if l = [72, 84, 84, 80, 47, 49, 46, 49] then some 1 else none
def numP (l : Bs) : Nat := l.foldl (fun n c => 10 * n + (c.toNat - 48)) 0

/-- a head -/
structure Hd where
  rq : Bool := false
  m : Bs := []
  t : Bs := []
  st : Nat := 0
  rs : Bs := []
  mn : Nat := 0
  fs : List (Bs × Bs) := []
deriving DecidableEq

def firstP (rq : Bool) (l : Bs) : Option Hd :=
  match cutAt 32 l with
  | none => none
  | some (a, r) => match cutAt 32 r with
    | none => none
    | some (b, c) =>
      if rq then match minorP c with
        | none => none
        | some k => if token a = true ∧ b ≠ [] ∧ b.all isSeen = true then some { rq := true, m := a, t := b, mn := k } else none
      else match minorP a with
        | none => none
        | some k => if b.length = 3 ∧ c.all isReason = true ∧ b.all isDigit = true ∧ 100 ≤ numP b ∧ numP b ≤ 599 then some { st := numP b, rs := c, mn := k } else none

def fieldP (l : Bs) : Option (Bs × Bs) :=
  match cutAt 58 l with
  | none => none
  | some (n, v) => if token n = true ∧ (trim v).all isText = true then some (n, trim v) else none

/-- the lines of fields: without the two empty ones at the end, or the one -/
def bodyP (r : List Bs) : List Bs :=
  if 2 ≤ r.length ∧ r[r.length - 1]? = some [] ∧ r[r.length - 2]? = some [] then r.take (r.length - 2)
  else if 1 ≤ r.length ∧ r[r.length - 1]? = some [] then r.take (r.length - 1) else r

def endedP (l : Bs) : Bool := Lib.hasSuffix l [13, 10, 13, 10]

/-- what a block is read as: a head and 0, or a number of a refusal -/
def parseP (l : Bs) (rq : Bool) : Hd × Nat :=
  if 4096 < ((lines [] l).headD []).length then ({}, 221)
  else if 16384 < l.length ∨ 64 < (bodyP (lines [] l).tail).length ∨ (∃ s ∈ bodyP (lines [] l).tail, 4096 < s.length) then ({}, 222)
  else if endedP l = false then ({}, 220)
  else match firstP rq ((lines [] l).headD []) with
    | none => ({}, 220)
    | some h => if ∀ s ∈ bodyP (lines [] l).tail, (fieldP s).isSome = true then ({ h with fs := (bodyP (lines [] l).tail).filterMap fieldP }, 0) else ({}, 220)

def joined : List Bs → Bs
  | [] => []
  | [p] => p
  | p :: q :: l => p ++ 13 :: 10 :: joined (q :: l)
theorem joined_cons (p : Bs) {l : List Bs} (h : l ≠ []) : joined (p :: l) = p ++ 13 :: 10 :: joined l := by
  cases l with
  | nil => exact absurd rfl h
  | cons q l => rfl
theorem joined_lines : ∀ (s cur : Bs), joined (lines cur s) = cur ++ s
  | [], cur => by simp [lines, joined]
  | [c], cur => by simp [lines, joined]
  | c :: d :: t, cur => by
    rw [lines]
    by_cases h : c = 13 ∧ d = 10
    · rw [if_pos h, joined_cons _ (lines_ne _ _), joined_lines t [], h.1, h.2]; rfl
    · rw [if_neg h, joined_lines (d :: t) _]; simp
theorem joined_two : ∀ (x : List Bs), x ≠ [] → joined (x ++ [[], []]) = joined x ++ [13, 10, 13, 10]
  | [], h => absurd rfl h
  | [p], _ => by simp [joined]
  | p :: q :: l, _ => by
    have := joined_two (q :: l) (by simp)
    rw [List.cons_append, joined_cons p (l := (q :: l) ++ [[], []]) (by simp), this, joined_cons p (l := q :: l) (by simp)]; simp
theorem lines_append : ∀ (a b cur : Bs), lines cur (a ++ 13 :: 10 :: b) = lines cur a ++ lines [] b
  | [], b, cur => by simp [lines]
  | [c], b, cur => by simp [lines]
  | c :: d :: t, b, cur => by
    simp only [List.cons_append, lines]
    by_cases h : c = 13 ∧ d = 10
    · rw [if_pos h, if_pos h, lines_append t b []]; rfl
    · rw [if_neg h, if_neg h]
      exact lines_append (d :: t) b (cur ++ [c])

/-- two empty ones at the end -/
def two (r : List Bs) : Prop := 2 ≤ r.length ∧ r[r.length - 1]? = some [] ∧ r[r.length - 2]? = some []
theorem two_iff (r : List Bs) : two r ↔ ∃ x, r = x ++ [[], []] := by
  constructor
  · rintro ⟨h2, h3, h4⟩
    refine ⟨r.take (r.length - 2), ?_⟩
    apply List.ext_getElem?
    intro i
    rw [List.getElem?_append, List.getElem?_take, List.length_take, Nat.min_eq_left (by omega)]
    by_cases hi : i < r.length - 2
    · simp [hi]
    · rw [if_neg hi]
      by_cases e1 : i = r.length - 2
      · subst e1; rw [h4]; simp
      · by_cases e2 : i = r.length - 1
        · subst e2; rw [h3, show r.length - 1 - (r.length - 2) = 1 by omega]; rfl
        · rw [List.getElem?_eq_none (by omega), List.getElem?_eq_none (by simp; omega)]
  · rintro ⟨x, rfl⟩
    refine ⟨by simp, ?_, ?_⟩
    · rw [List.getElem?_append_right (by simp)]; simp
    · rw [List.getElem?_append_right (by simp)]; simp
theorem ended_iff (l : Bs) : endedP l = true ↔ two (lines [] l).tail := by
  have hj := joined_lines l []
  rw [List.nil_append] at hj
  rw [endedP, Lib.hasSuffix, List.isSuffixOf_iff_suffix, two_iff]
  constructor
  · rintro ⟨a, rfl⟩
    have e : lines [] (a ++ [13, 10, 13, 10]) = lines [] a ++ [[], []] := by
      have := lines_append a [13, 10] []
      rw [this, show lines [] [13, 10] = [[], []] by rfl]
    rw [e]
    cases h : lines [] a with
    | nil => exact absurd h (lines_ne _ _)
    | cons p x => exact ⟨x, rfl⟩
  · rintro ⟨x, hx⟩
    cases h : lines [] l with
    | nil => exact absurd h (lines_ne _ _)
    | cons p y =>
      rw [h, List.tail_cons] at hx
      subst hx
      rw [h] at hj
      rw [← hj, ← List.cons_append, joined_two _ (by simp)]
      exact List.suffix_append _ _
end Go.Proofs.YtklmpadcfioefaaGreatDoor

namespace Go.Proofs.YtklmpadcfioefaaGreatDoor
open Go.RowKit

theorem isText_eq (c : UInt8) : isText c = decide (¬ (c.toNat = 127 ∨ (c.toNat < 32 ∧ c.toNat ≠ 9))) := by
  simp only [isText, UInt8.le_iff_toNat_le]
  have e1 : (32 : UInt8).toNat = 32 := rfl
  have h1 : (c == 9) = decide (c.toNat = 9) := by
    rw [Bool.eq_iff_iff]; simp only [beq_iff_eq, decide_eq_true_eq]
    exact ⟨fun h => by rw [h]; rfl, fun h => UInt8.toNat_inj.mp (by rw [h]; rfl)⟩
  have h2 : (c != 127) = decide (¬ c.toNat = 127) := by
    rw [Bool.eq_iff_iff]; simp only [bne_iff_ne, ne_eq, decide_eq_true_eq]
    exact ⟨fun h e => h (UInt8.toNat_inj.mp (by rw [e]; rfl)), fun h e => h (by rw [e]; rfl)⟩
  rw [h1, h2, e1, Bool.eq_iff_iff]
  simp only [Bool.or_eq_true, Bool.and_eq_true, decide_eq_true_eq]
  omega
theorem isReason_eq (c : UInt8) : isReason c = decide (¬ (c.toNat = 127 ∨ c.toNat < 32)) := by
  simp only [isReason, UInt8.le_iff_toNat_le]
  have e1 : (32 : UInt8).toNat = 32 := rfl
  have h2 : (c != 127) = decide (¬ c.toNat = 127) := by
    rw [Bool.eq_iff_iff]; simp only [bne_iff_ne, ne_eq, decide_eq_true_eq]
    exact ⟨fun h e => h (UInt8.toNat_inj.mp (by rw [e]; rfl)), fun h e => h (by rw [e]; rfl)⟩
  rw [h2, e1, Bool.eq_iff_iff]
  simp only [Bool.and_eq_true, decide_eq_true_eq]
  omega
def allText (l : Bs) : Bool := l.all isText
def allReason (l : Bs) : Bool := l.all isReason
theorem all_false {p : UInt8 → Bool} {s : ByteArray} {k : Nat} (h : k < s.size) (h1 : p s[k] = false) : s.data.toList.all p = false := by
  rw [List.all_eq_false]
  exact ⟨s[k], by rw [← byte_at s k h]; exact List.getElem_mem _, by simp [h1]⟩
theorem all_step {p : UInt8 → Bool} {s : ByteArray} {k : Nat} (h : k < s.size) : (s.data.toList.take (k + 1)).all p = ((s.data.toList.take k).all p && p s[k]) := by
  rw [take_succ_data s k h]; simp
theorem all_end {p : UInt8 → Bool} {s : ByteArray} {k : Nat} (h : s.size ≤ k) (h1 : (s.data.toList.take k).all p = true) : s.data.toList.all p = true := by
  rwa [List.take_of_length_le (by rw [size_data]; omega)] at h1

set_option maxHeartbeats 1000000 in
theorem hwritten_tabs (s : ByteArray) (w : World) (hs : s.size ≤ 9223372036854775807) :
    Calls Tryz.prog 48 #[.string s, .bool true] w fun e w' => e = .returned (.bool (allText s.data.toList)) ∧ w = w' := by
  go_enter Tryz.func48, Tryz.ntmps48
  go_wp2
  go_loop [9] (fun i => ∃ k : Nat, k ≤ s.size ∧ i = .int .i64 k ∧ (s.data.toList.take k).all isText = true) (fun i => s.size - (intOf i).toNat)
  case atStart => exact ⟨0, Nat.zero_le _, rfl, rfl⟩
  case round =>
    obtain ⟨k, hk, rfl, hall⟩ := hrel
    by_cases hlt : k < s.size
    · have HT : Hid _ := Lib.hid (all_step (p := isText) hlt)
      have hx := UInt8.toNat_lt s[k]
      have HI := Lib.hid (isText_eq s[k])
      have HA := Lib.hid hall
      have HF : Hid (isText s[k] = false → allText s.data.toList = false) := Lib.hid (fun h => all_false hlt h)
      clear hall
      by_cases h127 : s[k].toNat = 127
      · have hb : isText s[k] = false := by rw [HI.out]; simp [h127]
        go_wp2
        all_goals go_ret
        all_goals exact ⟨by rw [HF.out hb]; rfl, rfl⟩
      · by_cases h32 : s[k].toNat < 32
        · by_cases h9 : s[k].toNat = 9
          · have hb : isText s[k] = true := by rw [HI.out]; simp [h9]
            go_wp2
            all_goals
              go_round
              case rel => exact ⟨k + 1, by omega, by go_num, by rw [HT.out, HA.out, hb]; rfl⟩
              case measure => simp [intOf]; omega
          · have hb : isText s[k] = false := by rw [HI.out]; simp [h32, h9]
            go_wp2
            all_goals try (exfalso; simp only [Bool.not_eq_eq_eq_not, Bool.not_true, Bool.not_false, beq_iff_eq, beq_eq_false_iff_ne] at *; omega)
            all_goals go_ret
            all_goals exact ⟨by rw [HF.out hb]; rfl, rfl⟩
        · have hb : isText s[k] = true := by rw [HI.out]; simp [h32, h127]
          go_wp2
          all_goals
            go_round
            case rel => exact ⟨k + 1, by omega, by go_num, by rw [HT.out, HA.out, hb]; rfl⟩
            case measure => simp [intOf]; omega
    · have HE : Hid (allText s.data.toList = true) := Lib.hid (all_end (p := isText) (by omega) hall)
      clear hall
      go_wp2
      go_ret
      exact ⟨by rw [HE.out]; rfl, rfl⟩

set_option maxHeartbeats 1000000 in
theorem hwritten_plain (s : ByteArray) (w : World) (hs : s.size ≤ 9223372036854775807) :
    Calls Tryz.prog 48 #[.string s, .bool false] w fun e w' => e = .returned (.bool (allReason s.data.toList)) ∧ w = w' := by
  go_enter Tryz.func48, Tryz.ntmps48
  go_wp2
  go_loop [9] (fun i => ∃ k : Nat, k ≤ s.size ∧ i = .int .i64 k ∧ (s.data.toList.take k).all isReason = true) (fun i => s.size - (intOf i).toNat)
  case atStart => exact ⟨0, Nat.zero_le _, rfl, rfl⟩
  case round =>
    obtain ⟨k, hk, rfl, hall⟩ := hrel
    by_cases hlt : k < s.size
    · have HT : Hid _ := Lib.hid (all_step (p := isReason) hlt)
      have hx := UInt8.toNat_lt s[k]
      have HI := Lib.hid (isReason_eq s[k])
      have HA := Lib.hid hall
      have HF : Hid (isReason s[k] = false → allReason s.data.toList = false) := Lib.hid (fun h => all_false hlt h)
      clear hall
      by_cases h127 : s[k].toNat = 127
      · have hb : isReason s[k] = false := by rw [HI.out]; simp [h127]
        go_wp2
        all_goals go_ret
        all_goals exact ⟨by rw [HF.out hb]; rfl, rfl⟩
      · by_cases h32 : s[k].toNat < 32
        · have hb : isReason s[k] = false := by rw [HI.out]; simp [h32]
          go_wp2
          all_goals go_ret
          all_goals exact ⟨by rw [HF.out hb]; rfl, rfl⟩
        · have hb : isReason s[k] = true := by rw [HI.out]; simp [h32, h127]
          go_wp2
          all_goals
            go_round
            case rel => exact ⟨k + 1, by omega, by go_num, by rw [HT.out, HA.out, hb]; rfl⟩
            case measure => simp [intOf]; omega
    · have HE : Hid (allReason s.data.toList = true) := Lib.hid (all_end (p := isReason) (by omega) hall)
      clear hall
      go_wp2
      go_ret
      exact ⟨by rw [HE.out]; rfl, rfl⟩

set_option maxHeartbeats 1000000 in
theorem rtext_any (s : ByteArray) (w : World) (hs : s.size ≤ 9223372036854775807) :
    Calls Tryz.prog 100 #[.string s] w fun e w' => e = .returned (.bool (allText s.data.toList)) ∧ w = w' := by
  go_enter Tryz.func100, Tryz.ntmps100
  go_wp2
  go_loop [3] (fun i => ∃ k : Nat, k ≤ s.size ∧ i = .int .i64 k ∧ (s.data.toList.take k).all isText = true) (fun i => s.size - (intOf i).toNat)
  case atStart => exact ⟨0, Nat.zero_le _, rfl, rfl⟩
  case round =>
    obtain ⟨k, hk, rfl, hall⟩ := hrel
    by_cases hlt : k < s.size
    · have HT : Hid _ := Lib.hid (all_step (p := isText) hlt)
      have hx := UInt8.toNat_lt s[k]
      have HI := Lib.hid (isText_eq s[k])
      have HA := Lib.hid hall
      have HF : Hid (isText s[k] = false → allText s.data.toList = false) := Lib.hid (fun h => all_false hlt h)
      clear hall
      by_cases h127 : s[k].toNat = 127
      · have hb : isText s[k] = false := by rw [HI.out]; simp [h127]
        go_wp2
        all_goals go_ret
        all_goals exact ⟨by rw [HF.out hb]; rfl, rfl⟩
      · by_cases h32 : s[k].toNat < 32
        · by_cases h9 : s[k].toNat = 9
          · have hb : isText s[k] = true := by rw [HI.out]; simp [h9]
            go_wp2
            all_goals
              go_round
              case rel => exact ⟨k + 1, by omega, by go_num, by rw [HT.out, HA.out, hb]; rfl⟩
              case measure => simp [intOf]; omega
          · have hb : isText s[k] = false := by rw [HI.out]; simp [h32, h9]
            go_wp2
            all_goals go_ret
            all_goals exact ⟨by rw [HF.out hb]; rfl, rfl⟩
        · have hb : isText s[k] = true := by rw [HI.out]; simp [h32, h127]
          have h9 : ¬ s[k].toNat = 9 := by omega
          go_wp2
          all_goals try (exfalso; simp only [beq_iff_eq, beq_eq_false_iff_ne] at *; omega)
          all_goals
            go_round
            case rel => exact ⟨k + 1, by omega, by go_num, by rw [HT.out, HA.out, hb]; rfl⟩
            case measure => simp [intOf]; omega
    · have HE : Hid (allText s.data.toList = true) := Lib.hid (all_end (p := isText) (by omega) hall)
      clear hall
      go_wp2
      go_ret
      exact ⟨by rw [HE.out]; rfl, rfl⟩

/-- the place of a byte: -1 if it is nowhere -/
def placeP (c : UInt8) (l : Bs) : Int := match cutAt c l with | none => -1 | some (a, _) => a.length
theorem placeP_none {c : UInt8} {l : Bs} (h : ∀ k (hk : k < l.length), l[k] ≠ c) : placeP c l = -1 := by
  have : cutAt c l = none := cutAt_none.2 fun hm => by
    obtain ⟨k, hk, e⟩ := List.getElem_of_mem hm
    exact h k hk e
  rw [placeP, this]
theorem placeP_at {c : UInt8} {l : Bs} {k : Nat} (hk : k < l.length) (hc : l[k] = c) (hn : ∀ j (h : j < k), l[j] ≠ c) : placeP c l = k := by
  rw [placeP, cutAt_at hk hc hn]
  simp; omega

set_option maxHeartbeats 1000000 in
theorem rplace_any (s : ByteArray) (c : UInt8) (w : World) (hs : s.size ≤ 9223372036854775807) :
    Calls Tryz.prog 97 #[.string s, .int .u8 (c.toNat : Int)] w fun e w' => e = .returned (.int .i64 (placeP c s.data.toList)) ∧ w = w' := by
  go_enter Tryz.func97, Tryz.ntmps97
  go_wp2
  go_loop [5] (fun i => ∃ k : Nat, k ≤ s.size ∧ i = .int .i64 k ∧ (∀ j (h : j < s.data.toList.length), j < k → s.data.toList[j] ≠ c)) (fun i => s.size - (intOf i).toNat)
  case atStart => exact ⟨0, Nat.zero_le _, rfl, fun j h hj => absurd hj (by omega)⟩
  case round =>
    obtain ⟨k, hk, rfl, hall⟩ := hrel
    have HA := Lib.hid hall
    clear hall
    by_cases hlt : k < s.size
    · have hsd := size_data s
      by_cases hc : s[k].toNat = c.toNat
      · have HP : Hid (placeP c s.data.toList = k) := Lib.hid (placeP_at (by omega) (by rw [byte_at s k hlt]; exact UInt8.toNat_inj.mp hc) (fun j h => HA.out j (by omega) h))
        go_wp2
        go_ret
        exact ⟨by rw [HP.out]; rfl, rfl⟩
      · have HN : Hid (∀ j (h : j < s.data.toList.length), j < k + 1 → s.data.toList[j] ≠ c) := Lib.hid (fun j h hj => by
          by_cases e : j = k
          · subst e; rw [byte_at s j hlt]; exact fun e => hc (by rw [e])
          · exact HA.out j h (by omega))
        go_wp2
        go_round
        case rel => exact ⟨k + 1, by omega, by go_num, HN.out⟩
        case measure => simp [intOf]; omega
    · have HP : Hid (placeP c s.data.toList = -1) := Lib.hid (placeP_none fun j h => HA.out j h (by rw [size_data] at h; omega))
      go_wp2
      go_ret
      exact ⟨by rw [HP.out]; rfl, rfl⟩
end Go.Proofs.YtklmpadcfioefaaGreatDoor

namespace Go.Proofs.YtklmpadcfioefaaGreatDoor

def isGood (c : UInt8) : Bool := decide (c.toNat ≠ 13 ∧ c.toNat ≠ 10 ∧ c.toNat ≠ 0)
def allGood (l : Bs) : Bool := l.all isGood

/-- pairs 13 10, at whatever place -/
def pairs : Bs → Nat
  | [] => 0
  | [_] => 0
  | c :: d :: t => (if c = 13 ∧ d = 10 then 1 else 0) + pairs (d :: t)
theorem pairs_ten (t : Bs) : pairs (10 :: t) = pairs t := by
  cases t with
  | nil => rfl
  | cons d t => rw [pairs, if_neg (fun h => absurd h.1 (by decide)), Nat.zero_add]
theorem lines_pairs : ∀ (l cur : Bs), (lines cur l).length = pairs l + 1
  | [], cur => rfl
  | [c], cur => rfl
  | c :: d :: t, cur => by
    rw [lines, pairs]
    by_cases h : c = 13 ∧ d = 10
    · rw [if_pos h, if_pos h, List.length_cons, lines_pairs t [], h.2, pairs_ten]; omega
    · rw [if_neg h, if_neg h, lines_pairs (d :: t) _]; omega

theorem good_of {l : Bs} (p : UInt8 → Bool) (h : l.all p = true) (hp : ∀ c, p c = true → isGood c = true) : allGood l = true := by
  unfold allGood
  rw [List.all_eq_true] at h ⊢
  exact fun c hc => hp c (h c hc)
theorem marks_nat : ∀ c ∈ marks, 33 ≤ c.toNat := by decide
theorem tok_good (c : UInt8) (h : isTok c = true) : isGood c = true := by
  rw [isTok_eq, Bool.or_eq_true, decide_eq_true_eq] at h
  unfold isGood
  rw [decide_eq_true_eq]
  rcases h with h | h
  · unfold letterI at h; omega
  · have := marks_nat c (by simpa using h)
    omega
theorem text_good (c : UInt8) (h : isText c = true) : isGood c = true := by
  rw [isText_eq, decide_eq_true_eq] at h
  unfold isGood
  rw [decide_eq_true_eq]
  omega
theorem reason_good (c : UInt8) (h : isReason c = true) : isGood c = true := by
  rw [isReason_eq, decide_eq_true_eq] at h
  unfold isGood
  rw [decide_eq_true_eq]
  omega
theorem seen_good (c : UInt8) (h : isSeen c = true) : isGood c = true := by
  simp only [isSeen, UInt8.le_iff_toNat_le, Bool.and_eq_true, decide_eq_true_eq] at h
  have e1 : (33 : UInt8).toNat = 33 := rfl
  unfold isGood
  rw [decide_eq_true_eq]
  omega
theorem token_good {l : Bs} (h : token l = true) : allGood l = true := by
  unfold token at h
  rw [Bool.and_eq_true] at h
  exact good_of isTok h.2 tok_good

theorem first_good {rq : Bool} {l : Bs} {h : Hd} (hf : firstP rq l = some h) : allGood h.m = true ∧ allGood h.t = true ∧ allGood h.rs = true ∧ h.m.length ≤ l.length ∧ h.t.length ≤ l.length ∧ h.rs.length ≤ l.length := by
  unfold firstP at hf
  cases h1 : cutAt 32 l with
  | none => rw [h1] at hf; cases hf
  | some p =>
    obtain ⟨a, r⟩ := p
    obtain ⟨e1, _⟩ := cutAt_some.1 h1
    rw [h1] at hf
    simp only at hf
    cases h2 : cutAt 32 r with
    | none => rw [h2] at hf; cases hf
    | some p =>
      obtain ⟨b, c⟩ := p
      obtain ⟨e2, _⟩ := cutAt_some.1 h2
      rw [h2] at hf
      simp only at hf
      have hl : l.length = a.length + 1 + (b.length + 1 + c.length) := by rw [e1, e2]; simp; omega
      cases rq with
      | true =>
        simp only [if_true] at hf
        cases h3 : minorP c with
        | none => rw [h3] at hf; cases hf
        | some k =>
          rw [h3] at hf
          simp only at hf
          by_cases h4 : token a = true ∧ b ≠ [] ∧ b.all isSeen = true
          · rw [if_pos h4] at hf
            cases hf
            exact ⟨token_good h4.1, good_of isSeen h4.2.2 seen_good, rfl, by simp only; omega, by simp only; omega, Nat.zero_le _⟩
          · rw [if_neg h4] at hf; cases hf
      | false =>
        simp only [Bool.false_eq_true, if_false] at hf
        cases h3 : minorP a with
        | none => rw [h3] at hf; cases hf
        | some k =>
          rw [h3] at hf
          simp only at hf
          by_cases h4 : b.length = 3 ∧ c.all isReason = true ∧ b.all isDigit = true ∧ 100 ≤ numP b ∧ numP b ≤ 599
          · rw [if_pos h4] at hf
            cases hf
            exact ⟨rfl, rfl, good_of isReason h4.2.1 reason_good, Nat.zero_le _, Nat.zero_le _, by simp only; omega⟩
          · rw [if_neg h4] at hf; cases hf
theorem field_good {s n v : Bs} (hf : fieldP s = some (n, v)) : token n = true ∧ allGood n = true ∧ allGood v = true ∧ n.length ≤ s.length ∧ v.length ≤ s.length := by
  unfold fieldP at hf
  cases h1 : cutAt 58 s with
  | none => rw [h1] at hf; cases hf
  | some p =>
    obtain ⟨a, b⟩ := p
    obtain ⟨e1, _⟩ := cutAt_some.1 h1
    rw [h1] at hf
    simp only at hf
    by_cases h2 : token a = true ∧ (trim b).all isText = true
    · rw [if_pos h2] at hf
      have := trim_le b
      have hl : s.length = a.length + 1 + b.length := by rw [e1]; simp; omega
      cases hf
      exact ⟨h2.1, token_good h2.1, good_of isText h2.2 text_good, by omega, by omega⟩
    · rw [if_neg h2] at hf; cases hf

theorem filter_some {l : List Bs} (h : ∀ s ∈ l, (fieldP s).isSome = true) : (l.filterMap fieldP).length = l.length := by
  induction l with
  | nil => rfl
  | cons s l ih =>
    have h1 := h s (by simp)
    obtain ⟨x, hx⟩ := Option.isSome_iff_exists.1 h1
    rw [List.filterMap_cons, hx]
    simp only [List.length_cons]
    rw [ih fun y hy => h y (by simp [hy])]

/-- THE LAW. -/
theorem smuggle {l : Bs} {rq : Bool} {h : Hd} (hp : parseP l rq = (h, 0)) :
    pairs l = h.fs.length + 2 ∧ h.fs.length ≤ 64 ∧ allGood h.m = true ∧ allGood h.t = true ∧ allGood h.rs = true ∧ h.m.length ≤ l.length ∧ h.t.length ≤ l.length ∧ h.rs.length ≤ l.length ∧
      ∀ f ∈ h.fs, token f.1 = true ∧ allGood f.1 = true ∧ allGood f.2 = true ∧ f.1.length ≤ l.length ∧ f.2.length ≤ l.length := by
  unfold parseP at hp
  split at hp
  · cases hp
  · rename_i c0
    split at hp
    · cases hp
    · rename_i c1
      split at hp
      · cases hp
      · rename_i c2
        cases h1 : firstP rq ((lines [] l).headD []) with
        | none => rw [h1] at hp; cases hp
        | some g =>
          rw [h1] at hp
          simp only at hp
          split at hp
          · rename_i c3
            have hen : endedP l = true := by simpa using c2
            have h2 := (ended_iff l).1 hen
            have hb : bodyP (lines [] l).tail = (lines [] l).tail.take ((lines [] l).tail.length - 2) := by
              unfold bodyP; exact if_pos h2
            have hlen := lines_pairs l []
            have hne := lines_ne l []
            have hg := first_good h1
            have hlin := lines_le l []
            have hh : ((lines [] l).headD []).length ≤ l.length := by
              cases hq : lines [] l with
              | nil => exact absurd hq hne
              | cons p x =>
                have := hlin p (by rw [hq]; simp)
                simpa using this
            have hfl := filter_some c3
            have hbl : (bodyP (lines [] l).tail).length = pairs l - 2 := by
              rw [hb, List.length_take, List.length_tail]; omega
            have h2l : 2 ≤ (lines [] l).tail.length := h2.1
            rw [List.length_tail] at h2l
            cases hp
            refine ⟨by simp only; omega, by simp only; omega, hg.1, hg.2.1, hg.2.2.1, by simp only; omega, by simp only; omega, by simp only; omega, fun f hf => ?_⟩
            obtain ⟨s, hs, hfs⟩ := List.mem_filterMap.1 hf
            obtain ⟨f1, f2⟩ := f
            obtain ⟨k1, k2, k3, k4, k5⟩ := field_good hfs
            have hsl : s.length ≤ l.length := by
              have hm : s ∈ lines [] l := by
                rw [hb] at hs
                exact List.mem_of_mem_tail (List.mem_of_mem_take hs)
              simpa using hlin s hm
            exact ⟨k1, k2, k3, by simp only; omega, by simp only; omega⟩
          · cases hp
end Go.Proofs.YtklmpadcfioefaaGreatDoor

namespace Go.Proofs.YtklmpadcfioefaaGreatDoor
open Go.RowKit

/-- block b holds the cells cs, none frozen -/
def Var (w : World) (b : Nat) (t : TypeId) (cs : List Value) : Prop := w.heap[b]? = some (.cells cs.toArray t (0, 0))

section
variable {w w' : World} {b B : Nat} {t : TypeId} {cs : List Value}
theorem Var.lt (h : Var w b t cs) : b < w.heap.size := (Array.getElem?_eq_some_iff.1 h).1
theorem Var.new (w : World) (t : TypeId) (cs : List Value) : Var (w.alloc (.cells cs.toArray t)) w.heap.size t cs := heap_alloc_new w _
theorem Var.alloc (h : Var w b t cs) (o : Obj) : Var (w.alloc o) b t cs := (Below.heap_alloc w o b h.lt).trans h
theorem Var.drew (h : Var w b t cs) : Var w.drew b t cs := h
theorem Var.drewN (h : Var w b t cs) (k : Nat) : Var (w.drewN k) b t cs := h
theorem Var.below (h : Var w b t cs) (hb : Below B w w') (hlt : b < B) : Var w' b t cs := (hb.block b hlt).trans h
theorem Var.below_all (h : Var w b t cs) (hb : Below w.heap.size w w') : Var w' b t cs := h.below hb h.lt
theorem Var.grown {row : Option Nat} (h : Var w b t cs) (hg : w.grownBy w' row) (hne : row ≠ some b) : Var w' b t cs := (hg.block b h.lt (fun e => hne e.symm)).trans h
theorem Var.cell (h : Var w b t cs) {j : Nat} {u : Value} (hj : cs[j]? = some u) : w.cell? ⟨b, j, none⟩ = some u := by
  rw [cell_of_row w b j cs.toArray t (0, 0) h]; simpa using hj
theorem Var.frozen (h : Var w b t cs) (j : Nat) : w.frozen? ⟨b, j, none⟩ = false := by
  unfold Var at h
  simp [World.frozen?, h]
theorem Var.range (h : Var w b t cs) : World.rangeAt w b 0 cs := fun j u hj => by
  rw [Nat.zero_add]; exact h.cell hj
theorem Var.set (h : Var w b t cs) (j : Nat) (u : Value) : Var (w.setCell ⟨b, j, none⟩ u) b t (cs.set j u) := by
  unfold Var at h ⊢
  simp [World.setCell, Array.getElem?_modify, h]
theorem Var.set_other (h : Var w b t cs) {p : Addr} (hp : p.block ≠ b) (u : Value) : Var (w.setCell p u) b t cs :=
  (Below.heap_setCell _ _ _ _ (fun e => hp e.symm)).trans h
end
theorem Rd.keeps {w w' : World} {sz n : Nat} {A : Option Addr} {xs : List Value} (h : Rd w w.heap.size sz A n xs) (hb : Below w.heap.size w w') : Rd w' w'.heap.size sz A n xs := (h.below hb).more hb.size
/-- A guarded load of a variable of several cells whose guard says yes. -/
theorem wpList_load_mid_g {P : Program} {ops : Array Oper} {rest : List Oper} {op : Oper} {a : Act} {w : World} {Q : Exit → Act → World → Prop} (hw : Region.wanted op (yielded ops a.tmps) = true) (ty : TypeId) (x : Operand) (ho : op.op = .load ty x)
    (b o : Nat) (hx : a.eval x = .pointer (some ⟨b, o, none⟩)) (cs : List Value) (d : TypeDesc) (hc : w.rangeAt b o cs)
    (hu : P.underlying ty = some d) (hd : d.isRow = true) (hi : (P.info? ty).map (·.size) = some cs.length)
    (h : wpList P ops Q rest (a.put op.dst (.agg cs.toArray)) w) : wpList P ops Q (op :: rest) a w :=
  BigFrame.wpList_want hw fun _ hK => wp_load_mid ty x ho b o hx cs d hc hu hd hi (hK _ _ h)

theorem World.grownBy.set (w : World) (p : Addr) (u : Value) : w.grownBy (w.setCell p u) (some p.block) :=
  ⟨rfl, rfl, rfl, by simp, fun k _ hk => Below.heap_setCell _ _ _ _ (fun e => hk (by rw [e]))⟩
theorem World.grownBy.comp {a b c : World} {r : Option Nat} (h : a.grownBy b r) (k : b.grownBy c r) : a.grownBy c r :=
  ⟨k.os.trans h.os, k.tape.trans h.tape, k.output.trans h.output, Nat.le_trans h.size k.size, fun j hj hr => (k.block j (Nat.lt_of_lt_of_le hj h.size) hr).trans (h.block j hj hr)⟩
theorem Var.there {w : World} {b : Nat} {t : TypeId} {cs : List Value} (h : Var w b t cs) : w.there b 0 cs.length := fun j hj => by
  rw [Nat.zero_add]
  exact ⟨by rw [h.cell (j := j) (List.getElem?_eq_getElem hj)]; rfl, h.frozen j⟩
theorem setCells_var {b : Nat} {t : TypeId} : ∀ (vs : List Value) (o : Nat) (w : World) (cs : List Value), Var w b t cs → o + vs.length ≤ cs.length →
    Var (w.setCells b o vs) b t (cs.take o ++ vs ++ cs.drop (o + vs.length)) ∧ w.grownBy (w.setCells b o vs) (some b) ∧ (w.setCells b o vs).heap.size = w.heap.size
  | [], o, w, cs, h, _ => ⟨by simpa [World.setCells] using h, World.grownBy.refl w _, rfl⟩
  | v :: r, o, w, cs, h, hl => by
    simp only [List.length_cons] at hl
    obtain ⟨h1, h2, h3⟩ := setCells_var r (o + 1) _ (cs.set o v) (h.set o v) (by rw [List.length_set]; omega)
    refine ⟨?_, World.grownBy.comp (World.grownBy.set w ⟨b, o, none⟩ v) h2, h3.trans (by simp)⟩
    have e : (cs.set o v).take (o + 1) ++ r ++ (cs.set o v).drop (o + 1 + r.length) = cs.take o ++ (v :: r) ++ cs.drop (o + (v :: r).length) := by
      have e1 : (cs.take o).length = o := by rw [List.length_take]; omega
      have e2 : (cs.set o v).take (o + 1) = cs.take o ++ [v] := by
        rw [List.take_set, List.take_succ_eq_append_getElem (by omega), List.set_append_right _ _ (by omega), e1, Nat.sub_self]; rfl
      have e3 : (cs.set o v).drop (o + 1 + r.length) = cs.drop (o + 1 + r.length) := List.drop_set_of_lt (by omega)
      rw [e2, e3, List.length_cons, show o + (r.length + 1) = o + 1 + r.length by omega]
      simp
    rw [e] at h1
    exact h1
/-- The whole variable is stored anew. -/
theorem wpList_put {P : Program} {ops : Array Oper} {rest : List Oper} {op : Oper} {a : Act} {w : World} {Q : Exit → Act → World → Prop} (hgd : op.guard = none) (ty : TypeId) (x y : Operand) (ho : op.op = .store ty x y)
    (b : Nat) (hx : a.eval x = .pointer (some ⟨b, 0, none⟩)) {t : TypeId} {cs : List Value} (hv : Var w b t cs) (us : List Value) (hy : a.eval y = .agg us.toArray) (hl : us.length = cs.length)
    (hi : (P.info? ty).map (·.size) = some us.length) (h1 : ∀ u ∈ us, u.oneCell' = true)
    (h : ∀ w', Var w' b t us → w.grownBy w' (some b) → w'.heap.size = w.heap.size → wpList P ops Q rest (a.put op.dst undef) w') : wpList P ops Q (op :: rest) a w := by
  obtain ⟨k1, k2, k3⟩ := setCells_var us 0 w cs hv (by omega)
  refine wpList_store_mid hgd ty x y ho b 0 us.toArray hx hy (by have := hv.there; rw [← hl] at this; simpa using this) (by simpa using hi) (all_oneCell_toArray h1) ?_
  refine h _ ?_ k2 k3
  rw [Nat.zero_add, hl, List.drop_length, List.take_zero, List.nil_append, List.append_nil] at k1
  exact k1
/-- What a function returns whose first result is a variable of several cells. -/
theorem results_var {P : Program} {fn : Func} {p u : Tmp} {ty : TypeId} (h : fn.results = #[.cell p ty, .tmp u]) (tmps : Array Value) {w : World} {b : Nat} {t : TypeId} {cs : List Value} (d : TypeDesc)
    (hp : tmps.getD p undef = .pointer (some ⟨b, 0, none⟩)) (hv : Var w b t cs) (hu : P.underlying ty = some d) (hd : (match d with | .struct _ | .array _ _ => true | _ => false) = true) (hi : (P.info? ty).map (·.size) = some cs.length) :
    (results fn tmps).run P w = .ok (.tuple #[.agg cs.toArray, tmps.getD u undef]) w := by
  have hl := run_loadVar_row (P := P) w b t ty cs.toArray (0, 0) d hv hu hd (by simpa using hi)
  rw [results_cell_tmp h, hp]
  simp [asAddr, Result.andThen, hl]

/-- A scope out of which the run jumps forward to one label: behind it the rest is walked. -/
theorem wp_scope_to {P : Program} {a : Act} {w : World} {Q : Exit → Act → World → Prop} {c rest : Code} (l : Nat) (hf : findLabel c l = some rest)
    (first : ∀ J : Act → World → Prop, (∀ a w, rest.wp P (Exit.jump l (fun _ _ => False) Q) a w → J a w) → c.wp P (Exit.jump l J Q) a w) : (Code.scope c).wp P Q a w :=
  wp_scope_jumps l (fun a w => rest.wp P (Exit.jump l (fun _ _ => False) Q) a w) (fun _ _ => 0) hf (first _ fun _ _ h => h) fun a w h => wp_mono h fun e a w hq => by
    cases e with
    | goto l' => exact absurd hq.2 id
    | _ => exact hq

end Go.Proofs.YtklmpadcfioefaaGreatDoor
namespace Go.Proofs.YtklmpadcfioefaaGreatDoor
open Go.RowKit Go.Maps Go.WideMaps

theorem grown_of_below {w w' : World} (h : Below w.heap.size w w') (r : Option Nat) : w.grownBy w' r := ⟨h.os, h.tape, h.output, h.size, fun k hk _ => h.block k hk⟩
theorem grow_drewN (w : World) (q : Nat) (row : Option Nat) : w.grownBy (w.drewN q) row := ⟨rfl, rfl, rfl, Nat.le_refl _, fun _ _ _ => rfl⟩

/-- block b is a map of at most n entries that says S -/
def Mine (w : World) (b n : Nat) (S : Bs → Bool) : Prop :=
  ∃ D : DataW Unit, w.ownsMap Tryz.prog 9 (plainElem Tryz.prog 4) b n D ∧ ∀ s : Bs, D.atKey (.string s) (.lit (.bool false)) = .lit (.bool (S s))

section
variable {w w' : World} {b n : Nat} {S : Bs → Bool}
theorem Mine.lt (h : Mine w b n S) : b < w.heap.size := by obtain ⟨_, h, _⟩ := h; exact h.lt
theorem Mine.kept (h : Mine w b n S) {row : Option Nat} (hg : w.grownBy w' row) (hne : some b ≠ row) : Mine w' b n S := by
  obtain ⟨D, h1, h2⟩ := h
  exact ⟨D, h1.kept hg hne, h2⟩
theorem Mine.below_all (h : Mine w b n S) (hb : Below w.heap.size w w') : Mine w' b n S := h.kept (grown_of_below hb none) (by simp)
theorem Mine.drewN (h : Mine w b n S) (q : Nat) : Mine (w.drewN q) b n S := h.kept (grow_drewN w q none) (by simp)
theorem Mine.alloc (h : Mine w b n S) (o : Obj) : Mine (w.alloc o) b n S := h.kept (World.grownBy_alloc w o none) (by simp)
theorem Mine.setCell (h : Mine w b n S) {p : Addr} (hp : p.block ≠ b) (u : Value) : Mine (w.setCell p u) b n S := h.kept (World.grownBy.set w p u) (by simpa using fun e => hp e.symm)
theorem Mine.ext (h : Mine w b n S) {S' : Bs → Bool} (he : ∀ k, S k = S' k) : Mine w b n S' := by
  obtain ⟨D, h1, h2⟩ := h
  exact ⟨D, h1, fun s => by rw [h2, he]⟩
theorem Mine.mono (h : Mine w b n S) {m : Nat} (hm : n ≤ m) : Mine w b m S := by
  obtain ⟨D, h1, h2⟩ := h
  exact ⟨D, h1.mono hm, h2⟩
end

end Go.Proofs.YtklmpadcfioefaaGreatDoor
