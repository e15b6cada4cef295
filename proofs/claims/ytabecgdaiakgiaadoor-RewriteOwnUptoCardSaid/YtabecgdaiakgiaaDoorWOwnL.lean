/- What law RewriteOwn keeps in memory. No condition. -/
import Derived.Test.YtabecgdaiakgiaaDoorGrow
import Derived.Test.YtabecgdaiakgiaaDoorRKeepI
namespace Go.Proofs.YtabecgdaiakgiaaDoor
open Go.RowKit

/-- an Ask -/
structure AskP where
  rq : Bool
  mt : ByteArray
  t : ByteArray
  st : Int
  rs : ByteArray
  mn : Int
  A : Option Addr
  n : Nat
  c : Nat
  fs : List Fl
  fr : Int
  ln : Int
  host : ByteArray
  cl : Bool
  mi : Int
structure AskOk (w : World) (p : AskP) : Prop where
  nA : p.A = none → p.n = 0 ∧ p.c = 0
  rd : Rd w w.heap.size 2 p.A p.n (fieldsV p.fs)
  st : isInt p.st
  ln : isInt p.ln
  n : p.n ≤ 1048576
  m : p.mt.size + p.t.size + p.rs.size ≤ 1048576
  fz : flSize p.fs ≤ 2097152
  hs : p.host.size ≤ 1048576
  fs : ∀ f ∈ p.fs, f.1.size ≤ 16777216
  vs : total (vals p.fs sConn) ≤ 8388608
theorem AskOk.below {w w' : World} {p : AskP} (h : AskOk w p) (hb : Below w.heap.size w w') : AskOk w' p :=
  ⟨h.nA, (h.rd.below hb).more hb.size, h.st, h.ln, h.n, h.m, h.fz, h.hs, h.fs, h.vs⟩
theorem reqP_few (h : HB) (fr ln : Int) (host : ByteArray) : (reqP h fr ln host).1.fs.length ≤ 64 := by
  have key : ∀ R : HB, (okH R).1.fs.length ≤ 64 := fun R => by
    unfold okH
    split
    · rename_i e; exact (ok_sizes e).1
    · exact Nat.zero_le _
  unfold reqP
  split
  · exact Nat.zero_le _
  · split
    · exact key _
    · exact Nat.zero_le _
theorem rspP_few (h : HB) (fr ln : Int) (cl : Bool) (mi : Int) : (rspP h fr ln cl mi).1.1.fs.length ≤ 64 := by
  have key : ∀ R : HB, (okH R).1.fs.length ≤ 64 := fun R => by
    unfold okH
    split
    · rename_i e; exact (ok_sizes e).1
    · exact Nat.zero_le _
  unfold rspP
  split
  · exact key _
  · exact Nat.zero_le _

/-- the first j rows are as they are to be -/
def Done (ok : Nat → El → Prop) (l : List El) (j : Nat) : Prop := ∀ i, i < j → ∀ e, l[i]? = some e → ok i e
theorem Done.set {ok : Nat → El → Prop} {l : List El} {j : Nat} (h : Done ok l j) (f : El) : Done ok (l.set j f) j := fun i hi e he => h i hi e (by rwa [List.getElem?_set_ne (by omega)] at he)
theorem Done.more {ok : Nat → El → Prop} {l : List El} {j : Nat} {e : El} (h : Done ok l j) (hj : l[j]? = some e) (hd : ok j e) : Done ok l (j + 1) := fun i hi f hf => by
  by_cases hij : i = j
  · subst hij
    rw [hj] at hf
    cases hf
    exact hd
  · exact h i (by omega) f hf
def okF (i : Nat) (e : El) : Prop := ∀ r, r < e.n → e.xs[r * 2]? = some (.string ⟨#[111, 119, 110]⟩) ∧ e.xs[r * 2 + 1]? = some (.string ⟨#[UInt8.ofNat i]⟩)
def okB (i : Nat) (e : El) : Prop := ∀ r, r < e.n → e.xs[r]? = some (.int .u8 (3 * (i : Int)))
def maF (i : Nat) : List Value := [.string ⟨#[109, 111, 114, 101]⟩, .string ⟨#[UInt8.ofNat i]⟩]
def maB (i : Nat) : List Value := [.int .u8 (3 * (i : Int) + 1)]

theorem fam2 {W : World} {base sz : Nat} {v1 v2 : Value} {n1 n2 : Nat} {x1 x2 : List Value} (r1 : Row W base sz v1 n1 x1) (r2 : Row W base sz v2 n2 x2) (hx : ∀ k, v1.ownBlock = some k → v2.ownBlock ≠ some k) :
    Fam W base sz [⟨v1, n1, x1⟩, ⟨v2, n2, x2⟩] ∧ ∀ k, own [⟨v1, n1, x1⟩, ⟨v2, n2, x2⟩] k → v1.ownBlock = some k ∨ v2.ownBlock = some k := by
  refine ⟨⟨?_, ?_⟩, ?_⟩
  · intro e he
    simp only [List.mem_cons, List.not_mem_nil, or_false] at he
    rcases he with rfl | rfl
    · exact r1
    · exact r2
  · simp only [List.pairwise_cons, List.mem_cons, List.not_mem_nil, or_false, forall_eq, List.Pairwise.nil, and_true]
    exact ⟨hx, fun e he => he.elim⟩
  · intro k hk
    simp only [own_cons] at hk
    rcases hk with x | x | ⟨e, he, _⟩
    · exact .inl x
    · exact .inr x
    · cases he
section
variable {w wr W W' : World} {sa sl na nl Ba Bl : Nat} {la ll : List El} {va vl va' vl' v1 v2 : Value} {n1 n2 b2 : Nat} {x1 x2 : List Value}
theorem St2.moreA (h : St2 w wr sa sl la.length nl Ba Bl la ll va vl) (hb : Below wr.heap.size wr W) (r1 : Row W wr.heap.size sa v1 n1 x1) (r2 : Row W b2 sa v2 n2 x2) (h2 : wr.heap.size ≤ b2) (hx : ∀ k, v1.ownBlock = some k → k < b2) (z1 : n1 ≤ Ba) (z2 : n2 ≤ Ba)
    (hg : W.grownBy W' va.ownBlock) (hr : Row W' w.heap.size 1 va' (la.length + 2) (la.map (·.v) ++ [v1, v2])) (ho : va'.ownBlock = va.ownBlock ∨ va'.ownBlock = some W.heap.size) :
    St2 w W' sa sl (la ++ [(⟨v1, n1, x1⟩ : El), ⟨v2, n2, x2⟩]).length nl Ba Bl (la ++ [⟨v1, n1, x1⟩, ⟨v2, n2, x2⟩]) ll va' vl := by
  have hw := h.bl.size
  obtain ⟨f, o⟩ := fam2 (base := w.heap.size) (r1.mono hw) (r2.mono (by omega)) (fun k a b => by have := hx k a; have := (r2.lt k b).1; omega)
  have lo : ∀ k, own ([⟨v1, n1, x1⟩, ⟨v2, n2, x2⟩] : List El) k → wr.heap.size ≤ k := fun k hk => by
    rcases o k hk with x | x
    · exact (r1.lt k x).1
    · have := (r2.lt k x).1; omega
  refine ⟨(h.two.below hb).growA f (fun k hk => h.two.new (lo k hk)) hg hr ho, Nat.le_refl _, h.hl, ?_, h.zl, ?_⟩
  · intro e he
    rcases List.mem_append.1 he with he | he
    · exact h.za e he
    · simp only [List.mem_cons, List.not_mem_nil, or_false] at he
      rcases he with rfl | rfl
      · exact z1
      · exact z2
  · exact (h.bl.trans (hb.mono hw)).grown hg (Nat.le_trans hw hb.size) (fun q hq => (h.two.ca.lt q hq).1)
theorem St2.moreL (h : St2 w wr sa sl na ll.length Ba Bl la ll va vl) (hb : Below wr.heap.size wr W) (r1 : Row W wr.heap.size sl v1 n1 x1) (r2 : Row W b2 sl v2 n2 x2) (h2 : wr.heap.size ≤ b2) (hx : ∀ k, v1.ownBlock = some k → k < b2) (z1 : n1 ≤ Bl) (z2 : n2 ≤ Bl)
    (hg : W.grownBy W' vl.ownBlock) (hr : Row W' w.heap.size 1 vl' (ll.length + 2) (ll.map (·.v) ++ [v1, v2])) (ho : vl'.ownBlock = vl.ownBlock ∨ vl'.ownBlock = some W.heap.size) :
    St2 w W' sa sl na (ll ++ [(⟨v1, n1, x1⟩ : El), ⟨v2, n2, x2⟩]).length Ba Bl la (ll ++ [⟨v1, n1, x1⟩, ⟨v2, n2, x2⟩]) va vl' := by
  have hw := h.bl.size
  obtain ⟨f, o⟩ := fam2 (base := w.heap.size) (r1.mono hw) (r2.mono (by omega)) (fun k a b => by have := hx k a; have := (r2.lt k b).1; omega)
  have lo : ∀ k, own ([⟨v1, n1, x1⟩, ⟨v2, n2, x2⟩] : List El) k → wr.heap.size ≤ k := fun k hk => by
    rcases o k hk with x | x
    · exact (r1.lt k x).1
    · have := (r2.lt k x).1; omega
  refine ⟨(h.two.below hb).growL f (fun k hk => h.two.new (lo k hk)) hg hr ho, h.ha, Nat.le_refl _, h.za, ?_, ?_⟩
  · intro e he
    rcases List.mem_append.1 he with he | he
    · exact h.zl e he
    · simp only [List.mem_cons, List.not_mem_nil, or_false] at he
      rcases he with rfl | rfl
      · exact z1
      · exact z2
  · exact (h.bl.trans (hb.mono hw)).grown hg (Nat.le_trans hw hb.size) (fun q hq => (h.two.cl.lt q hq).1)
/-- a row more of each family, that no list holds -/
theorem St2.besides (h : St2 w wr sa sl na nl Ba Bl la ll va vl) (hb : Below wr.heap.size wr W) {ea el : El} (r1 : Row W wr.heap.size sa ea.v ea.n ea.xs) (r2 : Row W b2 sl el.v el.n el.xs) (h2 : wr.heap.size ≤ b2) (hx : ∀ k, ea.v.ownBlock = some k → k < b2) (z1 : ea.n ≤ Ba) (z2 : el.n ≤ Bl) :
    St2 w W sa sl na nl Ba Bl (la ++ [ea]) (ll ++ [el]) va vl := by
  have hw := h.bl.size
  have t1 := (h.two.below hb).pushA h.ha (r1.mono hw) (fun k hk => h.two.new ((r1.lt k hk).1))
  have t2 := t1.pushL h.hl (r2.mono (Nat.le_trans hw h2)) (fun k hk => by
    have hk2 := (r2.lt k hk).1
    obtain ⟨a, b, c, d⟩ := h.two.new (k := k) (by omega)
    refine ⟨fun x => ?_, b, c, d⟩
    rcases own_append.1 x with x | x
    · exact a x
    · rcases own_cons.1 x with x | ⟨_, x, _⟩
      · have := hx k x; omega
      · cases x)
  refine ⟨t2, by rw [List.length_append]; exact Nat.le_trans h.ha (Nat.le_add_right _ _), by rw [List.length_append]; exact Nat.le_trans h.hl (Nat.le_add_right _ _), ?_, ?_, h.bl.trans (hb.mono hw)⟩
  · intro e he
    rcases List.mem_append.1 he with he | he
    · exact h.za e he
    · rw [List.mem_singleton.1 he]; exact z1
  · intro e he
    rcases List.mem_append.1 he with he | he
    · exact h.zl e he
    · rw [List.mem_singleton.1 he]; exact z2
theorem Row.of_var {b : Nat} {t : TypeId} {cs : List Value} {base : Nat} (h : Var w b t cs) (hb : base ≤ b) (hl : cs.length ≤ maxLen) : Row w base 1 (.slice (some ⟨b, 0, none⟩) cs.length cs.length) cs.length cs := by
  refine ⟨by omega, .inr ⟨b, 0, cs.length, cs.toArray, t, (0, 0), rfl, hb, h, Nat.le_refl _, hl, by simp, by intro j _ _; simp, by simp⟩⟩
theorem Row.range {base sz n c g o : Nat} {xs : List Value} (h : Row w base sz (.slice (some ⟨g, o, none⟩) n c) n xs) (hn : 0 < n) : World.rangeAt w g o xs := by
  obtain ⟨g', o', e, _, _, hc, _⟩ := h.own hn
  injection e with e
  injection e with e1 e2 _
  subst e1 e2
  exact hc
end
end Go.Proofs.YtabecgdaiakgiaaDoor
