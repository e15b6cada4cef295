/- Lists grown, and the old ones read on (law ChunkOwn). No condition. -/
import Derived.Test.YtabecgdaiakgiaaDoorCOwnF
namespace Go.Proofs.YtabecgdaiakgiaaDoor
open Go.RowKit

theorem Two.chg {w w' : World} {base : Nat} {la ll : List El} {va vl : Value} {S : Nat → Prop} (h : Two w base la ll va vl) (hc : Chg S w w') (hs : ∀ k, S k → ¬ own la k ∧ ¬ own ll k ∧ va.ownBlock ≠ some k ∧ vl.ownBlock ≠ some k) : Two w' base la ll va vl :=
  ⟨h.fa.chg hc (fun k hk hk2 => (hs k hk2).1 hk), h.fl.chg hc (fun k hk hk2 => (hs k hk2).2.1 hk), h.ca.chg hc (fun k hk hk2 => (hs k hk2).2.2.1 hk), h.cl.chg hc (fun k hk hk2 => (hs k hk2).2.2.2 hk), h.x1, h.x2, h.x3⟩
/-- j lists of bytes, each one longer by its mark, in a list vo -/
structure LongSt (w wr : World) (la ll : List El) (va vl : Value) (j : Nat) (lo : List El) (vo : Value) : Prop where
  st : OwnSt w wr 3 la ll va vl
  len : lo.length = j
  c : Row wr w.heap.size 1 vo j (lo.map (·.v))
  el : ∀ (i : Nat) e f, la[i]? = some e → lo[i]? = some f → f.n = e.n + 1 ∧ f.xs = e.xs ++ [.int .u8 (3 * (i : Int) + 1)] ∧ Row wr w.heap.size 1 f.v f.n f.xs ∧ ∀ k, f.v.ownBlock = some k → e.v.ownBlock = some k ∨ ¬ own la k ∧ ¬ own ll k ∧ va.ownBlock ≠ some k ∧ vl.ownBlock ≠ some k
  x : ∀ k, vo.ownBlock = some k → ¬ own la k ∧ ¬ own ll k ∧ va.ownBlock ≠ some k ∧ vl.ownBlock ≠ some k ∧ ¬ own lo k
theorem LongSt.nil {w wr : World} {la ll : List El} {va vl : Value} (h : OwnSt w wr 3 la ll va vl) : LongSt w wr la ll va vl 0 [] (.slice none 0 0) :=
  ⟨h, rfl, Row.nil _ _ _, fun i e f _ hf => by simp at hf, fun k hk => by simp [Value.ownBlock] at hk⟩
theorem OwnSt.new {w wr : World} {la ll : List El} {va vl : Value} {k : Nat} {n : Nat} (h : OwnSt w wr n la ll va vl) (hk : wr.heap.size ≤ k) : ¬ own la k ∧ ¬ own ll k ∧ va.ownBlock ≠ some k ∧ vl.ownBlock ≠ some k :=
  ⟨fun x => by have := (h.two.fa.lt x).2; omega, fun x => by have := (h.two.fl.lt x).2; omega, fun x => by have := (h.two.ca.lt k x).2; omega, fun x => by have := (h.two.cl.lt k x).2; omega⟩
theorem LongSt.low {w wr : World} {la ll lo : List El} {va vl vo : Value} {j k : Nat} (h : LongSt w wr la ll va vl j lo vo) (hj : j ≤ la.length) (hk : own lo k) : k < wr.heap.size := by
  obtain ⟨f, hf, hk⟩ := hk
  obtain ⟨i, hi, rfl⟩ := List.getElem_of_mem hf
  have hl := h.len
  obtain ⟨_, _, r, _⟩ := h.el i la[i] lo[i] (List.getElem?_eq_getElem (by omega)) (List.getElem?_eq_getElem hi)
  exact (r.lt k hk).2
/-- one round: all[j] grown by its mark, the outcome taken into the list -/
theorem LongSt.step {w wr W W1 W2 W3 : World} {la ll lo : List El} {va vl vo vo' v7 : Value} {j : Nat} {e : El} (h : LongSt w wr la ll va vl j lo vo) (he : la[j]? = some e)
    (hb : Below wr.heap.size wr W) (hg : W.grownBy W1 e.v.ownBlock) (hro : Row W1 w.heap.size 1 e.v e.n e.xs) (hr1 : Row W1 w.heap.size 1 v7 (e.n + 1) (e.xs ++ [.int .u8 (3 * (j : Int) + 1)])) (ho1 : v7.ownBlock = e.v.ownBlock ∨ v7.ownBlock = some W.heap.size)
    (hb1 : Below W1.heap.size W1 W2) (hg2 : W2.grownBy W3 vo.ownBlock) (hr2 : Row W3 w.heap.size 1 vo' (j + 1) (lo.map (·.v) ++ [v7])) (ho2 : vo'.ownBlock = vo.ownBlock ∨ vo'.ownBlock = some W2.heap.size) :
    LongSt w W3 la ll va vl (j + 1) (lo ++ [⟨v7, e.n + 1, e.xs ++ [.int .u8 (3 * (j : Int) + 1)]⟩]) vo' := by
  have hm : e ∈ la := List.mem_of_getElem? he
  have hjl : j < la.length := (List.getElem?_eq_some_iff.1 he).1
  have hlen := h.len
  have s1 := hb.size
  have s2 := hg.size
  have s3 := hb1.size
  have c1 : Chg (fun k => e.v.ownBlock = some k) W W1 := (Chg.refl _ _).grown hg (fun k _ hk => hk)
  have c2 : Chg (fun k => vo.ownBlock = some k) W2 W3 := (Chg.refl _ _).grown hg2 (fun k _ hk => hk)
  have ej : la.set j { e with xs := e.xs } = la := by
    obtain ⟨hx, rfl⟩ := List.getElem?_eq_some_iff.1 he
    exact List.set_getElem_self hx
  have t1 := (h.st.two.below hb).setA he c1 hro
  rw [ej] at t1
  have t2 := t1.below hb1
  have t3 := t2.chg c2 (fun k hk => ⟨(h.x k hk).1, (h.x k hk).2.1, (h.x k hk).2.2.1, (h.x k hk).2.2.2.1⟩)
  have hw := h.st.bl.size
  have bl3 : Below w.heap.size w W3 := ((((h.st.bl).trans (hb.mono hw)).grown hg (by omega) (fun q hq => ((h.st.two.fa.row e hm).lt q hq).1)).trans (hb1.mono (by omega))).grown hg2 (by omega) (fun q hq => (h.c.lt q hq).1)
  have new7 : ∀ k, v7.ownBlock = some k → e.v.ownBlock = some k ∨ k = W.heap.size := fun k hk => by
    rcases ho1 with y | y
    · rw [y] at hk; exact .inl hk
    · rw [y] at hk; injection hk with hk; exact .inr hk.symm
  have voe : ∀ k, vo.ownBlock = some k → e.v.ownBlock ≠ some k := fun k hk hk2 => (h.x k hk).1 ⟨e, hm, hk2⟩
  have vo7 : ∀ k, vo.ownBlock = some k → v7.ownBlock ≠ some k := fun k hk hk2 => by
    rcases new7 k hk2 with y | y
    · exact voe k hk y
    · have := (h.c.lt k hk).2; omega
  refine ⟨⟨t3, h.st.na, h.st.nl, h.st.za, h.st.zl, bl3⟩, by rw [List.length_append, hlen]; rfl, by rw [List.map_append]; exact hr2, ?_, ?_⟩
  · intro i a f ha hf
    by_cases hij : i < j
    · rw [List.getElem?_append_left (by omega)] at hf
      obtain ⟨p1, p2, p3, p4⟩ := h.el i a f ha hf
      refine ⟨p1, p2, ?_, p4⟩
      have q1 := (p3.below_all hb).chg c1 (fun k hk hk2 => by
        rcases p4 k hk with y | y
        · exact (h.st.two.fa.apart_at ha he (by omega) y) hk2
        · exact y.1 ⟨e, hm, hk2⟩)
      exact (q1.below_all hb1).chg c2 (fun k hk hk2 => (h.x k hk2).2.2.2.2 ⟨f, List.mem_of_getElem? hf, hk⟩)
    · have hij2 : i = j := by
        have := (List.getElem?_eq_some_iff.1 hf).1
        rw [List.length_append, hlen] at this
        simp at this
        omega
      subst hij2
      rw [List.getElem?_append_right (by omega), hlen, Nat.sub_self] at hf
      cases hf
      rw [he] at ha
      cases ha
      refine ⟨rfl, rfl, (hr1.below_all hb1).chg c2 (fun k hk hk2 => vo7 k hk2 hk), fun k hk => ?_⟩
      rcases new7 k hk with y | y
      · exact .inl y
      · exact .inr (h.st.new (by omega))
  · intro k hk
    have hold : ∀ k, vo.ownBlock = some k → ¬ own la k ∧ ¬ own ll k ∧ va.ownBlock ≠ some k ∧ vl.ownBlock ≠ some k ∧ ¬ own (lo ++ [⟨v7, e.n + 1, e.xs ++ [.int .u8 (3 * (j : Int) + 1)]⟩]) k := fun k hk => by
      obtain ⟨a1, a2, a3, a4, a5⟩ := h.x k hk
      refine ⟨a1, a2, a3, a4, fun x => ?_⟩
      rcases own_append.1 x with y | y
      · exact a5 y
      · rcases own_cons.1 y with y | ⟨_, y, _⟩
        · exact vo7 k hk y
        · cases y
    rcases ho2 with y | y
    · rw [y] at hk; exact hold k hk
    · rw [y] at hk
      injection hk with hk
      obtain ⟨a1, a2, a3, a4⟩ := h.st.new (k := k) (by omega)
      refine ⟨a1, a2, a3, a4, fun x => ?_⟩
      rcases own_append.1 x with y | y
      · have := h.low (by omega) y; omega
      · rcases own_cons.1 y with y | ⟨_, y, _⟩
        · rcases new7 k y with z | z
          · have := ((h.st.two.fa.row e hm).lt k z).2; omega
          · have := (hr1.lt k y).2; omega
        · cases y
/-- the list that grows, behind all[j]'s growth -/
theorem LongSt.mid {w wr W W1 : World} {la ll lo : List El} {va vl vo : Value} {j : Nat} {e : El} (h : LongSt w wr la ll va vl j lo vo) (he : la[j]? = some e) (hb : Below wr.heap.size wr W) (hg : W.grownBy W1 e.v.ownBlock) : Row W1 w.heap.size 1 vo j (lo.map (·.v)) :=
  (h.c.below_all hb).chg ((show Chg (fun k => e.v.ownBlock = some k) W W from Chg.refl _ _).grown hg (fun k _ hk => hk)) (fun k hk hk2 => (h.x k hk).1 ⟨e, List.mem_of_getElem? he, hk2⟩)
end Go.Proofs.YtabecgdaiakgiaaDoor
