/- Lists of fields grown, and the old ones read on (law ChunkOwn). No condition. -/
import Derived.Test.YtabecgdaiakgiaaDoorCOwnG
namespace Go.Proofs.YtabecgdaiakgiaaDoor
open Go.RowKit

/-- no block of the lists so far -/
def Away (la ll lo : List El) (va vl vo : Value) (k : Nat) : Prop := ¬ own la k ∧ ¬ own ll k ∧ va.ownBlock ≠ some k ∧ vl.ownBlock ≠ some k ∧ ¬ own lo k ∧ vo.ownBlock ≠ some k
theorem LongSt.below {w wr W : World} {la ll lo : List El} {va vl vo : Value} {j : Nat} (h : LongSt w wr la ll va vl j lo vo) (hb : Below wr.heap.size wr W) : LongSt w W la ll va vl j lo vo :=
  ⟨h.st.below hb, h.len, h.c.below_all hb, fun i e f he hf => by
    obtain ⟨a, b, c, d⟩ := h.el i e f he hf
    exact ⟨a, b, c.below_all hb, d⟩, h.x⟩
theorem LongSt.chg {w wr W : World} {la ll lo : List El} {va vl vo : Value} {j : Nat} {S : Nat → Prop} (h : LongSt w wr la ll va vl j lo vo) (hc : Chg S wr W) (hs : ∀ k, S k → Away la ll lo va vl vo k) (hb : Below w.heap.size w W) : LongSt w W la ll va vl j lo vo :=
  ⟨⟨h.st.two.chg hc (fun k hk => ⟨(hs k hk).1, (hs k hk).2.1, (hs k hk).2.2.1, (hs k hk).2.2.2.1⟩), h.st.na, h.st.nl, h.st.za, h.st.zl, hb⟩, h.len, h.c.chg hc (fun k hk hk2 => (hs k hk2).2.2.2.2.2 hk), fun i e f he hf => by
    obtain ⟨a, b, c, d⟩ := h.el i e f he hf
    exact ⟨a, b, c.chg hc (fun k hk hk2 => (hs k hk2).2.2.2.2.1 ⟨f, List.mem_of_getElem? hf, hk⟩), d⟩, h.x⟩
/-- a list of fields grown in its own block, and still reading as it did -/
theorem LongSt.turnL {w wr W : World} {la ll lo : List El} {va vl vo : Value} {j i : Nat} {e : El} (h : LongSt w wr la ll va vl j lo vo) (hjl : j ≤ la.length) (he : ll[i]? = some e) (hc : Chg (fun k => e.v.ownBlock = some k) wr W) (hr : Row W w.heap.size 2 e.v e.n e.xs) (hb : Below w.heap.size w W) : LongSt w W la ll va vl j lo vo := by
  have hm : e ∈ ll := List.mem_of_getElem? he
  have ej : ll.set i { e with xs := e.xs } = ll := by
    obtain ⟨hx, rfl⟩ := List.getElem?_eq_some_iff.1 he
    exact List.set_getElem_self hx
  have t1 := h.st.two.setL he hc hr
  rw [ej] at t1
  refine ⟨⟨t1, h.st.na, h.st.nl, h.st.za, h.st.zl, hb⟩, h.len, h.c.chg hc (fun k hk hk2 => (h.x k hk).2.1 ⟨e, hm, hk2⟩), fun q a f ha hf => ?_, h.x⟩
  obtain ⟨p1, p2, p3, p4⟩ := h.el q a f ha hf
  refine ⟨p1, p2, p3.chg hc (fun k hk hk2 => ?_), p4⟩
  rcases p4 k hk with y | y
  · exact h.st.two.x1 k ⟨a, List.mem_of_getElem? ha, y⟩ ⟨e, hm, hk2⟩
  · exact y.2.1 ⟨e, hm, hk2⟩
theorem LongSt.new {w wr : World} {la ll lo : List El} {va vl vo : Value} {j k : Nat} (h : LongSt w wr la ll va vl j lo vo) (hj : j ≤ la.length) (hk : wr.heap.size ≤ k) : Away la ll lo va vl vo k := by
  obtain ⟨a, b, c, d⟩ := h.st.new hk
  exact ⟨a, b, c, d, fun x => by have := h.low hj x; omega, fun x => by have := (h.c.lt k x).2; omega⟩
def moreV (i : Nat) : List Value := [.string ⟨#[109, 111, 114, 101]⟩, .string ⟨#[UInt8.ofNat i]⟩]
/-- j lists of fields, each one longer by its mark, in a list vm -/
structure MoreSt (w wr : World) (la ll lo : List El) (va vl vo : Value) (j : Nat) (mo : List El) (vm : Value) : Prop where
  lg : LongSt w wr la ll va vl 12 lo vo
  len : mo.length = j
  c : Row wr w.heap.size 1 vm j (mo.map (·.v))
  el : ∀ (i : Nat) e f, ll[i]? = some e → mo[i]? = some f → f.n = e.n + 1 ∧ f.xs = e.xs ++ moreV i ∧ Row wr w.heap.size 2 f.v f.n f.xs ∧ ∀ k, f.v.ownBlock = some k → e.v.ownBlock = some k ∨ Away la ll lo va vl vo k
  x : ∀ k, vm.ownBlock = some k → Away la ll lo va vl vo k ∧ ¬ own mo k
theorem MoreSt.nil {w wr : World} {la ll lo : List El} {va vl vo : Value} (h : LongSt w wr la ll va vl 12 lo vo) : MoreSt w wr la ll lo va vl vo 0 [] (.slice none 0 0) :=
  ⟨h, rfl, Row.nil _ _ _, fun i e f _ hf => by simp at hf, fun k hk => by simp [Value.ownBlock] at hk⟩
theorem MoreSt.low {w wr : World} {la ll lo mo : List El} {va vl vo vm : Value} {j k : Nat} (h : MoreSt w wr la ll lo va vl vo j mo vm) (hj : j ≤ ll.length) (hk : own mo k) : k < wr.heap.size := by
  obtain ⟨f, hf, hk⟩ := hk
  obtain ⟨i, hi, rfl⟩ := List.getElem_of_mem hf
  have hl := h.len
  obtain ⟨_, _, r, _⟩ := h.el i ll[i] mo[i] (List.getElem?_eq_getElem (by omega)) (List.getElem?_eq_getElem hi)
  exact (r.lt k hk).2
theorem MoreSt.mid {w wr W W1 : World} {la ll lo mo : List El} {va vl vo vm : Value} {j : Nat} {e : El} (h : MoreSt w wr la ll lo va vl vo j mo vm) (he : ll[j]? = some e) (hb : Below wr.heap.size wr W) (hg : W.grownBy W1 e.v.ownBlock) : Row W1 w.heap.size 1 vm j (mo.map (·.v)) :=
  (h.c.below_all hb).chg ((show Chg (fun k => e.v.ownBlock = some k) W W from Chg.refl _ _).grown hg (fun k _ hk => hk)) (fun k hk hk2 => (h.x k hk).1.2.1 ⟨e, List.mem_of_getElem? he, hk2⟩)
/-- one round: lists[j] grown by its mark, the outcome taken into the list -/
theorem MoreSt.step {w wr W W1 W2 W3 : World} {la ll lo mo : List El} {va vl vo vm vm' v7 : Value} {j : Nat} {e : El} (h : MoreSt w wr la ll lo va vl vo j mo vm) (he : ll[j]? = some e)
    (hb : Below wr.heap.size wr W) (hg : W.grownBy W1 e.v.ownBlock) (hro : Row W1 w.heap.size 2 e.v e.n e.xs) (hr1 : Row W1 w.heap.size 2 v7 (e.n + 1) (e.xs ++ moreV j)) (ho1 : v7.ownBlock = e.v.ownBlock ∨ v7.ownBlock = some W.heap.size)
    (hb1 : Below W1.heap.size W1 W2) (hg2 : W2.grownBy W3 vm.ownBlock) (hr2 : Row W3 w.heap.size 1 vm' (j + 1) (mo.map (·.v) ++ [v7])) (ho2 : vm'.ownBlock = vm.ownBlock ∨ vm'.ownBlock = some W2.heap.size) :
    MoreSt w W3 la ll lo va vl vo (j + 1) (mo ++ [⟨v7, e.n + 1, e.xs ++ moreV j⟩]) vm' := by
  have hm : e ∈ ll := List.mem_of_getElem? he
  have hjl : j < ll.length := (List.getElem?_eq_some_iff.1 he).1
  have h12 : 12 ≤ la.length := by have := h.lg.st.na; omega
  have hlen := h.len
  have s1 := hb.size
  have s2 := hg.size
  have s3 := hb1.size
  have c1 : Chg (fun k => e.v.ownBlock = some k) W W1 := (Chg.refl _ _).grown hg (fun k _ hk => hk)
  have c2 : Chg (fun k => vm.ownBlock = some k) W2 W3 := (Chg.refl _ _).grown hg2 (fun k _ hk => hk)
  have hw := h.lg.st.bl.size
  have bl1 : Below w.heap.size w W1 := ((h.lg.st.bl).trans (hb.mono hw)).grown hg (by omega) (fun q hq => ((h.lg.st.two.fl.row e hm).lt q hq).1)
  have bl3 : Below w.heap.size w W3 := (bl1.trans (hb1.mono (by omega))).grown hg2 (by omega) (fun q hq => (h.c.lt q hq).1)
  have l1 := (h.lg.below hb).turnL h12 he c1 hro bl1
  have l2 := l1.below hb1
  have l3 := l2.chg c2 (fun k hk => (h.x k hk).1) bl3
  have new7 : ∀ k, v7.ownBlock = some k → e.v.ownBlock = some k ∨ k = W.heap.size := fun k hk => by
    rcases ho1 with y | y
    · rw [y] at hk; exact .inl hk
    · rw [y] at hk; injection hk with hk; exact .inr hk.symm
  have voe : ∀ k, vm.ownBlock = some k → e.v.ownBlock ≠ some k := fun k hk hk2 => (h.x k hk).1.2.1 ⟨e, hm, hk2⟩
  have vo7 : ∀ k, vm.ownBlock = some k → v7.ownBlock ≠ some k := fun k hk hk2 => by
    rcases new7 k hk2 with y | y
    · exact voe k hk y
    · have := (h.c.lt k hk).2; omega
  refine ⟨l3, by rw [List.length_append, hlen]; rfl, by rw [List.map_append]; exact hr2, ?_, ?_⟩
  · intro i a f ha hf
    by_cases hij : i < j
    · rw [List.getElem?_append_left (by omega)] at hf
      obtain ⟨p1, p2, p3, p4⟩ := h.el i a f ha hf
      refine ⟨p1, p2, ?_, p4⟩
      have q1 := (p3.below_all hb).chg c1 (fun k hk hk2 => by
        rcases p4 k hk with y | y
        · exact (h.lg.st.two.fl.apart_at ha he (by omega) y) hk2
        · exact y.2.1 ⟨e, hm, hk2⟩)
      exact (q1.below_all hb1).chg c2 (fun k hk hk2 => (h.x k hk2).2 ⟨f, List.mem_of_getElem? hf, hk⟩)
    · have hij2 : i = j := by
        have := (List.getElem?_eq_some_iff.1 hf).1
        rw [List.length_append, hlen] at this
        simp at this
        omega
      subst hij2
      rw [List.getElem?_append_right (by omega), hlen, Nat.sub_self] at hf
      cases hf
      rw [he] at ha
      cases ha
      refine ⟨rfl, rfl, (hr1.below_all hb1).chg c2 (fun k hk hk2 => vo7 k hk2 hk), fun k hk => ?_⟩
      rcases new7 k hk with y | y
      · exact .inl y
      · exact .inr (h.lg.new h12 (by omega))
  · intro k hk
    rcases ho2 with y | y
    · rw [y] at hk
      obtain ⟨a1, a2⟩ := h.x k hk
      refine ⟨a1, fun x => ?_⟩
      rcases own_append.1 x with y | y
      · exact a2 y
      · rcases own_cons.1 y with y | ⟨_, y, _⟩
        · exact vo7 k hk y
        · cases y
    · rw [y] at hk
      injection hk with hk
      refine ⟨h.lg.new h12 (by omega), fun x => ?_⟩
      rcases own_append.1 x with y | y
      · have := h.low (by omega) y; omega
      · rcases own_cons.1 y with y | ⟨_, y, _⟩
        · rcases new7 k y with z | z
          · have := ((h.lg.st.two.fl.row e hm).lt k z).2; omega
          · have := (hr1.lt k y).2; omega
        · cases y
theorem step_app2 {P : Program} {w : World} {ops : Array Oper} {o : Oper} {a : Act} {K : Act → World → Prop} {Q : Exit → Act → World → Prop} {E : Prop} (hgd : o.guard = none) (s x : Operand) (ts tx : TypeId)
    (ho : o.op = .call { callee := .builtin .append, args := #[s, x], argTypes := #[ts, tx] })
    (base : Nat) (e : TypeId) (i : TypeInfo) (z : Value) (size bytes : Nat) (ht : P.underlying ts = some (.slice e)) (hi : P.info? e = some i) (hz : i.zero = some z)
    (hsize : i.size = size) (hby : i.bytes = bytes) (hzs : z.cells.size = size)
    (v : Value) (n : Nat) (xs : List Value) (hs : a.eval s = v) (hown : Row w base size v n xs) (xv : Value) (m : Nat) (news : List Value) (hxv : a.eval x = xv) (hx : Src P w tx size xv m news)
    (hmax : n + m ≤ 140737488355328) (hbytes : (n + m) * bytes ≤ 140737488355328) (hb1 : 0 < bytes) (hbase : base ≤ w.heap.size)
    (h : ∀ v' w', Row w' base size v' (n + m) (xs ++ news) → w.grownBy w' v.ownBlock → (v'.ownBlock = v.ownBlock ∨ v'.ownBlock = some w.heap.size) → Row w' base size v n xs → K (a.put o.dst v') w') :
    if Region.wanted o (yielded ops a.tmps) = true then Oper.wp P o a w K Q else E := by
  have hw : Region.wanted o (yielded ops a.tmps) = true := by simp [Region.wanted, hgd]
  rw [if_pos hw]
  exact wp_app2 w s x ts tx ho base e i z size bytes ht hi hz hsize hby hzs v n xs hs hown xv m news hxv hx hmax hbytes hb1 hbase h
theorem MoreSt.below {w wr W : World} {la ll lo mo : List El} {va vl vo vm : Value} {j : Nat} (h : MoreSt w wr la ll lo va vl vo j mo vm) (hb : Below wr.heap.size wr W) : MoreSt w W la ll lo va vl vo j mo vm :=
  ⟨h.lg.below hb, h.len, h.c.below_all hb, fun i e f he hf => by
    obtain ⟨a, b, c, d⟩ := h.el i e f he hf
    exact ⟨a, b, c.below_all hb, d⟩, h.x⟩
theorem MoreSt.one {w wr W W1 : World} {la ll lo mo : List El} {va vl vo vm : Value} {j : Nat} {e : El} (h : MoreSt w wr la ll lo va vl vo j mo vm) (he : ll[j]? = some e) (hb : Below wr.heap.size wr W) (hg : W.grownBy W1 e.v.ownBlock) (hro : Row W1 w.heap.size 2 e.v e.n e.xs) : LongSt w W1 la ll va vl 12 lo vo := by
  have hm : e ∈ ll := List.mem_of_getElem? he
  have hw := h.lg.st.bl.size
  have s1 := hb.size
  exact (h.lg.below hb).turnL (by have := h.lg.st.na; omega) he ((show Chg (fun k => e.v.ownBlock = some k) W W from Chg.refl _ _).grown hg (fun k _ hk => hk)) hro (((h.lg.st.bl).trans (hb.mono hw)).grown hg (by omega) (fun q hq => ((h.lg.st.two.fl.row e hm).lt q hq).1))
end Go.Proofs.YtabecgdaiakgiaaDoor
