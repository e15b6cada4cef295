/- For StreamOwn: a reader that lives or is dead is fed; events that are spoilt. No condition. -/
import Derived.Test.YtklmpadcfioefaaDoorSPcsS
namespace Go.Proofs.YtklmpadcfioefaaDoor
open Go.RowKit

namespace Strm
/-- what a call of Feed reads, of a reader that lives or is dead -/
def FdP (s : S) (l : Bs) (u : S) (es : List E1) (r : Nat) : Prop := (s.dead = 0 ∧ Feeds s l u es r) ∨ (s.dead ≠ 0 ∧ u = s ∧ es = [] ∧ r = s.dead)
theorem FdP.det {s u u' : S} {l : Bs} {es es' : List E1} {r r' : Nat} (h : FdP s l u es r) (k : FdP s l u' es' r') : u = u' ∧ es = es' ∧ r = r' := by
  rcases h with ⟨h0, h⟩ | ⟨h0, h1, h2, h3⟩
  · rcases k with ⟨_, k⟩ | ⟨k0, _⟩
    · exact h.det k
    · exact absurd h0 k0
  · rcases k with ⟨k0, _⟩ | ⟨_, k1, k2, k3⟩
    · exact absurd k0 h0
    · exact ⟨h1.trans k1.symm, h2.trans k2.symm, h3.trans k3.symm⟩
def Al (s : S) (T q : Nat) : Prop := s.dead = 0 → s.due = false ∧ Inv s T ∧ q = s.ph
theorem FdP.al {s u : S} {l : Bs} {es : List E1} {r T q q' : Nat} (h : FdP s l u es r) (ha : Al s T q) (h0 : r = 0 → q' = u.ph ∧ u.dead = s.dead) (hr : r ≠ 0 → u.dead = r) : Al u (T + l.length) q' := by
  intro hu
  have r0 : r = 0 := by
    by_cases e : r = 0
    · exact e
    · exact absurd ((hr e).symm.trans hu) e
  obtain ⟨e1, e2⟩ := h0 r0
  rcases h with ⟨k0, k⟩ | ⟨k0, _⟩
  · obtain ⟨_, hi, _⟩ := ha k0
    exact ⟨k.due r0, feeds_inv k hi r0, e1⟩
  · exact absurd (e2.symm.trans hu) k0
theorem FdP.sz {s u : S} {l : Bs} {es : List E1} {r T q : Nat} (h : FdP s l u es r) (ha : Al s T q) : (∀ e ∈ es, (eHd e).fs.length ≤ 64) ∧ bodySum es ≤ l.length ∧ es.length ≤ 3 * l.length + 1 := by
  rcases h with ⟨k0, k⟩ | ⟨_, _, k, _⟩
  · obtain ⟨hd, hi, _⟩ := ha k0
    have h3 := feeds_few k hi
    rw [rk_no hd] at h3
    exact ⟨feeds_heads k, feeds_sum k hi, by omega⟩
  · subst k
    exact ⟨(fun _ h => by cases h), Nat.zero_le _, Nat.zero_le _⟩
end Strm
theorem es_sz {es : List Strm.E1} {n : Nat} (hh : ∀ e ∈ es, (eHd e).fs.length ≤ 64) (hs : Strm.bodySum es ≤ n) (hn : n ≤ 100000000) : ∀ e ∈ es, evSz e := fun e he => by
  have h1 := hh e he
  have h2 := Strm.bodySum_one he
  exact ⟨by omega, by omega⟩

/-- what Feed leaves, of a reader that lives or is dead -/
def FeedO (w : World) (base rb : Nat) (s : Strm.S) (V : SV) (l : Bs) (e : Ending) (w' : World) : Prop :=
  ∃ v L u V' r q, e = .returned (.tuple #[v, .int .i64 (r : Nat)]) ∧ Strm.FdP s l u (L.map EvE.x) r ∧ Outs w' w.heap.size v L ∧ SMem w' base rb u V' q ∧ (r = 0 → q = u.ph ∧ u.dead = s.dead) ∧ (r ≠ 0 → u.dead = r) ∧ Chg (footS rb V) w w' ∧ (∀ k, footS rb V' k → footS rb V k ∨ w.heap.size ≤ k) ∧
    (∀ k, v.ownBlock = some k ∨ ownE L k → ¬ footS rb V' k)
theorem sfeed_o {w : World} {base rb T q : Nat} {s : Strm.S} {V : SV} (hsh : Shp base w) (h : SMem w base rb s V q) (ha : Strm.Al s T q) (A : Option Addr) (n c : Nat) (l : Bs) (hT : T + n ≤ 1000000000000) (hn : n ≤ 100000000) (hnc : n ≤ c) (hA : A = none → n = 0 ∧ c = 0)
    (hrd : Rd w w.heap.size 1 A n (bytesV l)) (hsp : Sep A n rb V) :
    Calls Tryd.prog 8 #[.pointer (some ⟨rb, 0, none⟩), .slice A n c] w (FeedO w base rb s V l) := by
  by_cases hd : s.dead = 0
  · obtain ⟨h1, h2, h3⟩ := ha hd
    subst h3
    refine (sfeed_any hsh h h2 h1 hd A n c l hT hn hnc hA hrd hsp).mono ?_
    rintro e w' ⟨v, L, u, V', r, q, he, hf, rest⟩
    exact ⟨v, L, u, V', r, q, he, .inl ⟨hd, hf⟩, rest⟩
  · refine (sfeed_dead h hd A n c).mono ?_
    rintro e w' ⟨rfl, k, rfl⟩
    exact ⟨_, [], s, V, s.dead, q, rfl, .inr ⟨hd, rfl, rfl, rfl⟩, Outs.nil _ _, h.below (below_drewN (Below.refl _ _) k), fun e => absurd e hd, fun _ => rfl, (Chg.refl _ w).then_below (below_drewN (Below.refl w.heap.size w) k), fun k hk => .inl hk, fun k hk => by
      rcases hk with x | ⟨_, x, _⟩
      · exact (nil_own x).elim
      · cases x⟩
def endsA (s : Strm.S) : List Strm.E1 × Nat := if s.dead = 0 then endsP s else ([], s.dead)
theorem endsA_sz (s : Strm.S) : (∀ e ∈ (endsA s).1, evSz e) ∧ (endsA s).1.length ≤ 1 := by
  unfold endsA
  split
  · exact ends_sz s
  · exact ⟨(fun _ h => by cases h), Nat.zero_le _⟩
theorem sended_o {w : World} {base rb T q : Nat} {s : Strm.S} {V : SV} (h : SMem w base rb s V q) (ha : Strm.Al s T q) :
    Calls Tryd.prog 13 #[.pointer (some ⟨rb, 0, none⟩)] w fun e w' => ∃ v L, e = .returned (.tuple #[v, .int .i64 ((endsA s).2 : Nat)]) ∧ L.map EvE.x = (endsA s).1 ∧ Outs w' w.heap.size v L ∧ Chg (footS rb V) w w' := by
  by_cases hd : s.dead = 0
  · obtain ⟨h1, h2, h3⟩ := ha hd
    subst h3
    refine (sended_any h h2 hd).mono ?_
    rintro e w' ⟨v, L, he, hL, ho, _, hc⟩
    unfold endsA
    rw [if_pos hd]
    exact ⟨v, L, he, hL, ho, hc⟩
  · refine (sended_dead h hd).mono ?_
    rintro e w' ⟨rfl, k, rfl⟩
    unfold endsA
    rw [if_neg hd]
    exact ⟨_, [], rfl, rfl, Outs.nil _ _, (Chg.refl _ w).then_below (below_drewN (Below.refl w.heap.size w) k)⟩

/-! ### events that are spoilt, one behind the other -/
structure SpSt (w0 w : World) (base : Nat) (v : Value) (L : List EvE) (k : Nat) (C : List Value) : Prop where
  len : C.length = k * 11
  row : Row w base 11 v L.length (C ++ (L.drop k).flatMap EvE.cells)
  out : ∀ e ∈ L.drop k, EvR w base e
  chg : Chg (ofE v L) w0 w
theorem SpSt.init {w : World} {base : Nat} {v : Value} {L : List EvE} (h : Outs w base v L) : SpSt w w base v L 0 [] := ⟨rfl, h.row, h.el, Chg.refl _ _⟩
theorem ev_len (e : EvE) : e.cells.length = 11 := rfl
/-- the row, split at event k -/
theorem SpSt.at {w0 w : World} {base k : Nat} {v : Value} {L : List EvE} {C : List Value} (h : SpSt w0 w base v L k C) (hk : k < L.length) : Row w base 11 v L.length (C ++ L[k].cells ++ (L.drop (k + 1)).flatMap EvE.cells) ∧ EvR w base L[k] := by
  have e : L.drop k = L[k] :: L.drop (k + 1) := List.drop_eq_getElem_cons hk
  have hr := h.row
  rw [e, List.flatMap_cons, ← List.append_assoc] at hr
  exact ⟨hr, h.out _ (by rw [e]; exact List.mem_cons_self)⟩
theorem SpSt.step {w0 w w' : World} {base k : Nat} {v : Value} {L : List EvE} {C c : List Value} (h : SpSt w0 w base v L k C) (hk : k < L.length) (hp : L.Pairwise fun a b => ∀ k, a.own k → ¬ b.own k) (hx : ∀ k, v.ownBlock = some k → ¬ ownE L k)
    (hc : Chg (fun j => v.ownBlock = some j ∨ L[k].own j) w w') (hl : c.length = 11) (hr : Row w' base 11 v L.length (C ++ c ++ (L.drop (k + 1)).flatMap EvE.cells)) : SpSt w0 w' base v L (k + 1) (C ++ c) := by
  have e : L.drop k = L[k] :: L.drop (k + 1) := List.drop_eq_getElem_cons hk
  refine ⟨by rw [List.length_append, h.len, hl]; omega, hr, fun f hf => ?_, h.chg.trans hc (fun j _ hs => ?_)⟩
  · have hm : f ∈ L := List.mem_of_mem_drop hf
    refine (h.out f (by rw [e]; exact List.mem_cons_of_mem _ hf)).chg hc (fun j hj hs => ?_)
    rcases hs with x | x
    · exact hx j x ⟨f, hm, hj⟩
    · have hp2 : (L.drop k).Pairwise fun a b => ∀ k, a.own k → ¬ b.own k := hp.sublist (List.drop_sublist _ _)
      rw [e] at hp2
      exact (List.pairwise_cons.1 hp2).1 f hf j x hj
  · rcases hs with x | x
    · exact .inl x
    · exact .inr ⟨L[k], List.getElem_mem _, x⟩
/-- a cell of the event that is written -/
theorem ev_set {C R ev : List Value} {k j : Nat} (hC : C.length = k * 11) (hl : ev.length = 11) (hj : j < 11) (u : Value) : (C ++ ev ++ R).set (k * 11 + j) u = C ++ ev.set j u ++ R := by
  rw [List.set_append_left _ _ (by rw [List.length_append]; omega), List.set_append_right _ _ (by omega), hC, Nat.add_sub_cancel_left]
theorem ev_cell {w : World} {base n g o c k j : Nat} {C R ev : List Value} (h : Row w base 11 (.slice (some ⟨g, o, none⟩) n c) n (C ++ ev ++ R)) (hC : C.length = k * 11) (hl : ev.length = 11) (hj : j < 11) (hk : k < n) {u : Value} (hu : ev[j]? = some u) :
    w.cell? ⟨g, o + k * 11 + j, none⟩ = some u ∧ w.frozen? ⟨g, o + k * 11 + j, none⟩ = false := by
  obtain ⟨g', o', e, _, _, hc, hf⟩ := h.own (by omega)
  injection e with e
  injection e with e1 e2 _
  subst e1 e2
  have hlen := h.1
  rw [List.length_append, List.length_append] at hlen
  have e3 : o + k * 11 + j = o + (k * 11 + j) := by omega
  rw [e3]
  refine ⟨hc (k * 11 + j) u ?_, ?_⟩
  · rw [List.getElem?_append_left (by rw [List.length_append]; omega), List.getElem?_append_right (by omega), hC, Nat.add_sub_cancel_left]
    exact hu
  · exact hf _ (by rw [List.length_append, List.length_append]; omega)
end Go.Proofs.YtklmpadcfioefaaDoor
