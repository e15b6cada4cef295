/- Calls written down (Op): what lies in memory; a law's own memory beside its disk. No condition. -/
import Derived.Test.YthgeppdoonbkpaaDskL
namespace Go.Proofs.Ythgeppdoonbkpaa
open Go.RowKit
/-- a slice of the input: where it lies, what it holds -/
structure OpV where
  kind : Int
  nm : Bs
  tt : Bs
  n : Int
  dA : Option Addr
  dn : Nat
  dc : Nat
  d : Bs
  cA : Option Addr
  cn : Nat
  cc : Nat
  c : List Int
  on : Bool
instance : Inhabited OpV := ⟨⟨0, [], [], 0, none, 0, 0, [], none, 0, 0, [], false⟩⟩
def opV (o : OpV) : List Value := [.int .i64 o.kind, .string (strB o.nm), .string (strB o.tt), .int .i64 o.n, .slice o.dA o.dn o.dc, .slice o.cA o.cn o.cc, .bool o.on]
def opsV (l : List OpV) : List Value := l.flatMap opV
theorem opV_len (o : OpV) : (opV o).length = 7 := rfl
theorem opsV_len (l : List OpV) : (opsV l).length = l.length * 7 := by
  unfold opsV
  induction l with
  | nil => rfl
  | cons o l ih => rw [List.flatMap_cons, List.length_append, ih, List.length_cons, opV_len]; omega
theorem opsV_snoc (l : List OpV) (o : OpV) : opsV (l ++ [o]) = opsV l ++ opV o := by unfold opsV; rw [List.flatMap_append]; simp
theorem opsV_get : ∀ (l : List OpV) (k : Nat) (o : OpV), l[k]? = some o → ∀ j u, (opV o)[j]? = some u → (opsV l)[k * 7 + j]? = some u
  | [], _, _, h => by cases h
  | q :: l, 0, o, h => fun j u hu => by
    injection h with h; subst h
    have hj : j < 7 := (List.getElem?_eq_some_iff.1 hu).1
    rw [Nat.zero_mul, Nat.zero_add]
    unfold opsV
    rw [List.flatMap_cons, List.getElem?_append_left (by exact hj)]
    exact hu
  | q :: l, k + 1, o, h => fun j u hu => by
    have := opsV_get l k o (by simpa using h) j u hu
    rw [show (k + 1) * 7 + j = k * 7 + j + 7 by omega]
    exact this
/-- what an Op of the input points at -/
structure OpIn (w : World) (o : OpV) : Prop where
  dle : o.dn ≤ o.dc
  dnil : o.dA = none → o.dn = 0 ∧ o.dc = 0
  drd : Rd w w.heap.size 1 o.dA o.dn (bytesV o.d)
  cle : o.cn ≤ o.cc
  cnil : o.cA = none → o.cn = 0 ∧ o.cc = 0
  crd : Rd w w.heap.size 1 o.cA o.cn (intsV o.c)
  nwf : -9223372036854775808 ≤ o.n ∧ o.n ≤ 9223372036854775807
  kwf : -9223372036854775808 ≤ o.kind ∧ o.kind ≤ 9223372036854775807
theorem OpIn.below {w w' : World} {o : OpV} (h : OpIn w o) (hb : Below w.heap.size w w') : OpIn w' o :=
  ⟨h.dle, h.dnil, (h.drd.below hb).more hb.size, h.cle, h.cnil, (h.crd.below hb).more hb.size, h.nwf, h.kwf⟩
/-- a list of them -/
structure OpsIn (w : World) (A : Option Addr) (n : Nat) (l : List OpV) : Prop where
  rd : Rd w w.heap.size 7 A n (opsV l)
  each : ∀ o ∈ l, OpIn w o
theorem OpsIn.len {w : World} {A : Option Addr} {n : Nat} {l : List OpV} (h : OpsIn w A n l) : l.length = n := by
  have := h.rd.1
  rw [opsV_len] at this
  omega
theorem OpsIn.below {w w' : World} {A : Option Addr} {n : Nat} {l : List OpV} (h : OpsIn w A n l) (hb : Below w.heap.size w w') : OpsIn w' A n l :=
  ⟨(h.rd.below hb).more hb.size, fun o ho => (h.each o ho).below hb⟩
/-- the Op at place k -/
theorem OpsIn.pick {w : World} {A : Option Addr} {n : Nat} {l : List OpV} (h : OpsIn w A n l) {k : Nat} (hk : k < n) : ∃ o g f, l[k]? = some o ∧ OpIn w o ∧ A = some ⟨g, f, none⟩ ∧ g < w.heap.size ∧ ∀ j u, (opV o)[j]? = some u → w.cell? ⟨g, f + (k * 7 + j), none⟩ = some u := by
  have hl := h.len
  obtain ⟨g, f, e, hg, hc⟩ := h.rd.2 (by omega)
  have hkl : k < l.length := by omega
  exact ⟨l[k], g, f, List.getElem?_eq_getElem hkl, h.each _ (List.getElem_mem _), e, hg, fun j u hu => hc _ u (opsV_get l k _ (List.getElem?_eq_getElem hkl) j u hu)⟩
section
variable {w0 W W' : World} {O O' : Nat → Prop} {db : Nat} {s : Dsk.St} {T : Nat}
/-- the law writes into what is its own, and makes more of it -/
theorem Live.turn (h : Live w0 O W db s T) {S : Nat → Prop} (hc : Chg S W W') (hS : ∀ b, b < W.heap.size → S b → O b ∧ w0.heap.size ≤ b) (hO : ∀ b, O' b → O b ∨ (W.heap.size ≤ b ∧ b < W'.heap.size)) : Live w0 O' W' db s T := by
  obtain ⟨F, ρ, hm, h1, h2, h3⟩ := h
  refine ⟨F, ρ, hm.keep hc (fun b hb hs => (h3 b (hS b hb hs).1).2), ?_, h2, fun b hb' => ?_⟩
  · exact ⟨hc.os.trans h1.os, hc.tape.trans h1.tape, hc.output.trans h1.output, Nat.le_trans h1.size hc.size, fun k hk => (hc.block k (Nat.lt_of_lt_of_le hk h1.size) (fun hs => by have := (hS k (Nat.lt_of_lt_of_le hk h1.size) hs).2; omega)).trans (h1.block k hk)⟩
  · rcases hO b hb' with h4 | h4
    · exact ⟨Nat.lt_of_lt_of_le (h3 b h4).1 hc.size, (h3 b h4).2⟩
    · refine ⟨h4.2, ?_⟩
      cases hr : ρ b with
      | none => rfl
      | some r => have := hm.lt b r hr; omega
theorem Live.olt (h : Live w0 O W db s T) {b : Nat} (hb : O b) : b < W.heap.size := by obtain ⟨F, ρ, _, _, _, h3⟩ := h; exact (h3 b hb).1
/-- the blocks of a law's own memory -/
def Own (own : Roles) : Nat → Prop := fun b => own b ≠ none
theorem Kept.lies {own : Roles} (h : Kept (Own own) W W') : Lies own own (fun _ => False) W W' :=
  ⟨h.1, fun {b} _ {r} hr _ => h.2 b (by unfold Own; rw [hr]; intro e; cases e), fun _ _ => rfl⟩
theorem below_lies {own : Roles} (hb : Below W.heap.size W W') : Lies own own (fun _ => False) W W' :=
  ⟨hb.size, fun {b} hb' {_r} _ _ => hb.block b hb', fun _ _ => rfl⟩
theorem grow_lies {own : Roles} {Q : Role → Prop} (h : Lies own own Q W W') (f : Nat → Role) : Lies own (grow own W.heap.size W'.heap.size f) Q W W' :=
  ⟨h.size, h.block, fun _b hb => grow_old own _ f hb⟩
theorem grow_own {own : Roles} {a b c : Nat} {f : Nat → Role} (h : Own (grow own a b f) c) (_hl : a ≤ b) : Own own c ∨ (a ≤ c ∧ c < b) := by
  unfold Own grow at h
  split at h
  · exact .inl h
  · rename_i h1
    split at h
    · exact .inr ⟨by omega, by assumption⟩
    · exact absurd rfl h
/-- an append to a row of a law's own -/
theorem chg_lies {own : Roles} {S : Nat → Prop} {Q : Role → Prop} (hc : Chg S W W') (hS : ∀ b r, b < W.heap.size → own b = some r → S b → Q r) : Lies own own Q W W' :=
  ⟨hc.size, fun {b} hb {r} hr hq => hc.block b hb (fun h => hq (hS b r hb hr h)), fun _ _ => rfl⟩
end
end Go.Proofs.Ythgeppdoonbkpaa
