/- A disk in memory: which block is what, and what lies in each. No condition. -/
import Derived.Test.YthgeppdoonbkpaaDskA
import Derived.Test.YthgeppdoonbkpaaMB
namespace Go.Proofs.Ythgeppdoonbkpaa
open Go.RowKit Go.Maps Go.WideMaps
/-- what a block of a disk is -/
inductive Role where
  | disk
  | lasts
  | now
  | moves
  | arm
  | file (i : Nat)
  | chg (i : Nat)
  | tmp
  | data
abbrev Roles := Nat → Option Role
/-- the blocks whose role Q allows -/
def On (ρ : Roles) (Q : Role → Prop) (b : Nat) : Prop := ∃ r, ρ b = some r ∧ Q r
def Mut (r : Role) : Prop := r ≠ .data
/-- from w to w' only blocks of Q have turned; new blocks may have a role -/
structure Step (ρ ρ' : Roles) (Q : Role → Prop) (w w' : World) : Prop where
  chg : Chg (On ρ Q) w w'
  ext : ∀ b, b < w.heap.size → ρ' b = ρ b
section
variable {ρ ρ' ρ1 : Roles} {Q Q' : Role → Prop} {w w' w1 : World}
theorem Step.refl (ρ : Roles) (Q : Role → Prop) (w : World) : Step ρ ρ Q w w := ⟨Chg.refl _ _, fun _ _ => rfl⟩
theorem Step.trans (h : Step ρ ρ1 Q w w1) (k : Step ρ1 ρ' Q w1 w') : Step ρ ρ' Q w w' :=
  ⟨h.chg.trans k.chg (fun j hj ⟨r, e, q⟩ => ⟨r, (h.ext j hj).symm.trans e, q⟩), fun b hb => (k.ext b (Nat.lt_of_lt_of_le hb h.chg.size)).trans (h.ext b hb)⟩
theorem Step.more (h : Step ρ ρ' Q w w') (hq : ∀ r, Q r → Q' r) : Step ρ ρ' Q' w w' := ⟨h.chg.more (fun _ _ ⟨r, e, q⟩ => ⟨r, e, hq r q⟩), h.ext⟩
theorem Step.of_below (hb : Below w.heap.size w w') : Step ρ ρ Q w w' := ⟨Chg.of_below hb, fun _ _ => rfl⟩
theorem Step.of_chg {S : Nat → Prop} (hc : Chg S w w') (hs : ∀ b, S b → ∃ r, ρ b = some r ∧ Q r) : Step ρ ρ Q w w' := ⟨hc.more (fun b _ h => hs b h), fun _ _ => rfl⟩
/-- blocks with a role lie as they lay, but for those of Q -/
structure Lies (ρ ρ' : Roles) (Q : Role → Prop) (w w' : World) : Prop where
  size : w.heap.size ≤ w'.heap.size
  block : ∀ {b : Nat}, b < w.heap.size → ∀ {r : Role}, ρ b = some r → ¬ Q r → w'.heap[b]? = w.heap[b]?
  ext : ∀ b, b < w.heap.size → ρ' b = ρ b
theorem Step.lies (h : Step ρ ρ' Q w w') : Lies ρ ρ' Q w w' :=
  ⟨h.chg.size, fun {b} hb {r} hr hq => h.chg.block b hb (fun ⟨r', e, q⟩ => by rw [hr] at e; injection e with e; rw [← e] at q; exact hq q), h.ext⟩
theorem Lies.of_chg {S : Nat → Prop} (hc : Chg S w w') (hS : ∀ b, b < w.heap.size → S b → ρ b = none) : Lies ρ ρ (fun _ => False) w w' :=
  ⟨hc.size, fun {b} hb {r} hr _ => hc.block b hb (fun h => by rw [hS b hb h] at hr; cases hr), fun _ _ => rfl⟩
/-- blocks of the disk's roles get those of new ones too -/
def grow (ρ : Roles) (n0 n : Nat) (f : Nat → Role) : Roles := fun b => if b < n0 then ρ b else if b < n then some (f b) else none
theorem grow_old (ρ : Roles) {n0 b : Nat} (n : Nat) (f : Nat → Role) (h : b < n0) : grow ρ n0 n f b = ρ b := by unfold grow; rw [if_pos h]
theorem grow_new (ρ : Roles) {n0 n b : Nat} (f : Nat → Role) (h : n0 ≤ b) (h2 : b < n) : grow ρ n0 n f b = some (f b) := by unfold grow; rw [if_neg (by omega), if_pos h2]
theorem Step.grow (h : Step ρ ρ Q w w') (f : Nat → Role) : Step ρ (grow ρ w.heap.size w'.heap.size f) Q w w' := ⟨h.chg, fun _b hb => grow_old ρ _ f hb⟩
end
/-- a slice that nobody writes any more -/
def Dat (w : World) (ρ : Roles) (v : Value) (n : Nat) (xs : List Value) : Prop :=
  ∃ A c, v = .slice A n c ∧ n ≤ c ∧ (A = none → n = 0 ∧ c = 0) ∧ Rd w w.heap.size 1 A n xs ∧ (0 < n → ∀ g o p, A = some ⟨g, o, p⟩ → ρ g = some .data)
def Byt (w : World) (ρ : Roles) (v : Value) (l : Bs) : Prop := Dat w ρ v l.length (bytesV l)
theorem Rd.same {w w' : World} {sz n : Nat} {A : Option Addr} {xs : List Value} (h : Rd w w.heap.size sz A n xs) (hs : w.heap.size ≤ w'.heap.size) (hk : ∀ g o, 0 < n → A = some ⟨g, o, none⟩ → w'.heap[g]? = w.heap[g]?) : Rd w' w'.heap.size sz A n xs :=
  ⟨h.1, fun hn => by
    obtain ⟨g, o, e, hb, hc⟩ := h.2 hn
    exact ⟨g, o, e, by omega, fun j u hu => (World.cell?_of_block (w := w) (a := ⟨g, o + j, none⟩) (hk g o hn e)).trans (hc j u hu)⟩⟩
section
variable {ρ ρ' : Roles} {Q : Role → Prop} {w w' : World} {v : Value} {n : Nat} {xs : List Value} {l : Bs}
theorem Dat.keep (h : Dat w ρ v n xs) (hs : Lies ρ ρ' Q w w') (hq : ¬ Q .data) : Dat w' ρ' v n xs := by
  obtain ⟨A, c, e, h1, h2, h3, h4⟩ := h
  refine ⟨A, c, e, h1, h2, h3.same hs.size (fun g o hn ea => ?_), fun hn g o p ea => ?_⟩
  · obtain ⟨g', o', e', hb, _⟩ := h3.2 hn
    rw [ea] at e'
    injection e' with e'
    injection e' with e1 _ _
    subst e1
    exact hs.block hb (h4 hn g o none ea) hq
  · obtain ⟨g', o', e', hb, _⟩ := h3.2 hn
    rw [ea] at e'
    injection e' with e'
    injection e' with e1 _ _
    subst e1
    rw [hs.ext g hb]
    exact h4 hn g o p ea
theorem Dat.nil (w : World) (ρ : Roles) : Dat w ρ (.slice none 0 0) 0 [] := ⟨none, 0, rfl, Nat.le_refl _, fun _ => ⟨rfl, rfl⟩, Rd.nil _ _ _ _, fun h => absurd h (by omega)⟩
theorem Byt.keep (h : Byt w ρ v l) (hs : Lies ρ ρ' Q w w') (hq : ¬ Q .data) : Byt w' ρ' v l := Dat.keep h hs hq
/-- what was just made is data -/
theorem Byt.made {base : Nat} (h : RowB w base v l) (hr : ∀ b, base ≤ b → b < w.heap.size → ρ b = some .data) : Byt w ρ v l := by
  obtain ⟨A, c, e, h1, h2, h3, h4⟩ := RowB.form h
  refine ⟨A, c, e, h1, h3, h4, fun hn g o p ea => ?_⟩
  have hl := Row.lt h g (by rw [e, ea]; rfl)
  exact hr g hl.1 hl.2
end
/-- a change of a file -/
def ChV (w : World) (ρ : Roles) (c : Dsk.Ch) (sz fv : Value) : Prop :=
  match c with
  | .wr a d => sz = .int .i64 (d.length : Nat) ∧ ∃ xa xo v, fv = .func (.func 35) #[] #[.pointer (some ⟨xa, 0, none⟩), .pointer (some ⟨xo, 0, none⟩)] ∧ xa < w.heap.size ∧ xo < w.heap.size ∧ w.cell? ⟨xa, 0, none⟩ = some (.int .i64 (a : Nat)) ∧ w.cell? ⟨xo, 0, none⟩ = some v ∧ Byt w ρ v d ∧ ρ xa = some .data ∧ ρ xo = some .data
  | .cut k => sz = .int .i64 (-1) ∧ ∃ xa, fv = .func (.func 46) #[] #[.pointer (some ⟨xa, 0, none⟩)] ∧ xa < w.heap.size ∧ w.cell? ⟨xa, 0, none⟩ = some (.int .i64 (k : Nat)) ∧ ρ xa = some .data
theorem ChV.keep {w w' : World} {ρ ρ' : Roles} {Q : Role → Prop} {c : Dsk.Ch} {sz fv : Value} (h : ChV w ρ c sz fv) (hs : Lies ρ ρ' Q w w') (hq : ¬ Q .data) : ChV w' ρ' c sz fv := by
  have hcell : ∀ x u, x < w.heap.size → ρ x = some .data → w.cell? ⟨x, 0, none⟩ = some u → w'.cell? ⟨x, 0, none⟩ = some u := fun x u hx hr hc =>
    (World.cell?_of_block (w := w) (a := ⟨x, 0, none⟩) (hs.block hx hr hq)).trans hc
  cases c with
  | wr a d =>
    obtain ⟨e, xa, xo, v, e2, la, lo, ca, co, hb, ra, ro⟩ := h
    exact ⟨e, xa, xo, v, e2, Nat.lt_of_lt_of_le la hs.size, Nat.lt_of_lt_of_le lo hs.size, hcell _ _ la ra ca, hcell _ _ lo ro co, hb.keep hs hq, (hs.ext _ la).trans ra, (hs.ext _ lo).trans ro⟩
  | cut k =>
    obtain ⟨e, xa, e2, la, ca, ra⟩ := h
    exact ⟨e, xa, e2, Nat.lt_of_lt_of_le la hs.size, hcell _ _ la ra ca, (hs.ext _ la).trans ra⟩
def zsV (zs : List (Value × Value)) : List Value := zs.flatMap fun p => [p.1, p.2]
theorem zsV_len (zs : List (Value × Value)) : (zsV zs).length = zs.length * 2 := by
  unfold zsV
  induction zs with
  | nil => rfl
  | cons p zs ih => rw [List.flatMap_cons, List.length_append, ih, List.length_cons]; simp; omega
theorem zsV_get : ∀ (zs : List (Value × Value)) (k : Nat) (p : Value × Value), zs[k]? = some p → (zsV zs)[k * 2]? = some p.1 ∧ (zsV zs)[k * 2 + 1]? = some p.2
  | [], _, _, h => by cases h
  | q :: zs, 0, p, h => by injection h with h; subst h; exact ⟨rfl, rfl⟩
  | q :: zs, k + 1, p, h => by
    have := zsV_get zs k p (by simpa using h)
    rw [show (k + 1) * 2 = k * 2 + 2 by omega]
    exact this
theorem zsV_append (a b : List (Value × Value)) : zsV (a ++ b) = zsV a ++ zsV b := by unfold zsV; rw [List.flatMap_append]
/-- the loose changes of a file -/
def ChRow (w : World) (ρ : Roles) (i : Nat) (v : Value) (l : List Dsk.Ch) : Prop :=
  ∃ zs : List (Value × Value), zs.length = l.length ∧ Row w 0 2 v l.length (zsV zs) ∧ (∀ b, v.ownBlock = some b → ρ b = some (.chg i)) ∧ ∀ (k : Nat) (c : Dsk.Ch) (p : Value × Value), l[k]? = some c → zs[k]? = some p → ChV w ρ c p.1 p.2
theorem ChRow.keep {w w' : World} {ρ ρ' : Roles} {Q : Role → Prop} {i : Nat} {v : Value} {l : List Dsk.Ch} (h : ChRow w ρ i v l) (hs : Lies ρ ρ' Q w w') (hq : ¬ Q .data) (hc : ¬ Q (.chg i)) : ChRow w' ρ' i v l := by
  obtain ⟨zs, e, hr, ho, hz⟩ := h
  refine ⟨zs, e, hr.block_eq (fun b hb => hs.block (hr.lt b hb).2 (ho b hb) hc), fun b hb => ?_, fun k c p h1 h2 => (hz k c p h1 h2).keep hs hq⟩
  · rw [hs.ext b (hr.lt b hb).2]
    exact ho b hb
theorem ChRow.nil (w : World) (ρ : Roles) (i : Nat) : ChRow w ρ i (.slice none 0 0) [] := by
  refine ⟨[], rfl, Row.nil w 0 2, ?_, ?_⟩
  · intro b hb
    cases hb
  · intro k c p h
    cases h
/-- a file, its bytes being b -/
structure FileN (w : World) (ρ : Roles) (F : Nat → Nat) (f : Dsk.Fi) (b : Bs) (i : Nat) : Prop where
  role : ρ (F i) = some (.file i)
  get : ∃ v0 v1 v2, Var w (F i) 71 [v0, v1, v2] ∧ Byt w ρ v0 f.las ∧ Byt w ρ v1 b ∧ ChRow w ρ i v2 f.loo
abbrev Filed (w : World) (ρ : Roles) (F : Nat → Nat) (f : Dsk.Fi) (i : Nat) : Prop := FileN w ρ F f f.now i
theorem FileN.keep {w w' : World} {ρ ρ' : Roles} {Q : Role → Prop} {F : Nat → Nat} {f : Dsk.Fi} {b : Bs} {i : Nat} (h : FileN w ρ F f b i) (hs : Lies ρ ρ' Q w w') (hq : ¬ Q .data) (hf : ¬ Q (.file i)) (hc : ¬ Q (.chg i)) : FileN w' ρ' F f b i := by
  obtain ⟨v0, v1, v2, hv, h0, h1, h2⟩ := h.get
  refine ⟨(hs.ext _ hv.lt).trans h.role, v0, v1, v2, (hs.block hv.lt h.role hf).trans hv, h0.keep hs hq, h1.keep hs hq, h2.keep hs hq hc⟩
theorem FileN.lt {w : World} {ρ : Roles} {F : Nat → Nat} {f : Dsk.Fi} {b : Bs} {i : Nat} (h : FileN w ρ F f b i) : F i < w.heap.size := by
  obtain ⟨v0, v1, v2, hv, _⟩ := h.get
  exact hv.lt
/-- strings out of bytes -/
def strB (l : Bs) : ByteArray := ⟨l.toArray⟩
theorem strB_list (l : Bs) : (strB l).data.toList = l := rfl
theorem strB_size (l : Bs) : (strB l).size = l.length := strV_size l
def mvP (F : Nat → Nat) (m : Dsk.Mv) : Value := match m.nw with | some i => .pointer (some ⟨F i, 0, none⟩) | none => .pointer none
theorem mvP_ptr (F : Nat → Nat) (m : Dsk.Mv) : ∃ P, mvP F m = .pointer P := by
  unfold mvP
  split <;> exact ⟨_, rfl⟩
def mvV (F : Nat → Nat) (m : Dsk.Mv) : List Value := [.string (strB m.fr), .string (strB m.to), mvP F m]
def movesV (F : Nat → Nat) (l : List Dsk.Mv) : List Value := l.flatMap (mvV F)
theorem movesV_len (F : Nat → Nat) (l : List Dsk.Mv) : (movesV F l).length = l.length * 3 := by
  unfold movesV
  induction l with
  | nil => rfl
  | cons p zs ih => rw [List.flatMap_cons, List.length_append, ih, List.length_cons]; simp [mvV]; omega
theorem movesV_snoc (F : Nat → Nat) (l : List Dsk.Mv) (m : Dsk.Mv) : movesV F (l ++ [m]) = movesV F l ++ mvV F m := by unfold movesV; rw [List.flatMap_append]; simp
theorem movesV_get (F : Nat → Nat) : ∀ (l : List Dsk.Mv) (k : Nat) (m : Dsk.Mv), l[k]? = some m → ∀ j u, (mvV F m)[j]? = some u → (movesV F l)[k * 3 + j]? = some u
  | [], _, _, h => by cases h
  | q :: l, 0, m, h => fun j u hu => by
    injection h with h; subst h
    have hj : j < 3 := (List.getElem?_eq_some_iff.1 hu).1
    rw [Nat.zero_mul, Nat.zero_add]
    unfold movesV
    rw [List.flatMap_cons, List.getElem?_append_left (by exact hj)]
    exact hu
  | q :: l, k + 1, m, h => fun j u hu => by
    have := movesV_get F l k m (by simpa using h) j u hu
    rw [show (k + 1) * 3 + j = k * 3 + j + 3 by omega]
    exact this
theorem movesV_congr {F F' : Nat → Nat} {l : List Dsk.Mv} (h : ∀ m ∈ l, ∀ i, m.nw = some i → F i = F' i) : movesV F l = movesV F' l := by
  unfold movesV
  induction l with
  | nil => rfl
  | cons m l ih =>
    rw [List.flatMap_cons, List.flatMap_cons, ih (fun x hx => h x (List.mem_cons_of_mem _ hx))]
    congr 1
    unfold mvV mvP
    cases e : m.nw with
    | none => rfl
    | some i => dsimp only; rw [h m List.mem_cons_self i e]
/-- what waits -/
def ArmV (w : World) (ρ : Roles) (va : Value) (x : Option (Nat × List Int)) : Prop :=
  match x with
  | none => va = .pointer none
  | some (k, cs) => ∃ ab v, va = .pointer (some ⟨ab, 0, none⟩) ∧ ρ ab = some .arm ∧ Var w ab 84 [.int .i64 (k : Nat), v] ∧ Dat w ρ v cs.length (intsV cs)
theorem ArmV.keep {w w' : World} {ρ ρ' : Roles} {Q : Role → Prop} {va : Value} {x : Option (Nat × List Int)} (h : ArmV w ρ va x) (hs : Lies ρ ρ' Q w w') (hq : ¬ Q .data) (ha : ¬ Q .arm) : ArmV w' ρ' va x := by
  match x, h with
  | none, h => exact h
  | some (k, cs), ⟨ab, v, e, hr, hv, hd⟩ => exact ⟨ab, v, e, (hs.ext _ hv.lt).trans hr, (hs.block hv.lt hr ha).trans hv, hd.keep hs hq⟩
/-- a disk in memory -/
structure Mem (w : World) (db : Nat) (F : Nat → Nat) (ρ : Roles) (s : Dsk.St) (T : Nat) : Prop where
  lt : ∀ b r, ρ b = some r → b < w.heap.size
  disk : ρ db = some .disk
  get : ∃ lb nb ln nn vl va, Var w db 65 [.int .i64 (s.room : Nat), .map (some lb), .map (some nb), vl, va, .bool s.down] ∧
    (ρ lb = some .lasts ∧ Dirm w lb ln F s.dl ∧ ln + s.lm.length ≤ T) ∧ (ρ nb = some .now ∧ Dirm w nb nn F (Dsk.dn s) ∧ nn ≤ T) ∧
    (Row w 0 3 vl s.lm.length (movesV F s.lm) ∧ ∀ b, vl.ownBlock = some b → ρ b = some .moves) ∧ ArmV w ρ va s.arm
  file : ∀ i, Dsk.Reach s i → Filed w ρ F (Dsk.fil s i) i
  fit : Dsk.Fit s T
theorem Dirm.mono {w : World} {b n n' : Nat} {F : Nat → Nat} {l : Dsk.Dir} (h : Dirm w b n F l) (hn : n ≤ n') : Dirm w b n' F l := World.ownsMap.mono h hn
theorem Dirm.congr {w : World} {b n : Nat} {F F' : Nat → Nat} {l : Dsk.Dir} (h : Dirm w b n F l) (hf : ∀ p ∈ l, F p.2 = F' p.2) : Dirm w b n F' l := by
  unfold Dirm at h ⊢
  rw [← Dsk.mapD_congr hf]
  exact h
theorem Dirm.keep {w w' : World} {ρ ρ' : Roles} {Q : Role → Prop} {b n : Nat} {F : Nat → Nat} {l : Dsk.Dir} (h : Dirm w b n F l) (hs : Lies ρ ρ' Q w w') {r : Role} (hr : ρ b = some r) (hq : ¬ Q r) : Dirm w' b n F l :=
  by
    have hb := h.lt
    unfold Dirm at h ⊢
    obtain ⟨es, clock, hb2, r⟩ := h
    exact ⟨es, clock, (hs.block hb hr hq).trans hb2, r⟩
/-- what a call leaves: a disk again, and nothing else has turned -/
def Out (w : World) (db : Nat) (ρ : Roles) (s : Dsk.St) (T : Nat) (w' : World) : Prop := ∃ F' ρ', Mem w' db F' ρ' s T ∧ Step ρ ρ' Mut w w'
/-- a disk that nobody touched -/
theorem Mem.keep {w w' : World} {db : Nat} {F : Nat → Nat} {ρ : Roles} {s : Dsk.St} {T : Nat} (h : Mem w db F ρ s T) {S : Nat → Prop} (hc : Chg S w w') (hS : ∀ b, b < w.heap.size → S b → ρ b = none) : Mem w' db F ρ s T := by
  have hs : Lies ρ ρ (fun _ => False) w w' := Lies.of_chg hc hS
  obtain ⟨lb, nb, ln, nn, vl, va, hv, ⟨l1, l2, l3⟩, ⟨n1, n2, n3⟩, ⟨m1, m2⟩, ha⟩ := h.get
  exact ⟨fun b r e => Nat.lt_of_lt_of_le (h.lt b r e) hc.size, h.disk, ⟨lb, nb, ln, nn, vl, va, (hs.block hv.lt h.disk id).trans hv, ⟨l1, l2.keep hs l1 id, l3⟩, ⟨n1, n2.keep hs n1 id, n3⟩, ⟨m1.block_eq (fun b hb => hs.block (m1.lt b hb).2 (m2 b hb) id), m2⟩, ha.keep hs id id⟩, fun i hi => (h.file i hi).keep hs id id id, h.fit⟩
end Go.Proofs.Ythgeppdoonbkpaa
