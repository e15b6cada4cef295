/- A reader of streams and its events, in memory. No condition. -/
import Derived.Test.YtklmpadcfioefaaGreatDoorMX0
import Derived.Test.YtklmpadcfioefaaGreatDoorFeedA
namespace Go.Proofs.YtklmpadcfioefaaGreatDoor
open Go.RowKit

def nowF : Nat → Nat
  | 0 => 29
  | 1 => 55
  | 2 => 56
  | 3 => 57
  | _ => 58
def nowV (rb ph : Nat) : Value := .func (.func (nowF ph)) #[.pointer (some ⟨rb, 0, none⟩)] #[]
/-- what of a reader lies in memory: its methods, its block, its chunk reader with what that has -/
structure SV where
  mv : Value
  kv : Value
  bv : Value
  cb : Nat
  vl : Value
  vt : Value
def footS (rb : Nat) (V : SV) (k : Nat) : Prop := k = rb ∨ V.mv.ownBlock = some k ∨ V.kv.ownBlock = some k ∨ foot V.cb V.vl V.vt k
def rCells (rb : Nat) (s : Strm.S) (V : SV) (q : Nat) : List Value := [.bool s.rq, V.mv, nowV rb q, V.kv, .int .i64 (s.left : Int), V.bv, .int .i64 (s.fr : Int), .bool s.win, .bool s.due, .int .i64 (s.dead : Int)]
/-- the reader s at rb, its next step being q -/
structure SMem (w : World) (base rb : Nat) (s : Strm.S) (V : SV) (q : Nat) : Prop where
  le : base ≤ rb
  var : Var w rb 72 (rCells rb s V q)
  ms : Row w base 1 V.mv s.ms.length (strsV s.ms)
  blk : RowB w base V.kv s.blk
  nil : s.ph ≠ 0 → V.kv = .slice none 0 0
  on : s.ph = 3 → V.bv = .pointer (some ⟨V.cb, 0, none⟩) ∧ Rdr w base V.cb s.body V.vl V.vt
  off : s.ph ≠ 3 → V.cb = rb ∧ V.vl = .slice none 0 0 ∧ V.vt = .slice none 0 0
  a1 : ∀ k, V.mv.ownBlock = some k → k ≠ rb ∧ V.kv.ownBlock ≠ some k ∧ ¬ foot V.cb V.vl V.vt k
  a2 : ∀ k, V.kv.ownBlock = some k → k ≠ rb ∧ ¬ foot V.cb V.vl V.vt k
  a3 : s.ph = 3 → ¬ foot V.cb V.vl V.vt rb
theorem nil_own {k : Nat} : (Value.slice none 0 0).ownBlock = some k → False := fun h => by simp [Value.ownBlock] at h
section
variable {w w' : World} {base rb q : Nat} {s : Strm.S} {V : SV} {S : Nat → Prop}
theorem SMem.lt (h : SMem w base rb s V q) : ∀ k, footS rb V k → base ≤ k ∧ k < w.heap.size := by
  intro k hk
  rcases hk with x | x | x | x
  · subst x; exact ⟨h.le, h.var.lt⟩
  · exact h.ms.lt k x
  · exact Row.lt h.blk k x
  · by_cases h3 : s.ph = 3
    · obtain ⟨_, hr⟩ := h.on h3
      exact hr.foot_in k x
    · obtain ⟨e1, e2, e3⟩ := h.off h3
      rw [e1, e2, e3] at x
      rcases x with x | x | x
      · subst x; exact ⟨h.le, h.var.lt⟩
      · exact (nil_own x).elim
      · exact (nil_own x).elim
theorem SMem.chg (h : SMem w base rb s V q) (hc : Chg S w w') (hs : ∀ k, footS rb V k → ¬ S k) : SMem w' base rb s V q :=
  ⟨h.le, h.var.chg hc (hs _ (.inl rfl)), h.ms.chg hc (fun k hk => hs k (.inr (.inl hk))), Row.chg h.blk hc (fun k hk => hs k (.inr (.inr (.inl hk)))), h.nil,
    fun h3 => ⟨(h.on h3).1, (h.on h3).2.chgd hc (fun k hk => hs k (.inr (.inr (.inr hk))))⟩, h.off, h.a1, h.a2, h.a3⟩
theorem SMem.below (h : SMem w base rb s V q) (hb : Below w.heap.size w w') : SMem w' base rb s V q :=
  h.chg (S := fun _ => False) ((Chg.refl (fun _ => False) w).then_below hb) (fun _ _ e => e)
theorem SMem.cell (h : SMem w base rb s V q) {j : Nat} {v : Value} (hj : (rCells rb s V q)[j]? = some v) : w.cell? ⟨rb, j, none⟩ = some v := h.var.cell hj
end

theorem SMem.put {w : World} {base rb q : Nat} {s : Strm.S} {V : SV} (h : SMem w base rb s V q) {j : Nat} {u : Value} {t : Strm.S} {q' : Nat} (hc : rCells rb t V q' = (rCells rb s V q).set j u) (hms : t.ms = s.ms) (hb : t.blk = s.blk) (hy : t.body = s.body) (hp : t.ph = 3 ↔ s.ph = 3) (hn : t.ph ≠ 0 → V.kv = .slice none 0 0) :
    SMem (w.setCell ⟨rb, j, none⟩ u) base rb t V q' := by
  have hcg : Chg (fun k => k = rb) w (w.setCell ⟨rb, j, none⟩ u) := (show Chg (fun k => k = rb) w w from Chg.refl _ w).setCell (p := ⟨rb, j, none⟩) (fun _ => rfl) u
  refine ⟨h.le, by rw [hc]; exact h.var.set j u, by rw [hms]; exact h.ms.chg hcg (fun k hk => (h.a1 k hk).1), by rw [hb]; exact Row.chg h.blk hcg (fun k hk => (h.a2 k hk).1), hn, fun h3 => ?_, fun h3 => h.off (fun e => h3 (hp.2 e)), h.a1, h.a2, fun h3 => h.a3 (hp.1 h3)⟩
  obtain ⟨e1, e2⟩ := h.on (hp.1 h3)
  refine ⟨e1, ?_⟩
  rw [hy]
  exact e2.chgd hcg (fun k hk e => h.a3 (hp.1 h3) (by rw [← e]; exact hk))
def SV.cut (V : SV) (rb : Nat) : SV := { V with cb := rb, vl := .slice none 0 0, vt := .slice none 0 0 }
theorem foot_cut {rb k : Nat} (h : foot rb (.slice none 0 0) (.slice none 0 0) k) : k = rb := by
  rcases h with x | x | x
  · exact x
  · exact (nil_own x).elim
  · exact (nil_own x).elim
theorem SMem.rephase {w : World} {base rb q : Nat} {s : Strm.S} {V : SV} (h : SMem w base rb s V q) {x : Nat} (hx : x ≠ 3) (hn : x ≠ 0 → V.kv = .slice none 0 0) : SMem w base rb { s with ph := x } (V.cut rb) q :=
  ⟨h.le, h.var, h.ms, h.blk, hn, fun e => absurd e hx, fun _ => ⟨rfl, rfl, rfl⟩, fun k hk => ⟨(h.a1 k hk).1, (h.a1 k hk).2.1, fun f => (h.a1 k hk).1 (foot_cut f)⟩, fun k hk => ⟨(h.a2 k hk).1, fun f => (h.a2 k hk).1 (foot_cut f)⟩, fun e => absurd e hx⟩
theorem footS_cut {rb : Nat} {V : SV} {k : Nat} (h : footS rb (V.cut rb) k) : footS rb V k := by
  rcases h with x | x | x | x
  · exact .inl x
  · exact .inr (.inl x)
  · exact .inr (.inr (.inl x))
  · exact .inl (foot_cut x)

/-! ### events -/
def eHd : Strm.E1 → Hd
  | .head h _ _ => h
  | _ => {}
def eData : Strm.E1 → Bs
  | .body d => d
  | _ => []
def eKind : Strm.E1 → Int
  | .head _ _ _ => 1
  | .body _ => 2
  | .fin => 3
def eFr : Strm.E1 → Nat
  | .head _ f _ => f
  | _ => 0
def eLn : Strm.E1 → Nat
  | .head _ _ n => n
  | _ => 0
/-- an event, its lists -/
structure EvE where
  x : Strm.E1
  fv : Value
  dv : Value
def EvE.cells (e : EvE) : List Value := [.int .i64 (eKind e.x), .bool (eHd e.x).rq, .string ⟨(eHd e.x).m.toArray⟩, .string ⟨(eHd e.x).t.toArray⟩, .int .i64 ((eHd e.x).st : Int), .string ⟨(eHd e.x).rs.toArray⟩, .int .i64 ((eHd e.x).mn : Int), e.fv, .int .i64 (eFr e.x : Int), .int .i64 (eLn e.x : Int), e.dv]
def EvE.own (e : EvE) (k : Nat) : Prop := e.fv.ownBlock = some k ∨ e.dv.ownBlock = some k
structure EvR (w : World) (base : Nat) (e : EvE) : Prop where
  f : Row w base 2 e.fv (eHd e.x).fs.length (fieldsV (flB (eHd e.x).fs))
  d : RowB w base e.dv (eData e.x)
  x : ∀ k, e.fv.ownBlock = some k → e.dv.ownBlock ≠ some k
def ownE (l : List EvE) (k : Nat) : Prop := ∃ e ∈ l, e.own k
structure Outs (w : World) (base : Nat) (v : Value) (l : List EvE) : Prop where
  row : Row w base 11 v l.length (l.flatMap EvE.cells)
  el : ∀ e ∈ l, EvR w base e
  apart : l.Pairwise fun a b => ∀ k, a.own k → ¬ b.own k
  x : ∀ k, v.ownBlock = some k → ¬ ownE l k
section
variable {w w' w1 : World} {base base' : Nat} {v v' : Value} {l m : List EvE} {e : EvE} {S : Nat → Prop} {k : Nat}
theorem EvR.chg (h : EvR w base e) (hc : Chg S w w') (hs : ∀ k, e.own k → ¬ S k) : EvR w' base e :=
  ⟨h.f.chg hc (fun k hk => hs k (.inl hk)), Row.chg h.d hc (fun k hk => hs k (.inr hk)), h.x⟩
theorem EvR.mono (h : EvR w base e) (hb : base' ≤ base) : EvR w base' e := ⟨h.f.mono hb, Row.mono h.d hb, h.x⟩
theorem EvR.lt (h : EvR w base e) (hk : e.own k) : base ≤ k ∧ k < w.heap.size := by
  rcases hk with x | x
  · exact h.f.lt k x
  · exact Row.lt h.d k x
theorem Outs.nil (w : World) (base : Nat) : Outs w base (.slice none 0 0) [] := ⟨Row.nil _ _ _, fun _ h => (List.not_mem_nil h).elim, List.Pairwise.nil, fun k hk => (nil_own hk).elim⟩
theorem Outs.chg (h : Outs w base v l) (hc : Chg S w w') (hs : ∀ k, v.ownBlock = some k ∨ ownE l k → ¬ S k) : Outs w' base v l :=
  ⟨h.row.chg hc (fun k hk => hs k (.inl hk)), fun e he => (h.el e he).chg hc (fun k hk => hs k (.inr ⟨e, he, hk⟩)), h.apart, h.x⟩
theorem Outs.below (h : Outs w base v l) (hb : Below w.heap.size w w') : Outs w' base v l :=
  h.chg (S := fun _ => False) ((Chg.refl (fun _ => False) w).then_below hb) (fun _ _ e => e)
theorem Outs.mono (h : Outs w base v l) (hb : base' ≤ base) : Outs w base' v l := ⟨h.row.mono hb, fun e he => (h.el e he).mono hb, h.apart, h.x⟩
theorem Outs.lt (h : Outs w base v l) (hk : v.ownBlock = some k ∨ ownE l k) : base ≤ k ∧ k < w.heap.size := by
  rcases hk with x | ⟨e, he, x⟩
  · exact h.row.lt k x
  · exact (h.el e he).lt x
theorem ownE_app : ownE (l ++ m) k ↔ ownE l k ∨ ownE m k := by
  unfold ownE
  constructor
  · rintro ⟨e, he, h⟩
    rcases List.mem_append.1 he with he | he
    · exact .inl ⟨e, he, h⟩
    · exact .inr ⟨e, he, h⟩
  · rintro (⟨e, he, h⟩ | ⟨e, he, h⟩)
    · exact ⟨e, List.mem_append_left _ he, h⟩
    · exact ⟨e, List.mem_append_right _ he, h⟩
/-- more events, of a later call, are taken in -/
theorem Outs.grow {v2 : Value} (h : Outs w base v l) (h2 : Outs w base v2 m) (hx : ∀ k, ownE m k → ¬ (v.ownBlock = some k ∨ ownE l k)) (hg : w.grownBy w' v.ownBlock) (hr : Row w' base 11 v' (l.length + m.length) (l.flatMap EvE.cells ++ m.flatMap EvE.cells)) (ho : v'.ownBlock = v.ownBlock ∨ v'.ownBlock = some w.heap.size) : Outs w' base v' (l ++ m) := by
  have hc : Chg (fun k => v.ownBlock = some k) w w' := (Chg.refl _ _).grown hg (fun k _ hk => hk)
  refine ⟨by rw [List.length_append, List.flatMap_append]; exact hr, ?_, ?_, ?_⟩
  · intro e he
    rcases List.mem_append.1 he with he | he
    · exact (h.el e he).chg hc (fun k hk hk2 => h.x k hk2 ⟨e, he, hk⟩)
    · exact (h2.el e he).chg hc (fun k hk hk2 => hx k ⟨e, he, hk⟩ (.inl hk2))
  · rw [List.pairwise_append]
    exact ⟨h.apart, h2.apart, fun a ha b hb k hk hk2 => hx k ⟨b, hb, hk2⟩ (.inr ⟨a, ha, hk⟩)⟩
  · intro k hk hk2
    rcases ho with e | e
    · rw [e] at hk
      rcases ownE_app.1 hk2 with x | x
      · exact h.x k hk x
      · exact hx k x (.inl hk)
    · rw [e] at hk
      injection hk with hk
      rcases ownE_app.1 hk2 with x | x
      · have := (h.lt (.inr x)).2; omega
      · have := (h2.lt (.inr x)).2; omega
end

/-- what a call of the state leaves: r is what callS says -/
def CallPost (w : World) (base rb : Nat) (V : SV) (A : Option Addr) (n c : Nat) (q : Nat) (r : List Strm.E1 × Nat × Strm.S × Nat) (e : Ending) (w' : World) : Prop :=
  ∃ ev rest nx L V', e = .returned (.tuple #[ev, rest, nx, .int .i64 (r.2.2.2 : Int)]) ∧ L.map EvE.x = r.1 ∧ Outs w' w.heap.size ev L ∧ SMem w' base rb r.2.2.1 V' q ∧
    (r.2.2.2 = 0 → nx = nowV rb r.2.2.1.ph ∧ (rest = .slice none 0 0 ∧ r.2.1 = n ∨ rest = .slice A n c ∧ r.2.1 = 0 ∨ rest = .slice (if c = r.2.1 then A else A.map (·.add r.2.1)) (n - r.2.1) (c - r.2.1))) ∧
    Chg (footS rb V) w w' ∧ (∀ k, footS rb V' k → footS rb V k ∨ w.heap.size ≤ k) ∧ (∀ k, ev.ownBlock = some k ∨ ownE L k → ¬ footS rb V' k)
end Go.Proofs.YtklmpadcfioefaaGreatDoor
