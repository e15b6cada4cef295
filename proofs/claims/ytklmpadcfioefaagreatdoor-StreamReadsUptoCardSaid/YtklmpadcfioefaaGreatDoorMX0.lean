/- A chunk reader behind a change elsewhere. No condition. | A reader of streams and its events, in memory. No condition. | The steps of a reader of streams: data, end, rest, length, chunked. Conditions: sizes, the world's shape. | The steps of a reader of streams that read a length and chunks. Conditions: sizes, the world's shape. | The step of a reader of streams that reads chunks. Conditions: sizes, the world's shape. | bytes.Index, and which error a head that is too long has. Conditions: sizes, the world's shape. | chunk's Decode. Conditions: sizes, the world's shape. | the reference's Read: any bytes are read as just what 'readOf' says. Condition: sizes. -/
import Derived.Test.YtklmpadcfioefaaGreatDoorFeed
import Derived.Test.YtklmpadcfioefaaGreatDoorMX1
import Derived.Lib.LazyBuf
import Derived.Outline
import Derived.Test.YtklmpadcfioefaaGreatDoorShelf
import Derived.Lib.SlBytesConst
import Derived.Test.YtklmpadcfioefaaGreatDoorMA
import Derived.Test.YtklmpadcfioefaaGreatDoorMB
import Derived.Test.YtklmpadcfioefaaGreatDoorParse
import Derived.IntWalk
import Derived.OpenShut
import Derived.Lib.SmallJoins
import Derived.Deep.DeepCutAuto
import Derived.Deep.RegionHeld3
import Derived.Test.YtklmpadcfioefaaGreatDoorQField
import Derived.Deep.AppendLies
import Derived.Deep.RegionLaw
namespace Go.Proofs.YtklmpadcfioefaaGreatDoor
open Go.RowKit

theorem Rdr.chgd {S : Nat → Prop} {w w' : World} {base b : Nat} {s : Chunk.St} {vl vt : Value} (h : Rdr w base b s vl vt) (hc : Chg S w w') (hS : ∀ k, foot b vl vt k → ¬ S k) : Rdr w' base b s vl vt :=
  ⟨h.mid.var.chg hc (hS b (Or.inl rfl)), h.mid.line.chg hc (fun k hk => hS k (Or.inr (Or.inl hk))), h.mid.tr.chg hc (fun k hk => hS k (Or.inr (Or.inr hk))), Chg.refl _ _, Or.inl rfl, h.mid.nl, h.mid.nt, h.mid.lt, h.mid.le⟩
theorem Rdr.foot_in {w : World} {base b : Nat} {s : Chunk.St} {vl vt : Value} (h : Rdr w base b s vl vt) : ∀ k, foot b vl vt k → base ≤ k ∧ k < w.heap.size :=
  fun k hk => ⟨h.mid.foot_ge k hk, h.mid.foot_lt k hk⟩
theorem rdr_new2 (w : World) : Rdr (w.alloc (.cells #[.int .i64 0, .int .i64 0, .slice none 0 0, .int .i64 0, .int .i64 0, .int .i64 0, .int .i64 0, .slice none 0 0] 111)) w.heap.size w.heap.size {} (.slice none 0 0) (.slice none 0 0) :=
  ⟨Var.new w 111 [.int .i64 0, .int .i64 0, .slice none 0 0, .int .i64 0, .int .i64 0, .int .i64 0, .int .i64 0, .slice none 0 0], Row.nil _ _ _, Row.nil _ _ _, Chg.refl _ _, Or.inl rfl, by simp [Value.ownBlock], by simp [Value.ownBlock], fun k hk => by simp [Value.ownBlock] at hk, Nat.le_refl _⟩
theorem Rdr.mono2 {w : World} {base base' b : Nat} {s : Chunk.St} {vl vt : Value} (h : Rdr w base b s vl vt) (hb : base' ≤ base) : Rdr w base' b s vl vt :=
  ⟨h.mid.var, h.mid.line.mono hb, h.mid.tr.mono hb, Chg.refl _ _, Or.inl rfl, h.mid.nl, h.mid.nt, h.mid.lt, Nat.le_trans hb h.mid.le⟩
end Go.Proofs.YtklmpadcfioefaaGreatDoor

namespace Go.Proofs.YtklmpadcfioefaaGreatDoor
open Go.RowKit

def nowF : Nat → Nat
  | 0 => 29
  | 1 => 55
  | 2 => 56
  | 3 => 57
  | _ => 58
def nowV (rb ph : Nat) : Value := .func (.func (nowF ph)) #[.pointer (some ⟨rb, 0, none⟩)] #[]
/-- what of a reader lies in memory: its methods, its block, its chunk reader with what that has -/
structure SV where
  mv : Value
  kv : Value
  bv : Value
  cb : Nat
  vl : Value
  vt : Value
def footS (rb : Nat) (V : SV) (k : Nat) : Prop := k = rb ∨ V.mv.ownBlock = some k ∨ V.kv.ownBlock = some k ∨ foot V.cb V.vl V.vt k
def rCells (rb : Nat) (s : Strm.S) (V : SV) (q : Nat) : List Value := [.bool s.rq, V.mv, nowV rb q, V.kv, .int .i64 (s.left : Int), V.bv, .int .i64 (s.fr : Int), .bool s.win, .bool s.due, .int .i64 (s.dead : Int)]
/-- the reader s at rb, its next step being q -/
structure SMem (w : World) (base rb : Nat) (s : Strm.S) (V : SV) (q : Nat) : Prop where
  le : base ≤ rb
  var : Var w rb 72 (rCells rb s V q)
  ms : Row w base 1 V.mv s.ms.length (strsV s.ms)
  blk : RowB w base V.kv s.blk
  nil : s.ph ≠ 0 → V.kv = .slice none 0 0
  on : s.ph = 3 → V.bv = .pointer (some ⟨V.cb, 0, none⟩) ∧ Rdr w base V.cb s.body V.vl V.vt
  off : s.ph ≠ 3 → V.cb = rb ∧ V.vl = .slice none 0 0 ∧ V.vt = .slice none 0 0
  a1 : ∀ k, V.mv.ownBlock = some k → k ≠ rb ∧ V.kv.ownBlock ≠ some k ∧ ¬ foot V.cb V.vl V.vt k
  a2 : ∀ k, V.kv.ownBlock = some k → k ≠ rb ∧ ¬ foot V.cb V.vl V.vt k
  a3 : s.ph = 3 → ¬ foot V.cb V.vl V.vt rb
theorem nil_own {k : Nat} : (Value.slice none 0 0).ownBlock = some k → False := fun h => by simp [Value.ownBlock] at h
section
variable {w w' : World} {base rb q : Nat} {s : Strm.S} {V : SV} {S : Nat → Prop}
theorem SMem.lt (h : SMem w base rb s V q) : ∀ k, footS rb V k → base ≤ k ∧ k < w.heap.size := by
  intro k hk
  rcases hk with x | x | x | x
  · subst x; exact ⟨h.le, h.var.lt⟩
  · exact h.ms.lt k x
  · exact Row.lt h.blk k x
  · by_cases h3 : s.ph = 3
    · obtain ⟨_, hr⟩ := h.on h3
      exact hr.foot_in k x
    · obtain ⟨e1, e2, e3⟩ := h.off h3
      rw [e1, e2, e3] at x
      rcases x with x | x | x
      · subst x; exact ⟨h.le, h.var.lt⟩
      · exact (nil_own x).elim
      · exact (nil_own x).elim
theorem SMem.chg (h : SMem w base rb s V q) (hc : Chg S w w') (hs : ∀ k, footS rb V k → ¬ S k) : SMem w' base rb s V q :=
  ⟨h.le, h.var.chg hc (hs _ (.inl rfl)), h.ms.chg hc (fun k hk => hs k (.inr (.inl hk))), Row.chg h.blk hc (fun k hk => hs k (.inr (.inr (.inl hk)))), h.nil,
    fun h3 => ⟨(h.on h3).1, (h.on h3).2.chgd hc (fun k hk => hs k (.inr (.inr (.inr hk))))⟩, h.off, h.a1, h.a2, h.a3⟩
theorem SMem.below (h : SMem w base rb s V q) (hb : Below w.heap.size w w') : SMem w' base rb s V q :=
  h.chg (S := fun _ => False) ((Chg.refl (fun _ => False) w).then_below hb) (fun _ _ e => e)
theorem SMem.cell (h : SMem w base rb s V q) {j : Nat} {v : Value} (hj : (rCells rb s V q)[j]? = some v) : w.cell? ⟨rb, j, none⟩ = some v := h.var.cell hj
end

theorem SMem.put {w : World} {base rb q : Nat} {s : Strm.S} {V : SV} (h : SMem w base rb s V q) {j : Nat} {u : Value} {t : Strm.S} {q' : Nat} (hc : rCells rb t V q' = (rCells rb s V q).set j u) (hms : t.ms = s.ms) (hb : t.blk = s.blk) (hy : t.body = s.body) (hp : t.ph = 3 ↔ s.ph = 3) (hn : t.ph ≠ 0 → V.kv = .slice none 0 0) :
    SMem (w.setCell ⟨rb, j, none⟩ u) base rb t V q' := by
  have hcg : Chg (fun k => k = rb) w (w.setCell ⟨rb, j, none⟩ u) := (show Chg (fun k => k = rb) w w from Chg.refl _ w).setCell (p := ⟨rb, j, none⟩) (fun _ => rfl) u
  refine ⟨h.le, by rw [hc]; exact h.var.set j u, by rw [hms]; exact h.ms.chg hcg (fun k hk => (h.a1 k hk).1), by rw [hb]; exact Row.chg h.blk hcg (fun k hk => (h.a2 k hk).1), hn, fun h3 => ?_, fun h3 => h.off (fun e => h3 (hp.2 e)), h.a1, h.a2, fun h3 => h.a3 (hp.1 h3)⟩
  obtain ⟨e1, e2⟩ := h.on (hp.1 h3)
  refine ⟨e1, ?_⟩
  rw [hy]
  exact e2.chgd hcg (fun k hk e => h.a3 (hp.1 h3) (by rw [← e]; exact hk))
def SV.cut (V : SV) (rb : Nat) : SV := { V with cb := rb, vl := .slice none 0 0, vt := .slice none 0 0 }
theorem foot_cut {rb k : Nat} (h : foot rb (.slice none 0 0) (.slice none 0 0) k) : k = rb := by
  rcases h with x | x | x
  · exact x
  · exact (nil_own x).elim
  · exact (nil_own x).elim
theorem SMem.rephase {w : World} {base rb q : Nat} {s : Strm.S} {V : SV} (h : SMem w base rb s V q) {x : Nat} (hx : x ≠ 3) (hn : x ≠ 0 → V.kv = .slice none 0 0) : SMem w base rb { s with ph := x } (V.cut rb) q :=
  ⟨h.le, h.var, h.ms, h.blk, hn, fun e => absurd e hx, fun _ => ⟨rfl, rfl, rfl⟩, fun k hk => ⟨(h.a1 k hk).1, (h.a1 k hk).2.1, fun f => (h.a1 k hk).1 (foot_cut f)⟩, fun k hk => ⟨(h.a2 k hk).1, fun f => (h.a2 k hk).1 (foot_cut f)⟩, fun e => absurd e hx⟩
theorem footS_cut {rb : Nat} {V : SV} {k : Nat} (h : footS rb (V.cut rb) k) : footS rb V k := by
  rcases h with x | x | x | x
  · exact .inl x
  · exact .inr (.inl x)
  · exact .inr (.inr (.inl x))
  · exact .inl (foot_cut x)

/-! ### events -/
def eHd : Strm.E1 → Hd
  | .head h _ _ => h
  | _ => {}
def eData : Strm.E1 → Bs
  | .body d => d
  | _ => []
def eKind : Strm.E1 → Int
  | .head _ _ _ => 1
  | .body _ => 2
  | .fin => 3
def eFr : Strm.E1 → Nat
  | .head _ f _ => f
  | _ => 0
def eLn : Strm.E1 → Nat
  | .head _ _ n => n
  | _ => 0
/-- an event, its lists -/
structure EvE where
  x : Strm.E1
  fv : Value
  dv : Value
def EvE.cells (e : EvE) : List Value := [.int .i64 (eKind e.x), .bool (eHd e.x).rq, .string ⟨(eHd e.x).m.toArray⟩, .string ⟨(eHd e.x).t.toArray⟩, .int .i64 ((eHd e.x).st : Int), .string ⟨(eHd e.x).rs.toArray⟩, .int .i64 ((eHd e.x).mn : Int), e.fv, .int .i64 (eFr e.x : Int), .int .i64 (eLn e.x : Int), e.dv]
def EvE.own (e : EvE) (k : Nat) : Prop := e.fv.ownBlock = some k ∨ e.dv.ownBlock = some k
structure EvR (w : World) (base : Nat) (e : EvE) : Prop where
  f : Row w base 2 e.fv (eHd e.x).fs.length (fieldsV (flB (eHd e.x).fs))
  d : RowB w base e.dv (eData e.x)
  x : ∀ k, e.fv.ownBlock = some k → e.dv.ownBlock ≠ some k
def ownE (l : List EvE) (k : Nat) : Prop := ∃ e ∈ l, e.own k
structure Outs (w : World) (base : Nat) (v : Value) (l : List EvE) : Prop where
  row : Row w base 11 v l.length (l.flatMap EvE.cells)
  el : ∀ e ∈ l, EvR w base e
  apart : l.Pairwise fun a b => ∀ k, a.own k → ¬ b.own k
  x : ∀ k, v.ownBlock = some k → ¬ ownE l k
section
variable {w w' w1 : World} {base base' : Nat} {v v' : Value} {l m : List EvE} {e : EvE} {S : Nat → Prop} {k : Nat}
theorem EvR.chg (h : EvR w base e) (hc : Chg S w w') (hs : ∀ k, e.own k → ¬ S k) : EvR w' base e :=
  ⟨h.f.chg hc (fun k hk => hs k (.inl hk)), Row.chg h.d hc (fun k hk => hs k (.inr hk)), h.x⟩
theorem EvR.mono (h : EvR w base e) (hb : base' ≤ base) : EvR w base' e := ⟨h.f.mono hb, Row.mono h.d hb, h.x⟩
theorem EvR.lt (h : EvR w base e) (hk : e.own k) : base ≤ k ∧ k < w.heap.size := by
  rcases hk with x | x
  · exact h.f.lt k x
  · exact Row.lt h.d k x
theorem Outs.nil (w : World) (base : Nat) : Outs w base (.slice none 0 0) [] := ⟨Row.nil _ _ _, fun _ h => (List.not_mem_nil h).elim, List.Pairwise.nil, fun k hk => (nil_own hk).elim⟩
theorem Outs.chg (h : Outs w base v l) (hc : Chg S w w') (hs : ∀ k, v.ownBlock = some k ∨ ownE l k → ¬ S k) : Outs w' base v l :=
  ⟨h.row.chg hc (fun k hk => hs k (.inl hk)), fun e he => (h.el e he).chg hc (fun k hk => hs k (.inr ⟨e, he, hk⟩)), h.apart, h.x⟩
theorem Outs.below (h : Outs w base v l) (hb : Below w.heap.size w w') : Outs w' base v l :=
  h.chg (S := fun _ => False) ((Chg.refl (fun _ => False) w).then_below hb) (fun _ _ e => e)
theorem Outs.mono (h : Outs w base v l) (hb : base' ≤ base) : Outs w base' v l := ⟨h.row.mono hb, fun e he => (h.el e he).mono hb, h.apart, h.x⟩
theorem Outs.lt (h : Outs w base v l) (hk : v.ownBlock = some k ∨ ownE l k) : base ≤ k ∧ k < w.heap.size := by
  rcases hk with x | ⟨e, he, x⟩
  · exact h.row.lt k x
  · exact (h.el e he).lt x
theorem ownE_app : ownE (l ++ m) k ↔ ownE l k ∨ ownE m k := by
  unfold ownE
  constructor
  · rintro ⟨e, he, h⟩
    rcases List.mem_append.1 he with he | he
    · exact .inl ⟨e, he, h⟩
    · exact .inr ⟨e, he, h⟩
  · rintro (⟨e, he, h⟩ | ⟨e, he, h⟩)
    · exact ⟨e, List.mem_append_left _ he, h⟩
    · exact ⟨e, List.mem_append_right _ he, h⟩
/-- more events, of a later call, are taken in -/
theorem Outs.grow {v2 : Value} (h : Outs w base v l) (h2 : Outs w base v2 m) (hx : ∀ k, ownE m k → ¬ (v.ownBlock = some k ∨ ownE l k)) (hg : w.grownBy w' v.ownBlock) (hr : Row w' base 11 v' (l.length + m.length) (l.flatMap EvE.cells ++ m.flatMap EvE.cells)) (ho : v'.ownBlock = v.ownBlock ∨ v'.ownBlock = some w.heap.size) : Outs w' base v' (l ++ m) := by
  have hc : Chg (fun k => v.ownBlock = some k) w w' := (Chg.refl _ _).grown hg (fun k _ hk => hk)
  refine ⟨by rw [List.length_append, List.flatMap_append]; exact hr, ?_, ?_, ?_⟩
  · intro e he
    rcases List.mem_append.1 he with he | he
    · exact (h.el e he).chg hc (fun k hk hk2 => h.x k hk2 ⟨e, he, hk⟩)
    · exact (h2.el e he).chg hc (fun k hk hk2 => hx k ⟨e, he, hk⟩ (.inl hk2))
  · rw [List.pairwise_append]
    exact ⟨h.apart, h2.apart, fun a ha b hb k hk hk2 => hx k ⟨b, hb, hk2⟩ (.inr ⟨a, ha, hk⟩)⟩
  · intro k hk hk2
    rcases ho with e | e
    · rw [e] at hk
      rcases ownE_app.1 hk2 with x | x
      · exact h.x k hk x
      · exact hx k x (.inl hk)
    · rw [e] at hk
      injection hk with hk
      rcases ownE_app.1 hk2 with x | x
      · have := (h.lt (.inr x)).2; omega
      · have := (h2.lt (.inr x)).2; omega
end

/-- what a call of the state leaves: r is what callS says -/
def CallPost (w : World) (base rb : Nat) (V : SV) (A : Option Addr) (n c : Nat) (q : Nat) (r : List Strm.E1 × Nat × Strm.S × Nat) (e : Ending) (w' : World) : Prop :=
  ∃ ev rest nx L V', e = .returned (.tuple #[ev, rest, nx, .int .i64 (r.2.2.2 : Int)]) ∧ L.map EvE.x = r.1 ∧ Outs w' w.heap.size ev L ∧ SMem w' base rb r.2.2.1 V' q ∧
    (r.2.2.2 = 0 → nx = nowV rb r.2.2.1.ph ∧ (rest = .slice none 0 0 ∧ r.2.1 = n ∨ rest = .slice A n c ∧ r.2.1 = 0 ∨ rest = .slice (if c = r.2.1 then A else A.map (·.add r.2.1)) (n - r.2.1) (c - r.2.1))) ∧
    Chg (footS rb V) w w' ∧ (∀ k, footS rb V' k → footS rb V k ∨ w.heap.size ≤ k) ∧ (∀ k, ev.ownBlock = some k ∨ ownE L k → ¬ footS rb V' k)
end Go.Proofs.YtklmpadcfioefaaGreatDoor

namespace Go.Proofs.YtklmpadcfioefaaGreatDoor
open Go.RowKit

theorem Row.of_block {w : World} {b base sz n : Nat} {t : TypeId} {cs : Array Value} (h : w.heap[b]? = some (.cells cs t (0, 0))) (hb : base ≤ b) (hl : cs.size = n * sz) (hn : n ≤ maxLen) : Row w base sz (.slice (some ⟨b, 0, none⟩) n n) n cs.toList := by
  refine ⟨by simpa using hl, .inr ⟨b, 0, n, cs, t, (0, 0), rfl, hb, h, Nat.le_refl _, hn, by omega, by intro j _ _; simp, ?_⟩⟩
  rw [List.drop_zero, ← hl]
  exact List.take_of_length_le (by simp)
set_option maxHeartbeats 1000000 in
theorem sclone_any (A : Option Addr) (n c : Nat) (l : Bs) (w : World) (hA : A = none → n = 0 ∧ c = 0) (hrd : Rd w w.heap.size 1 A n (bytesV l)) (hn : n ≤ 1000000000) :
    Calls Tryz.prog 131 #[.slice A n c] w fun e w' => ∃ v, e = .returned v ∧ RowB w' w.heap.size v l ∧ Below w.heap.size w w' := by
  have hlen : l.length = n := by have := hrd.1; rw [bytesV_len] at this; omega
  obtain ⟨f0, hf0, fz0, fz1, fz2⟩ := info_parts infoByte
  cases A with
  | none =>
    obtain ⟨rfl, rfl⟩ := hA rfl
    have h0 : l = [] := List.eq_nil_of_length_eq_zero hlen
    subst h0
    have hq := fun (W : World) (a : Option Addr) (l c : Nat) => Go.run_eql_slice_nil (P := Tryz.prog) W 26 5 a l c Tryz.underlying26
    go_enter Tryz.func131, Tryz.ntmps131
    go_wp2
    go_ret
    exact ⟨_, rfl, RowB.nil _ _, Below.refl _ _⟩
  | some a =>
    have hq := fun (W : World) (a : Option Addr) (l c : Nat) => Go.run_eql_slice_nil (P := Tryz.prog) W 26 5 a l c Tryz.underlying26
    have hrd1 := (hrd.alloc (Nat.le_refl _) (.cells #[] 5)).more (B' := (w.alloc (.cells #[] 5)).heap.size) (by simp)
    have HL := Lib.hid hlen
    clear hlen
    go_enter Tryz.func131, Tryz.ntmps131
    go_wp2_with (first
      | (at_builtin; go_must (refine wpList_app _ rfl (.tmp 5) (.tmp 6) 26 26 rfl w.heap.size 5 f0 (.int .u8 0) 1 1 Tryz.underlying26 hf0 fz0 fz1 fz2 rfl (.slice (some ⟨w.heap.size, 0, none⟩) 0 0) 0 [] (by rfl) (empty_row w _ 1) _ n (bytesV l) (by rfl) (Src.slice Tryz.underlying26 hrd1 (fun e => by cases e) (bytesV_one l)) (by omega) (by omega) (by omega) (by simp) ?_); go_must (intro v2 w2 hrow2 hg2 hv2; rw [List.nil_append, Nat.zero_add] at hrow2))
      | fail)
    go_ret
    refine ⟨_, rfl, ?_, Below.app ((Below.refl _ _).alloc (Nat.le_refl _) _) (empty_row w 5 1) hg2 (Nat.le_refl _) (by simp)⟩
    have hL := HL.out
    subst hL
    exact hrow2

theorem Outs.one {W : World} {base : Nat} {e : EvE} (hr : EvR W base e) (hw : base ≤ W.heap.size) (hlt : ∀ k, e.own k → k < W.heap.size) : Outs (W.alloc (.cells e.cells.toArray 58)) base (.slice (some ⟨W.heap.size, 0, none⟩) 1 1) [e] := by
  have hb : Below W.heap.size W (W.alloc (.cells e.cells.toArray 58)) := (Below.refl _ _).alloc (Nat.le_refl _) _
  refine ⟨?_, ?_, List.pairwise_singleton _ _, ?_⟩
  · have h := Row.of_block (w := W.alloc (.cells e.cells.toArray 58)) (b := W.heap.size) (base := base) (sz := 11) (n := 1) (t := 58) (cs := e.cells.toArray) (heap_alloc_new W _) hw (by rfl) (by decide)
    simpa using h
  · intro f hf
    rw [List.mem_singleton.1 hf]
    exact hr.chg (S := fun _ => False) ((Chg.refl (fun _ => False) W).then_below hb) (fun _ _ h => h)
  · rintro k hk ⟨f, hf, hk2⟩
    rw [List.mem_singleton.1 hf] at hk2
    simp [Value.ownBlock] at hk
    have := hlt k hk2
    omega
theorem evr_data {w : World} {base : Nat} {dv : Value} {d : Bs} (h : RowB w base dv d) : EvR w base ⟨.body d, .slice none 0 0, dv⟩ := ⟨Row.nil _ _ _, h, fun k hk => (nil_own hk).elim⟩
theorem evr_fin {w : World} {base : Nat} : EvR w base ⟨.fin, .slice none 0 0, .slice none 0 0⟩ := ⟨Row.nil _ _ _, RowB.nil _ _, fun k hk => (nil_own hk).elim⟩
set_option maxHeartbeats 1000000 in
theorem sdata_any (A : Option Addr) (n c : Nat) (l : Bs) (w : World) (hA : A = none → n = 0) (hrd : Rd w w.heap.size 1 A n (bytesV l)) (hn : n ≤ 1000000000) :
    Calls Tryz.prog 94 #[.slice A n c] w fun e w' => ∃ ev L, e = .returned ev ∧ L.map EvE.x = Strm.data l ∧ Outs w' w.heap.size ev L ∧ Below w.heap.size w w' := by
  have hlen : l.length = n := by have := hrd.1; rw [bytesV_len] at this; omega
  by_cases h0 : n = 0
  · subst h0
    have hl : l = [] := List.eq_nil_of_length_eq_zero hlen
    clear hlen hA hrd
    go_enter Tryz.func94, Tryz.ntmps94
    go_wp2
    go_ret
    exact ⟨_, [], rfl, by rw [hl]; rfl, Outs.nil _ _, Below.refl _ _⟩
  · have hl : l ≠ [] := fun e => h0 (by rw [← hlen, e]; rfl)
    have e0 : ((n : Int) == 0) = false := by simp; omega
    have HC := Lib.hid (sclone_any A n c l w (fun e => absurd (hA e) h0) hrd hn)
    have HL := Lib.hid hl
    clear hlen hA hrd h0 hl
    go_enter Tryz.func94, Tryz.ntmps94
    go_wp2_with (first
      | (go_at_call 131; go_must (refine HC.out.mono ?_; rintro _ w1 ⟨v, rfl, hrow, hb⟩; obtain ⟨Av, cv, rfl, _, _, _, _⟩ := Row.form hrow))
      | fail)
    go_ret
    refine ⟨_, [⟨.body l, .slice none 0 0, .slice Av l.length cv⟩], rfl, by unfold Strm.data; rw [if_neg HL.out]; rfl, Outs.one (evr_data hrow) hb.size ?_, hb.alloc hb.size _⟩
    intro k hk
    rcases hk with x | x
    · exact (nil_own x).elim
    · exact (Row.lt hrow k x).2
theorem call_one {w W : World} {base rb q : Nat} {V V' : SV} {t : Strm.S} {e : EvE} (hsz : w.heap.size ≤ W.heap.size) (hm : SMem W base rb t V' q) (hr : EvR W w.heap.size e) (hch : Chg (footS rb V) w W) (hx : ∀ k, e.own k → ¬ footS rb V' k) :
    Outs (W.alloc (.cells e.cells.toArray 58)) w.heap.size (.slice (some ⟨W.heap.size, 0, none⟩) 1 1) [e] ∧ SMem (W.alloc (.cells e.cells.toArray 58)) base rb t V' q ∧ Chg (footS rb V) w (W.alloc (.cells e.cells.toArray 58)) ∧
      (∀ k, (Value.slice (some ⟨W.heap.size, 0, none⟩) 1 1).ownBlock = some k ∨ ownE [e] k → ¬ footS rb V' k) := by
  refine ⟨Outs.one hr hsz (fun k hk => (hr.lt hk).2), hm.below ((Below.refl _ _).alloc (Nat.le_refl _) _), hch.alloc _, fun k hk => ?_⟩
  rcases hk with x | ⟨f, hf, x⟩
  · simp [Value.ownBlock] at x
    intro y
    have := (hm.lt k y).2
    omega
  · rw [List.mem_singleton.1 hf] at x
    exact hx k x
set_option maxHeartbeats 1000000 in
theorem send_any {w : World} {base rb : Nat} {s : Strm.S} {V : SV} (h : SMem w base rb s V 1) (hp : s.ph = 1) (A : Option Addr) (n c : Nat) (l : Bs) :
    Calls Tryz.prog 55 #[.pointer (some ⟨rb, 0, none⟩), .slice A n c] w (CallPost w base rb V A n c 1 (Strm.callS s l)) := by
  have e : Strm.callS s l = ([.fin], 0, { s with win := false, due := false, ph := 0 }, 0) := by unfold Strm.callS; rw [if_neg (by omega), if_pos hp]
  rw [e]
  have d7 := h.cell (j := 7) rfl
  have d8 := h.cell (j := 8) rfl
  have f7 := h.var.frozen 7
  have f8 := h.var.frozen 8
  have hlt := h.var.lt
  have h1 := (h.put (j := 7) (u := .bool false) (t := { s with win := false }) (q' := 1) rfl rfl rfl rfl Iff.rfl h.nil)
  have h2 := (h1.put (j := 8) (u := .bool false) (t := { s with win := false, due := false }) (q' := 1) rfl rfl rfl rfl Iff.rfl h.nil).rephase (x := 0) (by decide) (fun e => absurd rfl e)
  have hc := ((show Chg (footS rb V) w w from Chg.refl _ w).setCell (p := ⟨rb, 7, none⟩) (fun _ => .inl rfl) (.bool false)).setCell (p := ⟨rb, 8, none⟩) (fun _ => .inl rfl) (.bool false)
  have hr := call_one (e := ⟨.fin, .slice none 0 0, .slice none 0 0⟩) hc.size h2 evr_fin hc (fun k hk => (hk.elim nil_own nil_own).elim)
  have HR := Lib.hid hr
  clear e h h1 h2 hp hc hr
  go_enter Tryz.func55, Tryz.ntmps55
  go_wp2
  refine bodyPost_ret (results_tmp4 rfl _ _ _) rfl ?_
  obtain ⟨r1, r2, r3, r4⟩ := HR.out
  rw [show ((w.setCell ⟨rb, 7, none⟩ (.bool false)).setCell ⟨rb, 8, none⟩ (.bool false)).heap.size = w.heap.size by simp] at r1 r4
  exact ⟨.slice (some ⟨w.heap.size, 0, none⟩) 1 1, .slice A n c, nowV rb 0, [⟨.fin, .slice none 0 0, .slice none 0 0⟩], V.cut rb, rfl, rfl, r1, r2, fun _ => ⟨rfl, .inr (.inl ⟨rfl, rfl⟩)⟩, r3, fun k hk => .inl (footS_cut hk), r4⟩
theorem call_list {w W : World} {base rb q : Nat} {V' : SV} {t : Strm.S} {ev : Value} {L : List EvE} {B : Nat} (hm : SMem w base rb t V' q) (hb : Below w.heap.size w W) (ho : Outs W B ev L) (hB : w.heap.size ≤ B) : SMem W base rb t V' q ∧ (∀ k, ev.ownBlock = some k ∨ ownE L k → ¬ footS rb V' k) := by
  refine ⟨hm.below hb, fun k hk y => ?_⟩
  have := (ho.lt hk).1
  have := (hm.lt k y).2
  omega
set_option maxHeartbeats 1000000 in
theorem srest_any {w : World} {base rb : Nat} {s : Strm.S} {V : SV} (h : SMem w base rb s V 4) (hp : s.ph = 4) (A : Option Addr) (n c : Nat) (l : Bs) (hA : A = none → n = 0) (hrd : Rd w w.heap.size 1 A n (bytesV l)) (hn : n ≤ 1000000000) :
    Calls Tryz.prog 58 #[.pointer (some ⟨rb, 0, none⟩), .slice A n c] w (CallPost w base rb V A n c 4 (Strm.callS s l)) := by
  have hlen : l.length = n := by have := hrd.1; rw [bytesV_len] at this; omega
  have e : Strm.callS s l = (Strm.data l, l.length, s, 0) := by unfold Strm.callS; rw [if_neg (by omega), if_neg (by omega), if_neg (by omega), if_neg (by omega)]
  rw [e, hlen]
  have HD := Lib.hid (sdata_any A n c l w hA hrd hn)
  have HM := Lib.hid h
  have HP := Lib.hid hp
  clear e h hp hrd hlen
  go_enter Tryz.func58, Tryz.ntmps58
  go_wp2_with (first
    | (go_at_call 94; go_must (refine HD.out.mono ?_; rintro _ w1 ⟨ev, L, rfl, hL, ho, hb⟩))
    | fail)
  refine bodyPost_ret (results_tmp4 rfl _ _ _) rfl ?_
  obtain ⟨r1, r2⟩ := call_list HM.out hb ho (Nat.le_refl _)
  exact ⟨ev, .slice none 0 0, nowV rb 4, L, V, rfl, hL, ho, r1, fun _ => ⟨by rw [HP.out], .inl ⟨rfl, rfl⟩⟩, Chg.of_below hb, fun k hk => .inl hk, r2⟩
end Go.Proofs.YtklmpadcfioefaaGreatDoor

namespace Go.Proofs.YtklmpadcfioefaaGreatDoor
open Go.RowKit

theorem Rd.apart {w w' : World} {B sz n : Nat} {A : Option Addr} {xs : List Value} {S : Nat → Prop} (h : Rd w B sz A n xs) (hc : Chg S w w') (hB : B ≤ w.heap.size) (hs : 0 < n → ∀ g o, A = some ⟨g, o, none⟩ → ¬ S g) : Rd w' w'.heap.size sz A n xs := by
  have hz := hc.size
  refine ⟨h.1, fun hn => ?_⟩
  obtain ⟨g, o, e, hb, hcell⟩ := h.2 hn
  exact ⟨g, o, e, by omega, fun j u hu => (World.cell?_of_block (w := w) (a := ⟨g, o + j, none⟩) (hc.block g (by omega) (hs hn g o e))).trans (hcell j u hu)⟩
def Sep (A : Option Addr) (n rb : Nat) (V : SV) : Prop := 0 < n → ∀ g o, A = some ⟨g, o, none⟩ → ¬ footS rb V g
theorem data_take (A : Option Addr) (n c m : Nat) (l : Bs) {w : World} (hA : A = none → n = 0) (hrd : Rd w w.heap.size 1 A n (bytesV l)) (hn : n ≤ 1000000000) (hm : m ≤ n) :
    Calls Tryz.prog 94 #[.slice A m c] w fun e w' => ∃ ev L, e = .returned ev ∧ L.map EvE.x = Strm.data (l.take m) ∧ Outs w' w.heap.size ev L ∧ Below w.heap.size w w' := by
  have h1 := hrd.pre (k := m) hm
  rw [Nat.mul_one, bytesV_take] at h1
  exact sdata_any A m c (l.take m) w (fun e => by have := hA e; omega) h1 (by omega)
set_option maxHeartbeats 1000000 in
theorem slength_part {w : World} {base rb : Nat} {s : Strm.S} {V : SV} (h : SMem w base rb s V 2) (hp : s.ph = 2) (hl : s.left < 1000000000000000) (A : Option Addr) (n c : Nat) (l : Bs) (hnc : n ≤ c) (hA : A = none → n = 0) (hrd : Rd w w.heap.size 1 A n (bytesV l)) (hn : n ≤ 1000000000) (hsp : Sep A n rb V) (hlt : n < s.left) :
    Calls Tryz.prog 56 #[.pointer (some ⟨rb, 0, none⟩), .slice A n c] w (CallPost w base rb V A n c 2 (Strm.callS s l)) := by
  have hlen : l.length = n := by have := hrd.1; rw [bytesV_len] at this; omega
  have e : Strm.callS s l = (Strm.data l, n, { s with left := s.left - n }, 0) := by
    unfold Strm.callS; rw [if_neg (by omega), if_neg (by omega), if_pos hp, hlen]
    dsimp only
    rw [if_neg (by omega), show min s.left n = n by omega, ← hlen, List.take_length]
  rw [e]
  have d4 := h.cell (j := 4) rfl
  have f4 := h.var.frozen 4
  have hrl := h.var.lt
  have h1 := (h.put (j := 4) (u := .int .i64 ((s.left - n : Nat) : Int)) (t := { s with left := s.left - n }) (q' := 2) rfl rfl rfl rfl Iff.rfl h.nil)
  have hc := (show Chg (footS rb V) w w from Chg.refl _ w).setCell (p := ⟨rb, 4, none⟩) (fun _ => .inl rfl) (.int .i64 ((s.left - n : Nat) : Int))
  have HD := Lib.hid (sdata_any A n c l _ hA (hrd.apart hc (Nat.le_refl _) hsp) hn)
  have HM := Lib.hid h1
  have HC := Lib.hid hc
  have HP := Lib.hid hp
  have hm : min (s.left : Int) (n : Int) = (n : Int) := by omega
  have hs : (s.left : Int) - (n : Int) = ((s.left - n : Nat) : Int) := by omega
  have hz : (((s.left - n : Nat) : Int) == 0) = false := by rw [beq_eq_false_iff_ne]; omega
  clear e h h1 hlen hc hrd hp
  go_enter Tryz.func56, Tryz.ntmps56
  go_wp2_with (first
    | (go_at_call 94; go_must (refine HD.out.mono ?_; rintro _ w1 ⟨ev, L, rfl, hL, ho, hb⟩))
    | fail)
  refine bodyPost_ret (results_tmp4 rfl _ _ _) rfl ?_
  obtain ⟨r1, r2⟩ := call_list HM.out hb ho (Nat.le_refl _)
  have hz := HC.out.size
  exact ⟨ev, .slice none 0 0, nowV rb 2, L, V, rfl, hL, ho.mono hz, r1, fun _ => ⟨by dsimp only; rw [HP.out], .inl ⟨rfl, rfl⟩⟩, HC.out.then_below hb, fun k hk => .inl hk, r2⟩
set_option maxHeartbeats 1000000 in
theorem slength_full {w : World} {base rb : Nat} {s : Strm.S} {V : SV} (h : SMem w base rb s V 2) (hp : s.ph = 2) (hl : s.left < 1000000000000000) (A : Option Addr) (n c : Nat) (l : Bs) (hnc : n ≤ c) (hA : A = none → n = 0) (hrd : Rd w w.heap.size 1 A n (bytesV l)) (hn : n ≤ 1000000000) (hsp : Sep A n rb V) (hlt : s.left ≤ n) :
    Calls Tryz.prog 56 #[.pointer (some ⟨rb, 0, none⟩), .slice A n c] w (CallPost w base rb V A n c 2 (Strm.callS s l)) := by
  have hlen : l.length = n := by have := hrd.1; rw [bytesV_len] at this; omega
  have e : Strm.callS s l = (Strm.data (l.take s.left), s.left, { s with left := 0, due := true, ph := 1 }, 0) := by
    unfold Strm.callS; rw [if_neg (by omega), if_neg (by omega), if_pos hp, hlen]
    dsimp only
    rw [if_pos (by omega), show min s.left n = s.left by omega]
  rw [e]
  have d4 := h.cell (j := 4) rfl
  have f4 := h.var.frozen 4
  have d8 := h.cell (j := 8) rfl
  have f8 := h.var.frozen 8
  have hrl := h.var.lt
  have h1 := (h.put (j := 4) (u := .int .i64 0) (t := { s with left := 0 }) (q' := 2) rfl rfl rfl rfl Iff.rfl h.nil)
  have h2 := (h1.put (j := 8) (u := .bool true) (t := { s with left := 0, due := true }) (q' := 2) rfl rfl rfl rfl Iff.rfl h.nil).rephase (x := 1) (by decide) (fun _ => h.nil (by omega))
  have hc := ((show Chg (footS rb V) w w from Chg.refl _ w).setCell (p := ⟨rb, 4, none⟩) (fun _ => .inl rfl) (.int .i64 0)).setCell (p := ⟨rb, 8, none⟩) (fun _ => .inl rfl) (.bool true)
  have HD := Lib.hid (data_take A n c s.left l hA (hrd.apart hc.drew (Nat.le_refl _) hsp) hn hlt)
  have HM := Lib.hid (h2.below ((Below.refl _ _).drew))
  have HC := Lib.hid hc
  have hm : min (s.left : Int) (n : Int) = (s.left : Int) := by omega
  have hs : (s.left : Int) - (s.left : Int) = 0 := by omega
  clear e h h1 h2 hlen hc hrd hp
  go_enter Tryz.func56, Tryz.ntmps56
  have hi0 : (0 : Int) ≤ (s.left : Int) := by omega
  have hi1 : (s.left : Int) ≤ (c : Int) := by omega
  have hi2 : (s.left : Int) ≤ (n : Int) := by omega
  have hi3 : s.left ≤ c := by omega
  go_upto_region 5 with (fail)
  refine wp_region_held_drew (S := (fun w' => w'.cell? ⟨rb, 0, none⟩ = some (.bool s.rq))) (by as_aux_lemma => kernel_rfl) ?_ (fun hHeld => ?_)
  · exact HM.out.cell (j := 0) rfl
  refine wpAnyH_take (i := 0) (v := ?_) (by simp only [List.getElem?_toArray, List.getElem?_cons_zero]; exact rfl) (by as_aux_lemma => kernel_rfl) (by as_aux_lemma => kernel_rfl) (by as_aux_lemma => kernel_rfl) (by exact fun _ _ _ h => h) (Or.inl ⟨by rfl, ?_⟩) (by assumption) ?_
  rotate_left
  · intro w hSw
    (try dsimp only at hSw)
    go_simp
    try with_reducible rfl
  (try simp only [Act.put, List.setIfInBounds_toArray, List.set_cons_zero, List.set_cons_succ])
  refine wpAnyH_take (i := 1) (v := ?_) (by simp only [List.getElem?_toArray, List.getElem?_cons_succ, List.getElem?_cons_zero]; exact rfl) (by as_aux_lemma => kernel_rfl) (by as_aux_lemma => kernel_rfl) (by as_aux_lemma => kernel_rfl) (by exact fun _ _ _ h => h) (Or.inl ⟨by rfl, ?_⟩) (by assumption) ?_
  rotate_left
  · intro w hSw
    (try dsimp only at hSw)
    go_simp
    try with_reducible rfl
  (try simp only [Act.put, List.setIfInBounds_toArray, List.set_cons_zero, List.set_cons_succ])
  refine wpAnyH_take (i := 2) (v := ?_) (by simp only [List.getElem?_toArray, List.getElem?_cons_succ, List.getElem?_cons_zero]; exact rfl) (by as_aux_lemma => kernel_rfl) (by as_aux_lemma => kernel_rfl) (by as_aux_lemma => kernel_rfl) (by exact fun _ _ _ h => h) (Or.inl ⟨by rfl, ?_⟩) (by assumption) ?_
  rotate_left
  · intro w hSw
    (try dsimp only at hSw)
    go_simp
    try with_reducible rfl
  (try simp only [Act.put, List.setIfInBounds_toArray, List.set_cons_zero, List.set_cons_succ])
  refine wpAnyH_take (i := 4) (v := ?_) (by simp only [List.getElem?_toArray, List.getElem?_cons_succ, List.getElem?_cons_zero]; exact rfl) (by as_aux_lemma => kernel_rfl) (by as_aux_lemma => kernel_rfl) (by as_aux_lemma => kernel_rfl) (by exact fun _ _ _ h => h) (Or.inl ⟨by rfl, ?_⟩) (by assumption) ?_
  rotate_left
  · intro w hSw
    (try dsimp only at hSw)
    go_simp
    try with_reducible rfl
  (try simp only [Act.put, List.setIfInBounds_toArray, List.set_cons_zero, List.set_cons_succ])
  refine wpAnyH_take (i := 5) (v := ?_) (by simp only [List.getElem?_toArray, List.getElem?_cons_succ, List.getElem?_cons_zero]; exact rfl) (by as_aux_lemma => kernel_rfl) (by as_aux_lemma => kernel_rfl) (by as_aux_lemma => kernel_rfl) (by exact fun _ _ _ h => h) (Or.inl ⟨by rfl, ?_⟩) (by assumption) ?_
  rotate_left
  · intro w hSw
    (try dsimp only at hSw)
    go_simp
    try with_reducible rfl
  (try simp only [Act.put, List.setIfInBounds_toArray, List.set_cons_zero, List.set_cons_succ])
  refine wpAnyH_take (i := 6) (v := ?_) (by simp only [List.getElem?_toArray, List.getElem?_cons_succ, List.getElem?_cons_zero]; exact rfl) (by as_aux_lemma => kernel_rfl) (by as_aux_lemma => kernel_rfl) (by as_aux_lemma => kernel_rfl) (by exact fun _ _ _ h => h) (Or.inl ⟨by rfl, ?_⟩) (by assumption) ?_
  rotate_left
  · intro w hSw
    (try dsimp only at hSw)
    go_simp
    try with_reducible rfl
  (try simp only [Act.put, List.setIfInBounds_toArray, List.set_cons_zero, List.set_cons_succ])
  refine wpAnyH_take (i := 7) (v := ?_) (by simp only [List.getElem?_toArray, List.getElem?_cons_succ, List.getElem?_cons_zero]; exact rfl) (by as_aux_lemma => kernel_rfl) (by as_aux_lemma => kernel_rfl) (by as_aux_lemma => kernel_rfl) (by exact fun _ _ _ h => h) (Or.inl ⟨by rfl, ?_⟩) (by assumption) ?_
  rotate_left
  · intro w hSw
    (try dsimp only at hSw)
    go_simp
    try with_reducible rfl
  (try simp only [Act.put, List.setIfInBounds_toArray, List.set_cons_zero, List.set_cons_succ])
  refine wpAnyH_take (i := 8) (v := ?_) (by simp only [List.getElem?_toArray, List.getElem?_cons_succ, List.getElem?_cons_zero]; exact rfl) (by as_aux_lemma => kernel_rfl) (by as_aux_lemma => kernel_rfl) (by as_aux_lemma => kernel_rfl) (by exact fun _ _ _ h => h) (Or.inl ⟨by rfl, ?_⟩) (by assumption) ?_
  rotate_left
  · intro w hSw
    (try dsimp only at hSw)
    go_simp
    try with_reducible rfl
  (try simp only [Act.put, List.setIfInBounds_toArray, List.set_cons_zero, List.set_cons_succ])
  refine wpAnyH_ready (rs := [3]) (by as_aux_lemma => kernel_rfl) (by simp) ?_
  refine AllReadyH.cons (by simp only [List.getElem?_toArray, List.getElem?_cons_succ, List.getElem?_cons_zero]; exact rfl) (fun K hK => ?_) AllReadyH.nil
  go_simp
  (go_at_call 94; refine HD.out.mono ?_; rintro _ w1 ⟨ev, L, rfl, hL, ho, hb⟩)
  refine hK.out _ _ ?_ (fun hHeld => ?_)
  · (try dsimp only)
    exact (call_list HM.out hb ho (Nat.le_refl _)).1.cell (j := 0) rfl
  clear hK K
  (try simp only [Act.put, List.setIfInBounds_toArray, List.set_cons_zero, List.set_cons_succ])
  refine wpAnyH_take (i := 9) (v := ?_) (by simp only [List.getElem?_toArray, List.getElem?_cons_succ, List.getElem?_cons_zero]; exact rfl) (by as_aux_lemma => kernel_rfl) (by as_aux_lemma => kernel_rfl) (by as_aux_lemma => kernel_rfl) (by exact fun _ _ _ h => h) (Or.inl ⟨by rfl, ?_⟩) (by assumption) ?_
  rotate_left
  · intro w hSw
    (try dsimp only at hSw)
    go_simp
    try with_reducible rfl
  (try simp only [Act.put, List.setIfInBounds_toArray, List.set_cons_zero, List.set_cons_succ])
  refine wpAnyH_take (i := 10) (v := ?_) (by simp only [List.getElem?_toArray, List.getElem?_cons_succ, List.getElem?_cons_zero]; exact rfl) (by as_aux_lemma => kernel_rfl) (by as_aux_lemma => kernel_rfl) (by as_aux_lemma => kernel_rfl) (by exact fun _ _ _ h => h) (Or.inl ⟨by rfl, ?_⟩) (by assumption) ?_
  rotate_left
  · intro w hSw
    (try dsimp only at hSw)
    go_simp
    try with_reducible rfl
  (try simp only [Act.put, List.setIfInBounds_toArray, List.set_cons_zero, List.set_cons_succ])
  refine wpAnyH_take (i := 11) (v := ?_) (by simp only [List.getElem?_toArray, List.getElem?_cons_succ, List.getElem?_cons_zero]; exact rfl) (by as_aux_lemma => kernel_rfl) (by as_aux_lemma => kernel_rfl) (by as_aux_lemma => kernel_rfl) (by exact fun _ _ _ h => h) (Or.inl ⟨by rfl, ?_⟩) (by assumption) ?_
  rotate_left
  · intro w hSw
    (try dsimp only at hSw)
    go_simp
    try with_reducible rfl
  (try simp only [Act.put, List.setIfInBounds_toArray, List.set_cons_zero, List.set_cons_succ])
  refine wpAnyH_take (i := 12) (v := ?_) (by simp only [List.getElem?_toArray, List.getElem?_cons_succ, List.getElem?_cons_zero]; exact rfl) (by as_aux_lemma => kernel_rfl) (by as_aux_lemma => kernel_rfl) (by as_aux_lemma => kernel_rfl) (by exact fun _ _ _ h => h) (Or.inl ⟨by rfl, ?_⟩) (by assumption) ?_
  rotate_left
  · intro w hSw
    (try dsimp only at hSw)
    go_simp
    try with_reducible rfl
  (try simp only [Act.put, List.setIfInBounds_toArray, List.set_cons_zero, List.set_cons_succ])
  refine wpAnyH_done (by as_aux_lemma => kernel_rfl) ?_ _
  go_wp2
  all_goals
    refine bodyPost_ret (results_tmp4 rfl _ _ _) rfl ?_
    obtain ⟨r1, r2⟩ := call_list HM.out hb ho (Nat.le_refl _)
    have hz := HC.out.size
    refine ⟨ev, _, nowV rb 1, L, V.cut rb, rfl, hL, ho.mono hz, r1, fun _ => ⟨rfl, .inr (.inr ?_)⟩, HC.out.drew.then_below hb, fun k hk => .inl (footS_cut hk), r2⟩
    first | (simp; done) | (simp [*]; done)
end Go.Proofs.YtklmpadcfioefaaGreatDoor

namespace Go.Proofs.YtklmpadcfioefaaGreatDoor
open Go.RowKit

namespace Chunk
theorem feed_out_le2 (l : Bs) : ∀ (s : St), (feed s l 0 []).2.1.length ≤ l.length := by
  induction l with
  | nil => intro s; simp [feed]
  | cons c l ih =>
    intro s
    rw [feed]
    split
    · rw [feed_acc]; have := ih { s with at_ := if s.left - 1 = 0 then 4 else 3, left := s.left - 1, total := s.total + 1 }; simp only [List.length_cons, List.length_append, List.nil_append]; simp only [List.length_nil]; omega
    · split
      · simp
      · split
        · simp
        · rw [feed_acc]; have := ih (step s c).1; simp only [List.length_cons, List.nil_append]; omega
end Chunk
theorem SMem.fed {w w' : World} {base rb q : Nat} {s : Strm.S} {V : SV} {b' : Chunk.St} {vl' vt' : Value} (h : SMem w base rb s V q) (h3 : s.ph = 3) (hr : Rdr w' base V.cb b' vl' vt') (hc : Chg (foot V.cb V.vl V.vt) w w')
    (k1 : ∀ k, vl'.ownBlock = some k → V.vl.ownBlock = some k ∨ w.heap.size ≤ k) (k2 : ∀ k, vt'.ownBlock = some k → V.vt.ownBlock = some k ∨ w.heap.size ≤ k) :
    SMem w' base rb { s with body := b' } { V with vl := vl', vt := vt' } q ∧ Chg (footS rb V) w w' ∧ (∀ k, footS rb { V with vl := vl', vt := vt' } k → footS rb V k ∨ w.heap.size ≤ k) := by
  have hf : ∀ k, foot V.cb vl' vt' k → foot V.cb V.vl V.vt k ∨ w.heap.size ≤ k := fun k hk => by
    rcases hk with x | x | x
    · exact .inl (.inl x)
    · rcases k1 k x with y | y
      · exact .inl (.inr (.inl y))
      · exact .inr y
    · rcases k2 k x with y | y
      · exact .inl (.inr (.inr y))
      · exact .inr y
  refine ⟨⟨h.le, h.var.chg hc (h.a3 h3), h.ms.chg hc (fun k hk => (h.a1 k hk).2.2), Row.chg h.blk hc (fun k hk => (h.a2 k hk).2), h.nil, fun _ => ⟨(h.on h3).1, hr⟩, fun e => absurd h3 e, fun k hk => ⟨(h.a1 k hk).1, (h.a1 k hk).2.1, fun f => ?_⟩, fun k hk => ⟨(h.a2 k hk).1, fun f => ?_⟩, fun _ f => ?_⟩, hc.more (fun k _ hk => .inr (.inr (.inr hk))), fun k hk => ?_⟩
  · rcases hf k f with x | x
    · exact (h.a1 k hk).2.2 x
    · have := (h.ms.lt k hk).2; omega
  · rcases hf k f with x | x
    · exact (h.a2 k hk).2 x
    · have := (Row.lt h.blk k hk).2; omega
  · rcases hf rb f with x | x
    · exact h.a3 h3 x
    · have := h.var.lt; omega
  · rcases hk with x | x | x | x
    · exact .inl (.inl x)
    · exact .inl (.inr (.inl x))
    · exact .inl (.inr (.inr (.inl x)))
    · rcases hf k x with y | y
      · exact .inl (.inr (.inr (.inr y)))
      · exact .inr y
set_option maxHeartbeats 1000000 in
theorem schunked_any {w : World} {base rb T : Nat} {s : Strm.S} {V : SV} (hsh : Shp base w) (h : SMem w base rb s V 3) (hp : s.ph = 3) (hok : Chunk.Ok s.body T) (h11 : s.body.at_ ≠ 11) (A : Option Addr) (n c : Nat) (l : Bs) (hT : T + n ≤ 1000000000000) (hn : n ≤ 100000000) (hnc : n ≤ c) (hA : A = none → n = 0)
    (hrd : Rd w w.heap.size 1 A n (bytesV l)) (hsp : Sep A n rb V) :
    Calls Tryz.prog 57 #[.pointer (some ⟨rb, 0, none⟩), .slice A n c] w (CallPost w base rb V A n c 3 (Strm.callS s l)) := by
  have hlen : l.length = n := by have := hrd.1; rw [bytesV_len] at this; omega
  obtain ⟨hbv, hr⟩ := h.on hp
  have HF := feed_any A n c l hsh hr hok h11 hT hn hnc hA hrd (fun h0 g o e f => hsp h0 g o e (.inr (.inr (.inr f))))
  have e : Strm.callS s l = if (Chunk.feed s.body l 0 []).2.2.2 = 1 then (Strm.data (Chunk.feed s.body l 0 []).2.1, (Chunk.feed s.body l 0 []).2.2.1, { s with body := (Chunk.feed s.body l 0 []).1, due := true, ph := 1 }, 0)
      else (Strm.data (Chunk.feed s.body l 0 []).2.1, n, { s with body := (Chunk.feed s.body l 0 []).1 }, if (Chunk.feed s.body l 0 []).2.2.2 = 2 then 230 else 0) := by
    unfold Strm.callS; rw [if_neg (by omega), if_neg (by omega), if_neg (by omega), if_pos hp, Strm.feedA_feed h11 hok, hlen]
  rw [e]
  have hm := Chunk.feed_read_le l s.body
  have hol := Chunk.feed_out_le2 l s.body
  rw [hlen] at hm hol
  obtain ⟨⟨s1, o, m, q⟩, hR⟩ : ∃ R, R = Chunk.feed s.body l 0 [] := ⟨_, rfl⟩
  rw [← hR] at HF hm hol ⊢
  unfold FeedPost at HF
  dsimp only at HF hm hol ⊢
  have HFD := Lib.hid HF
  have HM := Lib.hid h
  have HP := Lib.hid hp
  have d5 := h.cell (j := 5) rfl
  rw [hbv] at d5
  have hrl := h.var.lt
  clear HF hR e hsh hok hrd hr hp h
  by_cases hq : q = 1
  · rw [if_pos hq]
    have hD : decide (q = 1) = true := by rw [hq]; rfl
    obtain ⟨E, hE⟩ : ∃ E : Int, E = if q = 2 then 230 else 0 := ⟨_, rfl⟩
    rw [hD, ← hE] at HFD
    clear hq hE hD
    have hi0 : (0 : Int) ≤ (m : Int) := by omega
    have hi1 : (m : Int) ≤ (n : Int) := by omega
    have hi2 : m ≤ n := by omega
    go_enter Tryz.func57, Tryz.ntmps57
    go_upto_region 2 with (first
      | (go_at_call 95; go_must (refine HFD.out.mono ?_; rintro _ w1 ⟨vo, rfl, hro, vl', vt', hr1, hc1, k1, k2, k3⟩; obtain ⟨Ao, co, rfl, _, _, hAo, hrdo⟩ := Row.form hro))
      | fail)
    obtain ⟨m1, c1, f1⟩ := HM.out.fed HP.out hr1 hc1 k1 k2
    have d8 := m1.cell (j := 8) rfl
    have f8 := m1.var.frozen 8
    have m2 := (m1.put (j := 8) (u := .bool true) (t := { s with body := s1, due := true }) (q' := 3) rfl rfl rfl rfl Iff.rfl m1.nil).rephase (x := 1) (by decide) (fun _ => m1.nil (by have := HP.out; dsimp only; omega))
    have c2 := (c1.setCell (p := ⟨rb, 8, none⟩) (fun _ => .inl rfl) (.bool true)).drew
    have HD := Lib.hid (sdata_any Ao o.length co o ((w1.setCell ⟨rb, 8, none⟩ (.bool true)).drew) (fun e => (hAo e).1) (hrdo.apart (((show Chg (fun k => k = rb) w1 w1 from Chg.refl _ w1).setCell (p := ⟨rb, 8, none⟩) (fun _ => rfl) (.bool true)).drew) (Nat.le_refl _) (fun h0 g o2 e x => by have := (Row.lt hro g (by rw [e]; rfl)).1; omega)) (by omega))
    have HM2 := Lib.hid (m2.below ((Below.refl _ _).drew))
    have HC2 := Lib.hid c2
    have HF2 := Lib.hid f1
    clear m1 m2 c1 c2 f1 hr1 hc1 k1 k2 k3 hro hrdo hAo
    go_upto_region 4 with (fail)
    refine wp_region_held_drew (S := (fun w' => w'.cell? ⟨rb, 0, none⟩ = some (.bool s.rq))) (by as_aux_lemma => kernel_rfl) ?_ (fun hHeld => ?_)
    · exact HM2.out.cell (j := 0) rfl
    refine wpAnyH_take (i := 0) (v := ?_) (by simp only [List.getElem?_toArray, List.getElem?_cons_zero]; exact rfl) (by as_aux_lemma => kernel_rfl) (by as_aux_lemma => kernel_rfl) (by as_aux_lemma => kernel_rfl) (by exact fun _ _ _ h => h) (Or.inl ⟨by rfl, ?_⟩) (by assumption) ?_
    rotate_left
    · intro w hSw
      (try dsimp only at hSw)
      go_simp
      try with_reducible rfl
    (try simp only [Act.put, List.setIfInBounds_toArray, List.set_cons_zero, List.set_cons_succ])
    refine wpAnyH_take (i := 2) (v := ?_) (by simp only [List.getElem?_toArray, List.getElem?_cons_succ, List.getElem?_cons_zero]; exact rfl) (by as_aux_lemma => kernel_rfl) (by as_aux_lemma => kernel_rfl) (by as_aux_lemma => kernel_rfl) (by exact fun _ _ _ h => h) (Or.inl ⟨by rfl, ?_⟩) (by assumption) ?_
    rotate_left
    · intro w hSw
      (try dsimp only at hSw)
      go_simp
      try with_reducible rfl
    (try simp only [Act.put, List.setIfInBounds_toArray, List.set_cons_zero, List.set_cons_succ])
    refine wpAnyH_take (i := 3) (v := ?_) (by simp only [List.getElem?_toArray, List.getElem?_cons_succ, List.getElem?_cons_zero]; exact rfl) (by as_aux_lemma => kernel_rfl) (by as_aux_lemma => kernel_rfl) (by as_aux_lemma => kernel_rfl) (by exact fun _ _ _ h => h) (Or.inl ⟨by rfl, ?_⟩) (by assumption) ?_
    rotate_left
    · intro w hSw
      (try dsimp only at hSw)
      go_simp
      try with_reducible rfl
    (try simp only [Act.put, List.setIfInBounds_toArray, List.set_cons_zero, List.set_cons_succ])
    refine wpAnyH_take (i := 4) (v := ?_) (by simp only [List.getElem?_toArray, List.getElem?_cons_succ, List.getElem?_cons_zero]; exact rfl) (by as_aux_lemma => kernel_rfl) (by as_aux_lemma => kernel_rfl) (by as_aux_lemma => kernel_rfl) (by exact fun _ _ _ h => h) (Or.inl ⟨by rfl, ?_⟩) (by assumption) ?_
    rotate_left
    · intro w hSw
      (try dsimp only at hSw)
      go_simp
      try with_reducible rfl
    (try simp only [Act.put, List.setIfInBounds_toArray, List.set_cons_zero, List.set_cons_succ])
    refine wpAnyH_take (i := 5) (v := ?_) (by simp only [List.getElem?_toArray, List.getElem?_cons_succ, List.getElem?_cons_zero]; exact rfl) (by as_aux_lemma => kernel_rfl) (by as_aux_lemma => kernel_rfl) (by as_aux_lemma => kernel_rfl) (by exact fun _ _ _ h => h) (Or.inl ⟨by rfl, ?_⟩) (by assumption) ?_
    rotate_left
    · intro w hSw
      (try dsimp only at hSw)
      go_simp
      try with_reducible rfl
    (try simp only [Act.put, List.setIfInBounds_toArray, List.set_cons_zero, List.set_cons_succ])
    refine wpAnyH_take (i := 6) (v := ?_) (by simp only [List.getElem?_toArray, List.getElem?_cons_succ, List.getElem?_cons_zero]; exact rfl) (by as_aux_lemma => kernel_rfl) (by as_aux_lemma => kernel_rfl) (by as_aux_lemma => kernel_rfl) (by exact fun _ _ _ h => h) (Or.inl ⟨by rfl, ?_⟩) (by assumption) ?_
    rotate_left
    · intro w hSw
      (try dsimp only at hSw)
      go_simp
      try with_reducible rfl
    (try simp only [Act.put, List.setIfInBounds_toArray, List.set_cons_zero, List.set_cons_succ])
    refine wpAnyH_ready (rs := [1]) (by as_aux_lemma => kernel_rfl) (by simp) ?_
    refine AllReadyH.cons (by simp only [List.getElem?_toArray, List.getElem?_cons_succ, List.getElem?_cons_zero]; exact rfl) (fun K hK => ?_) AllReadyH.nil
    go_simp
    (go_at_call 94; refine HD.out.mono ?_; rintro _ w2 ⟨ev, L, rfl, hL, ho, hb⟩)
    refine hK.out _ _ ?_ (fun hHeld => ?_)
    · (try dsimp only)
      exact (call_list HM2.out hb ho (Nat.le_refl _)).1.cell (j := 0) rfl
    clear hK K
    (try simp only [Act.put, List.setIfInBounds_toArray, List.set_cons_zero, List.set_cons_succ])
    refine wpAnyH_take (i := 7) (v := ?_) (by simp only [List.getElem?_toArray, List.getElem?_cons_succ, List.getElem?_cons_zero]; exact rfl) (by as_aux_lemma => kernel_rfl) (by as_aux_lemma => kernel_rfl) (by as_aux_lemma => kernel_rfl) (by exact fun _ _ _ h => h) (Or.inl ⟨by rfl, ?_⟩) (by assumption) ?_
    rotate_left
    · intro w hSw
      (try dsimp only at hSw)
      go_simp
      try with_reducible rfl
    (try simp only [Act.put, List.setIfInBounds_toArray, List.set_cons_zero, List.set_cons_succ])
    refine wpAnyH_take (i := 8) (v := ?_) (by simp only [List.getElem?_toArray, List.getElem?_cons_succ, List.getElem?_cons_zero]; exact rfl) (by as_aux_lemma => kernel_rfl) (by as_aux_lemma => kernel_rfl) (by as_aux_lemma => kernel_rfl) (by exact fun _ _ _ h => h) (Or.inl ⟨by rfl, ?_⟩) (by assumption) ?_
    rotate_left
    · intro w hSw
      (try dsimp only at hSw)
      go_simp
      try with_reducible rfl
    (try simp only [Act.put, List.setIfInBounds_toArray, List.set_cons_zero, List.set_cons_succ])
    refine wpAnyH_take (i := 9) (v := ?_) (by simp only [List.getElem?_toArray, List.getElem?_cons_succ, List.getElem?_cons_zero]; exact rfl) (by as_aux_lemma => kernel_rfl) (by as_aux_lemma => kernel_rfl) (by as_aux_lemma => kernel_rfl) (by exact fun _ _ _ h => h) (Or.inl ⟨by rfl, ?_⟩) (by assumption) ?_
    rotate_left
    · intro w hSw
      (try dsimp only at hSw)
      go_simp
      try with_reducible rfl
    (try simp only [Act.put, List.setIfInBounds_toArray, List.set_cons_zero, List.set_cons_succ])
    refine wpAnyH_take (i := 10) (v := ?_) (by simp only [List.getElem?_toArray, List.getElem?_cons_succ, List.getElem?_cons_zero]; exact rfl) (by as_aux_lemma => kernel_rfl) (by as_aux_lemma => kernel_rfl) (by as_aux_lemma => kernel_rfl) (by exact fun _ _ _ h => h) (Or.inl ⟨by rfl, ?_⟩) (by assumption) ?_
    rotate_left
    · intro w hSw
      (try dsimp only at hSw)
      go_simp
      try with_reducible rfl
    (try simp only [Act.put, List.setIfInBounds_toArray, List.set_cons_zero, List.set_cons_succ])
    refine wpAnyH_done (by as_aux_lemma => kernel_rfl) ?_ _
    go_wp2
    all_goals
      refine bodyPost_ret (results_tmp4 rfl _ _ _) rfl ?_
      obtain ⟨r1, r2⟩ := call_list HM2.out hb ho (Nat.le_refl _)
      have hz := HC2.out.size
      refine ⟨ev, _, nowV rb 1, L, _, rfl, hL, ho.mono hz, r1, fun _ => ⟨rfl, .inr (.inr ?_)⟩, HC2.out.then_below hb, fun k hk => HF2.out k (footS_cut hk), r2⟩
      first | (simp; done) | (simp [*]; done)
  · rw [if_neg hq]
    have hD : decide (q = 1) = false := by simpa using hq
    obtain ⟨E, hE⟩ : ∃ E : Nat, E = if q = 2 then 230 else 0 := ⟨_, rfl⟩
    have hE2 : (if q = 2 then (230 : Int) else 0) = (E : Int) := by rw [hE]; split <;> rfl
    rw [hD, hE2] at HFD
    rw [← hE]
    clear hq hE hD hE2
    go_enter Tryz.func57, Tryz.ntmps57
    go_upto_region 2 with (first
      | (go_at_call 95; go_must (refine HFD.out.mono ?_; rintro _ w1 ⟨vo, rfl, hro, vl', vt', hr1, hc1, k1, k2, k3⟩; obtain ⟨Ao, co, rfl, _, _, hAo, hrdo⟩ := Row.form hro))
      | fail)
    obtain ⟨m1, c1, f1⟩ := HM.out.fed HP.out hr1 hc1 k1 k2
    have HD := Lib.hid (sdata_any Ao o.length co o w1 (fun e => (hAo e).1) hrdo (by omega))
    have HM2 := Lib.hid m1
    have HC2 := Lib.hid c1
    have HF2 := Lib.hid f1
    clear m1 c1 f1 hr1 hc1 k1 k2 k3 hro hrdo hAo
    go_wp2_with (first
      | (go_at_call 94; go_must (refine HD.out.mono ?_; rintro _ w2 ⟨ev, L, rfl, hL, ho, hb⟩))
      | fail)
    refine bodyPost_ret (results_tmp4 rfl _ _ _) rfl ?_
    obtain ⟨r1, r2⟩ := call_list HM2.out hb ho (Nat.le_refl _)
    have hz := HC2.out.size
    exact ⟨ev, .slice none 0 0, nowV rb 3, L, _, rfl, hL, ho.mono hz, r1, fun _ => ⟨by dsimp only; rw [HP.out], .inl ⟨rfl, rfl⟩⟩, HC2.out.then_below hb, HF2.out, r2⟩
end Go.Proofs.YtklmpadcfioefaaGreatDoor

namespace Go.Proofs.YtklmpadcfioefaaGreatDoor
open Go.RowKit

theorem bytesOf_nat (l : Bs) : Lib.bytesOf (l.map fun b => (b.toNat : Int)) = l := by
  unfold Lib.bytesOf
  rw [List.map_map]
  conv => rhs; rw [← List.map_id l]
  apply List.map_congr_left
  intro b _
  simp
theorem cells_at {w : World} {B n : Nat} {a : Addr} {l : Bs} (hrd : Rd w B 1 (some a) n (bytesV l)) : ∀ i, i < n → w.cell? (a.add i) = some (.int .u8 ((l.map fun b => (b.toNat : Int)).getD i 0)) := by
  intro i hi
  obtain ⟨g, o, e, _, hc⟩ := hrd.2 (by omega)
  injection e with e
  subst e
  have hlen : l.length = n := by have := hrd.1; rw [bytesV_len] at this; omega
  rw [Addr.add_lit]
  have := hc i _ (bytesV_get (l := l) (j := i) (by omega))
  rw [this]
  congr 2
  rw [List.getD_eq_getElem?_getD, List.getElem?_map, List.getElem?_eq_getElem (by omega)]
  rfl
theorem bIndex_any (A : Option Addr) (n c : Nat) (l : Bs) (a2 : Addr) (k c2 : Nat) (y : Bs) (w : World) (hsh : w.ShapedOpen Tryz.prog) (hnc : n ≤ c) (hA : A = none → n = 0 ∧ c = 0) (hrd : Rd w w.heap.size 1 A n (bytesV l)) (hrd2 : Rd w w.heap.size 1 (some a2) k (bytesV y)) (h2 : 2 ≤ k) (hk : k ≤ 1000) (hn : n ≤ 1000000000) :
    Calls Tryz.prog 53 #[.slice A n c, .slice (some a2) k c2] w fun e w' => e = .returned (.int .i64 (Lib.index l y)) ∧ ∃ q, w' = w.drewN q := by
  have hlen : l.length = n := by have := hrd.1; rw [bytesV_len] at this; omega
  have hlen2 : y.length = k := by have := hrd2.1; rw [bytesV_len] at this; omega
  cases A with
  | none =>
    obtain ⟨rfl, rfl⟩ := hA rfl
    have hl : l = [] := List.eq_nil_of_length_eq_zero hlen
    subst hl
    refine (Tryz.bytes_Index_nil (some a2) k c2 w (by omega) (fun e => by omega)).mono fun e w' ⟨he, hw⟩ => ⟨?_, 0, hw⟩
    rw [he, if_neg (by omega), Lib.index_past (i := 0) (fun e => by rw [e] at hlen2; simp at hlen2; omega) (Lib.NoOcc.zero _ _) (by simp; omega)]
  | some a =>
    have h := Tryz.bytes_Index_at_shaped a a2 n c k c2 (l.map fun b => (b.toNat : Int)) (y.map fun b => (b.toNat : Int)) w (by simpa using hlen) (by simpa using hlen2)
      (by intro x hx; obtain ⟨b, _, rfl⟩ := List.mem_map.1 hx; have := b.toNat_lt; omega) (by intro x hx; obtain ⟨b, _, rfl⟩ := List.mem_map.1 hx; have := b.toNat_lt; omega)
      (cells_at hrd) (cells_at hrd2) hnc (by omega) (by omega) hsh
    rw [bytesOf_nat, bytesOf_nat] at h
    exact h
theorem rd_const (w : World) (t : TypeId) (fr : Nat × Nat) (y : Bs) : Rd (w.alloc (.cells (bytesV y).toArray t fr)) (w.alloc (.cells (bytesV y).toArray t fr)).heap.size 1 (some ⟨w.heap.size, 0, none⟩) y.length (bytesV y) :=
  ⟨by rw [bytesV_len, Nat.mul_one], fun _ => ⟨_, 0, rfl, by simp, fun j u hu => by rw [Nat.zero_add, cell_of_row _ w.heap.size j _ t fr (heap_alloc_new w _)]; simpa using hu⟩⟩
set_option maxHeartbeats 1000000 in
set_option maxRecDepth 100000 in
theorem srefuse_any (A : Option Addr) (n c : Nat) (l : Bs) (w : World) (hsh : w.ShapedOpen Tryz.prog) (hnc : n ≤ c) (hA : A = none → n = 0 ∧ c = 0) (hrd : Rd w w.heap.size 1 A n (bytesV l)) (hn : n ≤ 1000000000) :
    Calls Tryz.prog 54 #[.slice A n c] w fun e w' => e = .returned (.int .i64 (Strm.refuseP l : Nat)) ∧ Below w.heap.size w w' := by
  have hB : Below w.heap.size w (w.alloc (.cells #[.int .u8 13, .int .u8 10] 5 (2, 3))) := (Below.refl _ _).alloc (Nat.le_refl _) _
  have hr2 : Rd (w.alloc (.cells #[.int .u8 13, .int .u8 10] 5 (2, 3))) (w.alloc (.cells #[.int .u8 13, .int .u8 10] 5 (2, 3))).heap.size 1 (some ⟨w.heap.size, 0, none⟩) 2 (bytesV [13, 10]) := rd_const w 5 (2, 3) [13, 10]
  have kc := fun (W : World) (C : Array Value) (n c : Nat) => Lib.run_convert_bytes_const (P := Tryz.prog) W 26 5 C n c Tryz.underlying26 Tryz.underlying5
  have HI := Lib.hid (bIndex_any A n c l ⟨w.heap.size, 0, none⟩ 2 2 [13, 10] _ (shaped_below hsh hB) hnc hA ((hrd.below hB).more hB.size) hr2 (by decide) (by decide) hn)
  have hR : Strm.refuseP l = if Lib.index l [13, 10] < 0 ∨ 4096 < Lib.index l [13, 10] then 221 else 222 := rfl
  have hge := Lib.index_ge l [13, 10]
  have hle := Lib.index_le l [13, 10]
  obtain ⟨I, hI⟩ : ∃ I, I = Lib.index l [13, 10] := ⟨_, rfl⟩
  rw [← hI] at HI hR hge
  have HB := Lib.hid hB
  clear hsh hrd hB hr2 hI hA hle
  by_cases h0 : I < 0
  · rw [if_pos (.inl h0)] at hR
    rw [hR]
    clear hR
    have q0 : decide (I < 0) = true := by simpa using h0
    go_enter Tryz.func54, Tryz.ntmps54
    go_wp2_with (first
      | (go_at_call 53; go_must (refine HI.out.mono ?_; rintro _ _ ⟨rfl, q, rfl⟩))
      | fail)
    go_ret
    exact ⟨rfl, below_drewN HB.out _⟩
  · by_cases h1 : 4096 < I
    · rw [if_pos (.inr h1)] at hR
      rw [hR]
      clear hR
      have q0 : decide (I < 0) = false := by simpa using h0
      go_enter Tryz.func54, Tryz.ntmps54
      go_wp2_with (first
        | (go_at_call 53; go_must (refine HI.out.mono ?_; rintro _ _ ⟨rfl, q, rfl⟩))
        | fail)
      go_ret
      exact ⟨rfl, below_drewN HB.out _⟩
    · rw [if_neg (by omega)] at hR
      rw [hR]
      clear hR
      have q0 : decide (I < 0) = false := by simpa using h0
      have q1 : decide (4096 < I) = false := by simpa using h1
      go_enter Tryz.func54, Tryz.ntmps54
      go_wp2_with (first
        | (go_at_call 53; go_must (refine HI.out.mono ?_; rintro _ _ ⟨rfl, q, rfl⟩))
        | fail)
      go_ret
      exact ⟨rfl, below_drewN HB.out _⟩
end Go.Proofs.YtklmpadcfioefaaGreatDoor

namespace Go.Proofs.YtklmpadcfioefaaGreatDoor
open Go.RowKit

theorem RowB.mono {w : World} {base base' : Nat} {v : Value} {L : Bs} (h : RowB w base v L) (hb : base' ≤ base) : RowB w base' v L := Row.mono h hb
end Go.Proofs.YtklmpadcfioefaaGreatDoor

namespace Go.Proofs.YtklmpadcfioefaaGreatDoor
open Go.RowKit

theorem results_var1 {P : Program} {fn : Func} {p : Tmp} {ty : TypeId} (h : fn.results = #[.cell p ty]) (tmps : Array Value) {w : World} {b : Nat} {t : TypeId} {cs : List Value} (d : TypeDesc)
    (hp : tmps.getD p undef = .pointer (some ⟨b, 0, none⟩)) (hv : Var w b t cs) (hu : P.underlying ty = some d) (hd : (match d with | .struct _ | .array _ _ => true | _ => false) = true) (hi : (P.info? ty).map (·.size) = some cs.length) :
    (results fn tmps).run P w = .ok (.agg cs.toArray) w := by
  have hl := run_loadVar_row (P := P) w b t ty cs.toArray (0, 0) d hv hu hd (by simpa using hi)
  have hp' : tmps[p]?.getD undef = .pointer (some ⟨b, 0, none⟩) := by simpa using hp
  simp only [results, h]
  simp [hp', asAddr, hl]

namespace Chunk
theorem sizeB_val (l : Bs) : ∀ (i k n : Nat), (sizeB l i k n).1 ≤ n := by
  induction l with
  | nil => intro i k n; exact Nat.le_refl _
  | cons c l ih =>
    intro i k n
    rw [sizeB]
    split
    · exact Nat.le_refl _
    · split
      · exact Nat.zero_le _
      · exact ih _ _ _
theorem sizeA_val (l : Bs) : ∀ (i k n : Nat), n ≤ most → (sizeA l i k n).1 ≤ most := by
  induction l with
  | nil => intro i k n _; exact Nat.zero_le _
  | cons c l ih =>
    intro i k n h
    rw [sizeA]
    split
    · split
      · exact Nat.zero_le _
      · exact ih _ _ _ (by omega)
    · split
      · exact Nat.zero_le _
      · exact Nat.le_trans (sizeB_val _ _ _ _) h
theorem readR_def (f : Nat) (l : Bs) (i : Nat) (body : Bs) : readR (f + 1) l i body =
    if (sizeA l i 0 0).2.2 < 1 then ⟨body, (sizeA l i 0 0).2.1, false, decide ((sizeA l i 0 0).2.2 < 0), []⟩
    else if (sizeA l i 0 0).1 = 0 then trailR ((l.drop ((sizeA l i 0 0).2.1 - i)).length) (l.drop ((sizeA l i 0 0).2.1 - i)) (sizeA l i 0 0).2.1 0 body []
      else if (l.drop ((sizeA l i 0 0).2.1 - i)).length < (sizeA l i 0 0).1 then ⟨body ++ l.drop ((sizeA l i 0 0).2.1 - i), (sizeA l i 0 0).2.1 + (l.drop ((sizeA l i 0 0).2.1 - i)).length, false, false, []⟩
      else
        if (endedR ((l.drop ((sizeA l i 0 0).2.1 - i)).drop (sizeA l i 0 0).1) ((sizeA l i 0 0).2.1 + (sizeA l i 0 0).1)).2 < 1 then ⟨body ++ (l.drop ((sizeA l i 0 0).2.1 - i)).take (sizeA l i 0 0).1, (endedR ((l.drop ((sizeA l i 0 0).2.1 - i)).drop (sizeA l i 0 0).1) ((sizeA l i 0 0).2.1 + (sizeA l i 0 0).1)).1, false, decide ((endedR ((l.drop ((sizeA l i 0 0).2.1 - i)).drop (sizeA l i 0 0).1) ((sizeA l i 0 0).2.1 + (sizeA l i 0 0).1)).2 < 0), []⟩
        else readR f (((l.drop ((sizeA l i 0 0).2.1 - i)).drop (sizeA l i 0 0).1).drop 2) (endedR ((l.drop ((sizeA l i 0 0).2.1 - i)).drop (sizeA l i 0 0).1) ((sizeA l i 0 0).2.1 + (sizeA l i 0 0).1)).1 (body ++ (l.drop ((sizeA l i 0 0).2.1 - i)).take (sizeA l i 0 0).1) := rfl
theorem trailR_13 (f : Nat) (l : Bs) (i ahead : Nat) (body : Bs) (tr : List (Bs × Bs)) (h : ∀ c r, l = c :: r → c = 13) : trailR f l i ahead body tr = lastR l i body tr := by
  cases f with
  | zero => rfl
  | succ f =>
    cases l with
    | nil => rfl
    | cons c l => rw [trailR, if_pos (h c l rfl)]
theorem trailR_go (f : Nat) (c : UInt8) (l : Bs) (i ahead : Nat) (body : Bs) (tr : List (Bs × Bs)) (h : c ≠ 13) : trailR (f + 1) (c :: l) i ahead body tr =
    if tr.length = 64 then ⟨body, i, false, true, []⟩
    else if (fieldA (c :: l) i ahead 0 [] none).2.2 < 1 then ⟨body, (fieldA (c :: l) i ahead 0 [] none).2.1, false, decide ((fieldA (c :: l) i ahead 0 [] none).2.2 < 0), []⟩
      else trailR f ((c :: l).drop ((fieldA (c :: l) i ahead 0 [] none).2.1 - i)) (fieldA (c :: l) i ahead 0 [] none).2.1 (ahead + ((fieldA (c :: l) i ahead 0 [] none).2.1 - i)) body (tr ++ [(fieldA (c :: l) i ahead 0 [] none).1]) := by
  rw [trailR, if_neg h]
theorem endedR_le {l : Bs} {i : Nat} (h : ¬ (endedR l i).2 < 1) : (endedR l i).1 = i + 2 ∧ 2 ≤ l.length := by
  obtain ⟨r, h1, h2⟩ := endedR_lt (l := l) (i := i) (by omega)
  rw [h2]; exact ⟨rfl, by rw [h1]; simp⟩
end Chunk

def zf : List Value := [.slice none 0 0, .int .i64 0, .bool false, .bool false, .slice none 0 0]
/-- what Read leaves -/
def ReadPost (w : World) (r : Chunk.Out) (e : Ending) (w' : World) : Prop :=
  ∃ vo vt tr, e = .returned (.agg #[vo, .int .i64 r.read, .bool r.done, .bool r.wrong, vt]) ∧ RowB w' w.heap.size vo r.body ∧ Row w' w.heap.size 2 vt tr.length (fieldsV (flB tr)) ∧ (r.done = true → tr = r.trailers) ∧ (∀ k, vo.ownBlock = some k → vt.ownBlock ≠ some k) ∧ Below w.heap.size w w'
/-- what was found so far: its block, its lists -/
structure Fd (w wr : World) (cs : List Value) (vo : Value) (body : Bs) (vt : Value) (tr : List (Bs × Bs)) : Prop where
  v3 : Var wr (w.heap.size + 1) 120 cs
  v2 : Var wr w.heap.size 120 zf
  row : RowB wr (w.heap.size + 2) vo body
  tr : Row wr (w.heap.size + 2) 2 vt tr.length (fieldsV (flB tr))
  apart : ∀ k, vo.ownBlock = some k → vt.ownBlock ≠ some k
  below : Below w.heap.size w wr

section
variable {w wr w' : World} {cs : List Value} {vo vt vo' vt' : Value} {body body' : Bs} {tr tr' : List (Bs × Bs)}
theorem Fd.far (h : Fd w wr cs vo body vt tr) : vo.ownBlock ≠ some (w.heap.size + 1) ∧ vt.ownBlock ≠ some (w.heap.size + 1) ∧ vo.ownBlock ≠ some w.heap.size ∧ vt.ownBlock ≠ some w.heap.size :=
  ⟨fun e => by have := (h.row.lt _ e).1; omega, fun e => by have := (h.tr.lt _ e).1; omega, fun e => by have := (h.row.lt _ e).1; omega, fun e => by have := (h.tr.lt _ e).1; omega⟩
theorem Fd.size (h : Fd w wr cs vo body vt tr) : w.heap.size + 2 ≤ wr.heap.size := by have := h.v3.lt; omega
theorem Fd.set (h : Fd w wr cs vo body vt tr) (j : Nat) (u : Value) : Fd w (wr.setCell ⟨w.heap.size + 1, j, none⟩ u) (cs.set j u) vo body vt tr :=
  ⟨h.v3.set j u, h.v2.set_other (by simp) u, h.row.setCell_far h.far.1 u, h.tr.setCell h.far.2.1 u, h.apart, h.below.setCell (by simp) u⟩
theorem Fd.drew (h : Fd w wr cs vo body vt tr) : Fd w wr.drew cs vo body vt tr := ⟨h.v3, h.v2, h.row, h.tr, h.apart, h.below.drew⟩
theorem Fd.alloc (h : Fd w wr cs vo body vt tr) (o : Obj) : Fd w (wr.alloc o) cs vo body vt tr := ⟨h.v3.alloc o, h.v2.alloc o, h.row.alloc o, h.tr.alloc o, h.apart, h.below.alloc h.below.size o⟩
theorem Fd.then_ (h : Fd w wr cs vo body vt tr) (hb : Below wr.heap.size wr w') : Fd w w' cs vo body vt tr := ⟨h.v3.below_all hb, h.v2.below_all hb, h.row.below_all hb, h.tr.below_all hb, h.apart, h.below.trans (hb.mono h.below.size)⟩
theorem Fd.cast {cs' : List Value} (h : Fd w wr cs vo body vt tr) (e : cs = cs') : Fd w wr cs' vo body vt tr := e ▸ h
theorem Fd.body_grow (h : Fd w wr cs vo body vt tr) (hg : wr.grownBy w' vo.ownBlock) (hr : RowB w' (w.heap.size + 2) vo' body') (hv : vo'.ownBlock = vo.ownBlock ∨ vo'.ownBlock = some wr.heap.size) : Fd w w' cs vo' body' vt tr := by
  refine ⟨h.v3.grown hg h.far.1, h.v2.grown hg h.far.2.2.1, hr, h.tr.kept hg ?_, ?_, h.below.grown hg h.below.size (fun k hk => by have := (h.row.lt k hk).1; omega)⟩
  · cases hvt : vt.ownBlock with
    | none => exact Or.inl rfl
    | some k => exact Or.inr (fun e => h.apart k e.symm hvt)
  · intro k hk e
    rcases hv with x | x
    · exact h.apart k (by rw [← x]; exact hk) e
    · rw [x] at hk; injection hk with hk; have := (h.tr.lt k e).2; omega
theorem Fd.tr_grow (h : Fd w wr cs vo body vt tr) (hg : wr.grownBy w' vt.ownBlock) (hr : Row w' (w.heap.size + 2) 2 vt' tr'.length (fieldsV (flB tr'))) (hv : vt'.ownBlock = vt.ownBlock ∨ vt'.ownBlock = some wr.heap.size) : Fd w w' cs vo body vt' tr' := by
  refine ⟨h.v3.grown hg h.far.2.1, h.v2.grown hg h.far.2.2.2, h.row.kept hg ?_, hr, ?_, h.below.grown hg h.below.size (fun k hk => by have := (h.tr.lt k hk).1; omega)⟩
  · cases hvt : vo.ownBlock with
    | none => exact Or.inl rfl
    | some k => exact Or.inr (fun e => h.apart k hvt e.symm)
  · intro k hk e
    rcases hv with x | x
    · exact h.apart k hk (by rw [← x]; exact e)
    · rw [x] at e; injection e with e; have := (h.row.lt k hk).2; omega
theorem Fd.fin {r : Chunk.Out} (h : Fd w wr cs vo body vt tr) (hg : wr.grownBy w' (some w.heap.size)) (hc : cs = [vo, .int .i64 r.read, .bool r.done, .bool r.wrong, vt]) (hb : r.body = body) (ht : r.done = true → tr = r.trailers) : ReadPost w r (.returned (.agg cs.toArray)) w' := by
  subst hc hb
  have hk : ∀ v : Value, v.ownBlock ≠ some w.heap.size → v.ownBlock = none ∨ v.ownBlock ≠ some w.heap.size := fun v hv => Or.inr hv
  exact ⟨vo, vt, tr, rfl, RowB.mono (h.row.kept hg (hk _ h.far.2.2.1)) (by omega), (h.tr.kept hg (hk _ h.far.2.2.2)).mono (by omega), ht, h.apart, h.below.grown hg h.below.size (fun k e => by injection e with e; omega)⟩
end
theorem fd_new (w : World) : Fd w ((w.alloc (.cells zf.toArray 120)).alloc (.cells zf.toArray 120)) zf (.slice none 0 0) [] (.slice none 0 0) [] :=
  ⟨by have h := Var.new (w.alloc (.cells zf.toArray 120)) 120 zf; rw [show (w.alloc (.cells zf.toArray 120)).heap.size = w.heap.size + 1 by simp] at h; exact h, (Var.new w 120 zf).alloc _, RowB.nil _ _, Row.nil _ _ _, fun k hk => by simp [Value.ownBlock] at hk, ((Below.refl _ _).alloc (Nat.le_refl _) _).alloc (by simp) _⟩
end Go.Proofs.YtklmpadcfioefaaGreatDoor
