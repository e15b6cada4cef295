/- The step of a reader of streams that reads a head: a head that is whole. Conditions: sizes, the world's shape. -/
import Derived.Test.YtklmpadcfioefaaGreatDoorSHead
import Derived.Test.YtklmpadcfioefaaGreatDoorSFram2
import Derived.Outline
namespace Go.Proofs.YtklmpadcfioefaaGreatDoor
open Go.RowKit

theorem Row.tail {w : World} {base n c g o : Nat} {x : Value} {xs : List Value} (h : Row w base 1 (.slice (some ⟨g, o, none⟩) (n + 1) c) (n + 1) (x :: xs)) : Row w base 1 (.slice (some ⟨g, if c = 1 then o else o + 1, none⟩) n (c - 1)) n xs := by
  have hl := h.1
  rw [List.length_cons] at hl
  refine ⟨by omega, ?_⟩
  rcases h.2 with ⟨e, _⟩ | ⟨g', o', cap, cur, t, fr, he, hb, hg, hnc, hm, hs, hf, ht⟩
  · cases e
  · injection he with e1 _ e2
    injection e1 with e1
    injection e1 with e3 e4 _
    subst e3 e4 e2
    by_cases h1 : c = 1
    · subst h1
      have hn : n = 0 := by omega
      subst hn
      have hx : xs = [] := List.eq_nil_of_length_eq_zero (by omega)
      subst hx
      exact .inr ⟨g, o, 0, cur, t, fr, rfl, hb, hg, Nat.le_refl _, by omega, by omega, fun j h2 h3 => by omega, by simp⟩
    · rw [if_neg h1]
      refine .inr ⟨g, o + 1, c - 1, cur, t, fr, rfl, hb, hg, by omega, by omega, by omega, fun j h2 h3 => hf j (by omega) (by omega), ?_⟩
      rw [Nat.mul_one] at ht ⊢
      have e : (cur.toList.drop o).take (n + 1) = x :: xs := ht
      cases hd : cur.toList.drop o with
      | nil => rw [hd] at e; simp at e
      | cons y ys =>
        rw [hd, List.take_succ_cons] at e
        injection e with _ e
        rw [show cur.toList.drop (o + 1) = (cur.toList.drop o).tail by rw [List.tail_drop], hd]
        exact e
theorem HeadSt.pop {w wx : World} {base rb : Nat} {s : Strm.S} {V : SV} {A3 : Option Addr} {c3 gm om cm : Nat} {b : Bs} {hv : List Value} {x : ByteArray} {r : List ByteArray} (h : HeadSt w wx base rb s V b A3 c3 hv) (hp : s.ph ≠ 3) (hms : s.ms = x :: r) (hmv : V.mv = .slice (some ⟨gm, om, none⟩) (r.length + 1) cm) :
    HeadSt w (wx.setCell ⟨rb, 1, none⟩ (.slice (some ⟨gm, if cm = 1 then om else om + 1, none⟩) r.length (cm - 1))) base rb { s with ms := r } { V with mv := .slice (some ⟨gm, if cm = 1 then om else om + 1, none⟩) r.length (cm - 1) } b A3 c3 hv := by
  have hm := h.m
  have ho : ∀ k, (Value.slice (some ⟨gm, if cm = 1 then om else om + 1, none⟩) r.length (cm - 1)).ownBlock = some k ↔ V.mv.ownBlock = some k := fun k => by rw [hmv]; exact Iff.rfl
  have hf : ∀ (kv : Value) k, footS rb { V with mv := .slice (some ⟨gm, if cm = 1 then om else om + 1, none⟩) r.length (cm - 1), kv := kv } k ↔ footS rb { V with kv := kv } k := fun kv k => by
    unfold footS
    rw [ho]
  have hc : Chg (fun k => k = rb) wx (wx.setCell ⟨rb, 1, none⟩ (.slice (some ⟨gm, if cm = 1 then om else om + 1, none⟩) r.length (cm - 1))) := (show Chg (fun k => k = rb) wx wx from Chg.refl _ _).setCell (p := ⟨rb, 1, none⟩) (fun _ => rfl) _
  have hrw := hm.ms
  dsimp only at hrw
  rw [hmv, hms] at hrw
  have hrow : Row wx base 1 (.slice (some ⟨gm, om, none⟩) (r.length + 1) cm) (r.length + 1) (.string x :: strsV r) := hrw
  refine ⟨⟨hm.le, hm.var.set 1 _, (hrow.tail).chg hc (fun k hk => (hm.a1 k ((ho k).1 hk)).1), Row.chg hm.blk hc (fun k hk => (hm.a2 k hk).1), hm.nil, fun e => absurd e hp, hm.off, fun k hk => hm.a1 k ((ho k).1 hk), hm.a2, fun e => absurd e hp⟩, ?_, ?_, ?_, ?_, by have := h.z; simpa using this, h.le, ?_⟩
  · exact (h.c.more (fun k _ hk => (hf V.kv k).2 hk)).setCell (p := ⟨rb, 1, none⟩) (fun _ => .inl rfl) _
  · intro k hk
    rcases h.f k ((hf _ k).1 hk) with x | x
    · exact .inl ((hf V.kv k).2 x)
    · exact .inr x
  · exact h.h.chg hc (fun e => h.apart rb (.inl rfl) e.symm)
  · exact h.r.apart hc (Nat.le_refl _) (fun _ g o e e2 => by
      injection e with e
      injection e with e _ _
      have h1 := h.lt rb (.inl rfl)
      omega)
  · exact fun k hk => h.lt k ((hf V.kv k).1 hk)
/-- a body begins -/
theorem SMem.begun {W W9 : World} {base rb q : Nat} {s t : Strm.S} {V V' : SV} (h : SMem W base rb s V q) (hc : Chg (fun k => k = rb) W W9) (ht : t.ms = s.ms) (hb : t.blk = []) (hm : V'.mv = V.mv) (hk : V'.kv = .slice none 0 0) (hl : V'.vl = .slice none 0 0) (hvt : V'.vt = .slice none 0 0)
    (hv : Var W9 rb 72 (rCells rb t V' q)) (hr : t.ph = 3 → V'.bv = .pointer (some ⟨V'.cb, 0, none⟩) ∧ Rdr W9 base V'.cb t.body V'.vl V'.vt ∧ W.heap.size ≤ V'.cb) (ho : t.ph ≠ 3 → V'.cb = rb) :
    SMem W9 base rb t V' q ∧ (∀ k, footS rb V' k → footS rb V k ∨ W.heap.size ≤ k) := by
  have hrl := h.var.lt
  have hft : ∀ k, foot V'.cb V'.vl V'.vt k → k = V'.cb := fun k hk => by rw [hl, hvt] at hk; exact foot_cut hk
  have hcb : V'.cb = rb ∨ W.heap.size ≤ V'.cb := by
    by_cases h3 : t.ph = 3
    · exact .inr (hr h3).2.2
    · exact .inl (ho h3)
  refine ⟨⟨h.le, hv, ?_, ?_, fun _ => hk, fun h3 => ⟨(hr h3).1, (hr h3).2.1⟩, fun h3 => ⟨ho h3, hl, hvt⟩, ?_, ?_, ?_⟩, ?_⟩
  · rw [ht, hm]; exact h.ms.chg hc (fun k hk => (h.a1 k hk).1)
  · rw [hb, hk]; exact RowB.nil _ _
  · intro k hk2
    rw [hm] at hk2
    have h1 := (h.ms.lt k hk2).2
    refine ⟨(h.a1 k hk2).1, fun e => by rw [hk] at e; exact nil_own e, fun f => ?_⟩
    have := hft k f
    rcases hcb with x | x
    · exact (h.a1 k hk2).1 (by omega)
    · omega
  · intro k hk2
    rw [hk] at hk2
    exact (nil_own hk2).elim
  · intro h3 f
    have := hft rb f
    have := (hr h3).2.2
    omega
  · intro k hk2
    rcases hk2 with x | x | x | x
    · exact .inl (.inl x)
    · rw [hm] at x; exact .inl (.inr (.inl x))
    · rw [hk] at x; exact (nil_own x).elim
    · have := hft k x
      rcases hcb with y | y
      · exact .inl (.inl (by omega))
      · exact .inr (by omega)
theorem HeadSt.final {w w9 : World} {base rb : Nat} {s : Strm.S} {V : SV} {A3 : Option Addr} {c3 : Nat} {b : Bs} {hv : List Value} (h : HeadSt w w9 base rb s V b A3 c3 hv) (fr ln : Nat) (du : Bool) :
    ∃ V' W9, W9 = (((((w9.setCell ⟨rb, 3, none⟩ (.slice none 0 0)).setCell ⟨rb, 6, none⟩ (.int .i64 (fr : Int))).setCell ⟨rb, 4, none⟩ (.int .i64 (ln : Int))).setCell ⟨rb, 5, none⟩ (.pointer (some ⟨w9.heap.size, 0, none⟩))).setCell ⟨rb, 8, none⟩ (.bool du)).alloc (.cells #[.int .i64 0, .int .i64 0, .slice none 0 0, .int .i64 0, .int .i64 0, .int .i64 0, .int .i64 0, .slice none 0 0] 111) ∧
      SMem W9 base rb { s with win := true, blk := [], ph := fr + 1, left := ln, body := {}, fr := fr, due := du } V' 0 ∧ (∀ k, footS rb V' k → footS rb V k ∨ w9.heap.size ≤ k) ∧ Chg (footS rb V) w W9 ∧ Var W9 w.heap.size 52 hv ∧ Chg (fun k => k = rb) w9 W9 := by
  have hrl := h.m.var.lt
  have hrw := h.lt rb (.inl rfl)
  obtain ⟨X, hX⟩ : ∃ X, X = (((((w9.setCell ⟨rb, 3, none⟩ (.slice none 0 0)).setCell ⟨rb, 6, none⟩ (.int .i64 (fr : Int))).setCell ⟨rb, 4, none⟩ (.int .i64 (ln : Int))).setCell ⟨rb, 5, none⟩ (.pointer (some ⟨w9.heap.size, 0, none⟩))).setCell ⟨rb, 8, none⟩ (.bool du)) := ⟨_, rfl⟩
  have hz : X.heap.size = w9.heap.size := by rw [hX]; simp
  have hcX : Chg (fun k => k = rb) w9 X := by
    rw [hX]
    exact (((((show Chg (fun k => k = rb) w9 w9 from Chg.refl _ _).setCell (p := ⟨rb, 3, none⟩) (fun _ => rfl) _).setCell (p := ⟨rb, 6, none⟩) (fun _ => rfl) _).setCell (p := ⟨rb, 4, none⟩) (fun _ => rfl) _).setCell (p := ⟨rb, 5, none⟩) (fun _ => rfl) _).setCell (p := ⟨rb, 8, none⟩) (fun _ => rfl) _
  have hc := hcX.alloc (.cells #[.int .i64 0, .int .i64 0, .slice none 0 0, .int .i64 0, .int .i64 0, .int .i64 0, .int .i64 0, .slice none 0 0] 111)
  have hvX : Var X rb 72 (rCells rb { s with win := true, blk := [], ph := fr + 1, left := ln, body := {}, fr := fr, due := du } { V with kv := .slice none 0 0, bv := .pointer (some ⟨w9.heap.size, 0, none⟩) } 0) := by
    rw [hX]
    exact ((((h.m.var.set 3 (.slice none 0 0)).set 6 (.int .i64 (fr : Int))).set 4 (.int .i64 (ln : Int))).set 5 (.pointer (some ⟨w9.heap.size, 0, none⟩))).set 8 (.bool du)
  rw [← hX]
  refine ⟨⟨V.mv, .slice none 0 0, .pointer (some ⟨w9.heap.size, 0, none⟩), if fr = 2 then w9.heap.size else rb, .slice none 0 0, .slice none 0 0⟩, _, rfl, ?_, ?_, ?_, ?_, hc⟩
  · refine (h.m.begun hc (V' := ⟨V.mv, .slice none 0 0, .pointer (some ⟨w9.heap.size, 0, none⟩), if fr = 2 then w9.heap.size else rb, .slice none 0 0, .slice none 0 0⟩) (t := { s with win := true, blk := [], ph := fr + 1, left := ln, body := {}, fr := fr, due := du }) rfl rfl rfl rfl rfl rfl (hvX.alloc _) (fun h3 => ?_) (fun h3 => ?_)).1
    · have h2 : fr = 2 := by dsimp only at h3; omega
      subst h2
      refine ⟨rfl, ?_, Nat.le_refl _⟩
      have := rdr_new2 X
      rw [hz] at this
      exact this.mono2 (by have := h.m.le; omega)
    · dsimp only at h3 ⊢
      rw [if_neg (by omega)]
  · intro k hk
    rcases hk with x | x | x | x
    · exact .inl (.inl x)
    · exact .inl (.inr (.inl x))
    · exact (nil_own x).elim
    · have := foot_cut x
      dsimp only at this
      split at this
      · exact .inr (by omega)
      · exact .inl (.inl this)
  · exact h.c.trans hc (fun k _ e => .inl e)
  · exact h.h.chg hc (fun e => by omega)
theorem flS_mem {fs : List Fl} {f : Fl} (h : f ∈ fs) : f.1.size ≤ flSize fs := by
  induction fs with
  | nil => cases h
  | cons a r ih =>
    have e : flSize (a :: r) = (a.1.size + a.2.size + 4) + flSize r := rfl
    rcases List.mem_cons.1 h with h | h
    · subst h; omega
    · have := ih h; omega
def RestOf (A : Option Addr) (n c D : Nat) (v : Value) : Prop := v = .slice (if c = D then A else A.map (·.add D)) (n - D) (c - D)
theorem hset7 {w : World} {b : Nat} {t : TypeId} {a0 a1 a2 a3 a4 a5 a6 : Value} (h : Var w b t [a0, a1, a2, a3, a4, a5, a6]) (v0 v1 v2 v3 v4 v5 v6 : Value) :
    Var (((((((w.setCell ⟨b, 0, none⟩ v0).setCell ⟨b, 1, none⟩ v1).setCell ⟨b, 2, none⟩ v2).setCell ⟨b, 3, none⟩ v3).setCell ⟨b, 4, none⟩ v4).setCell ⟨b, 5, none⟩ v5).setCell ⟨b, 6, none⟩ v6) b t [v0, v1, v2, v3, v4, v5, v6] ∧
    w.grownBy (((((((w.setCell ⟨b, 0, none⟩ v0).setCell ⟨b, 1, none⟩ v1).setCell ⟨b, 2, none⟩ v2).setCell ⟨b, 3, none⟩ v3).setCell ⟨b, 4, none⟩ v4).setCell ⟨b, 5, none⟩ v5).setCell ⟨b, 6, none⟩ v6) (some b) :=
  ⟨((((((h.set 0 v0).set 1 v1).set 2 v2).set 3 v3).set 4 v4).set 5 v5).set 6 v6,
   World.grownBy.comp (World.grownBy.comp (World.grownBy.comp (World.grownBy.comp (World.grownBy.comp (World.grownBy.comp (World.grownBy.set _ ⟨b, 0, none⟩ _) (World.grownBy.set _ ⟨b, 1, none⟩ _)) (World.grownBy.set _ ⟨b, 2, none⟩ _)) (World.grownBy.set _ ⟨b, 3, none⟩ _)) (World.grownBy.set _ ⟨b, 4, none⟩ _)) (World.grownBy.set _ ⟨b, 5, none⟩ _)) (World.grownBy.set _ ⟨b, 6, none⟩ _)⟩
theorem hparse_err {l : Bs} {rq : Bool} {h : Hd} {e : Nat} (hp : parseP l rq = (h, e)) (he : e ≠ 0) : h = {} := by
  unfold parseP at hp
  split at hp
  · cases hp; rfl
  · split at hp
    · cases hp; rfl
    · split at hp
      · cases hp; rfl
      · cases hf : firstP rq ((lines [] l).headD []) with
        | none => rw [hf] at hp; cases hp; rfl
        | some g =>
          rw [hf] at hp
          simp only at hp
          split at hp
          · cases hp; exact absurd rfl he
          · cases hp; rfl
/-- sizes of what is parsed -/
theorem hparse_sizes {l : Bs} {rq : Bool} {h : Hd} {e : Nat} (hp : parseP l rq = (h, e)) : h.m.length + h.t.length + h.rs.length ≤ 49152 ∧ flSize (flB h.fs) ≤ 2097408 ∧ h.fs.length ≤ 64 := by
  by_cases he : e = 0
  · subst he
    obtain ⟨_, k2, _, _, _, k6, k7, k8, k9⟩ := smuggle hp
    have hl : l.length ≤ 16384 := (parse_yes (by rw [hp])).1
    refine ⟨by omega, ?_, k2⟩
    have key : ∀ fs : List (Bs × Bs), (∀ f ∈ fs, f.1.length ≤ 16384 ∧ f.2.length ≤ 16384) → flSize (flB fs) ≤ fs.length * 32772 := by
      intro fs
      induction fs with
      | nil => intro _; exact Nat.zero_le _
      | cons f fs ih =>
        intro hf
        have h1 := ih fun g hg => hf g (by simp [hg])
        have h2 := hf f (by simp)
        have e : flSize (flB (f :: fs)) = (f.1.length + f.2.length + 4) + flSize (flB fs) := rfl
        rw [e, List.length_cons]
        omega
    have := key h.fs fun f hf => by have := k9 f hf; omega
    omega
  · rw [hparse_err hp he]; exact ⟨Nat.zero_le _, Nat.zero_le _, Nat.zero_le _⟩
set_option maxHeartbeats 32000000 in
set_option maxRecDepth 100000 in
theorem shead_whole {w : World} {base rb : Nat} {s : Strm.S} {V : SV} (hsh : Shp base w) (h : SMem w base rb s V 0) (hp : s.ph = 0) (A : Option Addr) (n c : Nat) (l : Bs) (hn : n ≤ 100000000) (hnc : n ≤ c) (hA : A = none → n = 0 ∧ c = 0)
    (hrd : Rd w w.heap.size 1 A n (bytesV l)) (hsp : Sep A n rb V) (m : Nat) (hmx : m = min n (16384 - s.blk.length)) (hbl : s.blk.length < 16384) (hn1 : 1 ≤ n) (E : Nat) (he0 : Strm.headEnd s.blk = none) (he : Strm.headEnd (s.blk ++ l.take m) = some E) :
    Calls Tryz.prog 29 #[.pointer (some ⟨rb, 0, none⟩), .slice A n c] w (CallPost w base rb V A n c 0 (Strm.callS s l)) := by
  have hlen : l.length = n := by have := hrd.1; rw [bytesV_len] at this; omega
  have hmin : min (n : Int) (16384 - (s.blk.length : Int)) = (m : Int) := by omega
  have hmn : m ≤ n := by omega
  have hm1 : 1 ≤ m := by omega
  have hml1 : s.blk.length + m ≤ 16384 := by omega
  have HE := Lib.hid he
  have HE0 := Lib.hid he0
  have HMX := Lib.hid hmx
  clear he he0 hmx
  obtain ⟨f0, hf0, fz0, fz1, fz2⟩ := info_parts infoByte
  have kc := Lib.run_convert_bytes_const (P := Tryz.prog) (w.alloc (.cells #[.bool false, .string ⟨#[]⟩, .string ⟨#[]⟩, .int .i64 0, .string ⟨#[]⟩, .int .i64 0, .slice none 0 0] 52)) 26 5 #[.int .u8 13, .int .u8 10, .int .u8 13, .int .u8 10] 4 4 Tryz.underlying26 Tryz.underlying5
  rw [halloc] at kc
  obtain ⟨Ak, ck, hkv, hkc, _, hAk, hrk⟩ := Row.form h.blk
  have d3 := h.cell (j := 3) rfl
  have d7 := h.cell (j := 7) rfl
  have f3 := h.var.frozen 3
  have f7 := h.var.frozen 7
  have hrl := h.var.lt
  rw [hkv] at d3
  have hM0 := (h.put (j := 7) (u := .bool true) (t := { s with win := true }) (q' := 0) rfl rfl rfl rfl Iff.rfl h.nil)
  have hc0 := ((show Chg (footS rb V) w w from Chg.refl _ w).setCell (p := ⟨rb, 7, none⟩) (fun _ => .inl rfl) (.bool true))
  have hz0 : (w.setCell ⟨rb, 7, none⟩ (.bool true)).heap.size = w.heap.size := by simp
  have hV0 := (Var.new (w.setCell ⟨rb, 7, none⟩ (.bool true)) 52 zHeadV).alloc (.cells #[.int .u8 13, .int .u8 10, .int .u8 13, .int .u8 10] 5 (4, 5))
  have hR0 := rd_const ((w.setCell ⟨rb, 7, none⟩ (.bool true)).alloc (.cells zHeadV.toArray 52)) 5 (4, 5) [13, 10, 13, 10]
  have hb0 : Below (w.setCell ⟨rb, 7, none⟩ (.bool true)).heap.size (w.setCell ⟨rb, 7, none⟩ (.bool true)) (((w.setCell ⟨rb, 7, none⟩ (.bool true)).alloc (.cells zHeadV.toArray 52)).alloc (.cells #[.int .u8 13, .int .u8 10, .int .u8 13, .int .u8 10] 5 (4, 5))) := ((Below.refl _ _).alloc (Nat.le_refl _) _).alloc (by rw [halloc]; omega) _
  have hM1 := hM0.below hb0
  have hc1 := hc0.then_below hb0
  rw [hz0] at hV0
  rw [show ((w.setCell ⟨rb, 7, none⟩ (.bool true)).alloc (.cells zHeadV.toArray 52)).heap.size = w.heap.size + 1 by simp] at hR0
  go_enter Tryz.func29, Tryz.ntmps29
  go_wp2
  refine wp_scope_to 0 rfl ?_
  intro JG hJG
  go_upto_region 9 with (fail)
  clear d3 d7 f3 f7 kc hc0 hM0 hb0
  change SMem (((w.setCell ⟨rb, 7, none⟩ (.bool true)).alloc (.cells #[.bool false, .string ⟨#[]⟩, .string ⟨#[]⟩, .int .i64 0, .string ⟨#[]⟩, .int .i64 0, .slice none 0 0] 52)).alloc (.cells #[.int .u8 13, .int .u8 10, .int .u8 13, .int .u8 10] 5 (4, 5))) _ _ _ _ _ at hM1
  change Chg _ _ (((w.setCell ⟨rb, 7, none⟩ (.bool true)).alloc (.cells #[.bool false, .string ⟨#[]⟩, .string ⟨#[]⟩, .int .i64 0, .string ⟨#[]⟩, .int .i64 0, .slice none 0 0] 52)).alloc (.cells #[.int .u8 13, .int .u8 10, .int .u8 13, .int .u8 10] 5 (4, 5))) at hc1
  change Var (((w.setCell ⟨rb, 7, none⟩ (.bool true)).alloc (.cells #[.bool false, .string ⟨#[]⟩, .string ⟨#[]⟩, .int .i64 0, .string ⟨#[]⟩, .int .i64 0, .slice none 0 0] 52)).alloc (.cells #[.int .u8 13, .int .u8 10, .int .u8 13, .int .u8 10] 5 (4, 5))) _ _ _ at hV0
  change Rd (((w.setCell ⟨rb, 7, none⟩ (.bool true)).alloc (.cells #[.bool false, .string ⟨#[]⟩, .string ⟨#[]⟩, .int .i64 0, .string ⟨#[]⟩, .int .i64 0, .slice none 0 0] 52)).alloc (.cells #[.int .u8 13, .int .u8 10, .int .u8 13, .int .u8 10] 5 (4, 5))) (((w.setCell ⟨rb, 7, none⟩ (.bool true)).alloc (.cells #[.bool false, .string ⟨#[]⟩, .string ⟨#[]⟩, .int .i64 0, .string ⟨#[]⟩, .int .i64 0, .slice none 0 0] 52)).alloc (.cells #[.int .u8 13, .int .u8 10, .int .u8 13, .int .u8 10] 5 (4, 5))).heap.size _ _ _ _ at hR0
  have hz1 : (((w.setCell ⟨rb, 7, none⟩ (.bool true)).alloc (.cells #[.bool false, .string ⟨#[]⟩, .string ⟨#[]⟩, .int .i64 0, .string ⟨#[]⟩, .int .i64 0, .slice none 0 0] 52)).alloc (.cells #[.int .u8 13, .int .u8 10, .int .u8 13, .int .u8 10] 5 (4, 5))).heap.size = w.heap.size + 2 := by simp
  generalize (((w.setCell ⟨rb, 7, none⟩ (.bool true)).alloc (.cells #[.bool false, .string ⟨#[]⟩, .string ⟨#[]⟩, .int .i64 0, .string ⟨#[]⟩, .int .i64 0, .slice none 0 0] 52)).alloc (.cells #[.int .u8 13, .int .u8 10, .int .u8 13, .int .u8 10] 5 (4, 5))) = W at hM1 hc1 hV0 hR0 hz1 ⊢
  have hrp := (hrd.pre (k := m) hmn).apart hc1 (Nat.le_refl _) (fun h0 => hsp (by omega))
  rw [Nat.mul_one, bytesV_take] at hrp
  have HM1 := Lib.hid hM1
  have HC1 := Lib.hid hc1
  have HV0 := Lib.hid hV0
  have HR0 := Lib.hid hR0
  have HRP := Lib.hid hrp
  have HZ1 := Lib.hid hz1
  have HK := Lib.hid hkv
  have d3 := hM1.cell (j := 3) rfl
  (try dsimp only at d3)
  rw [hkv] at d3
  have hkb := hM1.blk
  rw [hkv] at hkb
  have HKB := Lib.hid hkb
  clear hM1 hc1 hV0 hR0 hrp hz1 hkb hkv hz0
  have hf3 := HM1.out.var.frozen 3
  have hwz := HM1.out.var.lt
  have hwr : IntKind.i64.wrap (16384 - (s.blk.length : Int)) = 16384 - (s.blk.length : Int) := IntWalk.i64_in _ (by omega)
  have hi0 : (0 : Int) ≤ (m : Int) := by omega
  have hi1 : (m : Int) ≤ (c : Int) := by omega
  have hi2 : m ≤ c := by omega
  have HLT : Hid (∀ k, footS rb V k → k < w.heap.size) := Lib.hid (fun k hk => (h.lt k hk).2)
  have HSH := Lib.hid hsh
  have HLEN := Lib.hid hlen
  have HFB : Hid (∀ k, footS rb V k → base ≤ k) := Lib.hid (fun k hk => (h.lt k hk).1)
  have HP := Lib.hid hp
  have HB : Hid ((s.blk ++ l.take m).length = s.blk.length + m) := Lib.hid (by rw [List.length_append, List.length_take, hlen]; omega)
  clear h hsh hp hrd hrk hAk hlen
  go_cut [] from 26 to 40 (fun wx => ∃ A3 c3, HeadSt w wx base rb s V (s.blk ++ l.take m) A3 c3 zHeadV)
  case first =>
    go_region_law (first
      | (refine step_app _ (by rfl) (.tmp 30) (.tmp 37) 26 26 (by rfl) base 5 f0 (.int .u8 0) 1 1 Tryz.underlying26 hf0 fz0 fz1 fz2 rfl (.slice Ak s.blk.length ck) s.blk.length (bytesV s.blk) (by rfl) (Row.drew HKB.out) (.slice A m c) m (bytesV (l.take m)) (by rfl) (Src.slice Tryz.underlying26 (Rd.drew HRP.out) (fun e => by have := hA e; omega) (bytesV_one _)) (by omega) (by omega) (by omega) (by have := HM1.out.le; simp; omega) ?_; intro v3 w3 hrow3 hg3 ho3; obtain ⟨A3, c3, rfl, hc3, _, _, _⟩ := hrow3.form; have HV3 := Lib.hid ((Var.drew HM1.out.var).grown hg3 (fun e => (HM1.out.a2 rb (by rw [HK.out]; exact e)).1 rfl)); have e3 := HV3.out.cell (j := 3) rfl; have g3 := HV3.out.frozen 3)
      | fail)
    all_goals
      go_wp2
      go_meet
      refine ⟨A3, c3, ?_⟩
      have hrow4 : Row w3 base 1 (.slice A3 (s.blk ++ l.take m).length c3) (s.blk ++ l.take m).length (bytesV (s.blk ++ l.take m)) := by rw [HB.out, bytesV_append]; exact hrow3
      have ho4 : (Value.slice A3 (s.blk ++ l.take m).length c3).ownBlock = V.kv.ownBlock ∨ (Value.slice A3 (s.blk ++ l.take m).length c3).ownBlock = some W.heap.size := by rw [HB.out, HK.out]; exact ho3
      have hz := HeadSt.of HLT.out HM1.out HP.out HC1.out HZ1.out HV0.out HR0.out (by rw [HK.out]; exact hg3) hrow4 ho4 (by rw [HB.out]; exact hc3)
      rw [HB.out] at hz
      exact hz
  case rest =>
  obtain ⟨A3, c3, hst⟩ := hcut
  obtain ⟨B, hB⟩ : ∃ B, B = s.blk ++ l.take m := ⟨_, rfl⟩
  rw [← hB] at hst HB
  obtain ⟨K, hK⟩ : ∃ K, K = s.blk.length - 3 := ⟨_, rfl⟩
  have HKE := Lib.hid hK
  have hbl1 : s.blk.length < B.length := by rw [HB.out]; omega
  have hbl2 : B.length ≤ 16384 := by rw [HB.out]; omega
  have hkl : K ≤ B.length := by omega
  have hkc : ¬ c3 = K := by have := hst.le; omega
  have hmax : max ((s.blk.length : Int) - 3) 0 = (K : Int) := by omega
  have hki : (K : Int) ≤ (B.length : Int) := by omega
  have hki0 : (0 : Int) ≤ (K : Int) := by omega
  obtain ⟨g3, o3, e3, _, _, _, _⟩ := Row.own hst.m.blk (by first | omega | (dsimp only; omega))
  subst e3
  have d3 := hst.m.cell (j := 3) rfl
  have HI := bIndex_any (some ⟨g3, o3 + K, none⟩) (B.length - K) (c3 - K) (B.drop K) ⟨w.heap.size + 1, 0, none⟩ 4 4 [13, 10, 13, 10] wc (Shp.shaped (Shp.chg HSH.out hst.c (fun k hk => HFB.out k hk))) (by have := hst.le; omega) (fun e => by cases e)
    (by
      obtain ⟨_, _, e, _, _, _, hr⟩ := Row.form hst.m.blk
      injection e with e _ e2
      subst e e2
      have h2 := hr.shift (k := K) (cap := c3) hkl hst.le
      rw [if_neg hkc] at h2
      simpa [Addr.add_lit, bytesV_drop] using h2) hst.r (by decide) (by decide) (by omega)
  have HHS := Lib.hid hst
  have HBE := Lib.hid hB
  clear hst hB hK
  obtain ⟨hE1, hE2⟩ := Strm.headEnd_late HE0.out HE.out
  rw [← HBE.out] at hE2
  obtain ⟨I, hI⟩ : ∃ I, I = E - 4 - K := ⟨_, rfl⟩
  have hidx : Lib.index (B.drop K) [13, 10, 13, 10] = (I : Int) ∧ I + K + 4 = E := by
    rcases Strm.headEnd_spec (s.blk ++ l.take m) with ⟨h1, _⟩ | ⟨i, h1, h2, _⟩
    · rw [HE.out] at h1; cases h1
    · rw [HE.out] at h1
      injection h1 with h1
      have h3 := Strm.index_late (x := l.take m) HE0.out
      rw [h2, ← HKE.out, ← HBE.out] at h3
      change Lib.index (B.drop K) Strm.crlf2 = _ ∧ _
      have h4 := Lib.index_ge (B.drop K) Strm.crlf2
      by_cases h5 : Lib.index (B.drop K) Strm.crlf2 = -1
      · rw [if_pos (by simpa using h5)] at h3; omega
      · rw [if_neg (by simpa using h5)] at h3
        constructor <;> omega
  obtain ⟨hidx, hIE⟩ := hidx
  rw [hidx] at HI
  have HID := Lib.hid HI
  obtain ⟨D, hD⟩ : ∃ D, D = E - s.blk.length := ⟨_, rfl⟩
  have hsum : (I : Int) + ((K : Int) + 4) = (E : Int) := by omega
  have hdif : (E : Int) - (s.blk.length : Int) = (D : Int) := by omega
  have hneg : ¬ (I : Int) < 0 := by omega
  have hd0 : (0 : Int) ≤ (D : Int) := by omega
  have hd1 : (D : Int) ≤ (n : Int) := by have := HB.out; omega
  have hd2 : D ≤ n := by omega
  have HDE := Lib.hid hD
  have HIE := Lib.hid hIE
  clear HI hI hidx hD hIE
  go_upto_region 16 with (first
    | (go_at_call 53; go_must (refine HID.out.mono ?_; rintro _ _ ⟨rfl, q, rfl⟩))
    | fail)
  have HS5 := HHS.out.below (below_drewN (Below.refl _ _) q)
  generalize wc.drewN q = w5 at HS5 ⊢
  have H5 := Lib.hid HS5
  have hcE : E ≤ c3 := by have := HS5.le; omega
  clear HS5 HHS HID hneg hsum d3 hkc hkl hmax hki hki0
  go_cut [1] from 74 to 78 (fun v wx => ∃ Ar nr cr, v = .slice Ar nr cr ∧ RestOf A n c D (.slice Ar nr cr) ∧ w5 = wx)
  case first =>
    go_wp2
    all_goals
      go_meet
      refine ⟨_, _, _, rfl, ?_, rfl⟩
      unfold RestOf
      first | (simp; done) | (simp [*]; done)
  case rest =>
  obtain ⟨Ar, nr, cr, rfl, hrest, rfl⟩ := hcut
  have HREST := Lib.hid hrest
  have HS := Lib.hid (Shp.shaped (Shp.chg HSH.out H5.out.c (fun k hk => HFB.out k hk)))
  obtain ⟨_, _, ek, _, _, _, hrb⟩ := Row.form H5.out.m.blk
  injection ek with ek _ ek2
  subst ek ek2
  have hrE := hrb.pre (k := E) hE2
  rw [Nat.mul_one, bytesV_take] at hrE
  have HQ := Lib.hid (fun W (hB : Below w5.heap.size w5 W) => hParse_any (some ⟨g3, o3, none⟩) E c3 (B.take E) s.rq W (shaped_below HS.out hB) (fun e => by cases e) ((hrE.below hB).more hB.size) (by omega))
  unfold ParsePost hdV headV at HQ
  obtain ⟨⟨P, pe⟩, hP⟩ : ∃ P, P = parseP (B.take E) s.rq := ⟨_, rfl⟩
  obtain ⟨z1, z2, z3⟩ := hparse_sizes hP.symm
  rw [← hP] at HQ
  dsimp only at HQ
  have c3' := H5.out.m.cell (j := 3) rfl
  have c0' := H5.out.m.cell (j := 0) rfl
  have HPE := Lib.hid hP
  have hE0 : (0 : Int) ≤ (E : Int) := by omega
  have hE3 : (E : Int) ≤ (c3 : Int) := by omega
  have hw5 := H5.out.z
  clear hrest hrb hrE hP
  go_upto_region 17 with (fail)
  refine wp_region_held_drew (S := (fun w' => w'.cell? ⟨rb, 3, none⟩ = some (.slice (some ⟨g3, o3, none⟩) B.length c3) ∧ w'.cell? ⟨rb, 0, none⟩ = some (.bool s.rq))) (by as_aux_lemma => kernel_rfl) ?_ (fun hHeld => ?_)
  · exact ⟨c3', c0'⟩
  clear c3' c0'
  refine wpAnyH_take (i := 0) (v := ?_) (by simp only [List.getElem?_toArray, List.getElem?_cons_zero]; exact rfl) (by as_aux_lemma => kernel_rfl) (by as_aux_lemma => kernel_rfl) (by as_aux_lemma => kernel_rfl) (by exact fun _ _ _ h => h) (Or.inl ⟨by rfl, ?_⟩) (by assumption) ?_
  rotate_left
  · intro w hSw
    (try dsimp only at hSw)
    go_simp
    try with_reducible rfl
  (try simp only [Act.put, List.setIfInBounds_toArray, List.set_cons_zero, List.set_cons_succ])
  refine wpAnyH_take (i := 1) (v := ?_) (by simp only [List.getElem?_toArray, List.getElem?_cons_succ, List.getElem?_cons_zero]; exact rfl) (by as_aux_lemma => kernel_rfl) (by as_aux_lemma => kernel_rfl) (by as_aux_lemma => kernel_rfl) (by exact fun _ _ _ h => h) (Or.inl ⟨by rfl, ?_⟩) (by assumption) ?_
  rotate_left
  · intro w hSw
    (try dsimp only at hSw)
    go_simp
    try with_reducible rfl
  (try simp only [Act.put, List.setIfInBounds_toArray, List.set_cons_zero, List.set_cons_succ])
  refine wpAnyH_take (i := 2) (v := ?_) (by simp only [List.getElem?_toArray, List.getElem?_cons_succ, List.getElem?_cons_zero]; exact rfl) (by as_aux_lemma => kernel_rfl) (by as_aux_lemma => kernel_rfl) (by as_aux_lemma => kernel_rfl) (by exact fun _ _ _ h => h) (Or.inl ⟨by rfl, ?_⟩) (by assumption) ?_
  rotate_left
  · intro w hSw
    (try dsimp only at hSw)
    go_simp
    try with_reducible rfl
  (try simp only [Act.put, List.setIfInBounds_toArray, List.set_cons_zero, List.set_cons_succ])
  refine wpAnyH_take (i := 3) (v := ?_) (by simp only [List.getElem?_toArray, List.getElem?_cons_succ, List.getElem?_cons_zero]; exact rfl) (by as_aux_lemma => kernel_rfl) (by as_aux_lemma => kernel_rfl) (by as_aux_lemma => kernel_rfl) (by exact fun _ _ _ h => h) (Or.inl ⟨by rfl, ?_⟩) (by assumption) ?_
  rotate_left
  · intro w hSw
    (try dsimp only at hSw)
    go_simp
    try with_reducible rfl
  (try simp only [Act.put, List.setIfInBounds_toArray, List.set_cons_zero, List.set_cons_succ])
  refine wpAnyH_take (i := 4) (v := ?_) (by simp only [List.getElem?_toArray, List.getElem?_cons_succ, List.getElem?_cons_zero]; exact rfl) (by as_aux_lemma => kernel_rfl) (by as_aux_lemma => kernel_rfl) (by as_aux_lemma => kernel_rfl) (by exact fun _ _ _ h => h) (Or.inl ⟨by rfl, ?_⟩) (by assumption) ?_
  rotate_left
  · intro w hSw
    (try dsimp only at hSw)
    go_simp
    try with_reducible rfl
  (try simp only [Act.put, List.setIfInBounds_toArray, List.set_cons_zero, List.set_cons_succ])
  refine wpAnyH_take (i := 5) (v := ?_) (by simp only [List.getElem?_toArray, List.getElem?_cons_succ, List.getElem?_cons_zero]; exact rfl) (by as_aux_lemma => kernel_rfl) (by as_aux_lemma => kernel_rfl) (by as_aux_lemma => kernel_rfl) (by exact fun _ _ _ h => h) (Or.inl ⟨by rfl, ?_⟩) (by assumption) ?_
  rotate_left
  · intro w hSw
    (try dsimp only at hSw)
    go_simp
    try with_reducible rfl
  (try simp only [Act.put, List.setIfInBounds_toArray, List.set_cons_zero, List.set_cons_succ])
  refine wpAnyH_take (i := 6) (v := ?_) (by simp only [List.getElem?_toArray, List.getElem?_cons_succ, List.getElem?_cons_zero]; exact rfl) (by as_aux_lemma => kernel_rfl) (by as_aux_lemma => kernel_rfl) (by as_aux_lemma => kernel_rfl) (by exact fun _ _ _ h => h) (Or.inl ⟨by rfl, ?_⟩) (by assumption) ?_
  rotate_left
  · intro w hSw
    (try dsimp only at hSw)
    go_simp
    try with_reducible rfl
  (try simp only [Act.put, List.setIfInBounds_toArray, List.set_cons_zero, List.set_cons_succ])
  refine wpAnyH_take (i := 7) (v := ?_) (by simp only [List.getElem?_toArray, List.getElem?_cons_succ, List.getElem?_cons_zero]; exact rfl) (by as_aux_lemma => kernel_rfl) (by as_aux_lemma => kernel_rfl) (by as_aux_lemma => kernel_rfl) (by exact fun _ _ _ h => h) (Or.inl ⟨by rfl, ?_⟩) (by assumption) ?_
  rotate_left
  · intro w hSw
    (try dsimp only at hSw)
    go_simp
    try with_reducible rfl
  (try simp only [Act.put, List.setIfInBounds_toArray, List.set_cons_zero, List.set_cons_succ])
  refine wpAnyH_take (i := 8) (v := ?_) (by simp only [List.getElem?_toArray, List.getElem?_cons_succ, List.getElem?_cons_zero]; exact rfl) (by as_aux_lemma => kernel_rfl) (by as_aux_lemma => kernel_rfl) (by as_aux_lemma => kernel_rfl) (by exact fun _ _ _ h => h) (Or.inl ⟨by rfl, ?_⟩) (by assumption) ?_
  rotate_left
  · intro w hSw
    (try dsimp only at hSw)
    go_simp
    try with_reducible rfl
  (try simp only [Act.put, List.setIfInBounds_toArray, List.set_cons_zero, List.set_cons_succ])
  refine wpAnyH_take (i := 9) (v := ?_) (by simp only [List.getElem?_toArray, List.getElem?_cons_succ, List.getElem?_cons_zero]; exact rfl) (by as_aux_lemma => kernel_rfl) (by as_aux_lemma => kernel_rfl) (by as_aux_lemma => kernel_rfl) (by exact fun _ _ _ h => h) (Or.inl ⟨by rfl, ?_⟩) (by assumption) ?_
  rotate_left
  · intro w hSw
    (try dsimp only at hSw)
    go_simp
    try with_reducible rfl
  (try simp only [Act.put, List.setIfInBounds_toArray, List.set_cons_zero, List.set_cons_succ])
  refine wpAnyH_ready (rs := [10]) (by as_aux_lemma => kernel_rfl) (by simp) ?_
  refine AllReadyH.cons (by simp only [List.getElem?_toArray, List.getElem?_cons_succ, List.getElem?_cons_zero]; exact rfl) (fun K hK => ?_) AllReadyH.nil
  go_simp
  (go_at_call 25; refine (HQ.out _ ((Below.refl _ _).drew)).mono ?_; rintro _ w6 ⟨v6, rfl, hrow6, hb6⟩)
  obtain ⟨A6, c6, rfl, _, _, _, _⟩ := hrow6.form
  have H6 := Lib.hid (H5.out.below (((Below.refl _ _).drew).trans hb6))
  have HR6 := Lib.hid hrow6
  have hw6 : w5.heap.size ≤ w6.heap.size := hb6.size
  have U6 := H6.out.h
  have u0 := U6.cell (j := 0) rfl
  have u1 := U6.cell (j := 1) rfl
  have u2 := U6.cell (j := 2) rfl
  have u3 := U6.cell (j := 3) rfl
  have u4 := U6.cell (j := 4) rfl
  have u5 := U6.cell (j := 5) rfl
  have u6 := U6.cell (j := 6) rfl
  have y0 := U6.frozen 0
  have y1 := U6.frozen 1
  have y2 := U6.frozen 2
  have y3 := U6.frozen 3
  have y4 := U6.frozen 4
  have y5 := U6.frozen 5
  have y6 := U6.frozen 6
  obtain ⟨s7, g7⟩ := hset7 U6 (.bool P.rq) (.string ⟨P.m.toArray⟩) (.string ⟨P.t.toArray⟩) (.int .i64 (P.st : Int)) (.string ⟨P.rs.toArray⟩) (.int .i64 (P.mn : Int)) (.slice A6 P.fs.length c6)
  have H7 := Lib.hid (H6.out.turn g7 s7)
  have HR7 := Lib.hid (hrow6.kept g7 (Or.inr (fun e => by have := (hrow6.lt _ e).1; have e2 : (w5.drew).heap.size = w5.heap.size := rfl; omega)))
  clear U6 s7 g7 hrow6 hb6
  refine hK.out _ _ ?_ (fun hHeld => ?_)
  · (try dsimp only)
    exact ⟨H6.out.m.cell (j := 3) rfl, H6.out.m.cell (j := 0) rfl⟩
  clear hK K
  (try simp only [Act.put, List.setIfInBounds_toArray, List.set_cons_zero, List.set_cons_succ])
  refine wpAnyH_take (i := 11) (v := ?_) (by simp only [List.getElem?_toArray, List.getElem?_cons_succ, List.getElem?_cons_zero]; exact rfl) (by as_aux_lemma => kernel_rfl) (by as_aux_lemma => kernel_rfl) (by as_aux_lemma => kernel_rfl) (by exact fun _ _ _ h => h) (Or.inl ⟨by rfl, ?_⟩) (by assumption) ?_
  rotate_left
  · intro w hSw
    (try dsimp only at hSw)
    go_simp
    try with_reducible rfl
  (try simp only [Act.put, List.setIfInBounds_toArray, List.set_cons_zero, List.set_cons_succ])
  refine wpAnyH_take (i := 12) (v := ?_) (by simp only [List.getElem?_toArray, List.getElem?_cons_succ, List.getElem?_cons_zero]; exact rfl) (by as_aux_lemma => kernel_rfl) (by as_aux_lemma => kernel_rfl) (by as_aux_lemma => kernel_rfl) (by exact fun _ _ _ h => h) (Or.inl ⟨by rfl, ?_⟩) (by assumption) ?_
  rotate_left
  · intro w hSw
    (try dsimp only at hSw)
    go_simp
    try with_reducible rfl
  (try simp only [Act.put, List.setIfInBounds_toArray, List.set_cons_zero, List.set_cons_succ])
  refine wpAnyH_take (i := 13) (v := ?_) (by simp only [List.getElem?_toArray, List.getElem?_cons_succ, List.getElem?_cons_zero]; exact rfl) (by as_aux_lemma => kernel_rfl) (by as_aux_lemma => kernel_rfl) (by as_aux_lemma => kernel_rfl) (by exact fun _ _ _ h => h) (Or.inl ⟨by rfl, ?_⟩) (by assumption) ?_
  rotate_left
  · intro w hSw
    (try dsimp only at hSw)
    go_simp
    try with_reducible rfl
  (try simp only [Act.put, List.setIfInBounds_toArray, List.set_cons_zero, List.set_cons_succ])
  refine wpAnyH_ready (rs := [14]) (by as_aux_lemma => kernel_rfl) (by simp) ?_
  refine AllReadyH.cons (by simp only [List.getElem?_toArray, List.getElem?_cons_succ, List.getElem?_cons_zero]; exact rfl) (fun K hK => ?_) AllReadyH.nil
  go_simp
  refine hK.out _ _ ?_ (fun hHeld => ?_)
  · (try dsimp only)
    exact ⟨H7.out.m.cell (j := 3) rfl, H7.out.m.cell (j := 0) rfl⟩
  clear hK K
  (try simp only [Act.put, List.setIfInBounds_toArray, List.set_cons_zero, List.set_cons_succ])
  refine wpAnyH_take (i := 15) (v := ?_) (by simp only [List.getElem?_toArray, List.getElem?_cons_succ, List.getElem?_cons_zero]; exact rfl) (by as_aux_lemma => kernel_rfl) (by as_aux_lemma => kernel_rfl) (by as_aux_lemma => kernel_rfl) (by exact fun _ _ _ h => h) (Or.inl ⟨by rfl, ?_⟩) (by assumption) ?_
  rotate_left
  · intro w hSw
    (try dsimp only at hSw)
    go_simp
    try with_reducible rfl
  (try simp only [Act.put, List.setIfInBounds_toArray, List.set_cons_zero, List.set_cons_succ])
  refine wpAnyH_done (by as_aux_lemma => kernel_rfl) ?_ _
  clear u0 u1 u2 u3 u4 u5 u6 y0 y1 y2 y3 y4 y5 y6 hHeld
  generalize (((((((w6.setCell ⟨w.heap.size, 0, none⟩ (.bool P.rq)).setCell ⟨w.heap.size, 1, none⟩ (.string ⟨P.m.toArray⟩)).setCell ⟨w.heap.size, 2, none⟩ (.string ⟨P.t.toArray⟩)).setCell ⟨w.heap.size, 3, none⟩ (.int .i64 (P.st : Int))).setCell ⟨w.heap.size, 4, none⟩ (.string ⟨P.rs.toArray⟩)).setCell ⟨w.heap.size, 5, none⟩ (.int .i64 (P.mn : Int))).setCell ⟨w.heap.size, 6, none⟩ (.slice A6 P.fs.length c6)) = w7 at H7 HR7 ⊢
  by_cases hpe : pe = 0
  · have hn0 : ((pe : Int) != 0) = false := by rw [hpe]; rfl
    have HPZ := Lib.hid hpe
    clear hpe
    obtain ⟨TK, hTK⟩ : ∃ TK, TK = Strm.takes s P := ⟨_, rfl⟩
    have HTK := Lib.hid hTK
    have hmf := H7.out.m.ms
    dsimp only at hmf
    obtain ⟨Am, cm, hmv, hmc, _, _, hmr⟩ := hmf.form
    have HMV := Lib.hid hmv
    have HMR := Lib.hid hmr
    have HMF := Lib.hid hmf
    clear hTK hmv hmr hmf
    go_upto_region 19 with (fail)
    go_cut [112] from 95 to 112 (fun v wx => v = .bool TK ∧ w7 = wx)
    case first =>
      have u3 := H7.out.h.cell (j := 3) rfl
      have c0 := H7.out.m.cell (j := 0) rfl
      have c1 := H7.out.m.cell (j := 1) rfl
      dsimp only at c0 c1
      rw [HMV.out] at c1
      have ht := HTK.out
      unfold Strm.takes at ht
      obtain ⟨rq, hrq⟩ : ∃ rq, rq = s.rq := ⟨_, rfl⟩
      rw [← hrq] at c0 ht
      have HT := Lib.hid ht
      clear ht hrq
      cases rq with
      | true =>
        go_wp2
        go_meet
        exact ⟨by rw [HT.out]; rfl, rfl⟩
      | false =>
        by_cases h2 : 200 ≤ P.st
        · have h2i : (200 : Int) ≤ (P.st : Int) := by omega
          cases hms : s.ms with
          | nil =>
            have HMS := Lib.hid hms
            have hl0 : s.ms.length = 0 := by rw [hms]; rfl
            rw [hl0] at c1
            clear hms hl0
            go_wp2
            go_meet
            exact ⟨by rw [HT.out, HMS.out]; simp, rfl⟩
          | cons x r =>
            have HMS := Lib.hid hms
            have hl0 : s.ms.length = r.length + 1 := by rw [hms]; rfl
            rw [hl0] at c1
            have hp1 : (0 : Int) < (r.length : Int) + 1 := by omega
            clear hms hl0
            go_wp2
            go_meet
            exact ⟨by rw [HT.out, HMS.out]; simp [h2], rfl⟩
        · have h2i : ¬ (200 : Int) ≤ (P.st : Int) := by omega
          have H2 := Lib.hid h2
          clear h2
          go_wp2
          go_meet
          exact ⟨by rw [HT.out]; simp [H2.out], rfl⟩
    case rest =>
    obtain ⟨rfl, rfl⟩ := hcut
    go_upto_if 112 with (fail)
    go_cut [12] from 113 to 126 (fun v wx => ∃ mv', v = .string (Strm.method s P) ∧ HeadSt w wx base rb { s with ms := if Strm.takes s P = true then s.ms.tail else s.ms } { V with mv := mv' } B (some ⟨g3, o3, none⟩) c3 [.bool P.rq, .string ⟨P.m.toArray⟩, .string ⟨P.t.toArray⟩, .int .i64 (P.st : Int), .string ⟨P.rs.toArray⟩, .int .i64 (P.mn : Int), .slice A6 P.fs.length c6] ∧
      Row wx w5.heap.size 2 (.slice A6 P.fs.length c6) P.fs.length (fieldsV (flB P.fs)) ∧ w7.heap.size ≤ wx.heap.size ∧ ∀ kv k, footS rb { V with mv := mv', kv := kv } k ↔ footS rb { V with kv := kv } k)
    case first =>
      cases TK with
      | false =>
        go_wp2
        go_meet
        refine ⟨V.mv, ?_, ?_, HR7.out, Nat.le_refl _, fun _ _ => Iff.rfl⟩
        · unfold Strm.method; rw [← HTK.out]; rfl
        · rw [← HTK.out]; exact H7.out
      | true =>
        cases hms : s.ms with
        | nil =>
          have ht := HTK.out
          unfold Strm.takes at ht
          rw [hms] at ht
          simp at ht
        | cons x r =>
          have hl0 : s.ms.length = r.length + 1 := by rw [hms]; rfl
          have hmf := HMF.out
          have hmv := HMV.out
          rw [hmv] at hmf
          rw [hl0] at hmf hmv
          obtain ⟨gm, om, egm, _, _, hcl, _⟩ := hmf.own (by omega)
          subst egm
          have c1 := H7.out.m.cell (j := 1) rfl
          dsimp only at c1
          rw [hmv] at c1
          have x0 := hcl 0 (.string x) (by rw [hms]; rfl)
          rw [Nat.add_zero] at x0
          have hf1 := H7.out.m.var.frozen 1
          have hrl := H7.out.m.var.lt
          have POP := (H7.out.pop (by have := HP.out; omega) hms hmv).below ((Below.refl _ _).drew)
          have HMS := Lib.hid hms
          have hmt : Strm.method s P = x := by unfold Strm.method; rw [← HTK.out, if_pos rfl, hms]; rfl
          have HMT := Lib.hid hmt
          have hr8 : Row ((w7.setCell ⟨rb, 1, none⟩ (.slice (some ⟨gm, if cm = 1 then om else om + 1, none⟩) r.length (cm - 1))).drew) w5.heap.size 2 (.slice A6 P.fs.length c6) P.fs.length (fieldsV (flB P.fs)) :=
            (HR7.out.setCell (p := ⟨rb, 1, none⟩) (fun e => by have := (HR7.out.lt rb e).1; have := H7.out.lt rb (.inl rfl); have e2 : (w5.drew).heap.size = w5.heap.size := rfl; omega) _).drew
          have hff : ∀ kv k, footS rb { V with mv := .slice (some ⟨gm, if cm = 1 then om else om + 1, none⟩) r.length (cm - 1), kv := kv } k ↔ footS rb { V with kv := kv } k := fun kv k => by
            unfold footS
            dsimp only
            rw [hmv]
            exact Iff.rfl
          have HFF := Lib.hid hff
          have HR8 := Lib.hid hr8
          have HPOP := Lib.hid POP
          have hp1 : (0 : Int) < (r.length : Int) + 1 := by omega
          have hp2 : (1 : Int) ≤ (r.length : Int) + 1 := by omega
          have hp3 : 1 ≤ r.length + 1 := by omega
          clear hcl hmf hmv hl0 hms POP hmt hr8 hff
          by_cases hcm : cm = 1
          · subst hcm
            rw [if_pos rfl] at HPOP HR8 HFF
            go_upto_region 20 with (fail)
            go_region_law (fail)
            all_goals
              go_wp2
              go_meet
              refine ⟨.slice (some ⟨gm, om, none⟩) r.length 0, by rw [HMT.out], ?_, HR8.out, by simp, HFF.out⟩
              rw [← HTK.out, HMS.out]
              exact HPOP.out
          · rw [if_neg hcm] at HPOP HR8 HFF
            go_upto_region 20 with (fail)
            go_region_law (fail)
            all_goals
              go_wp2
              go_meet
              refine ⟨.slice (some ⟨gm, om + 1, none⟩) r.length (cm - 1), by rw [HMT.out], ?_, HR8.out, by simp, HFF.out⟩
              rw [← HTK.out, HMS.out]
              exact HPOP.out
    case rest =>
    obtain ⟨mv', rfl, h8, hr8, hz8, hf8⟩ := hcut
    obtain ⟨w8, rfl⟩ : ∃ w8 : World, w8 = wc := ⟨_, rfl⟩
    have hfv : ∀ k, footS rb { V with mv := mv' } k → footS rb V k := fun k hk => (hf8 V.kv k).1 hk
    have hsh8 : w8.ShapedOpen Tryz.prog := Shp.shaped (Shp.chg HSH.out h8.c (fun k hk => HFB.out k (hfv k hk)))
    have hrd8 := hr8.form
    obtain ⟨_, _, e8, _, _, _, hrd8⟩ := hrd8
    injection e8 with e8 _ e9
    subst e8 e9
    have HF := sframing_any P.rq ⟨P.m.toArray⟩ ⟨P.t.toArray⟩ (P.st : Int) ⟨P.rs.toArray⟩ (P.mn : Int) A6 P.fs.length c6 (flB P.fs) (Strm.method s P) w8 hsh8 hrd8 (by omega) (fun f hf => by have := flS_mem hf; omega) (by omega)
    have hfl := Strm.framing_le P.rq (decide (Strm.method s P = Strm.bHEAD)) (P.st : Int) (P.mn : Int) (flB P.fs)
    unfold headV at HF
    obtain ⟨⟨fr, ln, fe⟩, hF⟩ : ∃ F, F = framingP P.rq (decide (Strm.method s P = Strm.bHEAD)) (P.st : Int) (P.mn : Int) (flB P.fs) := ⟨_, rfl⟩
    change Calls _ _ _ _ (fun e w' => e = .returned (framV (framingP P.rq (decide (Strm.method s P = Strm.bHEAD)) (P.st : Int) (P.mn : Int) (flB P.fs))) ∧ _) at HF
    rw [← hF] at HF hfl
    unfold framV at HF
    dsimp only at HF hfl
    have HFF := Lib.hid HF
    have HFE := Lib.hid hF
    have H8 := Lib.hid h8
    have HR8 := Lib.hid hr8
    have HFV := Lib.hid hf8
    have u0 := h8.h.cell (j := 0) rfl
    have u1 := h8.h.cell (j := 1) rfl
    have u2 := h8.h.cell (j := 2) rfl
    have u3 := h8.h.cell (j := 3) rfl
    have u4 := h8.h.cell (j := 4) rfl
    have u5 := h8.h.cell (j := 5) rfl
    have u6 := h8.h.cell (j := 6) rfl
    have hcs : (if fe ≠ 0 then (Strm.callS s l).1 = [] ∧ (Strm.callS s l).2.2 = ({ s with win := true, blk := B, ms := if Strm.takes s P = true then s.ms.tail else s.ms }, fe)
        else Strm.callS s l = ([.head P fr ln], D, { s with win := true, blk := [], ms := if Strm.takes s P = true then s.ms.tail else s.ms, ph := fr + 1, left := ln, body := {}, fr := fr, due := decide (fr = 0 ∨ fr = 1 ∧ ln = 0) }, 0)) := by
      have e1 : l.take (16384 - s.blk.length) = l.take m := by
        have := HMX.out
        by_cases h : n ≤ 16384 - s.blk.length
        · rw [List.take_of_length_le (by rw [HLEN.out]; omega), List.take_of_length_le (by rw [HLEN.out]; omega)]
        · rw [show m = 16384 - s.blk.length by omega]
      rw [Strm.call0 HP.out l, e1, HE.out]
      dsimp only
      rw [← HBE.out, ← HDE.out]
      unfold Strm.headS
      dsimp only
      rw [← HPE.out, HPZ.out]
      dsimp only
      rw [if_neg (show ¬ (0 : Nat) ≠ 0 by decide)]
      have e2 : Strm.headFr { s with win := true, blk := B } P = (fr, ln, fe) := HFE.out.symm
      rw [e2]
      dsimp only
      by_cases h : fe ≠ 0
      · rw [if_pos h, if_pos h]; exact ⟨rfl, rfl⟩
      · rw [if_neg h, if_neg h]; rfl
    have HCS := Lib.hid hcs
    clear h8 hr8 hf8 hsh8 hrd8 HF hF hcs hfv
    go_upto_if 135 with (first
      | (go_at_call 33; go_must (refine HFF.out.mono ?_; rintro _ w9 ⟨rfl, hb9⟩))
      | fail)
    have H9 := Lib.hid (H8.out.below hb9)
    have HR9 := Lib.hid (HR8.out.below_all hb9)
    have hz9 := hb9.size
    clear u0 u1 u2 u3 u4 u5 u6 hb9
    by_cases hfe : fe = 0
    · have hn1 : ((fe : Int) != 0) = false := by rw [hfe]; rfl
      have hcs := HCS.out
      rw [if_neg (by omega)] at hcs
      obtain ⟨du, hdu⟩ : ∃ du, du = decide (fr = 0 ∨ fr = 1 ∧ ln = 0) := ⟨_, rfl⟩
      rw [← hdu] at hcs
      have HC2 := Lib.hid hcs
      have HDU := Lib.hid hdu
      have d3 := H9.out.m.cell (j := 3) rfl
      have d4 := H9.out.m.cell (j := 4) rfl
      have d5 := H9.out.m.cell (j := 5) rfl
      have d6 := H9.out.m.cell (j := 6) rfl
      have d8 := H9.out.m.cell (j := 8) rfl
      have f3 := H9.out.m.var.frozen 3
      have f4 := H9.out.m.var.frozen 4
      have f5 := H9.out.m.var.frozen 5
      have f6 := H9.out.m.var.frozen 6
      have f8 := H9.out.m.var.frozen 8
      have hrl := H9.out.m.var.lt
      obtain ⟨hf3, hl3⟩ := hfl
      have HFZ := Lib.hid hfe
      clear hcs hfe hdu
      go_upto_region 23 with (fail)
      rcases (show fr = 0 ∨ fr = 1 ∨ fr = 2 ∨ fr = 3 by omega) with h | h | h | h
      · subst h
        obtain rfl : du = true := by rw [HDU.out]; simp
        go_upto_region 25 with (fail)
        obtain ⟨V9, W9, hW, hm9, hf9, hc9, hv9, hd9⟩ := H9.out.final 0 ln true
        clear d3 d4 d5 d6 d8 f3 f4 f5 f6 f8
        simp only [Int.ofNat_zero, Int.ofNat_one, Int.cast_ofNat_Int] at hW
        rw [← hW]
        clear hW
        have hv10 := Var.drew hv9
        have HV10 := Lib.hid hv10
        have HM9 := Lib.hid hm9
        have HF9 := Lib.hid hf9
        have HC9 := Lib.hid hc9
        have HD9 := Lib.hid hd9
        clear hm9 hf9 hc9 hd9 hv9
        refine wp_region_held_drew (S := (fun w' => w'.cell? ⟨w.heap.size, 0, none⟩ = some (.bool P.rq) ∧ w'.cell? ⟨w.heap.size, 1, none⟩ = some (.string ⟨P.m.toArray⟩) ∧ w'.cell? ⟨w.heap.size, 2, none⟩ = some (.string ⟨P.t.toArray⟩) ∧ w'.cell? ⟨w.heap.size, 3, none⟩ = some (.int .i64 (P.st : Int)) ∧ w'.cell? ⟨w.heap.size, 4, none⟩ = some (.string ⟨P.rs.toArray⟩) ∧ w'.cell? ⟨w.heap.size, 5, none⟩ = some (.int .i64 (P.mn : Int)) ∧ w'.cell? ⟨w.heap.size, 6, none⟩ = some (.slice A6 P.fs.length c6))) (by as_aux_lemma => kernel_rfl) ?_ (fun hHeld => ?_)
        · exact ⟨hv10.cell (j := 0) rfl, hv10.cell (j := 1) rfl, hv10.cell (j := 2) rfl, hv10.cell (j := 3) rfl, hv10.cell (j := 4) rfl, hv10.cell (j := 5) rfl, hv10.cell (j := 6) rfl⟩
        clear hv10
        have hix : ∀ W, (Instr.index 112 (.agg #[.func (.func 55) #[.pointer (some ⟨rb, 0, none⟩)] #[], .func (.func 56) #[.pointer (some ⟨rb, 0, none⟩)] #[], .func (.func 57) #[.pointer (some ⟨rb, 0, none⟩)] #[], .func (.func 58) #[.pointer (some ⟨rb, 0, none⟩)] #[]]) (.int .i64 0)).run Tryz.prog W = .ok (.func (.func (nowF (0 + 1))) #[.pointer (some ⟨rb, 0, none⟩)] #[]) W := fun _ => by kernel_rfl
        dsimp only [nowF] at hix
        refine wpAnyH_take (i := 0) (v := ?_) (by simp only [List.getElem?_toArray, List.getElem?_cons_zero]; exact rfl) (by as_aux_lemma => kernel_rfl) (by as_aux_lemma => kernel_rfl) (by as_aux_lemma => kernel_rfl) (by exact fun _ _ _ h => h) (Or.inl ⟨by rfl, ?_⟩) (by assumption) ?_
        rotate_left
        · intro w hSw
          (try dsimp only at hSw)
          go_simp
          try with_reducible rfl
        (try simp only [Act.put, List.setIfInBounds_toArray, List.set_cons_zero, List.set_cons_succ])
        refine wpAnyH_take (i := 1) (v := ?_) (by simp only [List.getElem?_toArray, List.getElem?_cons_succ, List.getElem?_cons_zero]; exact rfl) (by as_aux_lemma => kernel_rfl) (by as_aux_lemma => kernel_rfl) (by as_aux_lemma => kernel_rfl) (by exact fun _ _ _ h => h) (Or.inl ⟨by rfl, ?_⟩) (by assumption) ?_
        rotate_left
        · intro w hSw
          (try dsimp only at hSw)
          go_simp
          try with_reducible rfl
        (try simp only [Act.put, List.setIfInBounds_toArray, List.set_cons_zero, List.set_cons_succ])
        refine wpAnyH_take (i := 2) (v := ?_) (by simp only [List.getElem?_toArray, List.getElem?_cons_succ, List.getElem?_cons_zero]; exact rfl) (by as_aux_lemma => kernel_rfl) (by as_aux_lemma => kernel_rfl) (by as_aux_lemma => kernel_rfl) (by exact fun _ _ _ h => h) (Or.inl ⟨by rfl, ?_⟩) (by assumption) ?_
        rotate_left
        · intro w hSw
          (try dsimp only at hSw)
          go_simp
          try with_reducible rfl
        (try simp only [Act.put, List.setIfInBounds_toArray, List.set_cons_zero, List.set_cons_succ])
        refine wpAnyH_take (i := 3) (v := ?_) (by simp only [List.getElem?_toArray, List.getElem?_cons_succ, List.getElem?_cons_zero]; exact rfl) (by as_aux_lemma => kernel_rfl) (by as_aux_lemma => kernel_rfl) (by as_aux_lemma => kernel_rfl) (by exact fun _ _ _ h => h) (Or.inl ⟨by rfl, ?_⟩) (by assumption) ?_
        rotate_left
        · intro w hSw
          (try dsimp only at hSw)
          go_simp
          try with_reducible rfl
        (try simp only [Act.put, List.setIfInBounds_toArray, List.set_cons_zero, List.set_cons_succ])
        refine wpAnyH_take (i := 5) (v := ?_) (by simp only [List.getElem?_toArray, List.getElem?_cons_succ, List.getElem?_cons_zero]; exact rfl) (by as_aux_lemma => kernel_rfl) (by as_aux_lemma => kernel_rfl) (by as_aux_lemma => kernel_rfl) (by exact fun _ _ _ h => h) (Or.inl ⟨by rfl, ?_⟩) (by assumption) ?_
        rotate_left
        · intro w hSw
          (try dsimp only at hSw)
          go_simp
          try with_reducible rfl
        (try simp only [Act.put, List.setIfInBounds_toArray, List.set_cons_zero, List.set_cons_succ])
        refine wpAnyH_take (i := 6) (v := ?_) (by simp only [List.getElem?_toArray, List.getElem?_cons_succ, List.getElem?_cons_zero]; exact rfl) (by as_aux_lemma => kernel_rfl) (by as_aux_lemma => kernel_rfl) (by as_aux_lemma => kernel_rfl) (by exact fun _ _ _ h => h) (Or.inl ⟨by rfl, ?_⟩) (by assumption) ?_
        rotate_left
        · intro w hSw
          (try dsimp only at hSw)
          go_simp
          try with_reducible rfl
        (try simp only [Act.put, List.setIfInBounds_toArray, List.set_cons_zero, List.set_cons_succ])
        refine wpAnyH_take (i := 7) (v := ?_) (by simp only [List.getElem?_toArray, List.getElem?_cons_succ, List.getElem?_cons_zero]; exact rfl) (by as_aux_lemma => kernel_rfl) (by as_aux_lemma => kernel_rfl) (by as_aux_lemma => kernel_rfl) (by exact fun _ _ _ h => h) (Or.inl ⟨by rfl, ?_⟩) (by assumption) ?_
        rotate_left
        · intro w hSw
          (try dsimp only at hSw)
          go_simp
          try with_reducible rfl
        (try simp only [Act.put, List.setIfInBounds_toArray, List.set_cons_zero, List.set_cons_succ])
        refine wpAnyH_take (i := 8) (v := ?_) (by simp only [List.getElem?_toArray, List.getElem?_cons_succ, List.getElem?_cons_zero]; exact rfl) (by as_aux_lemma => kernel_rfl) (by as_aux_lemma => kernel_rfl) (by as_aux_lemma => kernel_rfl) (by exact fun _ _ _ h => h) (Or.inl ⟨by rfl, ?_⟩) (by assumption) ?_
        rotate_left
        · intro w hSw
          (try dsimp only at hSw)
          go_simp
          try with_reducible rfl
        (try simp only [Act.put, List.setIfInBounds_toArray, List.set_cons_zero, List.set_cons_succ])
        refine wpAnyH_take (i := 9) (v := ?_) (by simp only [List.getElem?_toArray, List.getElem?_cons_succ, List.getElem?_cons_zero]; exact rfl) (by as_aux_lemma => kernel_rfl) (by as_aux_lemma => kernel_rfl) (by as_aux_lemma => kernel_rfl) (by exact fun _ _ _ h => h) (Or.inl ⟨by rfl, ?_⟩) (by assumption) ?_
        rotate_left
        · intro w hSw
          (try dsimp only at hSw)
          go_simp
          try with_reducible rfl
        (try simp only [Act.put, List.setIfInBounds_toArray, List.set_cons_zero, List.set_cons_succ])
        refine wpAnyH_take (i := 10) (v := ?_) (by simp only [List.getElem?_toArray, List.getElem?_cons_succ, List.getElem?_cons_zero]; exact rfl) (by as_aux_lemma => kernel_rfl) (by as_aux_lemma => kernel_rfl) (by as_aux_lemma => kernel_rfl) (by exact fun _ _ _ h => h) (Or.inl ⟨by rfl, ?_⟩) (by assumption) ?_
        rotate_left
        · intro w hSw
          (try dsimp only at hSw)
          go_simp
          try with_reducible rfl
        (try simp only [Act.put, List.setIfInBounds_toArray, List.set_cons_zero, List.set_cons_succ])
        refine wpAnyH_take (i := 11) (v := ?_) (by simp only [List.getElem?_toArray, List.getElem?_cons_succ, List.getElem?_cons_zero]; exact rfl) (by as_aux_lemma => kernel_rfl) (by as_aux_lemma => kernel_rfl) (by as_aux_lemma => kernel_rfl) (by exact fun _ _ _ h => h) (Or.inl ⟨by rfl, ?_⟩) (by assumption) ?_
        rotate_left
        · intro w hSw
          (try dsimp only at hSw)
          go_simp
          try with_reducible rfl
        (try simp only [Act.put, List.setIfInBounds_toArray, List.set_cons_zero, List.set_cons_succ])
        refine wpAnyH_take (i := 12) (v := ?_) (by simp only [List.getElem?_toArray, List.getElem?_cons_succ, List.getElem?_cons_zero]; exact rfl) (by as_aux_lemma => kernel_rfl) (by as_aux_lemma => kernel_rfl) (by as_aux_lemma => kernel_rfl) (by exact fun _ _ _ h => h) (Or.inl ⟨by rfl, ?_⟩) (by assumption) ?_
        rotate_left
        · intro w hSw
          (try dsimp only at hSw)
          go_simp
          try with_reducible rfl
        (try simp only [Act.put, List.setIfInBounds_toArray, List.set_cons_zero, List.set_cons_succ])
        refine wpAnyH_take (i := 13) (v := ?_) (by simp only [List.getElem?_toArray, List.getElem?_cons_succ, List.getElem?_cons_zero]; exact rfl) (by as_aux_lemma => kernel_rfl) (by as_aux_lemma => kernel_rfl) (by as_aux_lemma => kernel_rfl) (by exact fun _ _ _ h => h) (Or.inl ⟨by rfl, ?_⟩) (by assumption) ?_
        rotate_left
        · intro w hSw
          (try dsimp only at hSw)
          go_simp
          try with_reducible rfl
        (try simp only [Act.put, List.setIfInBounds_toArray, List.set_cons_zero, List.set_cons_succ])
        refine wpAnyH_take (i := 14) (v := ?_) (by simp only [List.getElem?_toArray, List.getElem?_cons_succ, List.getElem?_cons_zero]; exact rfl) (by as_aux_lemma => kernel_rfl) (by as_aux_lemma => kernel_rfl) (by as_aux_lemma => kernel_rfl) (by exact fun _ _ _ h => h) (Or.inl ⟨by rfl, ?_⟩) (by assumption) ?_
        rotate_left
        · intro w hSw
          (try dsimp only at hSw)
          go_simp
          try with_reducible rfl
        (try simp only [Act.put, List.setIfInBounds_toArray, List.set_cons_zero, List.set_cons_succ])
        refine wpAnyH_take (i := 15) (v := ?_) (by simp only [List.getElem?_toArray, List.getElem?_cons_succ, List.getElem?_cons_zero]; exact rfl) (by as_aux_lemma => kernel_rfl) (by as_aux_lemma => kernel_rfl) (by as_aux_lemma => kernel_rfl) (by exact fun _ _ _ h => h) (Or.inl ⟨by rfl, ?_⟩) (by assumption) ?_
        rotate_left
        · intro w hSw
          (try dsimp only at hSw)
          go_simp
          try with_reducible rfl
        (try simp only [Act.put, List.setIfInBounds_toArray, List.set_cons_zero, List.set_cons_succ])
        refine wpAnyH_take (i := 16) (v := ?_) (by simp only [List.getElem?_toArray, List.getElem?_cons_succ, List.getElem?_cons_zero]; exact rfl) (by as_aux_lemma => kernel_rfl) (by as_aux_lemma => kernel_rfl) (by as_aux_lemma => kernel_rfl) (by exact fun _ _ _ h => h) (Or.inl ⟨by rfl, ?_⟩) (by assumption) ?_
        rotate_left
        · intro w hSw
          (try dsimp only at hSw)
          go_simp
          try with_reducible rfl
        (try simp only [Act.put, List.setIfInBounds_toArray, List.set_cons_zero, List.set_cons_succ])
        refine wpAnyH_ready (rs := [4]) (by as_aux_lemma => kernel_rfl) (by simp) ?_
        refine AllReadyH.cons (by simp only [List.getElem?_toArray, List.getElem?_cons_succ, List.getElem?_cons_zero]; exact rfl) (fun K hK => ?_) AllReadyH.nil
        go_simp
        have hva := HV10.out.alloc (.cells #[.int .i64 1, .bool P.rq, .string ⟨P.m.toArray⟩, .string ⟨P.t.toArray⟩, .int .i64 (P.st : Int), .string ⟨P.rs.toArray⟩, .int .i64 (P.mn : Int), .slice A6 P.fs.length c6, .int .i64 (0 : Nat), .int .i64 (ln : Nat), .slice none 0 0] 58)
        refine hK.out _ _ ?_ (fun hHeld => ?_)
        · (try dsimp only)
          exact ⟨hva.cell (j := 0) rfl, hva.cell (j := 1) rfl, hva.cell (j := 2) rfl, hva.cell (j := 3) rfl, hva.cell (j := 4) rfl, hva.cell (j := 5) rfl, hva.cell (j := 6) rfl⟩
        clear hK K
        (try simp only [Act.put, List.setIfInBounds_toArray, List.set_cons_zero, List.set_cons_succ])
        refine wpAnyH_take (i := 17) (v := ?_) (by simp only [List.getElem?_toArray, List.getElem?_cons_succ, List.getElem?_cons_zero]; exact rfl) (by as_aux_lemma => kernel_rfl) (by as_aux_lemma => kernel_rfl) (by as_aux_lemma => kernel_rfl) (by exact fun _ _ _ h => h) (Or.inl ⟨by rfl, ?_⟩) (by assumption) ?_
        rotate_left
        · intro w hSw
          (try dsimp only at hSw)
          go_simp
          try with_reducible rfl
        (try simp only [Act.put, List.setIfInBounds_toArray, List.set_cons_zero, List.set_cons_succ])
        refine wpAnyH_take (i := 18) (v := ?_) (by simp only [List.getElem?_toArray, List.getElem?_cons_succ, List.getElem?_cons_zero]; exact rfl) (by as_aux_lemma => kernel_rfl) (by as_aux_lemma => kernel_rfl) (by as_aux_lemma => kernel_rfl) (by exact fun _ _ _ h => h) (Or.inl ⟨by rfl, ?_⟩) (by assumption) ?_
        rotate_left
        · intro w hSw
          (try dsimp only at hSw)
          go_simp
          try with_reducible rfl
        (try simp only [Act.put, List.setIfInBounds_toArray, List.set_cons_zero, List.set_cons_succ])
        refine wpAnyH_take (i := 19) (v := ?_) (by simp only [List.getElem?_toArray, List.getElem?_cons_succ, List.getElem?_cons_zero]; exact rfl) (by as_aux_lemma => kernel_rfl) (by as_aux_lemma => kernel_rfl) (by as_aux_lemma => kernel_rfl) (by exact fun _ _ _ h => h) (Or.inl ⟨by rfl, ?_⟩) (by assumption) ?_
        rotate_left
        · intro w hSw
          (try dsimp only at hSw)
          go_simp
          try with_reducible rfl
        (try simp only [Act.put, List.setIfInBounds_toArray, List.set_cons_zero, List.set_cons_succ])
        refine wpAnyH_take (i := 20) (v := ?_) (by simp only [List.getElem?_toArray, List.getElem?_cons_succ, List.getElem?_cons_zero]; exact rfl) (by as_aux_lemma => kernel_rfl) (by as_aux_lemma => kernel_rfl) (by as_aux_lemma => kernel_rfl) (by exact fun _ _ _ h => h) (Or.inl ⟨by rfl, ?_⟩) (by assumption) ?_
        rotate_left
        · intro w hSw
          (try dsimp only at hSw)
          go_simp
          try with_reducible rfl
        (try simp only [Act.put, List.setIfInBounds_toArray, List.set_cons_zero, List.set_cons_succ])
        refine wpAnyH_done (by as_aux_lemma => kernel_rfl) ?_ _
        go_wp2
        (try simp only [jump_ret])
        refine bodyPost_ret (results_tmp4 rfl _ _ _) rfl ?_
        rw [HC2.out]
        have hrx : Row W9.drew w.heap.size 2 (.slice A6 P.fs.length c6) P.fs.length (fieldsV (flB P.fs)) := ((HR9.out.chg HD9.out (fun k hk e => by have := (HR9.out.lt k hk).1; have := H9.out.lt rb (.inl rfl); omega)).drew).mono (by omega)
        have hfv2 : ∀ k, footS rb { V with mv := mv' } k → footS rb V k := fun k hk => (HFV.out V.kv k).1 hk
        have hlo : ∀ k, (Value.slice A6 P.fs.length c6).ownBlock = some k → ¬ footS rb V9 k := fun k hk f => by
          have h1 := HR9.out.lt k hk
          rcases HF9.out k f with x | x
          · have := H5.out.lt k (hfv2 k x); omega
          · omega
        obtain ⟨r1, r2, r3, r4⟩ := call_one (w := w) (W := W9.drew) (base := base) (rb := rb) (q := 0) (V := V) (V' := V9) (e := ⟨.head P 0 ln, .slice A6 P.fs.length c6, .slice none 0 0⟩) HC9.out.size (HM9.out.below ((Below.refl _ _).drew)) ⟨hrx, RowB.nil _ _, fun k _ hk => nil_own hk⟩ ((HC9.out.more (fun k _ hk => hfv2 k hk)).drew) (fun k hk => hk.elim (hlo k) (fun x => (nil_own x).elim))
        refine ⟨.slice (some ⟨W9.heap.size, 0, none⟩) 1 1, .slice Ar nr cr, nowV rb (0 + 1), [⟨.head P 0 ln, .slice A6 P.fs.length c6, .slice none 0 0⟩], V9, rfl, rfl, r1, r2, fun _ => ⟨rfl, .inr (.inr HREST.out)⟩, r3, fun k hk => ?_, r4⟩
        rcases HF9.out k hk with x | x
        · exact .inl (hfv2 k x)
        · exact .inr (by have := H9.out.z; omega)
      · subst h
        by_cases hl0 : ln = 0
        · subst hl0
          obtain rfl : du = true := by rw [HDU.out]; simp
          go_upto_region 25 with (fail)
          obtain ⟨V9, W9, hW, hm9, hf9, hc9, hv9, hd9⟩ := H9.out.final 1 0 true
          clear d3 d4 d5 d6 d8 f3 f4 f5 f6 f8
          simp only [Int.ofNat_zero, Int.ofNat_one, Int.cast_ofNat_Int] at hW
          rw [← hW]
          clear hW
          have hv10 := Var.drew hv9
          have HV10 := Lib.hid hv10
          have HM9 := Lib.hid hm9
          have HF9 := Lib.hid hf9
          have HC9 := Lib.hid hc9
          have HD9 := Lib.hid hd9
          clear hm9 hf9 hc9 hd9 hv9
          refine wp_region_held_drew (S := (fun w' => w'.cell? ⟨w.heap.size, 0, none⟩ = some (.bool P.rq) ∧ w'.cell? ⟨w.heap.size, 1, none⟩ = some (.string ⟨P.m.toArray⟩) ∧ w'.cell? ⟨w.heap.size, 2, none⟩ = some (.string ⟨P.t.toArray⟩) ∧ w'.cell? ⟨w.heap.size, 3, none⟩ = some (.int .i64 (P.st : Int)) ∧ w'.cell? ⟨w.heap.size, 4, none⟩ = some (.string ⟨P.rs.toArray⟩) ∧ w'.cell? ⟨w.heap.size, 5, none⟩ = some (.int .i64 (P.mn : Int)) ∧ w'.cell? ⟨w.heap.size, 6, none⟩ = some (.slice A6 P.fs.length c6))) (by as_aux_lemma => kernel_rfl) ?_ (fun hHeld => ?_)
          · exact ⟨hv10.cell (j := 0) rfl, hv10.cell (j := 1) rfl, hv10.cell (j := 2) rfl, hv10.cell (j := 3) rfl, hv10.cell (j := 4) rfl, hv10.cell (j := 5) rfl, hv10.cell (j := 6) rfl⟩
          clear hv10
          have hix : ∀ W, (Instr.index 112 (.agg #[.func (.func 55) #[.pointer (some ⟨rb, 0, none⟩)] #[], .func (.func 56) #[.pointer (some ⟨rb, 0, none⟩)] #[], .func (.func 57) #[.pointer (some ⟨rb, 0, none⟩)] #[], .func (.func 58) #[.pointer (some ⟨rb, 0, none⟩)] #[]]) (.int .i64 1)).run Tryz.prog W = .ok (.func (.func (nowF (1 + 1))) #[.pointer (some ⟨rb, 0, none⟩)] #[]) W := fun _ => by kernel_rfl
          dsimp only [nowF] at hix
          refine wpAnyH_take (i := 0) (v := ?_) (by simp only [List.getElem?_toArray, List.getElem?_cons_zero]; exact rfl) (by as_aux_lemma => kernel_rfl) (by as_aux_lemma => kernel_rfl) (by as_aux_lemma => kernel_rfl) (by exact fun _ _ _ h => h) (Or.inl ⟨by rfl, ?_⟩) (by assumption) ?_
          rotate_left
          · intro w hSw
            (try dsimp only at hSw)
            go_simp
            try with_reducible rfl
          (try simp only [Act.put, List.setIfInBounds_toArray, List.set_cons_zero, List.set_cons_succ])
          refine wpAnyH_take (i := 1) (v := ?_) (by simp only [List.getElem?_toArray, List.getElem?_cons_succ, List.getElem?_cons_zero]; exact rfl) (by as_aux_lemma => kernel_rfl) (by as_aux_lemma => kernel_rfl) (by as_aux_lemma => kernel_rfl) (by exact fun _ _ _ h => h) (Or.inl ⟨by rfl, ?_⟩) (by assumption) ?_
          rotate_left
          · intro w hSw
            (try dsimp only at hSw)
            go_simp
            try with_reducible rfl
          (try simp only [Act.put, List.setIfInBounds_toArray, List.set_cons_zero, List.set_cons_succ])
          refine wpAnyH_take (i := 2) (v := ?_) (by simp only [List.getElem?_toArray, List.getElem?_cons_succ, List.getElem?_cons_zero]; exact rfl) (by as_aux_lemma => kernel_rfl) (by as_aux_lemma => kernel_rfl) (by as_aux_lemma => kernel_rfl) (by exact fun _ _ _ h => h) (Or.inl ⟨by rfl, ?_⟩) (by assumption) ?_
          rotate_left
          · intro w hSw
            (try dsimp only at hSw)
            go_simp
            try with_reducible rfl
          (try simp only [Act.put, List.setIfInBounds_toArray, List.set_cons_zero, List.set_cons_succ])
          refine wpAnyH_take (i := 3) (v := ?_) (by simp only [List.getElem?_toArray, List.getElem?_cons_succ, List.getElem?_cons_zero]; exact rfl) (by as_aux_lemma => kernel_rfl) (by as_aux_lemma => kernel_rfl) (by as_aux_lemma => kernel_rfl) (by exact fun _ _ _ h => h) (Or.inl ⟨by rfl, ?_⟩) (by assumption) ?_
          rotate_left
          · intro w hSw
            (try dsimp only at hSw)
            go_simp
            try with_reducible rfl
          (try simp only [Act.put, List.setIfInBounds_toArray, List.set_cons_zero, List.set_cons_succ])
          refine wpAnyH_take (i := 5) (v := ?_) (by simp only [List.getElem?_toArray, List.getElem?_cons_succ, List.getElem?_cons_zero]; exact rfl) (by as_aux_lemma => kernel_rfl) (by as_aux_lemma => kernel_rfl) (by as_aux_lemma => kernel_rfl) (by exact fun _ _ _ h => h) (Or.inl ⟨by rfl, ?_⟩) (by assumption) ?_
          rotate_left
          · intro w hSw
            (try dsimp only at hSw)
            go_simp
            try with_reducible rfl
          (try simp only [Act.put, List.setIfInBounds_toArray, List.set_cons_zero, List.set_cons_succ])
          refine wpAnyH_take (i := 6) (v := ?_) (by simp only [List.getElem?_toArray, List.getElem?_cons_succ, List.getElem?_cons_zero]; exact rfl) (by as_aux_lemma => kernel_rfl) (by as_aux_lemma => kernel_rfl) (by as_aux_lemma => kernel_rfl) (by exact fun _ _ _ h => h) (Or.inl ⟨by rfl, ?_⟩) (by assumption) ?_
          rotate_left
          · intro w hSw
            (try dsimp only at hSw)
            go_simp
            try with_reducible rfl
          (try simp only [Act.put, List.setIfInBounds_toArray, List.set_cons_zero, List.set_cons_succ])
          refine wpAnyH_take (i := 7) (v := ?_) (by simp only [List.getElem?_toArray, List.getElem?_cons_succ, List.getElem?_cons_zero]; exact rfl) (by as_aux_lemma => kernel_rfl) (by as_aux_lemma => kernel_rfl) (by as_aux_lemma => kernel_rfl) (by exact fun _ _ _ h => h) (Or.inl ⟨by rfl, ?_⟩) (by assumption) ?_
          rotate_left
          · intro w hSw
            (try dsimp only at hSw)
            go_simp
            try with_reducible rfl
          (try simp only [Act.put, List.setIfInBounds_toArray, List.set_cons_zero, List.set_cons_succ])
          refine wpAnyH_take (i := 8) (v := ?_) (by simp only [List.getElem?_toArray, List.getElem?_cons_succ, List.getElem?_cons_zero]; exact rfl) (by as_aux_lemma => kernel_rfl) (by as_aux_lemma => kernel_rfl) (by as_aux_lemma => kernel_rfl) (by exact fun _ _ _ h => h) (Or.inl ⟨by rfl, ?_⟩) (by assumption) ?_
          rotate_left
          · intro w hSw
            (try dsimp only at hSw)
            go_simp
            try with_reducible rfl
          (try simp only [Act.put, List.setIfInBounds_toArray, List.set_cons_zero, List.set_cons_succ])
          refine wpAnyH_take (i := 9) (v := ?_) (by simp only [List.getElem?_toArray, List.getElem?_cons_succ, List.getElem?_cons_zero]; exact rfl) (by as_aux_lemma => kernel_rfl) (by as_aux_lemma => kernel_rfl) (by as_aux_lemma => kernel_rfl) (by exact fun _ _ _ h => h) (Or.inl ⟨by rfl, ?_⟩) (by assumption) ?_
          rotate_left
          · intro w hSw
            (try dsimp only at hSw)
            go_simp
            try with_reducible rfl
          (try simp only [Act.put, List.setIfInBounds_toArray, List.set_cons_zero, List.set_cons_succ])
          refine wpAnyH_take (i := 10) (v := ?_) (by simp only [List.getElem?_toArray, List.getElem?_cons_succ, List.getElem?_cons_zero]; exact rfl) (by as_aux_lemma => kernel_rfl) (by as_aux_lemma => kernel_rfl) (by as_aux_lemma => kernel_rfl) (by exact fun _ _ _ h => h) (Or.inl ⟨by rfl, ?_⟩) (by assumption) ?_
          rotate_left
          · intro w hSw
            (try dsimp only at hSw)
            go_simp
            try with_reducible rfl
          (try simp only [Act.put, List.setIfInBounds_toArray, List.set_cons_zero, List.set_cons_succ])
          refine wpAnyH_take (i := 11) (v := ?_) (by simp only [List.getElem?_toArray, List.getElem?_cons_succ, List.getElem?_cons_zero]; exact rfl) (by as_aux_lemma => kernel_rfl) (by as_aux_lemma => kernel_rfl) (by as_aux_lemma => kernel_rfl) (by exact fun _ _ _ h => h) (Or.inl ⟨by rfl, ?_⟩) (by assumption) ?_
          rotate_left
          · intro w hSw
            (try dsimp only at hSw)
            go_simp
            try with_reducible rfl
          (try simp only [Act.put, List.setIfInBounds_toArray, List.set_cons_zero, List.set_cons_succ])
          refine wpAnyH_take (i := 12) (v := ?_) (by simp only [List.getElem?_toArray, List.getElem?_cons_succ, List.getElem?_cons_zero]; exact rfl) (by as_aux_lemma => kernel_rfl) (by as_aux_lemma => kernel_rfl) (by as_aux_lemma => kernel_rfl) (by exact fun _ _ _ h => h) (Or.inl ⟨by rfl, ?_⟩) (by assumption) ?_
          rotate_left
          · intro w hSw
            (try dsimp only at hSw)
            go_simp
            try with_reducible rfl
          (try simp only [Act.put, List.setIfInBounds_toArray, List.set_cons_zero, List.set_cons_succ])
          refine wpAnyH_take (i := 13) (v := ?_) (by simp only [List.getElem?_toArray, List.getElem?_cons_succ, List.getElem?_cons_zero]; exact rfl) (by as_aux_lemma => kernel_rfl) (by as_aux_lemma => kernel_rfl) (by as_aux_lemma => kernel_rfl) (by exact fun _ _ _ h => h) (Or.inl ⟨by rfl, ?_⟩) (by assumption) ?_
          rotate_left
          · intro w hSw
            (try dsimp only at hSw)
            go_simp
            try with_reducible rfl
          (try simp only [Act.put, List.setIfInBounds_toArray, List.set_cons_zero, List.set_cons_succ])
          refine wpAnyH_take (i := 14) (v := ?_) (by simp only [List.getElem?_toArray, List.getElem?_cons_succ, List.getElem?_cons_zero]; exact rfl) (by as_aux_lemma => kernel_rfl) (by as_aux_lemma => kernel_rfl) (by as_aux_lemma => kernel_rfl) (by exact fun _ _ _ h => h) (Or.inl ⟨by rfl, ?_⟩) (by assumption) ?_
          rotate_left
          · intro w hSw
            (try dsimp only at hSw)
            go_simp
            try with_reducible rfl
          (try simp only [Act.put, List.setIfInBounds_toArray, List.set_cons_zero, List.set_cons_succ])
          refine wpAnyH_take (i := 15) (v := ?_) (by simp only [List.getElem?_toArray, List.getElem?_cons_succ, List.getElem?_cons_zero]; exact rfl) (by as_aux_lemma => kernel_rfl) (by as_aux_lemma => kernel_rfl) (by as_aux_lemma => kernel_rfl) (by exact fun _ _ _ h => h) (Or.inl ⟨by rfl, ?_⟩) (by assumption) ?_
          rotate_left
          · intro w hSw
            (try dsimp only at hSw)
            go_simp
            try with_reducible rfl
          (try simp only [Act.put, List.setIfInBounds_toArray, List.set_cons_zero, List.set_cons_succ])
          refine wpAnyH_take (i := 16) (v := ?_) (by simp only [List.getElem?_toArray, List.getElem?_cons_succ, List.getElem?_cons_zero]; exact rfl) (by as_aux_lemma => kernel_rfl) (by as_aux_lemma => kernel_rfl) (by as_aux_lemma => kernel_rfl) (by exact fun _ _ _ h => h) (Or.inl ⟨by rfl, ?_⟩) (by assumption) ?_
          rotate_left
          · intro w hSw
            (try dsimp only at hSw)
            go_simp
            try with_reducible rfl
          (try simp only [Act.put, List.setIfInBounds_toArray, List.set_cons_zero, List.set_cons_succ])
          refine wpAnyH_ready (rs := [4]) (by as_aux_lemma => kernel_rfl) (by simp) ?_
          refine AllReadyH.cons (by simp only [List.getElem?_toArray, List.getElem?_cons_succ, List.getElem?_cons_zero]; exact rfl) (fun K hK => ?_) AllReadyH.nil
          go_simp
          have hva := HV10.out.alloc (.cells #[.int .i64 1, .bool P.rq, .string ⟨P.m.toArray⟩, .string ⟨P.t.toArray⟩, .int .i64 (P.st : Int), .string ⟨P.rs.toArray⟩, .int .i64 (P.mn : Int), .slice A6 P.fs.length c6, .int .i64 (1 : Nat), .int .i64 (0 : Nat), .slice none 0 0] 58)
          refine hK.out _ _ ?_ (fun hHeld => ?_)
          · (try dsimp only)
            exact ⟨hva.cell (j := 0) rfl, hva.cell (j := 1) rfl, hva.cell (j := 2) rfl, hva.cell (j := 3) rfl, hva.cell (j := 4) rfl, hva.cell (j := 5) rfl, hva.cell (j := 6) rfl⟩
          clear hK K
          (try simp only [Act.put, List.setIfInBounds_toArray, List.set_cons_zero, List.set_cons_succ])
          refine wpAnyH_take (i := 17) (v := ?_) (by simp only [List.getElem?_toArray, List.getElem?_cons_succ, List.getElem?_cons_zero]; exact rfl) (by as_aux_lemma => kernel_rfl) (by as_aux_lemma => kernel_rfl) (by as_aux_lemma => kernel_rfl) (by exact fun _ _ _ h => h) (Or.inl ⟨by rfl, ?_⟩) (by assumption) ?_
          rotate_left
          · intro w hSw
            (try dsimp only at hSw)
            go_simp
            try with_reducible rfl
          (try simp only [Act.put, List.setIfInBounds_toArray, List.set_cons_zero, List.set_cons_succ])
          refine wpAnyH_take (i := 18) (v := ?_) (by simp only [List.getElem?_toArray, List.getElem?_cons_succ, List.getElem?_cons_zero]; exact rfl) (by as_aux_lemma => kernel_rfl) (by as_aux_lemma => kernel_rfl) (by as_aux_lemma => kernel_rfl) (by exact fun _ _ _ h => h) (Or.inl ⟨by rfl, ?_⟩) (by assumption) ?_
          rotate_left
          · intro w hSw
            (try dsimp only at hSw)
            go_simp
            try with_reducible rfl
          (try simp only [Act.put, List.setIfInBounds_toArray, List.set_cons_zero, List.set_cons_succ])
          refine wpAnyH_take (i := 19) (v := ?_) (by simp only [List.getElem?_toArray, List.getElem?_cons_succ, List.getElem?_cons_zero]; exact rfl) (by as_aux_lemma => kernel_rfl) (by as_aux_lemma => kernel_rfl) (by as_aux_lemma => kernel_rfl) (by exact fun _ _ _ h => h) (Or.inl ⟨by rfl, ?_⟩) (by assumption) ?_
          rotate_left
          · intro w hSw
            (try dsimp only at hSw)
            go_simp
            try with_reducible rfl
          (try simp only [Act.put, List.setIfInBounds_toArray, List.set_cons_zero, List.set_cons_succ])
          refine wpAnyH_take (i := 20) (v := ?_) (by simp only [List.getElem?_toArray, List.getElem?_cons_succ, List.getElem?_cons_zero]; exact rfl) (by as_aux_lemma => kernel_rfl) (by as_aux_lemma => kernel_rfl) (by as_aux_lemma => kernel_rfl) (by exact fun _ _ _ h => h) (Or.inl ⟨by rfl, ?_⟩) (by assumption) ?_
          rotate_left
          · intro w hSw
            (try dsimp only at hSw)
            go_simp
            try with_reducible rfl
          (try simp only [Act.put, List.setIfInBounds_toArray, List.set_cons_zero, List.set_cons_succ])
          refine wpAnyH_done (by as_aux_lemma => kernel_rfl) ?_ _
          go_wp2
          (try simp only [jump_ret])
          refine bodyPost_ret (results_tmp4 rfl _ _ _) rfl ?_
          rw [HC2.out]
          have hrx : Row W9.drew w.heap.size 2 (.slice A6 P.fs.length c6) P.fs.length (fieldsV (flB P.fs)) := ((HR9.out.chg HD9.out (fun k hk e => by have := (HR9.out.lt k hk).1; have := H9.out.lt rb (.inl rfl); omega)).drew).mono (by omega)
          have hfv2 : ∀ k, footS rb { V with mv := mv' } k → footS rb V k := fun k hk => (HFV.out V.kv k).1 hk
          have hlo : ∀ k, (Value.slice A6 P.fs.length c6).ownBlock = some k → ¬ footS rb V9 k := fun k hk f => by
            have h1 := HR9.out.lt k hk
            rcases HF9.out k f with x | x
            · have := H5.out.lt k (hfv2 k x); omega
            · omega
          obtain ⟨r1, r2, r3, r4⟩ := call_one (w := w) (W := W9.drew) (base := base) (rb := rb) (q := 0) (V := V) (V' := V9) (e := ⟨.head P 1 0, .slice A6 P.fs.length c6, .slice none 0 0⟩) HC9.out.size (HM9.out.below ((Below.refl _ _).drew)) ⟨hrx, RowB.nil _ _, fun k _ hk => nil_own hk⟩ ((HC9.out.more (fun k _ hk => hfv2 k hk)).drew) (fun k hk => hk.elim (hlo k) (fun x => (nil_own x).elim))
          refine ⟨.slice (some ⟨W9.heap.size, 0, none⟩) 1 1, .slice Ar nr cr, nowV rb (1 + 1), [⟨.head P 1 0, .slice A6 P.fs.length c6, .slice none 0 0⟩], V9, rfl, rfl, r1, r2, fun _ => ⟨rfl, .inr (.inr HREST.out)⟩, r3, fun k hk => ?_, r4⟩
          rcases HF9.out k hk with x | x
          · exact .inl (hfv2 k x)
          · exact .inr (by have := H9.out.z; omega)
        · have hl1 : ((ln : Int) == 0) = false := by rw [beq_eq_false_iff_ne]; omega
          obtain rfl : du = false := by rw [HDU.out]; simp [hl0]
          have HLN0 := Lib.hid hl0
          clear hl0
          go_upto_region 25 with (fail)
          obtain ⟨V9, W9, hW, hm9, hf9, hc9, hv9, hd9⟩ := H9.out.final 1 ln false
          clear d3 d4 d5 d6 d8 f3 f4 f5 f6 f8
          simp only [Int.ofNat_zero, Int.ofNat_one, Int.cast_ofNat_Int] at hW
          rw [← hW]
          clear hW
          have hv10 := Var.drew hv9
          have HV10 := Lib.hid hv10
          have HM9 := Lib.hid hm9
          have HF9 := Lib.hid hf9
          have HC9 := Lib.hid hc9
          have HD9 := Lib.hid hd9
          clear hm9 hf9 hc9 hd9 hv9
          refine wp_region_held_drew (S := (fun w' => w'.cell? ⟨w.heap.size, 0, none⟩ = some (.bool P.rq) ∧ w'.cell? ⟨w.heap.size, 1, none⟩ = some (.string ⟨P.m.toArray⟩) ∧ w'.cell? ⟨w.heap.size, 2, none⟩ = some (.string ⟨P.t.toArray⟩) ∧ w'.cell? ⟨w.heap.size, 3, none⟩ = some (.int .i64 (P.st : Int)) ∧ w'.cell? ⟨w.heap.size, 4, none⟩ = some (.string ⟨P.rs.toArray⟩) ∧ w'.cell? ⟨w.heap.size, 5, none⟩ = some (.int .i64 (P.mn : Int)) ∧ w'.cell? ⟨w.heap.size, 6, none⟩ = some (.slice A6 P.fs.length c6))) (by as_aux_lemma => kernel_rfl) ?_ (fun hHeld => ?_)
          · exact ⟨hv10.cell (j := 0) rfl, hv10.cell (j := 1) rfl, hv10.cell (j := 2) rfl, hv10.cell (j := 3) rfl, hv10.cell (j := 4) rfl, hv10.cell (j := 5) rfl, hv10.cell (j := 6) rfl⟩
          clear hv10
          have hix : ∀ W, (Instr.index 112 (.agg #[.func (.func 55) #[.pointer (some ⟨rb, 0, none⟩)] #[], .func (.func 56) #[.pointer (some ⟨rb, 0, none⟩)] #[], .func (.func 57) #[.pointer (some ⟨rb, 0, none⟩)] #[], .func (.func 58) #[.pointer (some ⟨rb, 0, none⟩)] #[]]) (.int .i64 1)).run Tryz.prog W = .ok (.func (.func (nowF (1 + 1))) #[.pointer (some ⟨rb, 0, none⟩)] #[]) W := fun _ => by kernel_rfl
          dsimp only [nowF] at hix
          refine wpAnyH_take (i := 0) (v := ?_) (by simp only [List.getElem?_toArray, List.getElem?_cons_zero]; exact rfl) (by as_aux_lemma => kernel_rfl) (by as_aux_lemma => kernel_rfl) (by as_aux_lemma => kernel_rfl) (by exact fun _ _ _ h => h) (Or.inl ⟨by rfl, ?_⟩) (by assumption) ?_
          rotate_left
          · intro w hSw
            (try dsimp only at hSw)
            go_simp
            try with_reducible rfl
          (try simp only [Act.put, List.setIfInBounds_toArray, List.set_cons_zero, List.set_cons_succ])
          refine wpAnyH_take (i := 1) (v := ?_) (by simp only [List.getElem?_toArray, List.getElem?_cons_succ, List.getElem?_cons_zero]; exact rfl) (by as_aux_lemma => kernel_rfl) (by as_aux_lemma => kernel_rfl) (by as_aux_lemma => kernel_rfl) (by exact fun _ _ _ h => h) (Or.inl ⟨by rfl, ?_⟩) (by assumption) ?_
          rotate_left
          · intro w hSw
            (try dsimp only at hSw)
            go_simp
            try with_reducible rfl
          (try simp only [Act.put, List.setIfInBounds_toArray, List.set_cons_zero, List.set_cons_succ])
          refine wpAnyH_take (i := 2) (v := ?_) (by simp only [List.getElem?_toArray, List.getElem?_cons_succ, List.getElem?_cons_zero]; exact rfl) (by as_aux_lemma => kernel_rfl) (by as_aux_lemma => kernel_rfl) (by as_aux_lemma => kernel_rfl) (by exact fun _ _ _ h => h) (Or.inl ⟨by rfl, ?_⟩) (by assumption) ?_
          rotate_left
          · intro w hSw
            (try dsimp only at hSw)
            go_simp
            try with_reducible rfl
          (try simp only [Act.put, List.setIfInBounds_toArray, List.set_cons_zero, List.set_cons_succ])
          refine wpAnyH_take (i := 3) (v := ?_) (by simp only [List.getElem?_toArray, List.getElem?_cons_succ, List.getElem?_cons_zero]; exact rfl) (by as_aux_lemma => kernel_rfl) (by as_aux_lemma => kernel_rfl) (by as_aux_lemma => kernel_rfl) (by exact fun _ _ _ h => h) (Or.inl ⟨by rfl, ?_⟩) (by assumption) ?_
          rotate_left
          · intro w hSw
            (try dsimp only at hSw)
            go_simp
            try with_reducible rfl
          (try simp only [Act.put, List.setIfInBounds_toArray, List.set_cons_zero, List.set_cons_succ])
          refine wpAnyH_take (i := 5) (v := ?_) (by simp only [List.getElem?_toArray, List.getElem?_cons_succ, List.getElem?_cons_zero]; exact rfl) (by as_aux_lemma => kernel_rfl) (by as_aux_lemma => kernel_rfl) (by as_aux_lemma => kernel_rfl) (by exact fun _ _ _ h => h) (Or.inl ⟨by rfl, ?_⟩) (by assumption) ?_
          rotate_left
          · intro w hSw
            (try dsimp only at hSw)
            go_simp
            try with_reducible rfl
          (try simp only [Act.put, List.setIfInBounds_toArray, List.set_cons_zero, List.set_cons_succ])
          refine wpAnyH_take (i := 6) (v := ?_) (by simp only [List.getElem?_toArray, List.getElem?_cons_succ, List.getElem?_cons_zero]; exact rfl) (by as_aux_lemma => kernel_rfl) (by as_aux_lemma => kernel_rfl) (by as_aux_lemma => kernel_rfl) (by exact fun _ _ _ h => h) (Or.inl ⟨by rfl, ?_⟩) (by assumption) ?_
          rotate_left
          · intro w hSw
            (try dsimp only at hSw)
            go_simp
            try with_reducible rfl
          (try simp only [Act.put, List.setIfInBounds_toArray, List.set_cons_zero, List.set_cons_succ])
          refine wpAnyH_take (i := 7) (v := ?_) (by simp only [List.getElem?_toArray, List.getElem?_cons_succ, List.getElem?_cons_zero]; exact rfl) (by as_aux_lemma => kernel_rfl) (by as_aux_lemma => kernel_rfl) (by as_aux_lemma => kernel_rfl) (by exact fun _ _ _ h => h) (Or.inl ⟨by rfl, ?_⟩) (by assumption) ?_
          rotate_left
          · intro w hSw
            (try dsimp only at hSw)
            go_simp
            try with_reducible rfl
          (try simp only [Act.put, List.setIfInBounds_toArray, List.set_cons_zero, List.set_cons_succ])
          refine wpAnyH_take (i := 8) (v := ?_) (by simp only [List.getElem?_toArray, List.getElem?_cons_succ, List.getElem?_cons_zero]; exact rfl) (by as_aux_lemma => kernel_rfl) (by as_aux_lemma => kernel_rfl) (by as_aux_lemma => kernel_rfl) (by exact fun _ _ _ h => h) (Or.inl ⟨by rfl, ?_⟩) (by assumption) ?_
          rotate_left
          · intro w hSw
            (try dsimp only at hSw)
            go_simp
            try with_reducible rfl
          (try simp only [Act.put, List.setIfInBounds_toArray, List.set_cons_zero, List.set_cons_succ])
          refine wpAnyH_take (i := 9) (v := ?_) (by simp only [List.getElem?_toArray, List.getElem?_cons_succ, List.getElem?_cons_zero]; exact rfl) (by as_aux_lemma => kernel_rfl) (by as_aux_lemma => kernel_rfl) (by as_aux_lemma => kernel_rfl) (by exact fun _ _ _ h => h) (Or.inl ⟨by rfl, ?_⟩) (by assumption) ?_
          rotate_left
          · intro w hSw
            (try dsimp only at hSw)
            go_simp
            try with_reducible rfl
          (try simp only [Act.put, List.setIfInBounds_toArray, List.set_cons_zero, List.set_cons_succ])
          refine wpAnyH_take (i := 10) (v := ?_) (by simp only [List.getElem?_toArray, List.getElem?_cons_succ, List.getElem?_cons_zero]; exact rfl) (by as_aux_lemma => kernel_rfl) (by as_aux_lemma => kernel_rfl) (by as_aux_lemma => kernel_rfl) (by exact fun _ _ _ h => h) (Or.inl ⟨by rfl, ?_⟩) (by assumption) ?_
          rotate_left
          · intro w hSw
            (try dsimp only at hSw)
            go_simp
            try with_reducible rfl
          (try simp only [Act.put, List.setIfInBounds_toArray, List.set_cons_zero, List.set_cons_succ])
          refine wpAnyH_take (i := 11) (v := ?_) (by simp only [List.getElem?_toArray, List.getElem?_cons_succ, List.getElem?_cons_zero]; exact rfl) (by as_aux_lemma => kernel_rfl) (by as_aux_lemma => kernel_rfl) (by as_aux_lemma => kernel_rfl) (by exact fun _ _ _ h => h) (Or.inl ⟨by rfl, ?_⟩) (by assumption) ?_
          rotate_left
          · intro w hSw
            (try dsimp only at hSw)
            go_simp
            try with_reducible rfl
          (try simp only [Act.put, List.setIfInBounds_toArray, List.set_cons_zero, List.set_cons_succ])
          refine wpAnyH_take (i := 12) (v := ?_) (by simp only [List.getElem?_toArray, List.getElem?_cons_succ, List.getElem?_cons_zero]; exact rfl) (by as_aux_lemma => kernel_rfl) (by as_aux_lemma => kernel_rfl) (by as_aux_lemma => kernel_rfl) (by exact fun _ _ _ h => h) (Or.inl ⟨by rfl, ?_⟩) (by assumption) ?_
          rotate_left
          · intro w hSw
            (try dsimp only at hSw)
            go_simp
            try with_reducible rfl
          (try simp only [Act.put, List.setIfInBounds_toArray, List.set_cons_zero, List.set_cons_succ])
          refine wpAnyH_take (i := 13) (v := ?_) (by simp only [List.getElem?_toArray, List.getElem?_cons_succ, List.getElem?_cons_zero]; exact rfl) (by as_aux_lemma => kernel_rfl) (by as_aux_lemma => kernel_rfl) (by as_aux_lemma => kernel_rfl) (by exact fun _ _ _ h => h) (Or.inl ⟨by rfl, ?_⟩) (by assumption) ?_
          rotate_left
          · intro w hSw
            (try dsimp only at hSw)
            go_simp
            try with_reducible rfl
          (try simp only [Act.put, List.setIfInBounds_toArray, List.set_cons_zero, List.set_cons_succ])
          refine wpAnyH_take (i := 14) (v := ?_) (by simp only [List.getElem?_toArray, List.getElem?_cons_succ, List.getElem?_cons_zero]; exact rfl) (by as_aux_lemma => kernel_rfl) (by as_aux_lemma => kernel_rfl) (by as_aux_lemma => kernel_rfl) (by exact fun _ _ _ h => h) (Or.inl ⟨by rfl, ?_⟩) (by assumption) ?_
          rotate_left
          · intro w hSw
            (try dsimp only at hSw)
            go_simp
            try with_reducible rfl
          (try simp only [Act.put, List.setIfInBounds_toArray, List.set_cons_zero, List.set_cons_succ])
          refine wpAnyH_take (i := 15) (v := ?_) (by simp only [List.getElem?_toArray, List.getElem?_cons_succ, List.getElem?_cons_zero]; exact rfl) (by as_aux_lemma => kernel_rfl) (by as_aux_lemma => kernel_rfl) (by as_aux_lemma => kernel_rfl) (by exact fun _ _ _ h => h) (Or.inl ⟨by rfl, ?_⟩) (by assumption) ?_
          rotate_left
          · intro w hSw
            (try dsimp only at hSw)
            go_simp
            try with_reducible rfl
          (try simp only [Act.put, List.setIfInBounds_toArray, List.set_cons_zero, List.set_cons_succ])
          refine wpAnyH_take (i := 16) (v := ?_) (by simp only [List.getElem?_toArray, List.getElem?_cons_succ, List.getElem?_cons_zero]; exact rfl) (by as_aux_lemma => kernel_rfl) (by as_aux_lemma => kernel_rfl) (by as_aux_lemma => kernel_rfl) (by exact fun _ _ _ h => h) (Or.inl ⟨by rfl, ?_⟩) (by assumption) ?_
          rotate_left
          · intro w hSw
            (try dsimp only at hSw)
            go_simp
            try with_reducible rfl
          (try simp only [Act.put, List.setIfInBounds_toArray, List.set_cons_zero, List.set_cons_succ])
          refine wpAnyH_ready (rs := [4]) (by as_aux_lemma => kernel_rfl) (by simp) ?_
          refine AllReadyH.cons (by simp only [List.getElem?_toArray, List.getElem?_cons_succ, List.getElem?_cons_zero]; exact rfl) (fun K hK => ?_) AllReadyH.nil
          go_simp
          have hva := HV10.out.alloc (.cells #[.int .i64 1, .bool P.rq, .string ⟨P.m.toArray⟩, .string ⟨P.t.toArray⟩, .int .i64 (P.st : Int), .string ⟨P.rs.toArray⟩, .int .i64 (P.mn : Int), .slice A6 P.fs.length c6, .int .i64 (1 : Nat), .int .i64 (ln : Nat), .slice none 0 0] 58)
          refine hK.out _ _ ?_ (fun hHeld => ?_)
          · (try dsimp only)
            exact ⟨hva.cell (j := 0) rfl, hva.cell (j := 1) rfl, hva.cell (j := 2) rfl, hva.cell (j := 3) rfl, hva.cell (j := 4) rfl, hva.cell (j := 5) rfl, hva.cell (j := 6) rfl⟩
          clear hK K
          (try simp only [Act.put, List.setIfInBounds_toArray, List.set_cons_zero, List.set_cons_succ])
          refine wpAnyH_take (i := 17) (v := ?_) (by simp only [List.getElem?_toArray, List.getElem?_cons_succ, List.getElem?_cons_zero]; exact rfl) (by as_aux_lemma => kernel_rfl) (by as_aux_lemma => kernel_rfl) (by as_aux_lemma => kernel_rfl) (by exact fun _ _ _ h => h) (Or.inl ⟨by rfl, ?_⟩) (by assumption) ?_
          rotate_left
          · intro w hSw
            (try dsimp only at hSw)
            go_simp
            try with_reducible rfl
          (try simp only [Act.put, List.setIfInBounds_toArray, List.set_cons_zero, List.set_cons_succ])
          refine wpAnyH_take (i := 18) (v := ?_) (by simp only [List.getElem?_toArray, List.getElem?_cons_succ, List.getElem?_cons_zero]; exact rfl) (by as_aux_lemma => kernel_rfl) (by as_aux_lemma => kernel_rfl) (by as_aux_lemma => kernel_rfl) (by exact fun _ _ _ h => h) (Or.inl ⟨by rfl, ?_⟩) (by assumption) ?_
          rotate_left
          · intro w hSw
            (try dsimp only at hSw)
            go_simp
            try with_reducible rfl
          (try simp only [Act.put, List.setIfInBounds_toArray, List.set_cons_zero, List.set_cons_succ])
          refine wpAnyH_take (i := 19) (v := ?_) (by simp only [List.getElem?_toArray, List.getElem?_cons_succ, List.getElem?_cons_zero]; exact rfl) (by as_aux_lemma => kernel_rfl) (by as_aux_lemma => kernel_rfl) (by as_aux_lemma => kernel_rfl) (by exact fun _ _ _ h => h) (Or.inl ⟨by rfl, ?_⟩) (by assumption) ?_
          rotate_left
          · intro w hSw
            (try dsimp only at hSw)
            go_simp
            try with_reducible rfl
          (try simp only [Act.put, List.setIfInBounds_toArray, List.set_cons_zero, List.set_cons_succ])
          refine wpAnyH_take (i := 20) (v := ?_) (by simp only [List.getElem?_toArray, List.getElem?_cons_succ, List.getElem?_cons_zero]; exact rfl) (by as_aux_lemma => kernel_rfl) (by as_aux_lemma => kernel_rfl) (by as_aux_lemma => kernel_rfl) (by exact fun _ _ _ h => h) (Or.inl ⟨by rfl, ?_⟩) (by assumption) ?_
          rotate_left
          · intro w hSw
            (try dsimp only at hSw)
            go_simp
            try with_reducible rfl
          (try simp only [Act.put, List.setIfInBounds_toArray, List.set_cons_zero, List.set_cons_succ])
          refine wpAnyH_done (by as_aux_lemma => kernel_rfl) ?_ _
          go_wp2
          (try simp only [jump_ret])
          refine bodyPost_ret (results_tmp4 rfl _ _ _) rfl ?_
          rw [HC2.out]
          have hrx : Row W9.drew w.heap.size 2 (.slice A6 P.fs.length c6) P.fs.length (fieldsV (flB P.fs)) := ((HR9.out.chg HD9.out (fun k hk e => by have := (HR9.out.lt k hk).1; have := H9.out.lt rb (.inl rfl); omega)).drew).mono (by omega)
          have hfv2 : ∀ k, footS rb { V with mv := mv' } k → footS rb V k := fun k hk => (HFV.out V.kv k).1 hk
          have hlo : ∀ k, (Value.slice A6 P.fs.length c6).ownBlock = some k → ¬ footS rb V9 k := fun k hk f => by
            have h1 := HR9.out.lt k hk
            rcases HF9.out k f with x | x
            · have := H5.out.lt k (hfv2 k x); omega
            · omega
          obtain ⟨r1, r2, r3, r4⟩ := call_one (w := w) (W := W9.drew) (base := base) (rb := rb) (q := 0) (V := V) (V' := V9) (e := ⟨.head P 1 ln, .slice A6 P.fs.length c6, .slice none 0 0⟩) HC9.out.size (HM9.out.below ((Below.refl _ _).drew)) ⟨hrx, RowB.nil _ _, fun k _ hk => nil_own hk⟩ ((HC9.out.more (fun k _ hk => hfv2 k hk)).drew) (fun k hk => hk.elim (hlo k) (fun x => (nil_own x).elim))
          refine ⟨.slice (some ⟨W9.heap.size, 0, none⟩) 1 1, .slice Ar nr cr, nowV rb (1 + 1), [⟨.head P 1 ln, .slice A6 P.fs.length c6, .slice none 0 0⟩], V9, rfl, rfl, r1, r2, fun _ => ⟨rfl, .inr (.inr HREST.out)⟩, r3, fun k hk => ?_, r4⟩
          rcases HF9.out k hk with x | x
          · exact .inl (hfv2 k x)
          · exact .inr (by have := H9.out.z; omega)
      · subst h
        obtain rfl : du = false := by rw [HDU.out]; simp
        go_upto_region 25 with (fail)
        obtain ⟨V9, W9, hW, hm9, hf9, hc9, hv9, hd9⟩ := H9.out.final 2 ln false
        clear d3 d4 d5 d6 d8 f3 f4 f5 f6 f8
        simp only [Int.ofNat_zero, Int.ofNat_one, Int.cast_ofNat_Int] at hW
        rw [← hW]
        clear hW
        have hv10 := Var.drew hv9
        have HV10 := Lib.hid hv10
        have HM9 := Lib.hid hm9
        have HF9 := Lib.hid hf9
        have HC9 := Lib.hid hc9
        have HD9 := Lib.hid hd9
        clear hm9 hf9 hc9 hd9 hv9
        refine wp_region_held_drew (S := (fun w' => w'.cell? ⟨w.heap.size, 0, none⟩ = some (.bool P.rq) ∧ w'.cell? ⟨w.heap.size, 1, none⟩ = some (.string ⟨P.m.toArray⟩) ∧ w'.cell? ⟨w.heap.size, 2, none⟩ = some (.string ⟨P.t.toArray⟩) ∧ w'.cell? ⟨w.heap.size, 3, none⟩ = some (.int .i64 (P.st : Int)) ∧ w'.cell? ⟨w.heap.size, 4, none⟩ = some (.string ⟨P.rs.toArray⟩) ∧ w'.cell? ⟨w.heap.size, 5, none⟩ = some (.int .i64 (P.mn : Int)) ∧ w'.cell? ⟨w.heap.size, 6, none⟩ = some (.slice A6 P.fs.length c6))) (by as_aux_lemma => kernel_rfl) ?_ (fun hHeld => ?_)
        · exact ⟨hv10.cell (j := 0) rfl, hv10.cell (j := 1) rfl, hv10.cell (j := 2) rfl, hv10.cell (j := 3) rfl, hv10.cell (j := 4) rfl, hv10.cell (j := 5) rfl, hv10.cell (j := 6) rfl⟩
        clear hv10
        have hix : ∀ W, (Instr.index 112 (.agg #[.func (.func 55) #[.pointer (some ⟨rb, 0, none⟩)] #[], .func (.func 56) #[.pointer (some ⟨rb, 0, none⟩)] #[], .func (.func 57) #[.pointer (some ⟨rb, 0, none⟩)] #[], .func (.func 58) #[.pointer (some ⟨rb, 0, none⟩)] #[]]) (.int .i64 2)).run Tryz.prog W = .ok (.func (.func (nowF (2 + 1))) #[.pointer (some ⟨rb, 0, none⟩)] #[]) W := fun _ => by kernel_rfl
        dsimp only [nowF] at hix
        refine wpAnyH_take (i := 0) (v := ?_) (by simp only [List.getElem?_toArray, List.getElem?_cons_zero]; exact rfl) (by as_aux_lemma => kernel_rfl) (by as_aux_lemma => kernel_rfl) (by as_aux_lemma => kernel_rfl) (by exact fun _ _ _ h => h) (Or.inl ⟨by rfl, ?_⟩) (by assumption) ?_
        rotate_left
        · intro w hSw
          (try dsimp only at hSw)
          go_simp
          try with_reducible rfl
        (try simp only [Act.put, List.setIfInBounds_toArray, List.set_cons_zero, List.set_cons_succ])
        refine wpAnyH_take (i := 1) (v := ?_) (by simp only [List.getElem?_toArray, List.getElem?_cons_succ, List.getElem?_cons_zero]; exact rfl) (by as_aux_lemma => kernel_rfl) (by as_aux_lemma => kernel_rfl) (by as_aux_lemma => kernel_rfl) (by exact fun _ _ _ h => h) (Or.inl ⟨by rfl, ?_⟩) (by assumption) ?_
        rotate_left
        · intro w hSw
          (try dsimp only at hSw)
          go_simp
          try with_reducible rfl
        (try simp only [Act.put, List.setIfInBounds_toArray, List.set_cons_zero, List.set_cons_succ])
        refine wpAnyH_take (i := 2) (v := ?_) (by simp only [List.getElem?_toArray, List.getElem?_cons_succ, List.getElem?_cons_zero]; exact rfl) (by as_aux_lemma => kernel_rfl) (by as_aux_lemma => kernel_rfl) (by as_aux_lemma => kernel_rfl) (by exact fun _ _ _ h => h) (Or.inl ⟨by rfl, ?_⟩) (by assumption) ?_
        rotate_left
        · intro w hSw
          (try dsimp only at hSw)
          go_simp
          try with_reducible rfl
        (try simp only [Act.put, List.setIfInBounds_toArray, List.set_cons_zero, List.set_cons_succ])
        refine wpAnyH_take (i := 3) (v := ?_) (by simp only [List.getElem?_toArray, List.getElem?_cons_succ, List.getElem?_cons_zero]; exact rfl) (by as_aux_lemma => kernel_rfl) (by as_aux_lemma => kernel_rfl) (by as_aux_lemma => kernel_rfl) (by exact fun _ _ _ h => h) (Or.inl ⟨by rfl, ?_⟩) (by assumption) ?_
        rotate_left
        · intro w hSw
          (try dsimp only at hSw)
          go_simp
          try with_reducible rfl
        (try simp only [Act.put, List.setIfInBounds_toArray, List.set_cons_zero, List.set_cons_succ])
        refine wpAnyH_take (i := 5) (v := ?_) (by simp only [List.getElem?_toArray, List.getElem?_cons_succ, List.getElem?_cons_zero]; exact rfl) (by as_aux_lemma => kernel_rfl) (by as_aux_lemma => kernel_rfl) (by as_aux_lemma => kernel_rfl) (by exact fun _ _ _ h => h) (Or.inl ⟨by rfl, ?_⟩) (by assumption) ?_
        rotate_left
        · intro w hSw
          (try dsimp only at hSw)
          go_simp
          try with_reducible rfl
        (try simp only [Act.put, List.setIfInBounds_toArray, List.set_cons_zero, List.set_cons_succ])
        refine wpAnyH_take (i := 6) (v := ?_) (by simp only [List.getElem?_toArray, List.getElem?_cons_succ, List.getElem?_cons_zero]; exact rfl) (by as_aux_lemma => kernel_rfl) (by as_aux_lemma => kernel_rfl) (by as_aux_lemma => kernel_rfl) (by exact fun _ _ _ h => h) (Or.inl ⟨by rfl, ?_⟩) (by assumption) ?_
        rotate_left
        · intro w hSw
          (try dsimp only at hSw)
          go_simp
          try with_reducible rfl
        (try simp only [Act.put, List.setIfInBounds_toArray, List.set_cons_zero, List.set_cons_succ])
        refine wpAnyH_take (i := 7) (v := ?_) (by simp only [List.getElem?_toArray, List.getElem?_cons_succ, List.getElem?_cons_zero]; exact rfl) (by as_aux_lemma => kernel_rfl) (by as_aux_lemma => kernel_rfl) (by as_aux_lemma => kernel_rfl) (by exact fun _ _ _ h => h) (Or.inl ⟨by rfl, ?_⟩) (by assumption) ?_
        rotate_left
        · intro w hSw
          (try dsimp only at hSw)
          go_simp
          try with_reducible rfl
        (try simp only [Act.put, List.setIfInBounds_toArray, List.set_cons_zero, List.set_cons_succ])
        refine wpAnyH_take (i := 8) (v := ?_) (by simp only [List.getElem?_toArray, List.getElem?_cons_succ, List.getElem?_cons_zero]; exact rfl) (by as_aux_lemma => kernel_rfl) (by as_aux_lemma => kernel_rfl) (by as_aux_lemma => kernel_rfl) (by exact fun _ _ _ h => h) (Or.inl ⟨by rfl, ?_⟩) (by assumption) ?_
        rotate_left
        · intro w hSw
          (try dsimp only at hSw)
          go_simp
          try with_reducible rfl
        (try simp only [Act.put, List.setIfInBounds_toArray, List.set_cons_zero, List.set_cons_succ])
        refine wpAnyH_take (i := 9) (v := ?_) (by simp only [List.getElem?_toArray, List.getElem?_cons_succ, List.getElem?_cons_zero]; exact rfl) (by as_aux_lemma => kernel_rfl) (by as_aux_lemma => kernel_rfl) (by as_aux_lemma => kernel_rfl) (by exact fun _ _ _ h => h) (Or.inl ⟨by rfl, ?_⟩) (by assumption) ?_
        rotate_left
        · intro w hSw
          (try dsimp only at hSw)
          go_simp
          try with_reducible rfl
        (try simp only [Act.put, List.setIfInBounds_toArray, List.set_cons_zero, List.set_cons_succ])
        refine wpAnyH_take (i := 10) (v := ?_) (by simp only [List.getElem?_toArray, List.getElem?_cons_succ, List.getElem?_cons_zero]; exact rfl) (by as_aux_lemma => kernel_rfl) (by as_aux_lemma => kernel_rfl) (by as_aux_lemma => kernel_rfl) (by exact fun _ _ _ h => h) (Or.inl ⟨by rfl, ?_⟩) (by assumption) ?_
        rotate_left
        · intro w hSw
          (try dsimp only at hSw)
          go_simp
          try with_reducible rfl
        (try simp only [Act.put, List.setIfInBounds_toArray, List.set_cons_zero, List.set_cons_succ])
        refine wpAnyH_take (i := 11) (v := ?_) (by simp only [List.getElem?_toArray, List.getElem?_cons_succ, List.getElem?_cons_zero]; exact rfl) (by as_aux_lemma => kernel_rfl) (by as_aux_lemma => kernel_rfl) (by as_aux_lemma => kernel_rfl) (by exact fun _ _ _ h => h) (Or.inl ⟨by rfl, ?_⟩) (by assumption) ?_
        rotate_left
        · intro w hSw
          (try dsimp only at hSw)
          go_simp
          try with_reducible rfl
        (try simp only [Act.put, List.setIfInBounds_toArray, List.set_cons_zero, List.set_cons_succ])
        refine wpAnyH_take (i := 12) (v := ?_) (by simp only [List.getElem?_toArray, List.getElem?_cons_succ, List.getElem?_cons_zero]; exact rfl) (by as_aux_lemma => kernel_rfl) (by as_aux_lemma => kernel_rfl) (by as_aux_lemma => kernel_rfl) (by exact fun _ _ _ h => h) (Or.inl ⟨by rfl, ?_⟩) (by assumption) ?_
        rotate_left
        · intro w hSw
          (try dsimp only at hSw)
          go_simp
          try with_reducible rfl
        (try simp only [Act.put, List.setIfInBounds_toArray, List.set_cons_zero, List.set_cons_succ])
        refine wpAnyH_take (i := 13) (v := ?_) (by simp only [List.getElem?_toArray, List.getElem?_cons_succ, List.getElem?_cons_zero]; exact rfl) (by as_aux_lemma => kernel_rfl) (by as_aux_lemma => kernel_rfl) (by as_aux_lemma => kernel_rfl) (by exact fun _ _ _ h => h) (Or.inl ⟨by rfl, ?_⟩) (by assumption) ?_
        rotate_left
        · intro w hSw
          (try dsimp only at hSw)
          go_simp
          try with_reducible rfl
        (try simp only [Act.put, List.setIfInBounds_toArray, List.set_cons_zero, List.set_cons_succ])
        refine wpAnyH_take (i := 14) (v := ?_) (by simp only [List.getElem?_toArray, List.getElem?_cons_succ, List.getElem?_cons_zero]; exact rfl) (by as_aux_lemma => kernel_rfl) (by as_aux_lemma => kernel_rfl) (by as_aux_lemma => kernel_rfl) (by exact fun _ _ _ h => h) (Or.inl ⟨by rfl, ?_⟩) (by assumption) ?_
        rotate_left
        · intro w hSw
          (try dsimp only at hSw)
          go_simp
          try with_reducible rfl
        (try simp only [Act.put, List.setIfInBounds_toArray, List.set_cons_zero, List.set_cons_succ])
        refine wpAnyH_take (i := 15) (v := ?_) (by simp only [List.getElem?_toArray, List.getElem?_cons_succ, List.getElem?_cons_zero]; exact rfl) (by as_aux_lemma => kernel_rfl) (by as_aux_lemma => kernel_rfl) (by as_aux_lemma => kernel_rfl) (by exact fun _ _ _ h => h) (Or.inl ⟨by rfl, ?_⟩) (by assumption) ?_
        rotate_left
        · intro w hSw
          (try dsimp only at hSw)
          go_simp
          try with_reducible rfl
        (try simp only [Act.put, List.setIfInBounds_toArray, List.set_cons_zero, List.set_cons_succ])
        refine wpAnyH_take (i := 16) (v := ?_) (by simp only [List.getElem?_toArray, List.getElem?_cons_succ, List.getElem?_cons_zero]; exact rfl) (by as_aux_lemma => kernel_rfl) (by as_aux_lemma => kernel_rfl) (by as_aux_lemma => kernel_rfl) (by exact fun _ _ _ h => h) (Or.inl ⟨by rfl, ?_⟩) (by assumption) ?_
        rotate_left
        · intro w hSw
          (try dsimp only at hSw)
          go_simp
          try with_reducible rfl
        (try simp only [Act.put, List.setIfInBounds_toArray, List.set_cons_zero, List.set_cons_succ])
        refine wpAnyH_ready (rs := [4]) (by as_aux_lemma => kernel_rfl) (by simp) ?_
        refine AllReadyH.cons (by simp only [List.getElem?_toArray, List.getElem?_cons_succ, List.getElem?_cons_zero]; exact rfl) (fun K hK => ?_) AllReadyH.nil
        go_simp
        have hva := HV10.out.alloc (.cells #[.int .i64 1, .bool P.rq, .string ⟨P.m.toArray⟩, .string ⟨P.t.toArray⟩, .int .i64 (P.st : Int), .string ⟨P.rs.toArray⟩, .int .i64 (P.mn : Int), .slice A6 P.fs.length c6, .int .i64 (2 : Nat), .int .i64 (ln : Nat), .slice none 0 0] 58)
        refine hK.out _ _ ?_ (fun hHeld => ?_)
        · (try dsimp only)
          exact ⟨hva.cell (j := 0) rfl, hva.cell (j := 1) rfl, hva.cell (j := 2) rfl, hva.cell (j := 3) rfl, hva.cell (j := 4) rfl, hva.cell (j := 5) rfl, hva.cell (j := 6) rfl⟩
        clear hK K
        (try simp only [Act.put, List.setIfInBounds_toArray, List.set_cons_zero, List.set_cons_succ])
        refine wpAnyH_take (i := 17) (v := ?_) (by simp only [List.getElem?_toArray, List.getElem?_cons_succ, List.getElem?_cons_zero]; exact rfl) (by as_aux_lemma => kernel_rfl) (by as_aux_lemma => kernel_rfl) (by as_aux_lemma => kernel_rfl) (by exact fun _ _ _ h => h) (Or.inl ⟨by rfl, ?_⟩) (by assumption) ?_
        rotate_left
        · intro w hSw
          (try dsimp only at hSw)
          go_simp
          try with_reducible rfl
        (try simp only [Act.put, List.setIfInBounds_toArray, List.set_cons_zero, List.set_cons_succ])
        refine wpAnyH_take (i := 18) (v := ?_) (by simp only [List.getElem?_toArray, List.getElem?_cons_succ, List.getElem?_cons_zero]; exact rfl) (by as_aux_lemma => kernel_rfl) (by as_aux_lemma => kernel_rfl) (by as_aux_lemma => kernel_rfl) (by exact fun _ _ _ h => h) (Or.inl ⟨by rfl, ?_⟩) (by assumption) ?_
        rotate_left
        · intro w hSw
          (try dsimp only at hSw)
          go_simp
          try with_reducible rfl
        (try simp only [Act.put, List.setIfInBounds_toArray, List.set_cons_zero, List.set_cons_succ])
        refine wpAnyH_take (i := 19) (v := ?_) (by simp only [List.getElem?_toArray, List.getElem?_cons_succ, List.getElem?_cons_zero]; exact rfl) (by as_aux_lemma => kernel_rfl) (by as_aux_lemma => kernel_rfl) (by as_aux_lemma => kernel_rfl) (by exact fun _ _ _ h => h) (Or.inl ⟨by rfl, ?_⟩) (by assumption) ?_
        rotate_left
        · intro w hSw
          (try dsimp only at hSw)
          go_simp
          try with_reducible rfl
        (try simp only [Act.put, List.setIfInBounds_toArray, List.set_cons_zero, List.set_cons_succ])
        refine wpAnyH_take (i := 20) (v := ?_) (by simp only [List.getElem?_toArray, List.getElem?_cons_succ, List.getElem?_cons_zero]; exact rfl) (by as_aux_lemma => kernel_rfl) (by as_aux_lemma => kernel_rfl) (by as_aux_lemma => kernel_rfl) (by exact fun _ _ _ h => h) (Or.inl ⟨by rfl, ?_⟩) (by assumption) ?_
        rotate_left
        · intro w hSw
          (try dsimp only at hSw)
          go_simp
          try with_reducible rfl
        (try simp only [Act.put, List.setIfInBounds_toArray, List.set_cons_zero, List.set_cons_succ])
        refine wpAnyH_done (by as_aux_lemma => kernel_rfl) ?_ _
        go_wp2
        (try simp only [jump_ret])
        refine bodyPost_ret (results_tmp4 rfl _ _ _) rfl ?_
        rw [HC2.out]
        have hrx : Row W9.drew w.heap.size 2 (.slice A6 P.fs.length c6) P.fs.length (fieldsV (flB P.fs)) := ((HR9.out.chg HD9.out (fun k hk e => by have := (HR9.out.lt k hk).1; have := H9.out.lt rb (.inl rfl); omega)).drew).mono (by omega)
        have hfv2 : ∀ k, footS rb { V with mv := mv' } k → footS rb V k := fun k hk => (HFV.out V.kv k).1 hk
        have hlo : ∀ k, (Value.slice A6 P.fs.length c6).ownBlock = some k → ¬ footS rb V9 k := fun k hk f => by
          have h1 := HR9.out.lt k hk
          rcases HF9.out k f with x | x
          · have := H5.out.lt k (hfv2 k x); omega
          · omega
        obtain ⟨r1, r2, r3, r4⟩ := call_one (w := w) (W := W9.drew) (base := base) (rb := rb) (q := 0) (V := V) (V' := V9) (e := ⟨.head P 2 ln, .slice A6 P.fs.length c6, .slice none 0 0⟩) HC9.out.size (HM9.out.below ((Below.refl _ _).drew)) ⟨hrx, RowB.nil _ _, fun k _ hk => nil_own hk⟩ ((HC9.out.more (fun k _ hk => hfv2 k hk)).drew) (fun k hk => hk.elim (hlo k) (fun x => (nil_own x).elim))
        refine ⟨.slice (some ⟨W9.heap.size, 0, none⟩) 1 1, .slice Ar nr cr, nowV rb (2 + 1), [⟨.head P 2 ln, .slice A6 P.fs.length c6, .slice none 0 0⟩], V9, rfl, rfl, r1, r2, fun _ => ⟨rfl, .inr (.inr HREST.out)⟩, r3, fun k hk => ?_, r4⟩
        rcases HF9.out k hk with x | x
        · exact .inl (hfv2 k x)
        · exact .inr (by have := H9.out.z; omega)
      · subst h
        obtain rfl : du = false := by rw [HDU.out]; simp
        go_upto_region 25 with (fail)
        obtain ⟨V9, W9, hW, hm9, hf9, hc9, hv9, hd9⟩ := H9.out.final 3 ln false
        clear d3 d4 d5 d6 d8 f3 f4 f5 f6 f8
        simp only [Int.ofNat_zero, Int.ofNat_one, Int.cast_ofNat_Int] at hW
        rw [← hW]
        clear hW
        have hv10 := Var.drew hv9
        have HV10 := Lib.hid hv10
        have HM9 := Lib.hid hm9
        have HF9 := Lib.hid hf9
        have HC9 := Lib.hid hc9
        have HD9 := Lib.hid hd9
        clear hm9 hf9 hc9 hd9 hv9
        refine wp_region_held_drew (S := (fun w' => w'.cell? ⟨w.heap.size, 0, none⟩ = some (.bool P.rq) ∧ w'.cell? ⟨w.heap.size, 1, none⟩ = some (.string ⟨P.m.toArray⟩) ∧ w'.cell? ⟨w.heap.size, 2, none⟩ = some (.string ⟨P.t.toArray⟩) ∧ w'.cell? ⟨w.heap.size, 3, none⟩ = some (.int .i64 (P.st : Int)) ∧ w'.cell? ⟨w.heap.size, 4, none⟩ = some (.string ⟨P.rs.toArray⟩) ∧ w'.cell? ⟨w.heap.size, 5, none⟩ = some (.int .i64 (P.mn : Int)) ∧ w'.cell? ⟨w.heap.size, 6, none⟩ = some (.slice A6 P.fs.length c6))) (by as_aux_lemma => kernel_rfl) ?_ (fun hHeld => ?_)
        · exact ⟨hv10.cell (j := 0) rfl, hv10.cell (j := 1) rfl, hv10.cell (j := 2) rfl, hv10.cell (j := 3) rfl, hv10.cell (j := 4) rfl, hv10.cell (j := 5) rfl, hv10.cell (j := 6) rfl⟩
        clear hv10
        have hix : ∀ W, (Instr.index 112 (.agg #[.func (.func 55) #[.pointer (some ⟨rb, 0, none⟩)] #[], .func (.func 56) #[.pointer (some ⟨rb, 0, none⟩)] #[], .func (.func 57) #[.pointer (some ⟨rb, 0, none⟩)] #[], .func (.func 58) #[.pointer (some ⟨rb, 0, none⟩)] #[]]) (.int .i64 3)).run Tryz.prog W = .ok (.func (.func (nowF (3 + 1))) #[.pointer (some ⟨rb, 0, none⟩)] #[]) W := fun _ => by kernel_rfl
        dsimp only [nowF] at hix
        refine wpAnyH_take (i := 0) (v := ?_) (by simp only [List.getElem?_toArray, List.getElem?_cons_zero]; exact rfl) (by as_aux_lemma => kernel_rfl) (by as_aux_lemma => kernel_rfl) (by as_aux_lemma => kernel_rfl) (by exact fun _ _ _ h => h) (Or.inl ⟨by rfl, ?_⟩) (by assumption) ?_
        rotate_left
        · intro w hSw
          (try dsimp only at hSw)
          go_simp
          try with_reducible rfl
        (try simp only [Act.put, List.setIfInBounds_toArray, List.set_cons_zero, List.set_cons_succ])
        refine wpAnyH_take (i := 1) (v := ?_) (by simp only [List.getElem?_toArray, List.getElem?_cons_succ, List.getElem?_cons_zero]; exact rfl) (by as_aux_lemma => kernel_rfl) (by as_aux_lemma => kernel_rfl) (by as_aux_lemma => kernel_rfl) (by exact fun _ _ _ h => h) (Or.inl ⟨by rfl, ?_⟩) (by assumption) ?_
        rotate_left
        · intro w hSw
          (try dsimp only at hSw)
          go_simp
          try with_reducible rfl
        (try simp only [Act.put, List.setIfInBounds_toArray, List.set_cons_zero, List.set_cons_succ])
        refine wpAnyH_take (i := 2) (v := ?_) (by simp only [List.getElem?_toArray, List.getElem?_cons_succ, List.getElem?_cons_zero]; exact rfl) (by as_aux_lemma => kernel_rfl) (by as_aux_lemma => kernel_rfl) (by as_aux_lemma => kernel_rfl) (by exact fun _ _ _ h => h) (Or.inl ⟨by rfl, ?_⟩) (by assumption) ?_
        rotate_left
        · intro w hSw
          (try dsimp only at hSw)
          go_simp
          try with_reducible rfl
        (try simp only [Act.put, List.setIfInBounds_toArray, List.set_cons_zero, List.set_cons_succ])
        refine wpAnyH_take (i := 3) (v := ?_) (by simp only [List.getElem?_toArray, List.getElem?_cons_succ, List.getElem?_cons_zero]; exact rfl) (by as_aux_lemma => kernel_rfl) (by as_aux_lemma => kernel_rfl) (by as_aux_lemma => kernel_rfl) (by exact fun _ _ _ h => h) (Or.inl ⟨by rfl, ?_⟩) (by assumption) ?_
        rotate_left
        · intro w hSw
          (try dsimp only at hSw)
          go_simp
          try with_reducible rfl
        (try simp only [Act.put, List.setIfInBounds_toArray, List.set_cons_zero, List.set_cons_succ])
        refine wpAnyH_take (i := 5) (v := ?_) (by simp only [List.getElem?_toArray, List.getElem?_cons_succ, List.getElem?_cons_zero]; exact rfl) (by as_aux_lemma => kernel_rfl) (by as_aux_lemma => kernel_rfl) (by as_aux_lemma => kernel_rfl) (by exact fun _ _ _ h => h) (Or.inl ⟨by rfl, ?_⟩) (by assumption) ?_
        rotate_left
        · intro w hSw
          (try dsimp only at hSw)
          go_simp
          try with_reducible rfl
        (try simp only [Act.put, List.setIfInBounds_toArray, List.set_cons_zero, List.set_cons_succ])
        refine wpAnyH_take (i := 6) (v := ?_) (by simp only [List.getElem?_toArray, List.getElem?_cons_succ, List.getElem?_cons_zero]; exact rfl) (by as_aux_lemma => kernel_rfl) (by as_aux_lemma => kernel_rfl) (by as_aux_lemma => kernel_rfl) (by exact fun _ _ _ h => h) (Or.inl ⟨by rfl, ?_⟩) (by assumption) ?_
        rotate_left
        · intro w hSw
          (try dsimp only at hSw)
          go_simp
          try with_reducible rfl
        (try simp only [Act.put, List.setIfInBounds_toArray, List.set_cons_zero, List.set_cons_succ])
        refine wpAnyH_take (i := 7) (v := ?_) (by simp only [List.getElem?_toArray, List.getElem?_cons_succ, List.getElem?_cons_zero]; exact rfl) (by as_aux_lemma => kernel_rfl) (by as_aux_lemma => kernel_rfl) (by as_aux_lemma => kernel_rfl) (by exact fun _ _ _ h => h) (Or.inl ⟨by rfl, ?_⟩) (by assumption) ?_
        rotate_left
        · intro w hSw
          (try dsimp only at hSw)
          go_simp
          try with_reducible rfl
        (try simp only [Act.put, List.setIfInBounds_toArray, List.set_cons_zero, List.set_cons_succ])
        refine wpAnyH_take (i := 8) (v := ?_) (by simp only [List.getElem?_toArray, List.getElem?_cons_succ, List.getElem?_cons_zero]; exact rfl) (by as_aux_lemma => kernel_rfl) (by as_aux_lemma => kernel_rfl) (by as_aux_lemma => kernel_rfl) (by exact fun _ _ _ h => h) (Or.inl ⟨by rfl, ?_⟩) (by assumption) ?_
        rotate_left
        · intro w hSw
          (try dsimp only at hSw)
          go_simp
          try with_reducible rfl
        (try simp only [Act.put, List.setIfInBounds_toArray, List.set_cons_zero, List.set_cons_succ])
        refine wpAnyH_take (i := 9) (v := ?_) (by simp only [List.getElem?_toArray, List.getElem?_cons_succ, List.getElem?_cons_zero]; exact rfl) (by as_aux_lemma => kernel_rfl) (by as_aux_lemma => kernel_rfl) (by as_aux_lemma => kernel_rfl) (by exact fun _ _ _ h => h) (Or.inl ⟨by rfl, ?_⟩) (by assumption) ?_
        rotate_left
        · intro w hSw
          (try dsimp only at hSw)
          go_simp
          try with_reducible rfl
        (try simp only [Act.put, List.setIfInBounds_toArray, List.set_cons_zero, List.set_cons_succ])
        refine wpAnyH_take (i := 10) (v := ?_) (by simp only [List.getElem?_toArray, List.getElem?_cons_succ, List.getElem?_cons_zero]; exact rfl) (by as_aux_lemma => kernel_rfl) (by as_aux_lemma => kernel_rfl) (by as_aux_lemma => kernel_rfl) (by exact fun _ _ _ h => h) (Or.inl ⟨by rfl, ?_⟩) (by assumption) ?_
        rotate_left
        · intro w hSw
          (try dsimp only at hSw)
          go_simp
          try with_reducible rfl
        (try simp only [Act.put, List.setIfInBounds_toArray, List.set_cons_zero, List.set_cons_succ])
        refine wpAnyH_take (i := 11) (v := ?_) (by simp only [List.getElem?_toArray, List.getElem?_cons_succ, List.getElem?_cons_zero]; exact rfl) (by as_aux_lemma => kernel_rfl) (by as_aux_lemma => kernel_rfl) (by as_aux_lemma => kernel_rfl) (by exact fun _ _ _ h => h) (Or.inl ⟨by rfl, ?_⟩) (by assumption) ?_
        rotate_left
        · intro w hSw
          (try dsimp only at hSw)
          go_simp
          try with_reducible rfl
        (try simp only [Act.put, List.setIfInBounds_toArray, List.set_cons_zero, List.set_cons_succ])
        refine wpAnyH_take (i := 12) (v := ?_) (by simp only [List.getElem?_toArray, List.getElem?_cons_succ, List.getElem?_cons_zero]; exact rfl) (by as_aux_lemma => kernel_rfl) (by as_aux_lemma => kernel_rfl) (by as_aux_lemma => kernel_rfl) (by exact fun _ _ _ h => h) (Or.inl ⟨by rfl, ?_⟩) (by assumption) ?_
        rotate_left
        · intro w hSw
          (try dsimp only at hSw)
          go_simp
          try with_reducible rfl
        (try simp only [Act.put, List.setIfInBounds_toArray, List.set_cons_zero, List.set_cons_succ])
        refine wpAnyH_take (i := 13) (v := ?_) (by simp only [List.getElem?_toArray, List.getElem?_cons_succ, List.getElem?_cons_zero]; exact rfl) (by as_aux_lemma => kernel_rfl) (by as_aux_lemma => kernel_rfl) (by as_aux_lemma => kernel_rfl) (by exact fun _ _ _ h => h) (Or.inl ⟨by rfl, ?_⟩) (by assumption) ?_
        rotate_left
        · intro w hSw
          (try dsimp only at hSw)
          go_simp
          try with_reducible rfl
        (try simp only [Act.put, List.setIfInBounds_toArray, List.set_cons_zero, List.set_cons_succ])
        refine wpAnyH_take (i := 14) (v := ?_) (by simp only [List.getElem?_toArray, List.getElem?_cons_succ, List.getElem?_cons_zero]; exact rfl) (by as_aux_lemma => kernel_rfl) (by as_aux_lemma => kernel_rfl) (by as_aux_lemma => kernel_rfl) (by exact fun _ _ _ h => h) (Or.inl ⟨by rfl, ?_⟩) (by assumption) ?_
        rotate_left
        · intro w hSw
          (try dsimp only at hSw)
          go_simp
          try with_reducible rfl
        (try simp only [Act.put, List.setIfInBounds_toArray, List.set_cons_zero, List.set_cons_succ])
        refine wpAnyH_take (i := 15) (v := ?_) (by simp only [List.getElem?_toArray, List.getElem?_cons_succ, List.getElem?_cons_zero]; exact rfl) (by as_aux_lemma => kernel_rfl) (by as_aux_lemma => kernel_rfl) (by as_aux_lemma => kernel_rfl) (by exact fun _ _ _ h => h) (Or.inl ⟨by rfl, ?_⟩) (by assumption) ?_
        rotate_left
        · intro w hSw
          (try dsimp only at hSw)
          go_simp
          try with_reducible rfl
        (try simp only [Act.put, List.setIfInBounds_toArray, List.set_cons_zero, List.set_cons_succ])
        refine wpAnyH_take (i := 16) (v := ?_) (by simp only [List.getElem?_toArray, List.getElem?_cons_succ, List.getElem?_cons_zero]; exact rfl) (by as_aux_lemma => kernel_rfl) (by as_aux_lemma => kernel_rfl) (by as_aux_lemma => kernel_rfl) (by exact fun _ _ _ h => h) (Or.inl ⟨by rfl, ?_⟩) (by assumption) ?_
        rotate_left
        · intro w hSw
          (try dsimp only at hSw)
          go_simp
          try with_reducible rfl
        (try simp only [Act.put, List.setIfInBounds_toArray, List.set_cons_zero, List.set_cons_succ])
        refine wpAnyH_ready (rs := [4]) (by as_aux_lemma => kernel_rfl) (by simp) ?_
        refine AllReadyH.cons (by simp only [List.getElem?_toArray, List.getElem?_cons_succ, List.getElem?_cons_zero]; exact rfl) (fun K hK => ?_) AllReadyH.nil
        go_simp
        have hva := HV10.out.alloc (.cells #[.int .i64 1, .bool P.rq, .string ⟨P.m.toArray⟩, .string ⟨P.t.toArray⟩, .int .i64 (P.st : Int), .string ⟨P.rs.toArray⟩, .int .i64 (P.mn : Int), .slice A6 P.fs.length c6, .int .i64 (3 : Nat), .int .i64 (ln : Nat), .slice none 0 0] 58)
        refine hK.out _ _ ?_ (fun hHeld => ?_)
        · (try dsimp only)
          exact ⟨hva.cell (j := 0) rfl, hva.cell (j := 1) rfl, hva.cell (j := 2) rfl, hva.cell (j := 3) rfl, hva.cell (j := 4) rfl, hva.cell (j := 5) rfl, hva.cell (j := 6) rfl⟩
        clear hK K
        (try simp only [Act.put, List.setIfInBounds_toArray, List.set_cons_zero, List.set_cons_succ])
        refine wpAnyH_take (i := 17) (v := ?_) (by simp only [List.getElem?_toArray, List.getElem?_cons_succ, List.getElem?_cons_zero]; exact rfl) (by as_aux_lemma => kernel_rfl) (by as_aux_lemma => kernel_rfl) (by as_aux_lemma => kernel_rfl) (by exact fun _ _ _ h => h) (Or.inl ⟨by rfl, ?_⟩) (by assumption) ?_
        rotate_left
        · intro w hSw
          (try dsimp only at hSw)
          go_simp
          try with_reducible rfl
        (try simp only [Act.put, List.setIfInBounds_toArray, List.set_cons_zero, List.set_cons_succ])
        refine wpAnyH_take (i := 18) (v := ?_) (by simp only [List.getElem?_toArray, List.getElem?_cons_succ, List.getElem?_cons_zero]; exact rfl) (by as_aux_lemma => kernel_rfl) (by as_aux_lemma => kernel_rfl) (by as_aux_lemma => kernel_rfl) (by exact fun _ _ _ h => h) (Or.inl ⟨by rfl, ?_⟩) (by assumption) ?_
        rotate_left
        · intro w hSw
          (try dsimp only at hSw)
          go_simp
          try with_reducible rfl
        (try simp only [Act.put, List.setIfInBounds_toArray, List.set_cons_zero, List.set_cons_succ])
        refine wpAnyH_take (i := 19) (v := ?_) (by simp only [List.getElem?_toArray, List.getElem?_cons_succ, List.getElem?_cons_zero]; exact rfl) (by as_aux_lemma => kernel_rfl) (by as_aux_lemma => kernel_rfl) (by as_aux_lemma => kernel_rfl) (by exact fun _ _ _ h => h) (Or.inl ⟨by rfl, ?_⟩) (by assumption) ?_
        rotate_left
        · intro w hSw
          (try dsimp only at hSw)
          go_simp
          try with_reducible rfl
        (try simp only [Act.put, List.setIfInBounds_toArray, List.set_cons_zero, List.set_cons_succ])
        refine wpAnyH_take (i := 20) (v := ?_) (by simp only [List.getElem?_toArray, List.getElem?_cons_succ, List.getElem?_cons_zero]; exact rfl) (by as_aux_lemma => kernel_rfl) (by as_aux_lemma => kernel_rfl) (by as_aux_lemma => kernel_rfl) (by exact fun _ _ _ h => h) (Or.inl ⟨by rfl, ?_⟩) (by assumption) ?_
        rotate_left
        · intro w hSw
          (try dsimp only at hSw)
          go_simp
          try with_reducible rfl
        (try simp only [Act.put, List.setIfInBounds_toArray, List.set_cons_zero, List.set_cons_succ])
        refine wpAnyH_done (by as_aux_lemma => kernel_rfl) ?_ _
        go_wp2
        (try simp only [jump_ret])
        refine bodyPost_ret (results_tmp4 rfl _ _ _) rfl ?_
        rw [HC2.out]
        have hrx : Row W9.drew w.heap.size 2 (.slice A6 P.fs.length c6) P.fs.length (fieldsV (flB P.fs)) := ((HR9.out.chg HD9.out (fun k hk e => by have := (HR9.out.lt k hk).1; have := H9.out.lt rb (.inl rfl); omega)).drew).mono (by omega)
        have hfv2 : ∀ k, footS rb { V with mv := mv' } k → footS rb V k := fun k hk => (HFV.out V.kv k).1 hk
        have hlo : ∀ k, (Value.slice A6 P.fs.length c6).ownBlock = some k → ¬ footS rb V9 k := fun k hk f => by
          have h1 := HR9.out.lt k hk
          rcases HF9.out k f with x | x
          · have := H5.out.lt k (hfv2 k x); omega
          · omega
        obtain ⟨r1, r2, r3, r4⟩ := call_one (w := w) (W := W9.drew) (base := base) (rb := rb) (q := 0) (V := V) (V' := V9) (e := ⟨.head P 3 ln, .slice A6 P.fs.length c6, .slice none 0 0⟩) HC9.out.size (HM9.out.below ((Below.refl _ _).drew)) ⟨hrx, RowB.nil _ _, fun k _ hk => nil_own hk⟩ ((HC9.out.more (fun k _ hk => hfv2 k hk)).drew) (fun k hk => hk.elim (hlo k) (fun x => (nil_own x).elim))
        refine ⟨.slice (some ⟨W9.heap.size, 0, none⟩) 1 1, .slice Ar nr cr, nowV rb (3 + 1), [⟨.head P 3 ln, .slice A6 P.fs.length c6, .slice none 0 0⟩], V9, rfl, rfl, r1, r2, fun _ => ⟨rfl, .inr (.inr HREST.out)⟩, r3, fun k hk => ?_, r4⟩
        rcases HF9.out k hk with x | x
        · exact .inl (hfv2 k x)
        · exact .inr (by have := H9.out.z; omega)
    · have hn1 : ((fe : Int) != 0) = true := by simpa using hfe
      have hcs := HCS.out
      rw [if_pos hfe] at hcs
      have HC2 := Lib.hid hcs
      have HNF := Lib.hid hfe
      clear hcs hfe
      go_wp2_with (first
        | (go_step3; (try simp only [Exit.then, Exit.inBlock, jump_goto]); refine hJG _ _ ?_)
        | fail)
      (try simp only [jump_ret])
      refine bodyPost_ret (results_tmp4 rfl _ _ _) rfl ?_
      obtain ⟨k1, k2⟩ := HC2.out
      unfold CallPost
      rw [k1, k2]
      refine ⟨.slice none 0 0, .slice none 0 0, _, [], { V with mv := mv', kv := .slice (some ⟨g3, o3, none⟩) B.length c3 }, rfl, rfl, Outs.nil _ _, H9.out.m, fun e => absurd e HNF.out, H9.out.c.more (fun k _ hk => (HFV.out V.kv k).1 hk), fun k hk => ?_, ?_⟩
      · rcases H9.out.f k hk with x | x
        · exact .inl ((HFV.out V.kv k).1 x)
        · exact .inr (by omega)
      · rintro k (hk | ⟨e, he, _⟩)
        · exact (nil_own hk).elim
        · cases he
  · have hn0 : ((pe : Int) != 0) = true := by simpa using hpe
    have hcs : (Strm.callS s l).1 = [] ∧ (Strm.callS s l).2.2 = ({ s with win := true, blk := B }, pe) := by
      have e1 : l.take (16384 - s.blk.length) = l.take m := by
        have := HMX.out
        by_cases h : n ≤ 16384 - s.blk.length
        · rw [List.take_of_length_le (by rw [HLEN.out]; omega), List.take_of_length_le (by rw [HLEN.out]; omega)]
        · rw [show m = 16384 - s.blk.length by omega]
      rw [Strm.call0 HP.out l, e1, HE.out]
      dsimp only
      rw [← HBE.out]
      unfold Strm.headS
      dsimp only
      rw [← HPE.out]
      dsimp only
      rw [if_pos hpe]
      exact ⟨rfl, rfl⟩
    have HCS := Lib.hid hcs
    have HNP := Lib.hid hpe
    clear hpe hcs
    go_wp2_with (first
      | (go_step3; (try simp only [Exit.then, Exit.inBlock, jump_goto]); refine hJG _ _ ?_)
      | fail)
    (try simp only [jump_ret])
    refine bodyPost_ret (results_tmp4 rfl _ _ _) rfl ?_
    obtain ⟨k1, k2⟩ := HCS.out
    unfold CallPost
    rw [k1, k2]
    refine ⟨.slice none 0 0, .slice none 0 0, _, [], { V with kv := .slice (some ⟨g3, o3, none⟩) B.length c3 }, rfl, rfl, Outs.nil _ _, H7.out.m, fun e => absurd e HNP.out, H7.out.c, fun k hk => (H7.out.f k hk).imp id (by omega), ?_⟩
    rintro k (hk | ⟨e, he, _⟩)
    · exact (nil_own hk).elim
    · cases he
end Go.Proofs.YtklmpadcfioefaaGreatDoor
