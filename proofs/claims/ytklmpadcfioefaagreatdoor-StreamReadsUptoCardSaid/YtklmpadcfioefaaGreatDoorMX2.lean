/- Plain law: no head that a reader of requests hands out can smuggle. No program in sight. No condition. | Plain bounds on what a reader of streams hands out: how many events, how long the bodies are together, how many fields. No program in sight. No condition. | the law StreamSmuggles (printed by gen_ssmug.py). Conditions: the size, the world's shape. | law 24's same and both: equal events are found equal (printed by gen_sboth.py). Conditions: sizes. | stream's Expect: one more method. Condition: sizes. -/
import Derived.Test.YtklmpadcfioefaaGreatDoorSHead2
import Derived.Test.YtklmpadcfioefaaGreatDoorMB
import Derived.Test.YtklmpadcfioefaaGreatDoorMX0
import Derived.Test.YtklmpadcfioefaaGreatDoorMA
import Derived.Deep.RegionHeld3
import Derived.Test.YtklmpadcfioefaaGreatDoorSRest
import Derived.Lib.SlBytesConst
import Derived.Test.YtklmpadcfioefaaGreatDoorSameG
namespace Go.Proofs.YtklmpadcfioefaaGreatDoor
namespace Strm
structure NoSmug (h : Hd) (fr : Nat) : Prop where
  few : h.fs.length ≤ 64
  size : flSize (flB h.fs) ≤ 2097408
  host : h.mn = 1 → (vals (flB h.fs) sHost).length = 1
  cod : vals (flB h.fs) sCod ≠ [] → vals (flB h.fs) sLen = [] ∧ fr = 2 ∧ h.mn = 1
  no : vals (flB h.fs) sCod = [] → fr ≠ 2 ∧ fr ≠ 3 ∧ (listed (vals (flB h.fs) sLen) ≠ [] ↔ fr = 1)
  eq : ∀ a ∈ listed (vals (flB h.fs) sLen), ∀ b ∈ listed (vals (flB h.fs) sLen), a = b
theorem data_head {p : Bs} {h : Hd} {fr ln : Nat} : E1.head h fr ln ∉ data p := by
  unfold data
  split
  · simp
  · simp
theorem call_head {s : S} {p : Bs} {h : Hd} {fr ln : Nat} (hm : E1.head h fr ln ∈ (callS s p).1) : ∃ b t, parseP b s.rq = (h, 0) ∧ headFr t h = (fr, ln, 0) := by
  unfold callS at hm
  split at hm
  · dsimp only at hm
    split at hm
    · split at hm <;> cases hm
    · rename_i n hn
      unfold headS at hm
      dsimp only at hm
      split at hm
      · cases hm
      · rename_i hp
        split at hm
        · cases hm
        · rename_i hf
          simp only [List.mem_cons, List.not_mem_nil, or_false] at hm
          injection hm with h1 h2 h3
          refine ⟨List.take n (s.blk ++ List.take (16384 - List.length s.blk) p), { rq := s.rq, ms := s.ms, ph := s.ph, blk := s.blk ++ List.take (16384 - List.length s.blk) p, left := s.left, body := s.body, fr := s.fr, win := true, due := s.due, dead := s.dead }, ?_, ?_⟩
          · rw [h1]
            exact Prod.ext rfl (Classical.not_not.1 hp)
          · rw [h1, h2, h3]
            exact Prod.ext rfl (Prod.ext rfl (Classical.not_not.1 hf))
  · split at hm
    · simp at hm
    · split at hm
      · dsimp only at hm
        split at hm <;> exact absurd hm data_head
      · split at hm
        · dsimp only at hm
          split at hm <;> exact absurd hm data_head
        · exact absurd hm data_head
end Strm
end Go.Proofs.YtklmpadcfioefaaGreatDoor

namespace Go.Proofs.YtklmpadcfioefaaGreatDoor
namespace Strm
def bodySum (l : List E1) : Nat := (l.map fun e => (eData e).length).sum
theorem bodySum_app (a b : List E1) : bodySum (a ++ b) = bodySum a + bodySum b := by unfold bodySum; rw [List.map_append, List.sum_append]
theorem bodySum_data (p : Bs) : bodySum (data p) = p.length := by
  unfold data bodySum
  split
  · rename_i h; rw [h]; rfl
  · simp [eData]
theorem bodySum_one {e : E1} {l : List E1} (h : e ∈ l) : (eData e).length ≤ bodySum l := by
  unfold bodySum
  induction l with
  | nil => cases h
  | cons a r ih =>
    rw [List.map_cons, List.sum_cons]
    rcases List.mem_cons.1 h with h | h
    · rw [h]; omega
    · have := ih h; omega
theorem head_sum (s : S) (b : Bs) : bodySum (headS s b).1 = 0 := by
  unfold headS
  dsimp only
  split
  · rfl
  · split <;> rfl
theorem feedA_out {s : Chunk.St} {T : Nat} (h11 : s.at_ ≠ 11) (h : Chunk.Ok s T) (p : Bs) : (Chunk.feedA s p).2.1.length ≤ p.length ∧ ((Chunk.feedA s p).2.2.2 = 1 → (Chunk.feedA s p).2.1.length ≤ (Chunk.feedA s p).2.2.1) := by
  rw [feedA_feed h11 h p]
  refine ⟨Chunk.feed_out_le2 p s, fun h1 => ?_⟩
  have h2 := Chunk.feed_take p s (by omega)
  have h3 := Chunk.feed_out_le2 (p.take (Chunk.feed s p 0 []).2.2.1) s
  rw [h2, List.length_take] at h3
  omega
/-- the bodies are no longer than what was taken -/
theorem call_sum {s : S} {T : Nat} (hi : Inv s T) (p : Bs) : bodySum (callS s p).1 ≤ p.length ∧ ((callS s p).2.2.2 = 0 → bodySum (callS s p).1 ≤ (callS s p).2.1) := by
  unfold callS
  by_cases p0 : s.ph = 0
  · rw [if_pos p0]
    dsimp only
    split
    · split <;> exact ⟨Nat.zero_le _, fun _ => Nat.zero_le _⟩
    · rw [head_sum]; exact ⟨Nat.zero_le _, fun _ => Nat.zero_le _⟩
  · rw [if_neg p0]
    by_cases p1 : s.ph = 1
    · rw [if_pos p1]; exact ⟨Nat.zero_le _, fun _ => Nat.zero_le _⟩
    · rw [if_neg p1]
      by_cases p2 : s.ph = 2
      · rw [if_pos p2]
        dsimp only
        split
        · dsimp only; rw [bodySum_data, List.length_take]; exact ⟨by omega, fun _ => by omega⟩
        · dsimp only; rw [bodySum_data, List.length_take]; exact ⟨by omega, fun _ => by omega⟩
      · rw [if_neg p2]
        by_cases p3 : s.ph = 3
        · rw [if_pos p3]
          obtain ⟨h11, hok⟩ := hi.body p3
          obtain ⟨k1, k2⟩ := feedA_out h11 hok p
          dsimp only
          split
          · rename_i h1
            dsimp only
            rw [bodySum_data]
            exact ⟨k1, fun _ => k2 h1⟩
          · dsimp only
            rw [bodySum_data]
            exact ⟨k1, fun _ => k1⟩
        · rw [if_neg p3]
          dsimp only
          rw [bodySum_data]
          exact ⟨Nat.le_refl _, fun _ => Nat.le_refl _⟩
theorem feeds_sum {s u : S} {p : Bs} {es : List E1} {r T : Nat} (h : Feeds s p u es r) (hi : Inv s T) : bodySum es ≤ p.length := by
  induction h generalizing T with
  | stop => exact Nat.le_refl _
  | err s p _ _ => exact (call_sum hi p).1
  | go s p u es r _ h0 _ ih =>
    obtain ⟨k1, k2⟩ := call_inv hi h0
    have h1 := (call_sum hi p).2 h0
    have h2 := ih k1
    rw [bodySum_app]
    rw [List.length_drop] at h2
    omega
theorem feeds_few {s u : S} {p : Bs} {es : List E1} {r T : Nat} (h : Feeds s p u es r) (hi : Inv s T) : es.length ≤ 3 * p.length + rk s + 1 := by
  induction h generalizing T with
  | stop => exact Nat.zero_le _
  | err s p _ _ => have := call_one s p; omega
  | go s p u es r hp h0 _ ih =>
    have h1 := call_one s p
    have h2 := call_less hi hp h0
    have h3 := ih (call_inv hi h0).1
    rw [List.length_append]
    omega
theorem feeds_heads {s u : S} {p : Bs} {es : List E1} {r : Nat} (h : Feeds s p u es r) : ∀ e ∈ es, (eHd e).fs.length ≤ 64 := by
  have K : ∀ (s : S) (p : Bs), ∀ e ∈ (callS s p).1, (eHd e).fs.length ≤ 64 := by
    intro s p e he
    cases e with
    | head h fr ln =>
      obtain ⟨b, t, hp, _⟩ := call_head he
      exact (hparse_sizes hp).2.2
    | body d => exact Nat.zero_le _
    | fin => exact Nat.zero_le _
  induction h with
  | stop => intro e he; cases he
  | err s p _ _ => exact K s p
  | go s p u es r _ _ _ ih =>
    intro e he
    rcases List.mem_append.1 he with he | he
    · exact K s p e he
    · exact ih e he
theorem feeds_inv {s u : S} {p : Bs} {es : List E1} {r T : Nat} (h : Feeds s p u es r) (hi : Inv s T) (h0 : r = 0) : Inv u (T + p.length) := by
  induction h generalizing T with
  | stop s hd => exact hi
  | err s p _ h2 => exact absurd h0 h2
  | go s p u es r _ h2 _ ih =>
    obtain ⟨k1, k2⟩ := call_inv hi h2
    have := ih k1 h0
    rw [List.length_drop] at this
    exact this.mono (by omega)
/-- the reader that is fed pieces, so far -/
structure PcP (rq : Bool) (l : Bs) (at_ : Nat) (s2 : S) (f : Nat) (Bx : List E1) : Prop where
  ok : f = 0 → ∃ es, Feeds { rq := rq } (l.take at_) s2 es 0 ∧ Sim es Bx ∧ Inv s2 at_ ∧ s2.due = false ∧ s2.dead = 0
  no : f ≠ 0 → ∃ u es, Feeds { rq := rq } l u es f ∧ Sim es Bx
theorem PcP.init (rq : Bool) (l : Bs) : PcP rq l 0 { rq := rq } 0 [] :=
  ⟨fun _ => ⟨[], by rw [List.take_zero]; exact Feeds.stop _ rfl, Sim.refl _, Inv.init rq, rfl, rfl⟩, fun h => absurd rfl h⟩
theorem PcP.step {rq : Bool} {l : Bs} {at_ m g : Nat} {s2 v : S} {Bx eb : List E1} (h : PcP rq l at_ s2 0 Bx) (k : Feeds s2 ((l.drop at_).take m) v eb g) (hd : g = 0 → v.dead = s2.dead) : PcP rq l (at_ + m) v g (Bx ++ eb) := by
  obtain ⟨es, h1, h2, h3, h4, h5⟩ := h.ok rfl
  obtain ⟨es', k1, k2⟩ := h1.app rfl (Inv.init rq) k
  rw [← List.take_add] at k1
  have k3 : Sim es' (Bx ++ eb) := k2.trans (h2.app (Sim.refl eb))
  refine ⟨fun hg => ?_, fun hg => ?_⟩
  · subst hg
    have hi := feeds_inv k1 (Inv.init rq) rfl
    rw [Nat.zero_add, List.length_take] at hi
    exact ⟨es', k1, k3, hi.mono (Nat.min_le_left _ _), k1.due rfl, (hd rfl).trans h5⟩
  · obtain ⟨u, k4⟩ := k1.wrong (b := l.drop (at_ + m)) hg (Inv.init rq)
    rw [List.take_append_drop] at k4
    exact ⟨u, es', k4, k3⟩
end Strm
end Go.Proofs.YtklmpadcfioefaaGreatDoor

namespace Go.Proofs.YtklmpadcfioefaaGreatDoor
open Go.RowKit

theorem EvE.len (e : EvE) : e.cells.length = 11 := rfl
theorem evs_len : ∀ L : List EvE, (L.flatMap EvE.cells).length = L.length * 11
  | [] => rfl
  | e :: L => by rw [List.flatMap_cons, List.length_append, evs_len L, EvE.len, List.length_cons]; omega
theorem evs_get : ∀ (L : List EvE) (i j : Nat) (hi : i < L.length) (_ : j < 11), (L.flatMap EvE.cells)[i * 11 + j]? = (L[i].cells)[j]?
  | e :: L, 0, j, _, hj => by
    rw [List.flatMap_cons, Nat.zero_mul, Nat.zero_add, List.getElem?_append_left (by rw [EvE.len]; exact hj)]; rfl
  | e :: L, i + 1, j, hi, hj => by
    rw [List.flatMap_cons, List.getElem?_append_right (by rw [EvE.len]; omega), EvE.len, show (i + 1) * 11 + j - 11 = i * 11 + j by omega]
    exact evs_get L i j (by simpa using hi) hj
end Go.Proofs.YtklmpadcfioefaaGreatDoor

namespace Go.Proofs.YtklmpadcfioefaaGreatDoor
open Go.RowKit

set_option maxHeartbeats 1000000 in
set_option maxRecDepth 100000 in
theorem ssame_any (A A' : Option Addr) (n c c' : Nat) (l : Bs) (w : World) (h1 : Rd w w.heap.size 1 A n (bytesV l)) (h2 : Rd w w.heap.size 1 A' n (bytesV l)) (hn : n ≤ 1000000000000) :
    Calls Tryz.prog 13 #[.slice A n c, .slice A' n c'] w fun e w' => e = .returned (.bool true) ∧ Below w.heap.size w w' := by
  have hlen : l.length = n := by have := h1.1; rw [bytesV_len] at this; omega
  go_enter Tryz.func13, Tryz.ntmps13
  go_wp2
  go_loopw [5] (fun i wr => ∃ k : Nat, k ≤ n ∧ i = .int .i64 k ∧ Below w.heap.size w wr) (fun i _ => n - (intOf i).toNat)
  case atStart => exact ⟨0, Nat.zero_le _, rfl, Below.refl _ _⟩
  case round =>
    obtain ⟨k, hk, rfl, hb⟩ := hrel
    by_cases hlt : k < n
    · obtain ⟨g, o, rfl, hg, hcell⟩ := h1.2 (by omega)
      obtain ⟨g', o', rfl, hg', hcell'⟩ := h2.2 (by omega)
      have hx := bytesV_get (l := l) (j := k) (by omega)
      have c1 : ∀ q, (wr.drewN q).cell? ⟨g, o + k, none⟩ = some (.int .u8 (l[k]'(by omega)).toNat) := fun q => (hb.cell (p := ⟨g, o + k, none⟩) hg).trans (hcell _ _ hx)
      have c2 : ∀ q, (wr.drewN q).cell? ⟨g', o' + k, none⟩ = some (.int .u8 (l[k]'(by omega)).toNat) := fun q => (hb.cell (p := ⟨g', o' + k, none⟩) hg').trans (hcell' _ _ hx)
      have d1 := c1 0
      have d2 := c2 0
      clear hcell hcell' hx
      go_wp2
      go_quiet (fail)
      go_wp2
      go_roundw
      case rel => exact ⟨k + 1, by omega, by go_num, below_drewN hb _⟩
      case measure => simp [intOf]; omega
    · go_wp2
      go_ret
      exact ⟨rfl, hb⟩

theorem Held.bl {W0 W : World} {X : Prop} (h : Below W0.heap.size W0 W ∧ X) : Below W0.heap.size W0 W := h.1
/-- an event that can be read -/
structure EvV (w : World) (e : EvE) : Prop where
  f : Row w 0 2 e.fv (eHd e.x).fs.length (fieldsV (flB (eHd e.x).fs))
  d : RowB w 0 e.dv (eData e.x)
theorem EvR.v {w : World} {base : Nat} {e : EvE} (h : EvR w base e) : EvV w e := ⟨h.f.mono (Nat.zero_le _), Row.mono h.d (Nat.zero_le _)⟩
theorem EvV.chg {w w' : World} {S : Nat → Prop} {e : EvE} (h : EvV w e) (hc : Chg S w w') (hs : ∀ k, e.own k → ¬ S k) : EvV w' e :=
  ⟨h.f.chg hc (fun k hk => hs k (.inl hk)), Row.chg h.d hc (fun k hk => hs k (.inr hk))⟩
theorem EvV.below {w w' : World} {e : EvE} (h : EvV w e) (hb : Below w.heap.size w w') : EvV w' e :=
  h.chg (S := fun _ => False) ((Chg.refl (fun _ => False) w).then_below hb) (fun _ _ x => x)
theorem EvV.lt {w : World} {e : EvE} {k : Nat} (h : EvV w e) (hk : e.own k) : k < w.heap.size := by
  rcases hk with x | x
  · exact (h.f.lt k x).2
  · exact (Row.lt h.d k x).2
def evSz (e : Strm.E1) : Prop := (eHd e).fs.length ≤ 16777216 ∧ (eData e).length ≤ 1000000000000

theorem eqH_refl (rq : Bool) (m t : ByteArray) (st : Int) (rs : ByteArray) (mn : Int) (fs : List Fl) : eqH rq rq m m t t st st rs rs mn mn fs fs = true := by unfold eqH; simp
end Go.Proofs.YtklmpadcfioefaaGreatDoor

namespace Go.Proofs.YtklmpadcfioefaaGreatDoor
open Go.RowKit
set_option maxRecDepth 100000 in
theorem sexpect_any {w : World} {base rb q : Nat} {s : Strm.S} {V : SV} (h : SMem w base rb s V q) (m : ByteArray) (hn : s.ms.length ≤ 100000000) :
    Calls Tryz.prog 7 #[.pointer (some ⟨rb, 0, none⟩), .string m] w fun e w' => e = .returned (.tuple #[]) ∧ ∃ V', SMem w' base rb { s with ms := s.ms ++ [m] } V' q ∧ Chg (footS rb V) w w' ∧ (∀ k, footS rb V' k → footS rb V k ∨ w.heap.size ≤ k) := by
  have d1 := h.cell (j := 1) rfl
  have f1 := h.var.frozen 1
  have hrl := h.var.lt
  have HH := Lib.hid h
  have hbw : base ≤ w.heap.size := by have := h.le; omega
  clear h
  obtain ⟨j0, hj0, jz0, jz1, jz2⟩ := info_parts info9
  go_enter Tryz.func7, Tryz.ntmps7
  go_wp2_with (first
    | (at_builtin; go_must (refine wpList_app _ rfl (.tmp 10) (.tmp 12) 27 27 rfl base 9 j0 (.string ⟨#[]⟩) 1 16 Tryz.underlying27 hj0 jz0 jz1 jz2 rfl V.mv s.ms.length (strsV s.ms) rfl (HH.out.ms.alloc _) _ 1 [.string m] rfl (Src.built [.string m] 9 Tryz.underlying27 rfl (by intro u hu; simp at hu; subst hu; rfl)) (by omega) (by omega) (by omega) (by simp; omega) ?_; intro v2 w2 hrow2 hg2 ho2; obtain ⟨A2, c2, rfl, _, _, _, _⟩ := hrow2.form; have hb2 : w.heap.size + 1 ≤ w2.heap.size := (by have := hg2.size; simp at this; exact this); have hc2 : Chg (fun k => V.mv.ownBlock = some k) w w2 := ((Chg.refl _ _).alloc _).grown hg2 (fun k _ hk => hk); have hv2 := ((HH.out.var.alloc (.cells #[.string m] 9)).grown hg2 (fun e => (HH.out.a1 _ e).1 rfl)); have f1b := hv2.frozen 1; have d1b := hv2.cell (j := 1) rfl; have HV2 := Lib.hid hv2; have HG2 := Lib.hid hg2; have HO2 := Lib.hid ho2; have HR2 := Lib.hid hrow2; have HC2 := Lib.hid hc2; clear hrow2 hg2 ho2 hc2 hv2))
    | fail)
  go_end0
  have hcm := (HC2.out.more (S' := fun k => V.mv.ownBlock = some k ∨ k = rb) (fun k _ h => .inl h)).setCell (p := ⟨rb, 1, none⟩) (fun _ => .inr rfl) (.slice A2 (s.ms.length + 1) c2)
  have hnew : ∀ k, (Value.slice A2 (s.ms.length + 1) c2).ownBlock = some k → V.mv.ownBlock = some k ∨ w.heap.size < k := fun k hk => by
    rcases HO2.out with e | e
    · rw [e] at hk; exact .inl hk
    · rw [e] at hk; injection hk with hk; simp at hk; exact .inr (by omega)
  have hms := HR2.out.setCell (p := ⟨rb, 1, none⟩) (fun e => by
    rcases hnew _ e with x | x
    · exact (HH.out.a1 _ x).1 rfl
    · dsimp only at x; omega) (.slice A2 (s.ms.length + 1) c2)
  have est : strsV s.ms ++ [.string m] = strsV (s.ms ++ [m]) := by simp [strsV]
  rw [est] at hms
  refine ⟨rfl, { V with mv := .slice A2 (s.ms.length + 1) c2 }, ⟨HH.out.le, HV2.out.set 1 _, by rw [List.length_append]; exact hms, Row.chg HH.out.blk hcm (fun k hk h => ?_), HH.out.nil, fun h3 => ⟨(HH.out.on h3).1, (HH.out.on h3).2.chgd hcm (fun k hk h => ?_)⟩, HH.out.off, fun k hk => ?_, HH.out.a2, HH.out.a3⟩, ?_, fun k hk => ?_⟩
  · rcases h with x | x
    · exact (HH.out.a1 k x).2.1 hk
    · exact (HH.out.a2 k hk).1 x
  · rcases h with x | x
    · exact (HH.out.a1 k x).2.2 hk
    · subst x; exact HH.out.a3 h3 hk
  · rcases hnew k hk with x | x
    · exact HH.out.a1 k x
    · refine ⟨fun e => by omega, fun e => ?_, fun e => ?_⟩
      · have := (HH.out.lt k (.inr (.inr (.inl e)))).2; omega
      · have := (HH.out.lt k (.inr (.inr (.inr e)))).2; omega
  · exact hcm.more (fun k _ h => by
      rcases h with x | x
      · exact .inr (.inl x)
      · exact .inl x)
  · rcases hk with x | x | x
    · exact .inl (.inl x)
    · rcases hnew k x with y | y
      · exact .inl (.inr (.inl y))
      · exact .inr (by omega)
    · exact .inl (.inr (.inr x))
end Go.Proofs.YtklmpadcfioefaaGreatDoor
