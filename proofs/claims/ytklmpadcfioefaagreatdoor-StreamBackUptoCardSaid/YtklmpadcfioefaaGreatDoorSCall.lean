/- The steps of a reader of streams: data, end, rest, length, chunked. Conditions: sizes, the world's shape. -/
import Derived.Test.YtklmpadcfioefaaGreatDoorSMem
import Derived.Lib.LazyBuf
namespace Go.Proofs.YtklmpadcfioefaaGreatDoor
open Go.RowKit

theorem Row.of_block {w : World} {b base sz n : Nat} {t : TypeId} {cs : Array Value} (h : w.heap[b]? = some (.cells cs t (0, 0))) (hb : base ≤ b) (hl : cs.size = n * sz) (hn : n ≤ maxLen) : Row w base sz (.slice (some ⟨b, 0, none⟩) n n) n cs.toList := by
  refine ⟨by simpa using hl, .inr ⟨b, 0, n, cs, t, (0, 0), rfl, hb, h, Nat.le_refl _, hn, by omega, by intro j _ _; simp, ?_⟩⟩
  rw [List.drop_zero, ← hl]
  exact List.take_of_length_le (by simp)
set_option maxHeartbeats 1000000 in
theorem sclone_any (A : Option Addr) (n c : Nat) (l : Bs) (w : World) (hA : A = none → n = 0 ∧ c = 0) (hrd : Rd w w.heap.size 1 A n (bytesV l)) (hn : n ≤ 1000000000) :
    Calls Tryz.prog 131 #[.slice A n c] w fun e w' => ∃ v, e = .returned v ∧ RowB w' w.heap.size v l ∧ Below w.heap.size w w' := by
  have hlen : l.length = n := by have := hrd.1; rw [bytesV_len] at this; omega
  obtain ⟨f0, hf0, fz0, fz1, fz2⟩ := info_parts infoByte
  cases A with
  | none =>
    obtain ⟨rfl, rfl⟩ := hA rfl
    have h0 : l = [] := List.eq_nil_of_length_eq_zero hlen
    subst h0
    have hq := fun (W : World) (a : Option Addr) (l c : Nat) => Go.run_eql_slice_nil (P := Tryz.prog) W 26 5 a l c Tryz.underlying26
    go_enter Tryz.func131, Tryz.ntmps131
    go_wp2
    go_ret
    exact ⟨_, rfl, RowB.nil _ _, Below.refl _ _⟩
  | some a =>
    have hq := fun (W : World) (a : Option Addr) (l c : Nat) => Go.run_eql_slice_nil (P := Tryz.prog) W 26 5 a l c Tryz.underlying26
    have hrd1 := (hrd.alloc (Nat.le_refl _) (.cells #[] 5)).more (B' := (w.alloc (.cells #[] 5)).heap.size) (by simp)
    have HL := Lib.hid hlen
    clear hlen
    go_enter Tryz.func131, Tryz.ntmps131
    go_wp2_with (first
      | (at_builtin; go_must (refine wpList_app _ rfl (.tmp 5) (.tmp 6) 26 26 rfl w.heap.size 5 f0 (.int .u8 0) 1 1 Tryz.underlying26 hf0 fz0 fz1 fz2 rfl (.slice (some ⟨w.heap.size, 0, none⟩) 0 0) 0 [] (by rfl) (empty_row w _ 1) _ n (bytesV l) (by rfl) (Src.slice Tryz.underlying26 hrd1 (fun e => by cases e) (bytesV_one l)) (by omega) (by omega) (by omega) (by simp) ?_); go_must (intro v2 w2 hrow2 hg2 hv2; rw [List.nil_append, Nat.zero_add] at hrow2))
      | fail)
    go_ret
    refine ⟨_, rfl, ?_, Below.app ((Below.refl _ _).alloc (Nat.le_refl _) _) (empty_row w 5 1) hg2 (Nat.le_refl _) (by simp)⟩
    have hL := HL.out
    subst hL
    exact hrow2

theorem Outs.one {W : World} {base : Nat} {e : EvE} (hr : EvR W base e) (hw : base ≤ W.heap.size) (hlt : ∀ k, e.own k → k < W.heap.size) : Outs (W.alloc (.cells e.cells.toArray 58)) base (.slice (some ⟨W.heap.size, 0, none⟩) 1 1) [e] := by
  have hb : Below W.heap.size W (W.alloc (.cells e.cells.toArray 58)) := (Below.refl _ _).alloc (Nat.le_refl _) _
  refine ⟨?_, ?_, List.pairwise_singleton _ _, ?_⟩
  · have h := Row.of_block (w := W.alloc (.cells e.cells.toArray 58)) (b := W.heap.size) (base := base) (sz := 11) (n := 1) (t := 58) (cs := e.cells.toArray) (heap_alloc_new W _) hw (by rfl) (by decide)
    simpa using h
  · intro f hf
    rw [List.mem_singleton.1 hf]
    exact hr.chg (S := fun _ => False) ((Chg.refl (fun _ => False) W).then_below hb) (fun _ _ h => h)
  · rintro k hk ⟨f, hf, hk2⟩
    rw [List.mem_singleton.1 hf] at hk2
    simp [Value.ownBlock] at hk
    have := hlt k hk2
    omega
theorem evr_data {w : World} {base : Nat} {dv : Value} {d : Bs} (h : RowB w base dv d) : EvR w base ⟨.body d, .slice none 0 0, dv⟩ := ⟨Row.nil _ _ _, h, fun k hk => (nil_own hk).elim⟩
theorem evr_fin {w : World} {base : Nat} : EvR w base ⟨.fin, .slice none 0 0, .slice none 0 0⟩ := ⟨Row.nil _ _ _, RowB.nil _ _, fun k hk => (nil_own hk).elim⟩
set_option maxHeartbeats 1000000 in
theorem sdata_any (A : Option Addr) (n c : Nat) (l : Bs) (w : World) (hA : A = none → n = 0) (hrd : Rd w w.heap.size 1 A n (bytesV l)) (hn : n ≤ 1000000000) :
    Calls Tryz.prog 94 #[.slice A n c] w fun e w' => ∃ ev L, e = .returned ev ∧ L.map EvE.x = Strm.data l ∧ Outs w' w.heap.size ev L ∧ Below w.heap.size w w' := by
  have hlen : l.length = n := by have := hrd.1; rw [bytesV_len] at this; omega
  by_cases h0 : n = 0
  · subst h0
    have hl : l = [] := List.eq_nil_of_length_eq_zero hlen
    clear hlen hA hrd
    go_enter Tryz.func94, Tryz.ntmps94
    go_wp2
    go_ret
    exact ⟨_, [], rfl, by rw [hl]; rfl, Outs.nil _ _, Below.refl _ _⟩
  · have hl : l ≠ [] := fun e => h0 (by rw [← hlen, e]; rfl)
    have e0 : ((n : Int) == 0) = false := by simp; omega
    have HC := Lib.hid (sclone_any A n c l w (fun e => absurd (hA e) h0) hrd hn)
    have HL := Lib.hid hl
    clear hlen hA hrd h0 hl
    go_enter Tryz.func94, Tryz.ntmps94
    go_wp2_with (first
      | (go_at_call 131; go_must (refine HC.out.mono ?_; rintro _ w1 ⟨v, rfl, hrow, hb⟩; obtain ⟨Av, cv, rfl, _, _, _, _⟩ := Row.form hrow))
      | fail)
    go_ret
    refine ⟨_, [⟨.body l, .slice none 0 0, .slice Av l.length cv⟩], rfl, by unfold Strm.data; rw [if_neg HL.out]; rfl, Outs.one (evr_data hrow) hb.size ?_, hb.alloc hb.size _⟩
    intro k hk
    rcases hk with x | x
    · exact (nil_own x).elim
    · exact (Row.lt hrow k x).2
theorem call_one {w W : World} {base rb q : Nat} {V V' : SV} {t : Strm.S} {e : EvE} (hsz : w.heap.size ≤ W.heap.size) (hm : SMem W base rb t V' q) (hr : EvR W w.heap.size e) (hch : Chg (footS rb V) w W) (hx : ∀ k, e.own k → ¬ footS rb V' k) :
    Outs (W.alloc (.cells e.cells.toArray 58)) w.heap.size (.slice (some ⟨W.heap.size, 0, none⟩) 1 1) [e] ∧ SMem (W.alloc (.cells e.cells.toArray 58)) base rb t V' q ∧ Chg (footS rb V) w (W.alloc (.cells e.cells.toArray 58)) ∧
      (∀ k, (Value.slice (some ⟨W.heap.size, 0, none⟩) 1 1).ownBlock = some k ∨ ownE [e] k → ¬ footS rb V' k) := by
  refine ⟨Outs.one hr hsz (fun k hk => (hr.lt hk).2), hm.below ((Below.refl _ _).alloc (Nat.le_refl _) _), hch.alloc _, fun k hk => ?_⟩
  rcases hk with x | ⟨f, hf, x⟩
  · simp [Value.ownBlock] at x
    intro y
    have := (hm.lt k y).2
    omega
  · rw [List.mem_singleton.1 hf] at x
    exact hx k x
set_option maxHeartbeats 1000000 in
theorem send_any {w : World} {base rb : Nat} {s : Strm.S} {V : SV} (h : SMem w base rb s V 1) (hp : s.ph = 1) (A : Option Addr) (n c : Nat) (l : Bs) :
    Calls Tryz.prog 55 #[.pointer (some ⟨rb, 0, none⟩), .slice A n c] w (CallPost w base rb V A n c 1 (Strm.callS s l)) := by
  have e : Strm.callS s l = ([.fin], 0, { s with win := false, due := false, ph := 0 }, 0) := by unfold Strm.callS; rw [if_neg (by omega), if_pos hp]
  rw [e]
  have d7 := h.cell (j := 7) rfl
  have d8 := h.cell (j := 8) rfl
  have f7 := h.var.frozen 7
  have f8 := h.var.frozen 8
  have hlt := h.var.lt
  have h1 := (h.put (j := 7) (u := .bool false) (t := { s with win := false }) (q' := 1) rfl rfl rfl rfl Iff.rfl h.nil)
  have h2 := (h1.put (j := 8) (u := .bool false) (t := { s with win := false, due := false }) (q' := 1) rfl rfl rfl rfl Iff.rfl h.nil).rephase (x := 0) (by decide) (fun e => absurd rfl e)
  have hc := ((show Chg (footS rb V) w w from Chg.refl _ w).setCell (p := ⟨rb, 7, none⟩) (fun _ => .inl rfl) (.bool false)).setCell (p := ⟨rb, 8, none⟩) (fun _ => .inl rfl) (.bool false)
  have hr := call_one (e := ⟨.fin, .slice none 0 0, .slice none 0 0⟩) hc.size h2 evr_fin hc (fun k hk => (hk.elim nil_own nil_own).elim)
  have HR := Lib.hid hr
  clear e h h1 h2 hp hc hr
  go_enter Tryz.func55, Tryz.ntmps55
  go_wp2
  refine bodyPost_ret (results_tmp4 rfl _ _ _) rfl ?_
  obtain ⟨r1, r2, r3, r4⟩ := HR.out
  rw [show ((w.setCell ⟨rb, 7, none⟩ (.bool false)).setCell ⟨rb, 8, none⟩ (.bool false)).heap.size = w.heap.size by simp] at r1 r4
  exact ⟨.slice (some ⟨w.heap.size, 0, none⟩) 1 1, .slice A n c, nowV rb 0, [⟨.fin, .slice none 0 0, .slice none 0 0⟩], V.cut rb, rfl, rfl, r1, r2, fun _ => ⟨rfl, .inr (.inl ⟨rfl, rfl⟩)⟩, r3, fun k hk => .inl (footS_cut hk), r4⟩
theorem call_list {w W : World} {base rb q : Nat} {V' : SV} {t : Strm.S} {ev : Value} {L : List EvE} {B : Nat} (hm : SMem w base rb t V' q) (hb : Below w.heap.size w W) (ho : Outs W B ev L) (hB : w.heap.size ≤ B) : SMem W base rb t V' q ∧ (∀ k, ev.ownBlock = some k ∨ ownE L k → ¬ footS rb V' k) := by
  refine ⟨hm.below hb, fun k hk y => ?_⟩
  have := (ho.lt hk).1
  have := (hm.lt k y).2
  omega
set_option maxHeartbeats 1000000 in
theorem srest_any {w : World} {base rb : Nat} {s : Strm.S} {V : SV} (h : SMem w base rb s V 4) (hp : s.ph = 4) (A : Option Addr) (n c : Nat) (l : Bs) (hA : A = none → n = 0) (hrd : Rd w w.heap.size 1 A n (bytesV l)) (hn : n ≤ 1000000000) :
    Calls Tryz.prog 58 #[.pointer (some ⟨rb, 0, none⟩), .slice A n c] w (CallPost w base rb V A n c 4 (Strm.callS s l)) := by
  have hlen : l.length = n := by have := hrd.1; rw [bytesV_len] at this; omega
  have e : Strm.callS s l = (Strm.data l, l.length, s, 0) := by unfold Strm.callS; rw [if_neg (by omega), if_neg (by omega), if_neg (by omega), if_neg (by omega)]
  rw [e, hlen]
  have HD := Lib.hid (sdata_any A n c l w hA hrd hn)
  have HM := Lib.hid h
  have HP := Lib.hid hp
  clear e h hp hrd hlen
  go_enter Tryz.func58, Tryz.ntmps58
  go_wp2_with (first
    | (go_at_call 94; go_must (refine HD.out.mono ?_; rintro _ w1 ⟨ev, L, rfl, hL, ho, hb⟩))
    | fail)
  refine bodyPost_ret (results_tmp4 rfl _ _ _) rfl ?_
  obtain ⟨r1, r2⟩ := call_list HM.out hb ho (Nat.le_refl _)
  exact ⟨ev, .slice none 0 0, nowV rb 4, L, V, rfl, hL, ho, r1, fun _ => ⟨by rw [HP.out], .inl ⟨rfl, rfl⟩⟩, Chg.of_below hb, fun k hk => .inl hk, r2⟩
end Go.Proofs.YtklmpadcfioefaaGreatDoor
