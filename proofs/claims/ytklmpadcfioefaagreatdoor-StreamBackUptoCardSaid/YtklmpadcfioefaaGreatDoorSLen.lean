/- The steps of a reader of streams that read a length and chunks. Conditions: sizes, the world's shape. -/
import Derived.Test.YtklmpadcfioefaaGreatDoorSCall
import Derived.Outline
namespace Go.Proofs.YtklmpadcfioefaaGreatDoor
open Go.RowKit

theorem Rd.apart {w w' : World} {B sz n : Nat} {A : Option Addr} {xs : List Value} {S : Nat → Prop} (h : Rd w B sz A n xs) (hc : Chg S w w') (hB : B ≤ w.heap.size) (hs : 0 < n → ∀ g o, A = some ⟨g, o, none⟩ → ¬ S g) : Rd w' w'.heap.size sz A n xs := by
  have hz := hc.size
  refine ⟨h.1, fun hn => ?_⟩
  obtain ⟨g, o, e, hb, hcell⟩ := h.2 hn
  exact ⟨g, o, e, by omega, fun j u hu => (World.cell?_of_block (w := w) (a := ⟨g, o + j, none⟩) (hc.block g (by omega) (hs hn g o e))).trans (hcell j u hu)⟩
def Sep (A : Option Addr) (n rb : Nat) (V : SV) : Prop := 0 < n → ∀ g o, A = some ⟨g, o, none⟩ → ¬ footS rb V g
theorem data_take (A : Option Addr) (n c m : Nat) (l : Bs) {w : World} (hA : A = none → n = 0) (hrd : Rd w w.heap.size 1 A n (bytesV l)) (hn : n ≤ 1000000000) (hm : m ≤ n) :
    Calls Tryz.prog 94 #[.slice A m c] w fun e w' => ∃ ev L, e = .returned ev ∧ L.map EvE.x = Strm.data (l.take m) ∧ Outs w' w.heap.size ev L ∧ Below w.heap.size w w' := by
  have h1 := hrd.pre (k := m) hm
  rw [Nat.mul_one, bytesV_take] at h1
  exact sdata_any A m c (l.take m) w (fun e => by have := hA e; omega) h1 (by omega)
set_option maxHeartbeats 1000000 in
theorem slength_part {w : World} {base rb : Nat} {s : Strm.S} {V : SV} (h : SMem w base rb s V 2) (hp : s.ph = 2) (hl : s.left < 1000000000000000) (A : Option Addr) (n c : Nat) (l : Bs) (hnc : n ≤ c) (hA : A = none → n = 0) (hrd : Rd w w.heap.size 1 A n (bytesV l)) (hn : n ≤ 1000000000) (hsp : Sep A n rb V) (hlt : n < s.left) :
    Calls Tryz.prog 56 #[.pointer (some ⟨rb, 0, none⟩), .slice A n c] w (CallPost w base rb V A n c 2 (Strm.callS s l)) := by
  have hlen : l.length = n := by have := hrd.1; rw [bytesV_len] at this; omega
  have e : Strm.callS s l = (Strm.data l, n, { s with left := s.left - n }, 0) := by
    unfold Strm.callS; rw [if_neg (by omega), if_neg (by omega), if_pos hp, hlen]
    dsimp only
    rw [if_neg (by omega), show min s.left n = n by omega, ← hlen, List.take_length]
  rw [e]
  have d4 := h.cell (j := 4) rfl
  have f4 := h.var.frozen 4
  have hrl := h.var.lt
  have h1 := (h.put (j := 4) (u := .int .i64 ((s.left - n : Nat) : Int)) (t := { s with left := s.left - n }) (q' := 2) rfl rfl rfl rfl Iff.rfl h.nil)
  have hc := (show Chg (footS rb V) w w from Chg.refl _ w).setCell (p := ⟨rb, 4, none⟩) (fun _ => .inl rfl) (.int .i64 ((s.left - n : Nat) : Int))
  have HD := Lib.hid (sdata_any A n c l _ hA (hrd.apart hc (Nat.le_refl _) hsp) hn)
  have HM := Lib.hid h1
  have HC := Lib.hid hc
  have HP := Lib.hid hp
  have hm : min (s.left : Int) (n : Int) = (n : Int) := by omega
  have hs : (s.left : Int) - (n : Int) = ((s.left - n : Nat) : Int) := by omega
  have hz : (((s.left - n : Nat) : Int) == 0) = false := by rw [beq_eq_false_iff_ne]; omega
  clear e h h1 hlen hc hrd hp
  go_enter Tryz.func56, Tryz.ntmps56
  go_wp2_with (first
    | (go_at_call 94; go_must (refine HD.out.mono ?_; rintro _ w1 ⟨ev, L, rfl, hL, ho, hb⟩))
    | fail)
  refine bodyPost_ret (results_tmp4 rfl _ _ _) rfl ?_
  obtain ⟨r1, r2⟩ := call_list HM.out hb ho (Nat.le_refl _)
  have hz := HC.out.size
  exact ⟨ev, .slice none 0 0, nowV rb 2, L, V, rfl, hL, ho.mono hz, r1, fun _ => ⟨by dsimp only; rw [HP.out], .inl ⟨rfl, rfl⟩⟩, HC.out.then_below hb, fun k hk => .inl hk, r2⟩
set_option maxHeartbeats 1000000 in
theorem slength_full {w : World} {base rb : Nat} {s : Strm.S} {V : SV} (h : SMem w base rb s V 2) (hp : s.ph = 2) (hl : s.left < 1000000000000000) (A : Option Addr) (n c : Nat) (l : Bs) (hnc : n ≤ c) (hA : A = none → n = 0) (hrd : Rd w w.heap.size 1 A n (bytesV l)) (hn : n ≤ 1000000000) (hsp : Sep A n rb V) (hlt : s.left ≤ n) :
    Calls Tryz.prog 56 #[.pointer (some ⟨rb, 0, none⟩), .slice A n c] w (CallPost w base rb V A n c 2 (Strm.callS s l)) := by
  have hlen : l.length = n := by have := hrd.1; rw [bytesV_len] at this; omega
  have e : Strm.callS s l = (Strm.data (l.take s.left), s.left, { s with left := 0, due := true, ph := 1 }, 0) := by
    unfold Strm.callS; rw [if_neg (by omega), if_neg (by omega), if_pos hp, hlen]
    dsimp only
    rw [if_pos (by omega), show min s.left n = s.left by omega]
  rw [e]
  have d4 := h.cell (j := 4) rfl
  have f4 := h.var.frozen 4
  have d8 := h.cell (j := 8) rfl
  have f8 := h.var.frozen 8
  have hrl := h.var.lt
  have h1 := (h.put (j := 4) (u := .int .i64 0) (t := { s with left := 0 }) (q' := 2) rfl rfl rfl rfl Iff.rfl h.nil)
  have h2 := (h1.put (j := 8) (u := .bool true) (t := { s with left := 0, due := true }) (q' := 2) rfl rfl rfl rfl Iff.rfl h.nil).rephase (x := 1) (by decide) (fun _ => h.nil (by omega))
  have hc := ((show Chg (footS rb V) w w from Chg.refl _ w).setCell (p := ⟨rb, 4, none⟩) (fun _ => .inl rfl) (.int .i64 0)).setCell (p := ⟨rb, 8, none⟩) (fun _ => .inl rfl) (.bool true)
  have HD := Lib.hid (data_take A n c s.left l hA (hrd.apart hc.drew (Nat.le_refl _) hsp) hn hlt)
  have HM := Lib.hid (h2.below ((Below.refl _ _).drew))
  have HC := Lib.hid hc
  have hm : min (s.left : Int) (n : Int) = (s.left : Int) := by omega
  have hs : (s.left : Int) - (s.left : Int) = 0 := by omega
  clear e h h1 h2 hlen hc hrd hp
  go_enter Tryz.func56, Tryz.ntmps56
  have hi0 : (0 : Int) ≤ (s.left : Int) := by omega
  have hi1 : (s.left : Int) ≤ (c : Int) := by omega
  have hi2 : (s.left : Int) ≤ (n : Int) := by omega
  have hi3 : s.left ≤ c := by omega
  go_upto_region 5 with (fail)
  refine wp_region_held_drew (S := (fun w' => w'.cell? ⟨rb, 0, none⟩ = some (.bool s.rq))) (by as_aux_lemma => kernel_rfl) ?_ (fun hHeld => ?_)
  · exact HM.out.cell (j := 0) rfl
  refine wpAnyH_take (i := 0) (v := ?_) (by simp only [List.getElem?_toArray, List.getElem?_cons_zero]; exact rfl) (by as_aux_lemma => kernel_rfl) (by as_aux_lemma => kernel_rfl) (by as_aux_lemma => kernel_rfl) (by exact fun _ _ _ h => h) (Or.inl ⟨by rfl, ?_⟩) (by assumption) ?_
  rotate_left
  · intro w hSw
    (try dsimp only at hSw)
    go_simp
    try with_reducible rfl
  (try simp only [Act.put, List.setIfInBounds_toArray, List.set_cons_zero, List.set_cons_succ])
  refine wpAnyH_take (i := 1) (v := ?_) (by simp only [List.getElem?_toArray, List.getElem?_cons_succ, List.getElem?_cons_zero]; exact rfl) (by as_aux_lemma => kernel_rfl) (by as_aux_lemma => kernel_rfl) (by as_aux_lemma => kernel_rfl) (by exact fun _ _ _ h => h) (Or.inl ⟨by rfl, ?_⟩) (by assumption) ?_
  rotate_left
  · intro w hSw
    (try dsimp only at hSw)
    go_simp
    try with_reducible rfl
  (try simp only [Act.put, List.setIfInBounds_toArray, List.set_cons_zero, List.set_cons_succ])
  refine wpAnyH_take (i := 2) (v := ?_) (by simp only [List.getElem?_toArray, List.getElem?_cons_succ, List.getElem?_cons_zero]; exact rfl) (by as_aux_lemma => kernel_rfl) (by as_aux_lemma => kernel_rfl) (by as_aux_lemma => kernel_rfl) (by exact fun _ _ _ h => h) (Or.inl ⟨by rfl, ?_⟩) (by assumption) ?_
  rotate_left
  · intro w hSw
    (try dsimp only at hSw)
    go_simp
    try with_reducible rfl
  (try simp only [Act.put, List.setIfInBounds_toArray, List.set_cons_zero, List.set_cons_succ])
  refine wpAnyH_take (i := 4) (v := ?_) (by simp only [List.getElem?_toArray, List.getElem?_cons_succ, List.getElem?_cons_zero]; exact rfl) (by as_aux_lemma => kernel_rfl) (by as_aux_lemma => kernel_rfl) (by as_aux_lemma => kernel_rfl) (by exact fun _ _ _ h => h) (Or.inl ⟨by rfl, ?_⟩) (by assumption) ?_
  rotate_left
  · intro w hSw
    (try dsimp only at hSw)
    go_simp
    try with_reducible rfl
  (try simp only [Act.put, List.setIfInBounds_toArray, List.set_cons_zero, List.set_cons_succ])
  refine wpAnyH_take (i := 5) (v := ?_) (by simp only [List.getElem?_toArray, List.getElem?_cons_succ, List.getElem?_cons_zero]; exact rfl) (by as_aux_lemma => kernel_rfl) (by as_aux_lemma => kernel_rfl) (by as_aux_lemma => kernel_rfl) (by exact fun _ _ _ h => h) (Or.inl ⟨by rfl, ?_⟩) (by assumption) ?_
  rotate_left
  · intro w hSw
    (try dsimp only at hSw)
    go_simp
    try with_reducible rfl
  (try simp only [Act.put, List.setIfInBounds_toArray, List.set_cons_zero, List.set_cons_succ])
  refine wpAnyH_take (i := 6) (v := ?_) (by simp only [List.getElem?_toArray, List.getElem?_cons_succ, List.getElem?_cons_zero]; exact rfl) (by as_aux_lemma => kernel_rfl) (by as_aux_lemma => kernel_rfl) (by as_aux_lemma => kernel_rfl) (by exact fun _ _ _ h => h) (Or.inl ⟨by rfl, ?_⟩) (by assumption) ?_
  rotate_left
  · intro w hSw
    (try dsimp only at hSw)
    go_simp
    try with_reducible rfl
  (try simp only [Act.put, List.setIfInBounds_toArray, List.set_cons_zero, List.set_cons_succ])
  refine wpAnyH_take (i := 7) (v := ?_) (by simp only [List.getElem?_toArray, List.getElem?_cons_succ, List.getElem?_cons_zero]; exact rfl) (by as_aux_lemma => kernel_rfl) (by as_aux_lemma => kernel_rfl) (by as_aux_lemma => kernel_rfl) (by exact fun _ _ _ h => h) (Or.inl ⟨by rfl, ?_⟩) (by assumption) ?_
  rotate_left
  · intro w hSw
    (try dsimp only at hSw)
    go_simp
    try with_reducible rfl
  (try simp only [Act.put, List.setIfInBounds_toArray, List.set_cons_zero, List.set_cons_succ])
  refine wpAnyH_take (i := 8) (v := ?_) (by simp only [List.getElem?_toArray, List.getElem?_cons_succ, List.getElem?_cons_zero]; exact rfl) (by as_aux_lemma => kernel_rfl) (by as_aux_lemma => kernel_rfl) (by as_aux_lemma => kernel_rfl) (by exact fun _ _ _ h => h) (Or.inl ⟨by rfl, ?_⟩) (by assumption) ?_
  rotate_left
  · intro w hSw
    (try dsimp only at hSw)
    go_simp
    try with_reducible rfl
  (try simp only [Act.put, List.setIfInBounds_toArray, List.set_cons_zero, List.set_cons_succ])
  refine wpAnyH_ready (rs := [3]) (by as_aux_lemma => kernel_rfl) (by simp) ?_
  refine AllReadyH.cons (by simp only [List.getElem?_toArray, List.getElem?_cons_succ, List.getElem?_cons_zero]; exact rfl) (fun K hK => ?_) AllReadyH.nil
  go_simp
  (go_at_call 94; refine HD.out.mono ?_; rintro _ w1 ⟨ev, L, rfl, hL, ho, hb⟩)
  refine hK.out _ _ ?_ (fun hHeld => ?_)
  · (try dsimp only)
    exact (call_list HM.out hb ho (Nat.le_refl _)).1.cell (j := 0) rfl
  clear hK K
  (try simp only [Act.put, List.setIfInBounds_toArray, List.set_cons_zero, List.set_cons_succ])
  refine wpAnyH_take (i := 9) (v := ?_) (by simp only [List.getElem?_toArray, List.getElem?_cons_succ, List.getElem?_cons_zero]; exact rfl) (by as_aux_lemma => kernel_rfl) (by as_aux_lemma => kernel_rfl) (by as_aux_lemma => kernel_rfl) (by exact fun _ _ _ h => h) (Or.inl ⟨by rfl, ?_⟩) (by assumption) ?_
  rotate_left
  · intro w hSw
    (try dsimp only at hSw)
    go_simp
    try with_reducible rfl
  (try simp only [Act.put, List.setIfInBounds_toArray, List.set_cons_zero, List.set_cons_succ])
  refine wpAnyH_take (i := 10) (v := ?_) (by simp only [List.getElem?_toArray, List.getElem?_cons_succ, List.getElem?_cons_zero]; exact rfl) (by as_aux_lemma => kernel_rfl) (by as_aux_lemma => kernel_rfl) (by as_aux_lemma => kernel_rfl) (by exact fun _ _ _ h => h) (Or.inl ⟨by rfl, ?_⟩) (by assumption) ?_
  rotate_left
  · intro w hSw
    (try dsimp only at hSw)
    go_simp
    try with_reducible rfl
  (try simp only [Act.put, List.setIfInBounds_toArray, List.set_cons_zero, List.set_cons_succ])
  refine wpAnyH_take (i := 11) (v := ?_) (by simp only [List.getElem?_toArray, List.getElem?_cons_succ, List.getElem?_cons_zero]; exact rfl) (by as_aux_lemma => kernel_rfl) (by as_aux_lemma => kernel_rfl) (by as_aux_lemma => kernel_rfl) (by exact fun _ _ _ h => h) (Or.inl ⟨by rfl, ?_⟩) (by assumption) ?_
  rotate_left
  · intro w hSw
    (try dsimp only at hSw)
    go_simp
    try with_reducible rfl
  (try simp only [Act.put, List.setIfInBounds_toArray, List.set_cons_zero, List.set_cons_succ])
  refine wpAnyH_take (i := 12) (v := ?_) (by simp only [List.getElem?_toArray, List.getElem?_cons_succ, List.getElem?_cons_zero]; exact rfl) (by as_aux_lemma => kernel_rfl) (by as_aux_lemma => kernel_rfl) (by as_aux_lemma => kernel_rfl) (by exact fun _ _ _ h => h) (Or.inl ⟨by rfl, ?_⟩) (by assumption) ?_
  rotate_left
  · intro w hSw
    (try dsimp only at hSw)
    go_simp
    try with_reducible rfl
  (try simp only [Act.put, List.setIfInBounds_toArray, List.set_cons_zero, List.set_cons_succ])
  refine wpAnyH_done (by as_aux_lemma => kernel_rfl) ?_ _
  go_wp2
  all_goals
    refine bodyPost_ret (results_tmp4 rfl _ _ _) rfl ?_
    obtain ⟨r1, r2⟩ := call_list HM.out hb ho (Nat.le_refl _)
    have hz := HC.out.size
    refine ⟨ev, _, nowV rb 1, L, V.cut rb, rfl, hL, ho.mono hz, r1, fun _ => ⟨rfl, .inr (.inr ?_)⟩, HC.out.drew.then_below hb, fun k hk => .inl (footS_cut hk), r2⟩
    first | (simp; done) | (simp [*]; done)
end Go.Proofs.YtklmpadcfioefaaGreatDoor
