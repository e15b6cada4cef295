/- The step of a reader of streams that reads chunks. Conditions: sizes, the world's shape. -/
import Derived.Test.YtklmpadcfioefaaGreatDoorSLen
namespace Go.Proofs.YtklmpadcfioefaaGreatDoor
open Go.RowKit

namespace Chunk
theorem feed_out_le2 (l : Bs) : ∀ (s : St), (feed s l 0 []).2.1.length ≤ l.length := by
  induction l with
  | nil => intro s; simp [feed]
  | cons c l ih =>
    intro s
    rw [feed]
    split
    · rw [feed_acc]; have := ih { s with at_ := if s.left - 1 = 0 then 4 else 3, left := s.left - 1, total := s.total + 1 }; simp only [List.length_cons, List.length_append, List.nil_append]; simp only [List.length_nil]; omega
    · split
      · simp
      · split
        · simp
        · rw [feed_acc]; have := ih (step s c).1; simp only [List.length_cons, List.nil_append]; omega
end Chunk
theorem SMem.fed {w w' : World} {base rb q : Nat} {s : Strm.S} {V : SV} {b' : Chunk.St} {vl' vt' : Value} (h : SMem w base rb s V q) (h3 : s.ph = 3) (hr : Rdr w' base V.cb b' vl' vt') (hc : Chg (foot V.cb V.vl V.vt) w w')
    (k1 : ∀ k, vl'.ownBlock = some k → V.vl.ownBlock = some k ∨ w.heap.size ≤ k) (k2 : ∀ k, vt'.ownBlock = some k → V.vt.ownBlock = some k ∨ w.heap.size ≤ k) :
    SMem w' base rb { s with body := b' } { V with vl := vl', vt := vt' } q ∧ Chg (footS rb V) w w' ∧ (∀ k, footS rb { V with vl := vl', vt := vt' } k → footS rb V k ∨ w.heap.size ≤ k) := by
  have hf : ∀ k, foot V.cb vl' vt' k → foot V.cb V.vl V.vt k ∨ w.heap.size ≤ k := fun k hk => by
    rcases hk with x | x | x
    · exact .inl (.inl x)
    · rcases k1 k x with y | y
      · exact .inl (.inr (.inl y))
      · exact .inr y
    · rcases k2 k x with y | y
      · exact .inl (.inr (.inr y))
      · exact .inr y
  refine ⟨⟨h.le, h.var.chg hc (h.a3 h3), h.ms.chg hc (fun k hk => (h.a1 k hk).2.2), Row.chg h.blk hc (fun k hk => (h.a2 k hk).2), h.nil, fun _ => ⟨(h.on h3).1, hr⟩, fun e => absurd h3 e, fun k hk => ⟨(h.a1 k hk).1, (h.a1 k hk).2.1, fun f => ?_⟩, fun k hk => ⟨(h.a2 k hk).1, fun f => ?_⟩, fun _ f => ?_⟩, hc.more (fun k _ hk => .inr (.inr (.inr hk))), fun k hk => ?_⟩
  · rcases hf k f with x | x
    · exact (h.a1 k hk).2.2 x
    · have := (h.ms.lt k hk).2; omega
  · rcases hf k f with x | x
    · exact (h.a2 k hk).2 x
    · have := (Row.lt h.blk k hk).2; omega
  · rcases hf rb f with x | x
    · exact h.a3 h3 x
    · have := h.var.lt; omega
  · rcases hk with x | x | x | x
    · exact .inl (.inl x)
    · exact .inl (.inr (.inl x))
    · exact .inl (.inr (.inr (.inl x)))
    · rcases hf k x with y | y
      · exact .inl (.inr (.inr (.inr y)))
      · exact .inr y
set_option maxHeartbeats 1000000 in
theorem schunked_any {w : World} {base rb T : Nat} {s : Strm.S} {V : SV} (hsh : Shp base w) (h : SMem w base rb s V 3) (hp : s.ph = 3) (hok : Chunk.Ok s.body T) (h11 : s.body.at_ ≠ 11) (A : Option Addr) (n c : Nat) (l : Bs) (hT : T + n ≤ 1000000000000) (hn : n ≤ 100000000) (hnc : n ≤ c) (hA : A = none → n = 0)
    (hrd : Rd w w.heap.size 1 A n (bytesV l)) (hsp : Sep A n rb V) :
    Calls Tryz.prog 57 #[.pointer (some ⟨rb, 0, none⟩), .slice A n c] w (CallPost w base rb V A n c 3 (Strm.callS s l)) := by
  have hlen : l.length = n := by have := hrd.1; rw [bytesV_len] at this; omega
  obtain ⟨hbv, hr⟩ := h.on hp
  have HF := feed_any A n c l hsh hr hok h11 hT hn hnc hA hrd (fun h0 g o e f => hsp h0 g o e (.inr (.inr (.inr f))))
  have e : Strm.callS s l = if (Chunk.feed s.body l 0 []).2.2.2 = 1 then (Strm.data (Chunk.feed s.body l 0 []).2.1, (Chunk.feed s.body l 0 []).2.2.1, { s with body := (Chunk.feed s.body l 0 []).1, due := true, ph := 1 }, 0)
      else (Strm.data (Chunk.feed s.body l 0 []).2.1, n, { s with body := (Chunk.feed s.body l 0 []).1 }, if (Chunk.feed s.body l 0 []).2.2.2 = 2 then 230 else 0) := by
    unfold Strm.callS; rw [if_neg (by omega), if_neg (by omega), if_neg (by omega), if_pos hp, Strm.feedA_feed h11 hok, hlen]
  rw [e]
  have hm := Chunk.feed_read_le l s.body
  have hol := Chunk.feed_out_le2 l s.body
  rw [hlen] at hm hol
  obtain ⟨⟨s1, o, m, q⟩, hR⟩ : ∃ R, R = Chunk.feed s.body l 0 [] := ⟨_, rfl⟩
  rw [← hR] at HF hm hol ⊢
  unfold FeedPost at HF
  dsimp only at HF hm hol ⊢
  have HFD := Lib.hid HF
  have HM := Lib.hid h
  have HP := Lib.hid hp
  have d5 := h.cell (j := 5) rfl
  rw [hbv] at d5
  have hrl := h.var.lt
  clear HF hR e hsh hok hrd hr hp h
  by_cases hq : q = 1
  · rw [if_pos hq]
    have hD : decide (q = 1) = true := by rw [hq]; rfl
    obtain ⟨E, hE⟩ : ∃ E : Int, E = if q = 2 then 230 else 0 := ⟨_, rfl⟩
    rw [hD, ← hE] at HFD
    clear hq hE hD
    have hi0 : (0 : Int) ≤ (m : Int) := by omega
    have hi1 : (m : Int) ≤ (n : Int) := by omega
    have hi2 : m ≤ n := by omega
    go_enter Tryz.func57, Tryz.ntmps57
    go_upto_region 2 with (first
      | (go_at_call 95; go_must (refine HFD.out.mono ?_; rintro _ w1 ⟨vo, rfl, hro, vl', vt', hr1, hc1, k1, k2, k3⟩; obtain ⟨Ao, co, rfl, _, _, hAo, hrdo⟩ := Row.form hro))
      | fail)
    obtain ⟨m1, c1, f1⟩ := HM.out.fed HP.out hr1 hc1 k1 k2
    have d8 := m1.cell (j := 8) rfl
    have f8 := m1.var.frozen 8
    have m2 := (m1.put (j := 8) (u := .bool true) (t := { s with body := s1, due := true }) (q' := 3) rfl rfl rfl rfl Iff.rfl m1.nil).rephase (x := 1) (by decide) (fun _ => m1.nil (by have := HP.out; dsimp only; omega))
    have c2 := (c1.setCell (p := ⟨rb, 8, none⟩) (fun _ => .inl rfl) (.bool true)).drew
    have HD := Lib.hid (sdata_any Ao o.length co o ((w1.setCell ⟨rb, 8, none⟩ (.bool true)).drew) (fun e => (hAo e).1) (hrdo.apart (((show Chg (fun k => k = rb) w1 w1 from Chg.refl _ w1).setCell (p := ⟨rb, 8, none⟩) (fun _ => rfl) (.bool true)).drew) (Nat.le_refl _) (fun h0 g o2 e x => by have := (Row.lt hro g (by rw [e]; rfl)).1; omega)) (by omega))
    have HM2 := Lib.hid (m2.below ((Below.refl _ _).drew))
    have HC2 := Lib.hid c2
    have HF2 := Lib.hid f1
    clear m1 m2 c1 c2 f1 hr1 hc1 k1 k2 k3 hro hrdo hAo
    go_upto_region 4 with (fail)
    refine wp_region_held_drew (S := (fun w' => w'.cell? ⟨rb, 0, none⟩ = some (.bool s.rq))) (by as_aux_lemma => kernel_rfl) ?_ (fun hHeld => ?_)
    · exact HM2.out.cell (j := 0) rfl
    refine wpAnyH_take (i := 0) (v := ?_) (by simp only [List.getElem?_toArray, List.getElem?_cons_zero]; exact rfl) (by as_aux_lemma => kernel_rfl) (by as_aux_lemma => kernel_rfl) (by as_aux_lemma => kernel_rfl) (by exact fun _ _ _ h => h) (Or.inl ⟨by rfl, ?_⟩) (by assumption) ?_
    rotate_left
    · intro w hSw
      (try dsimp only at hSw)
      go_simp
      try with_reducible rfl
    (try simp only [Act.put, List.setIfInBounds_toArray, List.set_cons_zero, List.set_cons_succ])
    refine wpAnyH_take (i := 2) (v := ?_) (by simp only [List.getElem?_toArray, List.getElem?_cons_succ, List.getElem?_cons_zero]; exact rfl) (by as_aux_lemma => kernel_rfl) (by as_aux_lemma => kernel_rfl) (by as_aux_lemma => kernel_rfl) (by exact fun _ _ _ h => h) (Or.inl ⟨by rfl, ?_⟩) (by assumption) ?_
    rotate_left
    · intro w hSw
      (try dsimp only at hSw)
      go_simp
      try with_reducible rfl
    (try simp only [Act.put, List.setIfInBounds_toArray, List.set_cons_zero, List.set_cons_succ])
    refine wpAnyH_take (i := 3) (v := ?_) (by simp only [List.getElem?_toArray, List.getElem?_cons_succ, List.getElem?_cons_zero]; exact rfl) (by as_aux_lemma => kernel_rfl) (by as_aux_lemma => kernel_rfl) (by as_aux_lemma => kernel_rfl) (by exact fun _ _ _ h => h) (Or.inl ⟨by rfl, ?_⟩) (by assumption) ?_
    rotate_left
    · intro w hSw
      (try dsimp only at hSw)
      go_simp
      try with_reducible rfl
    (try simp only [Act.put, List.setIfInBounds_toArray, List.set_cons_zero, List.set_cons_succ])
    refine wpAnyH_take (i := 4) (v := ?_) (by simp only [List.getElem?_toArray, List.getElem?_cons_succ, List.getElem?_cons_zero]; exact rfl) (by as_aux_lemma => kernel_rfl) (by as_aux_lemma => kernel_rfl) (by as_aux_lemma => kernel_rfl) (by exact fun _ _ _ h => h) (Or.inl ⟨by rfl, ?_⟩) (by assumption) ?_
    rotate_left
    · intro w hSw
      (try dsimp only at hSw)
      go_simp
      try with_reducible rfl
    (try simp only [Act.put, List.setIfInBounds_toArray, List.set_cons_zero, List.set_cons_succ])
    refine wpAnyH_take (i := 5) (v := ?_) (by simp only [List.getElem?_toArray, List.getElem?_cons_succ, List.getElem?_cons_zero]; exact rfl) (by as_aux_lemma => kernel_rfl) (by as_aux_lemma => kernel_rfl) (by as_aux_lemma => kernel_rfl) (by exact fun _ _ _ h => h) (Or.inl ⟨by rfl, ?_⟩) (by assumption) ?_
    rotate_left
    · intro w hSw
      (try dsimp only at hSw)
      go_simp
      try with_reducible rfl
    (try simp only [Act.put, List.setIfInBounds_toArray, List.set_cons_zero, List.set_cons_succ])
    refine wpAnyH_take (i := 6) (v := ?_) (by simp only [List.getElem?_toArray, List.getElem?_cons_succ, List.getElem?_cons_zero]; exact rfl) (by as_aux_lemma => kernel_rfl) (by as_aux_lemma => kernel_rfl) (by as_aux_lemma => kernel_rfl) (by exact fun _ _ _ h => h) (Or.inl ⟨by rfl, ?_⟩) (by assumption) ?_
    rotate_left
    · intro w hSw
      (try dsimp only at hSw)
      go_simp
      try with_reducible rfl
    (try simp only [Act.put, List.setIfInBounds_toArray, List.set_cons_zero, List.set_cons_succ])
    refine wpAnyH_ready (rs := [1]) (by as_aux_lemma => kernel_rfl) (by simp) ?_
    refine AllReadyH.cons (by simp only [List.getElem?_toArray, List.getElem?_cons_succ, List.getElem?_cons_zero]; exact rfl) (fun K hK => ?_) AllReadyH.nil
    go_simp
    (go_at_call 94; refine HD.out.mono ?_; rintro _ w2 ⟨ev, L, rfl, hL, ho, hb⟩)
    refine hK.out _ _ ?_ (fun hHeld => ?_)
    · (try dsimp only)
      exact (call_list HM2.out hb ho (Nat.le_refl _)).1.cell (j := 0) rfl
    clear hK K
    (try simp only [Act.put, List.setIfInBounds_toArray, List.set_cons_zero, List.set_cons_succ])
    refine wpAnyH_take (i := 7) (v := ?_) (by simp only [List.getElem?_toArray, List.getElem?_cons_succ, List.getElem?_cons_zero]; exact rfl) (by as_aux_lemma => kernel_rfl) (by as_aux_lemma => kernel_rfl) (by as_aux_lemma => kernel_rfl) (by exact fun _ _ _ h => h) (Or.inl ⟨by rfl, ?_⟩) (by assumption) ?_
    rotate_left
    · intro w hSw
      (try dsimp only at hSw)
      go_simp
      try with_reducible rfl
    (try simp only [Act.put, List.setIfInBounds_toArray, List.set_cons_zero, List.set_cons_succ])
    refine wpAnyH_take (i := 8) (v := ?_) (by simp only [List.getElem?_toArray, List.getElem?_cons_succ, List.getElem?_cons_zero]; exact rfl) (by as_aux_lemma => kernel_rfl) (by as_aux_lemma => kernel_rfl) (by as_aux_lemma => kernel_rfl) (by exact fun _ _ _ h => h) (Or.inl ⟨by rfl, ?_⟩) (by assumption) ?_
    rotate_left
    · intro w hSw
      (try dsimp only at hSw)
      go_simp
      try with_reducible rfl
    (try simp only [Act.put, List.setIfInBounds_toArray, List.set_cons_zero, List.set_cons_succ])
    refine wpAnyH_take (i := 9) (v := ?_) (by simp only [List.getElem?_toArray, List.getElem?_cons_succ, List.getElem?_cons_zero]; exact rfl) (by as_aux_lemma => kernel_rfl) (by as_aux_lemma => kernel_rfl) (by as_aux_lemma => kernel_rfl) (by exact fun _ _ _ h => h) (Or.inl ⟨by rfl, ?_⟩) (by assumption) ?_
    rotate_left
    · intro w hSw
      (try dsimp only at hSw)
      go_simp
      try with_reducible rfl
    (try simp only [Act.put, List.setIfInBounds_toArray, List.set_cons_zero, List.set_cons_succ])
    refine wpAnyH_take (i := 10) (v := ?_) (by simp only [List.getElem?_toArray, List.getElem?_cons_succ, List.getElem?_cons_zero]; exact rfl) (by as_aux_lemma => kernel_rfl) (by as_aux_lemma => kernel_rfl) (by as_aux_lemma => kernel_rfl) (by exact fun _ _ _ h => h) (Or.inl ⟨by rfl, ?_⟩) (by assumption) ?_
    rotate_left
    · intro w hSw
      (try dsimp only at hSw)
      go_simp
      try with_reducible rfl
    (try simp only [Act.put, List.setIfInBounds_toArray, List.set_cons_zero, List.set_cons_succ])
    refine wpAnyH_done (by as_aux_lemma => kernel_rfl) ?_ _
    go_wp2
    all_goals
      refine bodyPost_ret (results_tmp4 rfl _ _ _) rfl ?_
      obtain ⟨r1, r2⟩ := call_list HM2.out hb ho (Nat.le_refl _)
      have hz := HC2.out.size
      refine ⟨ev, _, nowV rb 1, L, _, rfl, hL, ho.mono hz, r1, fun _ => ⟨rfl, .inr (.inr ?_)⟩, HC2.out.then_below hb, fun k hk => HF2.out k (footS_cut hk), r2⟩
      first | (simp; done) | (simp [*]; done)
  · rw [if_neg hq]
    have hD : decide (q = 1) = false := by simpa using hq
    obtain ⟨E, hE⟩ : ∃ E : Nat, E = if q = 2 then 230 else 0 := ⟨_, rfl⟩
    have hE2 : (if q = 2 then (230 : Int) else 0) = (E : Int) := by rw [hE]; split <;> rfl
    rw [hD, hE2] at HFD
    rw [← hE]
    clear hq hE hD hE2
    go_enter Tryz.func57, Tryz.ntmps57
    go_upto_region 2 with (first
      | (go_at_call 95; go_must (refine HFD.out.mono ?_; rintro _ w1 ⟨vo, rfl, hro, vl', vt', hr1, hc1, k1, k2, k3⟩; obtain ⟨Ao, co, rfl, _, _, hAo, hrdo⟩ := Row.form hro))
      | fail)
    obtain ⟨m1, c1, f1⟩ := HM.out.fed HP.out hr1 hc1 k1 k2
    have HD := Lib.hid (sdata_any Ao o.length co o w1 (fun e => (hAo e).1) hrdo (by omega))
    have HM2 := Lib.hid m1
    have HC2 := Lib.hid c1
    have HF2 := Lib.hid f1
    clear m1 c1 f1 hr1 hc1 k1 k2 k3 hro hrdo hAo
    go_wp2_with (first
      | (go_at_call 94; go_must (refine HD.out.mono ?_; rintro _ w2 ⟨ev, L, rfl, hL, ho, hb⟩))
      | fail)
    refine bodyPost_ret (results_tmp4 rfl _ _ _) rfl ?_
    obtain ⟨r1, r2⟩ := call_list HM2.out hb ho (Nat.le_refl _)
    have hz := HC2.out.size
    exact ⟨ev, .slice none 0 0, nowV rb 3, L, _, rfl, hL, ho.mono hz, r1, fun _ => ⟨by dsimp only; rw [HP.out], .inl ⟨rfl, rfl⟩⟩, HC2.out.then_below hb, HF2.out, r2⟩
end Go.Proofs.YtklmpadcfioefaaGreatDoor
