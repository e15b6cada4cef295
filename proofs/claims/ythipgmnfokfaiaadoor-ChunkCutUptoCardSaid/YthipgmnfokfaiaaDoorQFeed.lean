/- the document's reader: Feed, Trailers, Total. Conditions: sizes. -/
import Derived.Test.YthipgmnfokfaiaaDoorMLent
import Derived.Test.YthipgmnfokfaiaaDoorFeedsLaw
namespace Go.Proofs.YthipgmnfokfaiaaDoor
open Go.RowKit

theorem Row.head {w : World} {base sz n c k : Nat} {A : Option Addr} {xs : List Value} (h : Row w base sz (.slice A n c) n xs) (hk : k ≤ n) : Row w base sz (.slice A k c) k (xs.take (k * sz)) := by
  refine ⟨by rw [List.length_take, h.1]; exact Nat.min_eq_left (Nat.mul_le_mul_right _ hk), ?_⟩
  rcases h.2 with ⟨e, rfl⟩ | ⟨g, o, cap, cur, t, fr, he, hb, hg, hnc, hm, hs, hf, ht⟩
  · injection e with e1 _ e3
    subst e1 e3
    obtain rfl : k = 0 := by omega
    exact .inl ⟨rfl, rfl⟩
  · injection he with e1 _ e3
    subst e1 e3
    refine .inr ⟨g, o, c, cur, t, fr, rfl, hb, hg, by omega, hm, hs, hf, ?_⟩
    rw [← ht, List.take_take, Nat.min_eq_left (Nat.mul_le_mul_right _ hk)]
theorem RowB.head {w : World} {base c : Nat} {A : Option Addr} {L : Bs} (h : RowB w base (.slice A L.length c) L) (k : Nat) (hk : k ≤ L.length) : RowB w base (.slice A k c) (L.take k) := by
  have h1 := Row.head h hk
  rw [Nat.mul_one, bytesV_take] at h1
  unfold RowB
  rw [List.length_take, Nat.min_eq_left hk]
  exact h1

/-- the document's reader in memory -/
structure QR (w : World) (base b : Nat) (d : Chunk.Doc) (va : Value) : Prop where
  var : Var w b 41 [va, .bool d.done, .bool d.dead]
  row : RowB w base va d.all
  far : va.ownBlock ≠ some b
  le : base ≤ b
theorem QR.chg {S : Nat → Prop} {w w' : World} {base b : Nat} {d : Chunk.Doc} {va : Value} (h : QR w base b d va) (hc : Chg S w w') (h1 : ¬ S b) (h2 : ∀ k, va.ownBlock = some k → ¬ S k) : QR w' base b d va :=
  ⟨h.var.chg hc h1, h.row.chg hc h2, h.far, h.le⟩
theorem QR.below {w w' : World} {base b : Nat} {d : Chunk.Doc} {va : Value} (h : QR w base b d va) (hb : Below w.heap.size w w') : QR w' base b d va :=
  ⟨h.var.below_all hb, h.row.below_all hb, h.far, h.le⟩
theorem QR.new (w : World) : QR (w.alloc (.cells #[.slice none 0 0, .bool false, .bool false] 41)) w.heap.size w.heap.size ⟨[], false, false⟩ (.slice none 0 0) :=
  ⟨Var.new w 41 [.slice none 0 0, .bool false, .bool false], RowB.nil _ _, by simp [Value.ownBlock], Nat.le_refl _⟩

/-- what the document's Feed leaves -/
def QFeedPost (w : World) (base b : Nat) (va : Value) (r : Chunk.Doc × Bs × Nat × Bool × Nat) (e : Ending) (w' : World) : Prop :=
  ∃ A n c va', e = .returned (.tuple #[.slice A n c, .int .i64 r.2.2.1, .bool r.2.2.2.1, .int .i64 r.2.2.2.2]) ∧ Rd w' w'.heap.size 1 A n (bytesV r.2.1) ∧ (A = none → n = 0) ∧ QR w' base b r.1 va' ∧ Chg (fun k => k = b) w w' ∧ (∀ k, va'.ownBlock = some k → va.ownBlock = some k ∨ w.heap.size ≤ k)
theorem Chunk.readOf_le (l : Bs) : (Chunk.readOf l).read ≤ l.length := by
  rw [Chunk.readOf_feed]; exact Chunk.feed_read_le l {}

theorem own_len (A : Option Addr) (n m c d : Nat) : (Value.slice A n c).ownBlock = (Value.slice A m d).ownBlock := by cases A <;> rfl
theorem QR.fin {w w6 : World} {base b base5 c4 c5 k rd n e : Nat} {d : Chunk.Doc} {va : Value} {A4 A5 : Option Addr} {L4 body : Bs} {dn wr : Bool} (hb : Below w.heap.size w w6) (hq : QR w6 base b d va) (hlt : b < w.heap.size) (h4 : RowB w6 w.heap.size (.slice A4 L4.length c4) L4) (h5 : RowB w6 base5 (.slice A5 body.length c5) body) (hw : w.heap.size ≤ base5) (hr : rd ≤ L4.length) (hk : k ≤ body.length) :
    QFeedPost w base b va (⟨L4.take rd, dn, wr⟩, body.drop k, n, dn, e) (.returned (.tuple #[.slice (if c5 = k then A5 else A5.map (·.add k)) (body.length - k) (c5 - k), .int .i64 n, .bool dn, .int .i64 e])) ((((w6.setCell ⟨b, 0, none⟩ (.slice A4 rd c4)).setCell ⟨b, 1, none⟩ (.bool dn)).setCell ⟨b, 2, none⟩ (.bool wr)).drew) := by
  have hbs := hq.le
  have hbk : ∀ q, (Value.slice A4 L4.length c4).ownBlock = some q → q ≠ b := fun q hq e => by have := (RowB.lt h4 q hq).1; omega
  have hbk5 : ∀ q, (Value.slice A5 body.length c5).ownBlock = some q → q ≠ b := fun q hq e => by have := (RowB.lt h5 q hq).1; omega
  have RA := (((h4.setCell_far (p := ⟨b, 0, none⟩) (fun e => hbk _ e rfl) (.slice A4 rd c4)).setCell_far (p := ⟨b, 1, none⟩) (fun e => hbk _ e rfl) (.bool dn)).setCell_far (p := ⟨b, 2, none⟩) (fun e => hbk _ e rfl) (.bool wr))
  have RB := (((h5.setCell_far (p := ⟨b, 0, none⟩) (fun e => hbk5 _ e rfl) (.slice A4 rd c4)).setCell_far (p := ⟨b, 1, none⟩) (fun e => hbk5 _ e rfl) (.bool dn)).setCell_far (p := ⟨b, 2, none⟩) (fun e => hbk5 _ e rfl) (.bool wr))
  obtain ⟨A5', c5', ee, hc5, _, h50, hrd5⟩ := RB.form
  injection ee with ee1 _ ee3
  subst ee1 ee3
  have hsh := hrd5.shift (k := k) (cap := c5) hk hc5
  rw [bytesV_drop, Nat.mul_one] at hsh
  refine ⟨_, _, _, .slice A4 rd c4, rfl, hsh, ?_, ⟨((hq.var.set 0 (.slice A4 rd c4)).set 1 (.bool dn)).set 2 (.bool wr), Row.mono (RA.head rd hr) (by omega), fun e => hbk b (by rw [own_len A4 _ rd _ c4]; exact e) rfl, hbs⟩, ((((Chg.of_below (S := fun k => k = b) hb).setCell (p := ⟨b, 0, none⟩) (fun _ => rfl) _).setCell (p := ⟨b, 1, none⟩) (fun _ => rfl) _).setCell (p := ⟨b, 2, none⟩) (fun _ => rfl) _).drew, fun q hq => Or.inr (RowB.lt h4 q (by rw [own_len A4 _ rd _ c4]; exact hq)).1⟩
  intro e
  by_cases hck : c5 = k
  · omega
  · rw [if_neg hck] at e
    cases A5 with
    | none => have := (h50 rfl).1; omega
    | some a => cases e
set_option maxHeartbeats 4000000 in
set_option maxRecDepth 100000 in
theorem qfeed_any {d : Chunk.Doc} (A : Option Addr) (n c : Nat) (l : Bs) {w : World} {base b : Nat} {va : Value} (h : QR w base b d va) (hal : d.done = false → d.dead = false → ∃ s b, Chunk.Alive d.all s b)
    (hA : A = none → n = 0) (hrd : Rd w w.heap.size 1 A n (bytesV l)) (hn : d.all.length + n ≤ 100000000) :
    Calls Tryd.prog 29 #[.pointer (some ⟨b, 0, none⟩), .slice A n c] w (QFeedPost w base b va (Chunk.docFeed d l)) := by
  have hlen : l.length = n := by have := hrd.1; rw [bytesV_len] at this; omega
  have HQ := Lib.hid h
  have hbs := h.le
  have hlt := h.var.lt
  obtain ⟨Aa, ca, hva, hca, hcm, hA0, hra⟩ := h.row.form
  subst hva
  obtain ⟨all, dn, dd⟩ := d
  simp only at hn hal hra hca hA0
  have d0 := HQ.out.var.cell (j := 0) rfl
  have d1 := HQ.out.var.cell (j := 1) rfl
  have d2 := HQ.out.var.cell (j := 2) rfl
  clear h
  cases dn
  · cases dd
    · obtain ⟨s, bb, hal⟩ := hal rfl rfl
      have hw1 := hal.read
      have hw2 := hal.next l
      have hrl := Chunk.readOf_le (all ++ l)
      have hpre : (Chunk.readOf all).body.length ≤ (Chunk.readOf (all ++ l)).body.length := by rw [hw1, hw2]; simp
      have HD : Hid (Chunk.docFeed ⟨all, false, false⟩ l = (⟨(all ++ l).take (Chunk.readOf (all ++ l)).read, (Chunk.readOf (all ++ l)).done, (Chunk.readOf (all ++ l)).wrong⟩, (Chunk.readOf (all ++ l)).body.drop (Chunk.readOf all).body.length, (Chunk.readOf (all ++ l)).read - all.length, (Chunk.readOf (all ++ l)).done, if (Chunk.readOf (all ++ l)).wrong = true then 230 else 0)) := Lib.hid rfl
      have hge : all.length ≤ (Chunk.readOf (all ++ l)).read := by rw [hw2]; simp
      clear hw1 hw2 hal
      have HR1 := Lib.hid (rread_any Aa all.length ca all w hca hra (by omega))
      have HRD := Lib.hid hrd
      have HRA := Lib.hid hra
      obtain ⟨L4, hL4⟩ : ∃ L4, L4 = all ++ l := ⟨_, rfl⟩
      have HL4 := Lib.hid hL4
      rw [← hL4] at HD hrl hpre hge
      have HLL : Hid (L4.length = all.length + n) := Lib.hid (by rw [hL4, List.length_append, hlen])
      rw [HLL.out] at hrl
      clear hL4
      have HR2 : Hid (∀ (A : Option Addr) (c : Nat) (W : World), L4.length ≤ c → Rd W W.heap.size 1 A L4.length (bytesV L4) → Calls Tryd.prog 64 #[.slice A L4.length c] W (ReadPost W (Chunk.readOf L4))) := Lib.hid (fun A c W h1 h2 => rread_any A _ c _ W h1 h2 (by rw [HLL.out]; omega))
      generalize Chunk.readOf all = r at HR1 HD hpre
      generalize Chunk.readOf L4 = r2 at HR2 HD hpre hrl hge
      generalize Chunk.docFeed ⟨all, false, false⟩ l = X at HD
      clear hrd hra
      go_enter Tryd.func29, Tryd.ntmps29
      go_upto_region 6 with (first
        | (go_at_call 64; go_must (refine HR1.out.mono ?_; rintro _ w1 ⟨vo1, vt1, tr1, rfl, hrow1, hrt1, _, _, hb1⟩; obtain ⟨A1, c1, rfl, _, _, _, _⟩ := RowB.form hrow1; obtain ⟨T1, k1, rfl, _, _, _, _⟩ := hrt1.form))
        | (refine wpList_put rfl 97 (.tmp 8) (.tmp 25) rfl w1.heap.size rfl (Var.new w1 97 zf) [.slice A1 r.body.length c1, .int .i64 r.read, .bool r.done, .bool r.wrong, .slice T1 tr1.length k1] rfl rfl (by kernel_rfl) (by simp [Value.oneCell']) ?_; intro w2 hv2 hg2 hs2)
        | fail)
      have hz1 := hb1.size
      have hz2 : w1.heap.size < w2.heap.size := by simp at hs2; omega
      have hb2 : Below w.heap.size w w2 := Below.laid hb1 hz1 hg2
      have Q2 := HQ.out.below hb2
      have e0 := Q2.var.cell (j := 0) rfl
      clear d0 d1 d2 hrow1 hrt1 hb1 hg2 hs2
      go_upto_region 9 with (first
        | (at_builtin; (refine wpList_appB (L := []) (M := all) rfl (.tmp 31) (.tmp 35) 35 rfl w.heap.size rfl (RowB.nil _ _) rfl (SrcB.slice (HRA.out.keeps hb2) (fun e => (hA0 e).1)) (by simp; omega) (by omega) ?_); go_must (intro v3 w3 hrow3 hbb3 hg3 hv3; rw [List.nil_append] at hrow3; have hb3 := hb2.trans hbb3; have V3 := hv2.grown hg3 (show (Value.slice none 0 0).ownBlock ≠ some w1.heap.size from by simp [Value.ownBlock])))
        | (at_builtin; (refine wpList_appB (L := all) (M := l) rfl (.tmp 36) (.tmp 37) 35 rfl w.heap.size rfl hrow3 rfl (SrcB.slice (HRD.out.keeps hb3) hA) (by omega) hb3.size ?_); go_must (intro v4 w4 hrow4 hbb4 hg4 hv4; rw [← HL4.out] at hrow4))
        | fail)
      have hb4 := hb3.trans hbb4
      have hz4 := hb4.size
      have hz3 := hbb3.size
      have hz43 := hbb4.size
      obtain ⟨A4, c4, rfl, hc4, hm4, hA4, hr4⟩ := hrow4.form
      have R4 := Lib.hid hrow4
      have hv3' : v3.ownBlock = none ∨ v3.ownBlock = some w2.heap.size := hv3
      have hg4' : w3.grownBy w4 v3.ownBlock := hg4
      have V4 := V3.grown hg4' (fun e => by
        rcases hv3' with x | x
        · rw [x] at e; cases e
        · rw [x] at e; injection e with e; omega)
      clear hrow3 hbb3 hg3 hv3 V3 hrow4 hbb4 hg4 hv4 hv2 Q2 e0 hv3' hg4'
      go_upto_region 10 with (first
        | (go_at_call 64; go_must (refine (HR2.out A4 c4 _ hc4 hr4).mono ?_; rintro _ w5 ⟨vo5, vt5, tr5, rfl, hrow5, hrt5, _, _, hb5⟩; obtain ⟨A5, c5, rfl, _, _, _, _⟩ := RowB.form hrow5; obtain ⟨T5, k5, rfl, _, _, _, _⟩ := hrt5.form))
        | (refine wpList_put rfl 97 (.tmp 11) (.tmp 40) rfl w5.heap.size rfl (Var.new w5 97 zf) [.slice A5 r2.body.length c5, .int .i64 r2.read, .bool r2.done, .bool r2.wrong, .slice T5 tr5.length k5] rfl rfl (by kernel_rfl) (by simp [Value.oneCell']) ?_; intro w6 hv6 hg6 hs6)
        | fail)
      have hz5 := hb5.size
      have hz6 : w5.heap.size < w6.heap.size := by simp at hs6; omega
      have hb6 : Below w.heap.size w w6 := Below.laid (hb4.trans (hb5.mono hz4)) (by omega) hg6
      have Q6 := HQ.out.below hb6
      have V16 := ((V4.below_all hb5).alloc (.cells zf.toArray 97)).grown hg6 (fun e => by injection e with e; omega)
      have R46 := RowB.laid (R4.out.below_all hb5) hg6
      have R56 := RowB.laid hrow5 hg6
      have e0 := Q6.var.cell (j := 0) rfl
      have e1 := Q6.var.cell (j := 1) rfl
      have e2 := Q6.var.cell (j := 2) rfl
      have q0 := Q6.var.frozen 0
      have q1 := Q6.var.frozen 1
      have q2 := Q6.var.frozen 2
      have f0 := hv6.cell (j := 0) rfl
      have f1 := hv6.cell (j := 1) rfl
      have f2 := hv6.cell (j := 2) rfl
      have f3 := hv6.cell (j := 3) rfl
      have o0 := V16.cell (j := 0) rfl
      have j0 : (0 : Int) ≤ (r2.read : Int) := by omega
      have j1 : (r2.read : Int) ≤ (c4 : Int) := by have := HLL.out; omega
      have n1 : ¬ b = w5.heap.size := by omega
      have n2 : ¬ b = w1.heap.size := by omega
      have n3 : ¬ w5.heap.size = b := by omega
      have n4 : ¬ w1.heap.size = b := by omega
      have HB6 := Lib.hid hb6
      have HR46 := Lib.hid R46
      have HR56 := Lib.hid R56
      have HQ6 := Lib.hid Q6
      clear hb6 R46 R56 hrow5 hrt5 hb5 hg6 hs6 hb4 hb3 hb2 V4 V16 Q6 hr4
      cases hw : r2.wrong
      · rw [hw] at f3
        go_upto_region 16 with (fail)
        have hsub : (r2.read : Int) - (all.length : Int) = ((r2.read - all.length : Nat) : Int) := by omega
        have y0 : (0 : Int) ≤ (r.body.length : Int) := by omega
        have y1 : (r.body.length : Int) ≤ (r2.body.length : Int) := by omega
        have HPP := Lib.hid (QR.fin (n := r2.read - all.length) (e := 0) (k := r.body.length) (rd := r2.read) (dn := r2.done) (wr := false) HB6.out HQ6.out hlt HR46.out HR56.out (by omega) (by have := HLL.out; omega) hpre)
        have HXX : Hid (X = (⟨L4.take r2.read, r2.done, false⟩, r2.body.drop r.body.length, r2.read - all.length, r2.done, 0)) := Lib.hid (by rw [HD.out, hw]; rfl)
        clear hw HD HL4 HLL HR1 HR2 HRA HRD HQ HB6 HR46 HR56 HQ6
        by_cases hck : c5 = r.body.length
        · have hc0 : c5 - r.body.length = 0 := by omega
          rw [if_pos hck, hc0] at HPP
          go_region
          all_goals
            go_wp2
            refine bodyPost_ret (results_tmp4 rfl _ _ _) rfl ?_
            rw [HXX.out]
            exact HPP.out
        · rw [if_neg hck] at HPP
          go_region
          all_goals
            go_wp2
            refine bodyPost_ret (results_tmp4 rfl _ _ _) rfl ?_
            rw [HXX.out]
            exact HPP.out
      · rw [hw] at f3
        go_upto_region 16 with (fail)
        have hsub : (r2.read : Int) - (all.length : Int) = ((r2.read - all.length : Nat) : Int) := by omega
        have y0 : (0 : Int) ≤ (r.body.length : Int) := by omega
        have y1 : (r.body.length : Int) ≤ (r2.body.length : Int) := by omega
        have HPP := Lib.hid (QR.fin (n := r2.read - all.length) (e := 230) (k := r.body.length) (rd := r2.read) (dn := r2.done) (wr := true) HB6.out HQ6.out hlt HR46.out HR56.out (by omega) (by have := HLL.out; omega) hpre)
        have HXX : Hid (X = (⟨L4.take r2.read, r2.done, true⟩, r2.body.drop r.body.length, r2.read - all.length, r2.done, 230)) := Lib.hid (by rw [HD.out, hw]; rfl)
        clear hw HD HL4 HLL HR1 HR2 HRA HRD HQ HB6 HR46 HR56 HQ6
        by_cases hck : c5 = r.body.length
        · have hc0 : c5 - r.body.length = 0 := by omega
          rw [if_pos hck, hc0] at HPP
          go_region
          all_goals
            go_wp2
            refine bodyPost_ret (results_tmp4 rfl _ _ _) rfl ?_
            rw [HXX.out]
            exact HPP.out
        · rw [if_neg hck] at HPP
          go_region
          all_goals
            go_wp2
            refine bodyPost_ret (results_tmp4 rfl _ _ _) rfl ?_
            rw [HXX.out]
            exact HPP.out
    · have HD : Hid (Chunk.docFeed ⟨all, false, true⟩ l = (⟨all, false, true⟩, [], 0, false, 230)) := Lib.hid rfl
      generalize Chunk.docFeed ⟨all, false, true⟩ l = X at HD
      clear hrd hra hal
      go_enter Tryd.func29, Tryd.ntmps29
      go_wp2
      refine bodyPost_ret (results_tmp4 rfl _ _ _) rfl ?_
      rw [HD.out]
      exact ⟨none, 0, 0, _, rfl, Rd.nil _ _ _ _, fun _ => rfl, HQ.out, Chg.refl _ _, fun k hk => Or.inl hk⟩
  · have HD : Hid (Chunk.docFeed ⟨all, true, dd⟩ l = (⟨all, true, dd⟩, [], 0, true, 0)) := Lib.hid rfl
    generalize Chunk.docFeed ⟨all, true, dd⟩ l = X at HD
    clear hrd hra hal
    go_enter Tryd.func29, Tryd.ntmps29
    go_wp2
    refine bodyPost_ret (results_tmp4 rfl _ _ _) rfl ?_
    rw [HD.out]
    exact ⟨none, 0, 0, _, rfl, Rd.nil _ _ _ _, fun _ => rfl, HQ.out, Chg.refl _ _, fun k hk => Or.inl hk⟩
end Go.Proofs.YthipgmnfokfaiaaDoor
