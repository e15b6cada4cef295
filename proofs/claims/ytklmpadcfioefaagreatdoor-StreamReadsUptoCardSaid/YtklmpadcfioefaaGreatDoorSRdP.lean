/- For StreamReads: two readers of one stream, the program's and the document's, in memory; pieces as an argument; a reader that is nil. Conditions: sizes. -/
import Derived.Test.YtklmpadcfioefaaGreatDoorQRdr2
import Derived.Test.YtklmpadcfioefaaGreatDoorEvs24
import Derived.Test.YtklmpadcfioefaaGreatDoorMX2
import Derived.Test.YtklmpadcfioefaaGreatDoorMX3
namespace Go.Proofs.YtklmpadcfioefaaGreatDoor
open Go.RowKit
namespace Strm
theorem contB_few {K : Bs → RR} {p : Bs} (h : ∀ x, x.length ≤ p.length → (K x).1.length ≤ x.length) (m : RM) (ph left : Nat) (bd : Chunk.St) : (contB K m ph left bd p).1.length ≤ p.length + 1 := by
  have con : ∀ (y : RM) (q : Bs), q.length ≤ p.length → (RR.cons y (K q)).1.length ≤ p.length + 1 := fun y q hq => by
    have := h q hq
    show (K q).1.length + 1 ≤ _
    omega
  have one : ∀ (y : RM), [y].length ≤ p.length + 1 := fun y => by simp
  unfold contB
  split
  · exact con _ _ (Nat.le_refl _)
  · split
    · dsimp only
      split
      · exact con _ _ (by rw [List.length_drop]; omega)
      · exact one _
    · split
      · dsimp only
        split
        · exact con _ _ (by rw [List.length_drop]; omega)
        · exact one _
      · exact one _
theorem readL_few (rq : Bool) : ∀ (f : Nat) (b : Bs) (ms : List ByteArray), (readL rq f b ms).1.length ≤ b.length
  | 0, _, _ => Nat.zero_le _
  | f + 1, b, ms => by
    unfold readL
    split
    · exact Nat.zero_le _
    · cases he : headEnd (b.take 16384) with
      | none =>
        dsimp only
        split <;> exact Nat.zero_le _
      | some n =>
        dsimp only
        split
        · exact Nat.zero_le _
        · split
          · exact Nat.zero_le _
          · have hn := headEnd_ge he
            rw [List.length_take] at hn
            have := contB_few (K := fun x => readL rq f x (if takes { rq := rq, ms := ms } (parseP (b.take n) rq).1 = true then ms.tail else ms)) (p := b.drop n) (fun x _ => readL_few rq f x _) { hd := (parseP (b.take n) rq).1, fr := (headFr { rq := rq, ms := ms } (parseP (b.take n) rq).1).1, ln := (headFr { rq := rq, ms := ms } (parseP (b.take n) rq).1).2.1, body := [], wh := false } ((headFr { rq := rq, ms := ms } (parseP (b.take n) rq).1).1 + 1) (headFr { rq := rq, ms := ms } (parseP (b.take n) rq).1).2.1 {}
            rw [List.length_drop] at this
            exact Nat.le_trans this (by omega)
theorem cnt_few (rq : Bool) (b : Bs) (ms : List ByteArray) : cnt (readF rq b ms).1 ≤ b.length := Nat.le_trans (List.length_filter_le _ _) (readL_few rq _ b ms)
theorem pad_len (M : List ByteArray) (n : Nat) (m : ByteArray) : (padM M n ++ [m]).length ≤ max M.length n + 1 := by
  unfold padM
  rw [List.length_append, List.length_append, List.length_replicate, List.length_singleton]
  omega
theorem headS_ms (t : S) (b : Bs) : (headS t b).2.1.ms.length ≤ t.ms.length := by
  unfold headS
  split
  · exact Nat.le_refl _
  · dsimp only
    have h : (if takes t (parseP b t.rq).1 = true then t.ms.tail else t.ms).length ≤ t.ms.length := by
      split
      · rw [List.length_tail]; omega
      · exact Nat.le_refl _
    split <;> exact h
theorem call_ms (s : S) (p : Bs) : (callS s p).2.2.1.ms.length ≤ s.ms.length := by
  unfold callS
  split
  · dsimp only
    split
    · split <;> exact Nat.le_refl _
    · exact headS_ms _ _
  · split
    · exact Nat.le_refl _
    · split
      · dsimp only
        split <;> exact Nat.le_refl _
      · split
        · dsimp only
          split <;> exact Nat.le_refl _
        · exact Nat.le_refl _
theorem feeds_ms {s u : S} {p : Bs} {es : List E1} {r : Nat} (h : Feeds s p u es r) : u.ms.length ≤ s.ms.length := by
  induction h with
  | stop => exact Nat.le_refl _
  | err s p _ _ => exact call_ms s p
  | go s p u es r _ _ _ ih => exact Nat.le_trans ih (call_ms s p)
theorem FdP.ms {s u : S} {p : Bs} {es : List E1} {r : Nat} (h : FdP s p u es r) : u.ms.length ≤ s.ms.length := by
  rcases h with ⟨_, h⟩ | ⟨_, h, _⟩
  · exact feeds_ms h
  · rw [h]; exact Nat.le_refl _
end Strm

theorem sbetween_any {w : World} {base rb q : Nat} {s : Strm.S} {V : SV} (h : SMem w base rb s V q) :
    Calls Tryz.prog 14 #[.pointer (some ⟨rb, 0, none⟩)] w fun e w' => e = .returned (.bool (decide (s.dead = 0) && !s.win)) ∧ Below w.heap.size w w' := by
  have d9 := h.cell (j := 9) rfl
  have d7 := h.cell (j := 7) rfl
  clear h
  go_enter Tryz.func14, Tryz.ntmps14
  by_cases hd : s.dead = 0
  · have e9 : ((s.dead : Int) == 0) = true := by rw [beq_iff_eq]; omega
    obtain ⟨b, hb⟩ : ∃ b, b = s.win := ⟨_, rfl⟩
    rw [← hb] at d7 ⊢
    have HD := Lib.hid hd
    clear hd hb
    go_wp2
    go_ret
    exact ⟨by rw [decide_eq_true HD.out]; rfl, Below.refl _ _⟩
  · have e9 : ((s.dead : Int) == 0) = false := by rw [beq_eq_false_iff_ne]; omega
    have HD := Lib.hid hd
    clear hd
    go_wp2
    go_ret
    exact ⟨by rw [decide_eq_false HD.out]; rfl, Below.refl _ _⟩
theorem snum_any (n : Nat) (w : World) : Calls Tryz.prog 11 #[.int .i64 (n : Int)] w fun e w' => e = .returned (.int .i64 (n : Int)) ∧ w' = w := by
  go_enter Tryz.func11, Tryz.ntmps11
  go_wp2
  go_ret
  exact ⟨rfl, rfl⟩
/-! ### nil -/
theorem nexpect (m : ByteArray) (w : World) : Calls Tryz.prog 7 #[.pointer none, .string m] w fun e w' => e = .returned (.tuple #[]) ∧ w' = w := by
  go_enter Tryz.func7, Tryz.ntmps7
  go_wp2
  go_end0
  exact ⟨rfl, rfl⟩
theorem nqexpect (m : ByteArray) (w : World) : Calls Tryz.prog 8 #[.pointer none, .string m] w fun e w' => e = .returned (.tuple #[]) ∧ w' = w := by
  go_enter Tryz.func8, Tryz.ntmps8
  go_wp2
  refine bodyPost_ret (results_none rfl _ _ _) rfl ?_
  exact ⟨rfl, rfl⟩
theorem nfeed (A : Option Addr) (n c : Nat) (w : World) : Calls Tryz.prog 9 #[.pointer none, .slice A n c] w fun e w' => e = .returned (.tuple #[.slice none 0 0, .int .i64 1]) ∧ w' = w := by
  go_enter Tryz.func9, Tryz.ntmps9
  go_wp2
  go_ret2
  exact ⟨rfl, rfl⟩
theorem nqfeed (A : Option Addr) (n c : Nat) (w : World) : Calls Tryz.prog 10 #[.pointer none, .slice A n c] w fun e w' => e = .returned (.tuple #[.slice none 0 0, .int .i64 1]) ∧ w' = w := by
  go_enter Tryz.func10, Tryz.ntmps10
  go_wp2
  go_ret2
  exact ⟨rfl, rfl⟩
theorem nended (w : World) : Calls Tryz.prog 16 #[.pointer none] w fun e w' => e = .returned (.tuple #[.slice none 0 0, .int .i64 1]) ∧ w' = w := by
  go_enter Tryz.func16, Tryz.ntmps16
  go_wp2
  go_ret2
  exact ⟨rfl, rfl⟩
theorem nqended (w : World) : Calls Tryz.prog 17 #[.pointer none] w fun e w' => e = .returned (.tuple #[.slice none 0 0, .int .i64 1]) ∧ w' = w := by
  go_enter Tryz.func17, Tryz.ntmps17
  go_wp2
  go_ret2
  exact ⟨rfl, rfl⟩
theorem nbetween (w : World) : Calls Tryz.prog 14 #[.pointer none] w fun e w' => e = .returned (.bool false) ∧ w' = w := by
  go_enter Tryz.func14, Tryz.ntmps14
  go_wp2
  go_ret
  exact ⟨rfl, rfl⟩
theorem nqbetween (w : World) : Calls Tryz.prog 15 #[.pointer none] w fun e w' => e = .returned (.bool false) ∧ w' = w := by
  go_enter Tryz.func15, Tryz.ntmps15
  go_wp2
  go_ret
  exact ⟨rfl, rfl⟩

/-! ### two readers -/
structure Rds (w0 w : World) (rq : Bool) (rb : Nat) (s : Strm.S) (V : SV) (q qb : Nat) (All : Bs) (M : List ByteArray) (av mv : Value) (N : Nat) : Prop where
  m : SMem w w0.heap.size rb s V q
  k : QMem w w0.heap.size qb rq All M s.dead av mv
  ap : ∀ j, footS rb V j → ¬ footQ qb av mv j
  al : Strm.Al s N q
  rel : s.dead = 0 → (∃ pre o, Strm.RelR rq All M s pre o) ∧ Strm.Win2 s
  bl : Below w0.heap.size w0 w
  z1 : All.length ≤ N
  z2 : M.length ≤ N
  z3 : s.ms.length ≤ N
section
variable {w0 w w' w1 w2 : World} {rq : Bool} {rb q qb N : Nat} {s : Strm.S} {V V' : SV} {All : Bs} {M : List ByteArray} {av mv mv' : Value}
theorem Rds.below (h : Rds w0 w rq rb s V q qb All M av mv N) (hb : Below w.heap.size w w') : Rds w0 w' rq rb s V q qb All M av mv N :=
  ⟨h.m.below hb, h.k.below hb, h.ap, h.al, h.rel, h.bl.trans (hb.mono h.bl.size), h.z1, h.z2, h.z3⟩
/-- a block that is neither's is changed -/
theorem Rds.other {S : Nat → Prop} (h : Rds w0 w rq rb s V q qb All M av mv N) (hc : Chg S w w') (h1 : ∀ j, footS rb V j → ¬ S j) (h2 : ∀ j, footQ qb av mv j → ¬ S j) (h3 : ∀ j, S j → w0.heap.size ≤ j) : Rds w0 w' rq rb s V q qb All M av mv N :=
  ⟨h.m.chg hc h1, h.k.chg hc h2, h.ap, h.al, h.rel, Below.chg h.bl hc h.bl.size h3, h.z1, h.z2, h.z3⟩
theorem Rds.more {N' : Nat} (h : Rds w0 w rq rb s V q qb All M av mv N) (hn : N ≤ N') : Rds w0 w rq rb s V q qb All M av mv N' :=
  ⟨h.m, h.k, h.ap, fun e => ⟨(h.al e).1, (h.al e).2.1.mono hn, (h.al e).2.2⟩, h.rel, h.bl, Nat.le_trans h.z1 hn, Nat.le_trans h.z2 hn, Nat.le_trans h.z3 hn⟩
theorem Rds.lt (h : Rds w0 w rq rb s V q qb All M av mv N) (j : Nat) (hj : footS rb V j ∨ footQ qb av mv j) : w0.heap.size ≤ j ∧ j < w.heap.size := by
  rcases hj with x | x
  · exact h.m.lt j x
  · exact h.k.lt j x
/-- one more method, of both -/
theorem Rds.exp {m : ByteArray} (h : Rds w0 w rq rb s V q qb All M av mv N) (hm : SMem w1 w0.heap.size rb { s with ms := s.ms ++ [m] } V' q) (hc : Chg (footS rb V) w w1) (hf : ∀ j, footS rb V' j → footS rb V j ∨ w.heap.size ≤ j)
    (hk : QMem w2 w0.heap.size qb rq All (Strm.padM M (Strm.cnt (Strm.readF rq All M).1) ++ [m]) s.dead av mv') (hc2 : Chg (footQ qb av mv) w1 w2) (hf2 : ∀ j, footQ qb av mv' j → footQ qb av mv j ∨ w1.heap.size ≤ j) :
    Rds w0 w2 rq rb { s with ms := s.ms ++ [m] } V' q qb All (Strm.padM M (Strm.cnt (Strm.readF rq All M).1) ++ [m]) av mv' (N + 1) := by
  have hz := hc.size
  have hap : ∀ j, footS rb V' j → ¬ footQ qb av mv j := fun j x y => by
    rcases hf j x with z | z
    · exact h.ap j z y
    · have := (h.k.lt j y).2; omega
  refine ⟨hm.chg hc2 hap, hk, fun j x y => ?_, fun hd => ?_, fun hd => ?_, Below.chg (Below.chg h.bl hc h.bl.size (fun j x => (h.m.lt j x).1)) hc2 (Nat.le_trans h.bl.size hz) (fun j x => (h.k.lt j x).1), Nat.le_trans h.z1 (Nat.le_succ _), ?_, ?_⟩
  · rcases hf2 j y with z | z
    · exact hap j x z
    · have := (hm.lt j x).2; omega
  · obtain ⟨h1, h2, h3⟩ := h.al hd
    have hi := h2.mono (Nat.le_succ N)
    exact ⟨h1, ⟨hi.ph, hi.due, hi.end_, hi.blk, hi.nil, hi.left, hi.room, hi.body, hi.fr, hi.fr4, hi.win⟩, h3⟩
  · obtain ⟨⟨pre, o, hr⟩, hw⟩ := h.rel hd
    refine ⟨⟨pre, o, ?_⟩, hw⟩
    have he := hr.read
    rw [he]
    exact hr.expect m
  · have h1 := Strm.pad_len M (Strm.cnt (Strm.readF rq All M).1) m
    have h2 := Strm.cnt_few rq All M
    have h3 := h.z1
    have h4 := h.z2
    omega
  · have := h.z3
    show (s.ms ++ [m]).length ≤ _
    rw [List.length_append, List.length_singleton]
    omega
/-- a piece is fed to both -/
theorem Rds.feed {p : Bs} {u : Strm.S} {q' r d' : Nat} {av' : Value} {All' : Bs} {es : List Strm.E1} (h : Rds w0 w rq rb s V q qb All M av mv N) (hm : SMem w1 w0.heap.size rb u V' q') (hc : Chg (footS rb V) w w1) (hf : ∀ j, footS rb V' j → footS rb V j ∨ w.heap.size ≤ j)
    (hfd : Strm.FdP s p u es r) (h0 : r = 0 → q' = u.ph ∧ u.dead = s.dead) (hr : r ≠ 0 → u.dead = r)
    (hk : QMem w2 w0.heap.size qb rq All' M d' av' mv) (hc2 : Chg (footQ qb av mv) w1 w2) (hf2 : ∀ j, footQ qb av' mv j → footQ qb av mv j ∨ w1.heap.size ≤ j)
    (hd : s.dead = 0 → All' = All ++ p ∧ d' = r) (hd2 : s.dead ≠ 0 → All' = All ∧ d' = s.dead) :
    Rds w0 w2 rq rb u V' q' qb All' M av' mv (N + p.length) := by
  have hz := hc.size
  have hap : ∀ j, footS rb V' j → ¬ footQ qb av mv j := fun j x y => by
    rcases hf j x with z | z
    · exact h.ap j z y
    · have := (h.k.lt j y).2; omega
  have hdd : d' = u.dead := by
    by_cases e : s.dead = 0
    · rw [(hd e).2]
      by_cases e2 : r = 0
      · rw [(h0 e2).2, e, e2]
      · exact (hr e2).symm
    · rw [(hd2 e).2]
      rcases hfd with ⟨x, _⟩ | ⟨_, x, _⟩
      · exact absurd x e
      · rw [x]
  have hal := hfd.al h.al h0 hr
  refine ⟨hm.chg hc2 hap, by rw [← hdd]; exact hk, fun j x y => ?_, hal, fun hu => ?_, Below.chg (Below.chg h.bl hc h.bl.size (fun j x => (h.m.lt j x).1)) hc2 (Nat.le_trans h.bl.size hz) (fun j x => (h.k.lt j x).1), ?_, Nat.le_trans h.z2 (Nat.le_add_right _ _), Nat.le_trans hfd.ms (Nat.le_trans h.z3 (Nat.le_add_right _ _))⟩
  · rcases hf2 j y with z | z
    · exact hap j x z
    · have := (hm.lt j x).2; omega
  · rcases hfd with ⟨x, hfs⟩ | ⟨x, y, _⟩
    · have r0 : r = 0 := by
        by_cases e : r = 0
        · exact e
        · exact absurd ((hr e).symm.trans hu) e
      obtain ⟨⟨pre, o, hrr⟩, hw⟩ := h.rel x
      obtain ⟨l, w, _, _, _, k4⟩ := hrr.feed hfs
      obtain ⟨pre', o', k5⟩ := k4 r0
      rw [(hd x).1]
      exact ⟨⟨pre', o', k5⟩, Strm.feeds_win hfs (h.al x).2.1 hw r0⟩
    · rw [y] at hu
      exact absurd hu x
  · by_cases e : s.dead = 0
    · rw [(hd e).1, List.length_append]; have := h.z1; omega
    · rw [(hd2 e).1]; have := h.z1; omega
/-- what the document's Feed told is what the program's did -/
theorem Rds.both {W w5 : World} {p : Bs} {u : Strm.S} {es : List Strm.E1} {r : Nat} {e : Ending} (h : Rds w0 w rq rb s V q qb All M av mv N) (hfd : Strm.FdP s p u es r) (hk : QMem W w0.heap.size qb rq All M s.dead av mv) (hq : QFeedPost W w0.heap.size qb rq All M s.dead av mv p e w5) :
    ∃ (vq : Value) (EL : List QvE) (av' : Value) (All' : Bs) (d' : Nat), e = .returned (.tuple #[vq, .int .i64 (r : Int)]) ∧ EL.map QvE.x = es ∧ Row w5 w0.heap.size 11 vq EL.length (EL.flatMap QvE.cells) ∧ (∀ e ∈ EL, QvR w5 e) ∧ QMem w5 w0.heap.size qb rq All' M d' av' mv ∧ Chg (footQ qb av mv) W w5 ∧
      (∀ j, footQ qb av' mv j → footQ qb av mv j ∨ W.heap.size ≤ j) ∧ (s.dead = 0 → All' = All ++ p ∧ d' = r) ∧ (s.dead ≠ 0 → All' = All ∧ d' = s.dead) := by
  have hbw : w0.heap.size ≤ W.heap.size := by have := hk.le; have := hk.var.lt; omega
  rcases hq with ⟨hd, he, hb⟩ | ⟨hd, v, EL, av', he, hx, hr, hm, _, hk5, hc5, hf5⟩
  · rcases hfd with ⟨x, _⟩ | ⟨_, _, y, z⟩
    · exact absurd x hd
    · exact ⟨.slice none 0 0, [], av, All, s.dead, by rw [he, z], by rw [y]; rfl, Row.nil _ _ _, (fun e he => by cases he), hk.below hb, (Chg.refl _ W).then_below hb, fun j hj => .inl hj, fun x => absurd x hd, fun _ => ⟨rfl, rfl⟩⟩
  · rcases hfd with ⟨_, hfs⟩ | ⟨x, _⟩
    · obtain ⟨⟨pre, o, hrr⟩, _⟩ := h.rel hd
      obtain ⟨k1, k2⟩ := hrr.evs hfs
      exact ⟨v, EL, av', All ++ p, _, by rw [he, k2], by rw [hx, k1], hr.mono hbw, hm, hk5, hc5, hf5, fun _ => ⟨rfl, k2.symm⟩, fun x => absurd hd x⟩
    · exact absurd hd x
theorem Rds.bet (h : Rds w0 w rq rb s V q qb All M av mv N) : (decide (s.dead = 0) && Strm.betQ (Strm.readF rq All M)) = (decide (s.dead = 0) && !s.win) := by
  by_cases hd : s.dead = 0
  · obtain ⟨⟨pre, o, hrr⟩, hw⟩ := h.rel hd
    rw [(hrr.bet hw).1]
  · rw [decide_eq_false hd]; rfl
/-- what the program's Ended leaves -/
def dieS (s : Strm.S) : Strm.S := { s with dead := if s.dead = 0 then 42 else s.dead }
theorem die_ne (s : Strm.S) : (dieS s).dead ≠ 0 := by
  unfold dieS
  dsimp only
  split
  · decide
  · assumption
theorem sended_d {T : Nat} {base : Nat} (h : SMem w base rb s V q) (ha : Strm.Al s T q) :
    Calls Tryz.prog 16 #[.pointer (some ⟨rb, 0, none⟩)] w fun e w' => ∃ v L, e = .returned (.tuple #[v, .int .i64 ((endsA s).2 : Nat)]) ∧ L.map EvE.x = (endsA s).1 ∧ Outs w' w.heap.size v L ∧ SMem w' base rb (dieS s) V q ∧ Chg (footS rb V) w w' := by
  by_cases hd : s.dead = 0
  · obtain ⟨_, h2, h3⟩ := ha hd
    subst h3
    refine (sended_any h h2 hd).mono ?_
    rintro e w' ⟨v, L, he, hL, ho, hm, hc⟩
    unfold endsA dieS
    rw [if_pos hd, if_pos hd]
    exact ⟨v, L, he, hL, ho, hm, hc⟩
  · refine (sended_dead h hd).mono ?_
    rintro e w' ⟨rfl, k, rfl⟩
    unfold endsA dieS
    rw [if_neg hd, if_neg hd]
    exact ⟨_, [], rfl, rfl, Outs.nil _ _, h.below (below_drewN (Below.refl _ _) k), (Chg.refl _ w).then_below (below_drewN (Below.refl w.heap.size w) k)⟩
theorem Rds.ends {W w5 : World} {e : Ending} (h : Rds w0 w rq rb s V q qb All M av mv N) (hk : QMem W w0.heap.size qb rq All M s.dead av mv) (hq : QEndPost W w0.heap.size qb rq All M s.dead av mv e w5) :
    ∃ (vq : Value) (EL : List QvE), e = .returned (.tuple #[vq, .int .i64 ((endsA s).2 : Nat)]) ∧ EL.map QvE.x = (endsA s).1 ∧ Row w5 w0.heap.size 11 vq EL.length (EL.flatMap QvE.cells) ∧ (∀ e ∈ EL, QvR w5 e) ∧ QMem w5 w0.heap.size qb rq All M (dieS s).dead av mv ∧ Chg (footQ qb av mv) W w5 := by
  have hbw : w0.heap.size ≤ W.heap.size := by have := hk.le; have := hk.var.lt; omega
  unfold endsA dieS
  rcases hq with ⟨hd, he, hb⟩ | ⟨hd, v, EL, he, hx, hr, hm, hk5, hc5⟩
  · rw [if_neg hd, if_neg hd]
    exact ⟨.slice none 0 0, [], he, rfl, Row.nil _ _ _, (fun e he => by cases he), hk.below hb, (Chg.refl _ W).then_below hb⟩
  · obtain ⟨⟨pre, o, hrr⟩, hw⟩ := h.rel hd
    obtain ⟨_, k2⟩ := hrr.bet hw
    rw [if_pos hd, if_pos hd]
    rw [k2] at he hx
    exact ⟨v, EL, he, hx, hr.mono hbw, hm, hk5, hc5⟩
theorem Rds.died (h : Rds w0 w rq rb s V q qb All M av mv N) (hm : SMem w1 w0.heap.size rb (dieS s) V q) (hc : Chg (footS rb V) w w1) (hk : QMem w2 w0.heap.size qb rq All M (dieS s).dead av mv) (hc2 : Chg (footQ qb av mv) w1 w2) :
    Rds w0 w2 rq rb (dieS s) V q qb All M av mv N :=
  ⟨hm.chg hc2 (fun j x y => h.ap j x y), hk, h.ap, fun hd => absurd hd (die_ne s), fun hd => absurd hd (die_ne s), Below.chg (Below.chg h.bl hc h.bl.size (fun j x => (h.m.lt j x).1)) hc2 (Nat.le_trans h.bl.size hc.size) (fun j x => (h.k.lt j x).1), h.z1, h.z2, h.z3⟩
theorem ends_sz2 (s : Strm.S) : (∀ e ∈ (endsA s).1, evSz e) ∧ (endsA s).1.length ≤ 1 := endsA_sz s
end
theorem qsfeed_dead {w : World} {base qb dead : Nat} {rq : Bool} {All : Bs} {M : List ByteArray} {av mv : Value} (h : QMem w base qb rq All M dead av mv) (hd : dead ≠ 0) (A : Option Addr) (n c : Nat) :
    Calls Tryz.prog 10 #[.pointer (some ⟨qb, 0, none⟩), .slice A n c] w fun e w' => e = .returned (.tuple #[.slice none 0 0, .int .i64 (dead : Int)]) ∧ ∃ k, w' = w.drewN k := by
  have d3 := h.cell (j := 3) rfl
  have e9 : ((dead : Int) != 0) = true := by simpa using hd
  clear h
  go_enter Tryz.func10, Tryz.ntmps10
  go_wp2
  go_quiet (fail)
  go_wp2
  go_ret2
  exact ⟨rfl, _, rfl⟩
theorem evs_nil (w : World) : Calls Tryz.prog 12 #[.slice none 0 0, .slice none 0 0] w fun e w' => e = .returned (.bool true) ∧ Below w.heap.size w w' :=
  evs24_any none none 0 0 0 [] [] w rfl (Rd.nil _ _ _ _) (Rd.nil _ _ _ _) (fun e he => by cases he) (fun e he => by cases he) (Nat.zero_le _) (fun e he => by cases he)
end Go.Proofs.YtklmpadcfioefaaGreatDoor
