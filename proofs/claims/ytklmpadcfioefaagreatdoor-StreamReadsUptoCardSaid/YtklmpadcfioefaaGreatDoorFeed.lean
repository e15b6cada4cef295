/- chunk's Feed: a piece is fed. Conditions: sizes, the world's shape. -/
import Derived.Test.YtklmpadcfioefaaGreatDoorStep
import Derived.BigRegion
import Derived.RegionTactic
import Derived.Outline
namespace Go.Proofs.YtklmpadcfioefaaGreatDoor
open Go.RowKit

theorem results_tmp4 {fn : Func} {t u v x : Tmp} (h : fn.results = #[.tmp t, .tmp u, .tmp v, .tmp x]) (tmps : Array Value) (P : Program) (w : World) :
    (results fn tmps).run P w = .ok (.tuple #[tmps.getD t undef, tmps.getD u undef, tmps.getD v undef, tmps.getD x undef]) w := by
  simp [results, h]
theorem Rd.sub {w : World} {B g o n : Nat} {l : Bs} (h : Rd w B 1 (some ⟨g, o, none⟩) n (bytesV l)) (k m : Nat) (hm : k + m ≤ n) : Rd w B 1 (some ⟨g, o + k, none⟩) m (bytesV ((l.drop k).take m)) := by
  have h1 := h.pre (k := k + m) hm
  have h2 := h1.shift (k := k) (cap := k + m + 1) (by omega) (by omega)
  rw [if_neg (by omega)] at h2
  simp only [Nat.mul_one, Option.map_some, Addr.add_lit, bytesV_take, bytesV_drop, Nat.add_sub_cancel_left] at h2
  rw [List.drop_take, Nat.add_sub_cancel_left] at h2
  exact h2
/-- what Feed leaves: r is the state, the body, how far it was read, what came -/
def FeedPost (w : World) (base b : Nat) (vl vt : Value) (r : Chunk.St × Bs × Nat × Nat) (e : Ending) (w' : World) : Prop :=
  ∃ vo, e = .returned (.tuple #[vo, .int .i64 r.2.2.1, .bool (decide (r.2.2.2 = 1)), .int .i64 (if r.2.2.2 = 2 then 230 else 0)]) ∧ RowB w' w.heap.size vo r.2.1 ∧
    ∃ vl' vt', Rdr w' base b r.1 vl' vt' ∧ Chg (foot b vl vt) w w' ∧ (∀ k, vl'.ownBlock = some k → vl.ownBlock = some k ∨ w.heap.size ≤ k) ∧ (∀ k, vt'.ownBlock = some k → vt.ownBlock = some k ∨ w.heap.size ≤ k) ∧ (∀ k, vo.ownBlock = some k → ¬ foot b vl' vt' k)
/-- what holds at the head of a round -/
structure FeedIs (w wr : World) (base b n T : Nat) (vl vt : Value) (s : Chunk.St) (l : Bs) (k : Nat) (s' : Chunk.St) (o : Bs) (vo vl' vt' : Value) : Prop where
  le : k ≤ n
  row : RowB wr w.heap.size vo o
  mid : Mid (foot b vl vt) w wr base b (rcs s' vl' vt') vl' s'.line vt' s'.trailers
  k1 : ∀ k, vl'.ownBlock = some k → vl.ownBlock = some k ∨ w.heap.size ≤ k
  k2 : ∀ k, vt'.ownBlock = some k → vt.ownBlock = some k ∨ w.heap.size ≤ k
  apart : ∀ k, vo.ownBlock = some k → ¬ foot b vl' vt' k
  ok : Chunk.Ok s' (T + k)
  more : s'.at_ ≠ 11
  feed : Chunk.feed s l 0 [] = Chunk.feed s' (l.drop k) k o
  short : o.length ≤ k
theorem FeedIs.fin {w w1 wr : World} {base b n T : Nat} {vl vt vl' vt' vo : Value} {s s' s2 : Chunk.St} {l o : Bs} {k j q : Nat} {cs : List Value} (_h : FeedIs w wr base b n T vl vt s l k s' o vo vl' vt')
    (hr : Chunk.feed s l 0 [] = (s2, o, j, q)) {vl2 vt2 : Value} (hm : Mid (foot b vl vt) w w1 base b cs vl2 s2.line vt2 s2.trailers) (hc : cs = rcs s2 vl2 vt2) (hrow : RowB w1 w.heap.size vo o)
    (k1 : ∀ k, vl2.ownBlock = some k → vl.ownBlock = some k ∨ w.heap.size ≤ k) (k2 : ∀ k, vt2.ownBlock = some k → vt.ownBlock = some k ∨ w.heap.size ≤ k) (k3 : ∀ k, vo.ownBlock = some k → ¬ foot b vl2 vt2 k)
    {dn : Bool} {er : Int} (hd : dn = decide (q = 1)) (he : er = if q = 2 then 230 else 0) : FeedPost w base b vl vt (Chunk.feed s l 0 []) (.returned (.tuple #[vo, .int .i64 j, .bool dn, .int .i64 er])) w1 := by
  subst hc hd he
  rw [hr]
  exact ⟨vo, rfl, hrow, vl2, vt2, ⟨hm.var, hm.line, hm.tr, Chg.refl _ _, Or.inl rfl, hm.nl, hm.nt, hm.lt, hm.le⟩, hm.chg, k1, k2, k3⟩
/-- the lists of a reader behind a step lie apart from what lay apart before -/
theorem apart_step {wr : World} {b : Nat} {vo vl vt vl2 vt2 : Value} {base : Nat} {o : Bs} (hrow : RowB wr base vo o) (h : ∀ k, vo.ownBlock = some k → ¬ foot b vl vt k) (k1 : ∀ k, vl2.ownBlock = some k → vl.ownBlock = some k ∨ wr.heap.size ≤ k) (k2 : ∀ k, vt2.ownBlock = some k → vt.ownBlock = some k ∨ wr.heap.size ≤ k) :
    ∀ k, vo.ownBlock = some k → ¬ foot b vl2 vt2 k := by
  intro k hk hf
  have hlt := (hrow.lt k hk).2
  rcases hf with x | x | x
  · exact h k hk (Or.inl x)
  · rcases k1 k x with y | y
    · exact h k hk (Or.inr (Or.inl y))
    · omega
  · rcases k2 k x with y | y
    · exact h k hk (Or.inr (Or.inr y))
    · omega
theorem own_step {w wr : World} {vl vl1 vl2 : Value} (hs : w.heap.size ≤ wr.heap.size) (h1 : ∀ k, vl1.ownBlock = some k → vl.ownBlock = some k ∨ w.heap.size ≤ k) (h2 : ∀ k, vl2.ownBlock = some k → vl1.ownBlock = some k ∨ wr.heap.size ≤ k) : ∀ k, vl2.ownBlock = some k → vl.ownBlock = some k ∨ w.heap.size ≤ k := by
  intro k hk
  rcases h2 k hk with x | x
  · exact h1 k x
  · right; omega
theorem foot_step {w : World} {b : Nat} {vl vt vl1 vt1 : Value} (h1 : ∀ k, vl1.ownBlock = some k → vl.ownBlock = some k ∨ w.heap.size ≤ k) (h2 : ∀ k, vt1.ownBlock = some k → vt.ownBlock = some k ∨ w.heap.size ≤ k) : ∀ k, k < w.heap.size → foot b vl1 vt1 k → foot b vl vt k := by
  intro k hk hf
  rcases hf with x | x | x
  · exact Or.inl x
  · rcases h1 k x with y | y
    · exact Or.inr (Or.inl y)
    · omega
  · rcases h2 k x with y | y
    · exact Or.inr (Or.inr y)
    · omega
/-- what a step leaves, seen from where the call began -/
theorem Mid.step {w wr w1 : World} {base b : Nat} {cs : List Value} {vl vt vl1 vt1 vl2 vt2 : Value} {L : Bs} {tr : List (Bs × Bs)} {s2 : Chunk.St} (h : Mid (foot b vl vt) w wr base b cs vl1 L vt1 tr)
    (h1 : ∀ k, vl1.ownBlock = some k → vl.ownBlock = some k ∨ w.heap.size ≤ k) (h2 : ∀ k, vt1.ownBlock = some k → vt.ownBlock = some k ∨ w.heap.size ≤ k) (hr : Rdr w1 base b s2 vl2 vt2) (hc : Chg (foot b vl1 vt1) wr w1) : Mid (foot b vl vt) w w1 base b (rcs s2 vl2 vt2) vl2 s2.line vt2 s2.trailers :=
  ⟨hr.mid.var, hr.mid.line, hr.mid.tr, h.chg.trans hc (foot_step h1 h2), Or.inl rfl, hr.mid.nl, hr.mid.nt, hr.mid.lt, h.le⟩
theorem Mid.grown_far {S : Nat → Prop} {w0 w w' : World} {base b : Nat} {cs : List Value} {vl vt : Value} {L : Bs} {tr : List (Bs × Bs)} {row : Option Nat} (h : Mid S w0 w base b cs vl L vt tr) (hg : w.grownBy w' row) (h1 : ∀ k, row = some k → w0.heap.size ≤ k) (h2 : ∀ k, row = some k → ¬ foot b vl vt k) : Mid S w0 w' base b cs vl L vt tr := by
  have hf : ∀ v : Value, (∀ k, v.ownBlock = some k → foot b vl vt k) → v.ownBlock = none ∨ v.ownBlock ≠ row := by
    intro v hv
    cases hvt : v.ownBlock with
    | none => exact Or.inl rfl
    | some k => exact Or.inr (fun e => h2 k e.symm (hv k hvt))
  exact ⟨h.var.grown hg (fun e => h2 b e (Or.inl rfl)), h.line.kept hg (hf vl (fun k x => Or.inr (Or.inl x))), h.tr.kept hg (hf vt (fun k x => Or.inr (Or.inr x))), h.chg.grown hg (fun k hk e => absurd (h1 k e) (by omega)), h.mine, h.nl, h.nt, h.lt, h.le⟩
theorem Mid.foot_lt {S : Nat → Prop} {w0 w : World} {base b : Nat} {cs : List Value} {vl vt : Value} {L : Bs} {tr : List (Bs × Bs)} (h : Mid S w0 w base b cs vl L vt tr) : ∀ k, foot b vl vt k → k < w.heap.size := by
  intro k hk
  rcases hk with x | x | x
  · rw [x]; exact h.var.lt
  · exact (h.line.lt k x).2
  · exact (h.tr.lt k x).2
theorem Mid.cast {S : Nat → Prop} {w0 w : World} {base b : Nat} {cs cs' : List Value} {vl vt : Value} {L : Bs} {tr : List (Bs × Bs)} (h : Mid S w0 w base b cs vl L vt tr) (e : cs = cs') : Mid S w0 w base b cs' vl L vt tr := e ▸ h
theorem Mid.rdr {S : Nat → Prop} {w0 w : World} {base b : Nat} {vl vt : Value} {s : Chunk.St} (h : Mid S w0 w base b (rcs s vl vt) vl s.line vt s.trailers) : Rdr w base b s vl vt :=
  ⟨h.var, h.line, h.tr, Chg.refl _ _, Or.inl rfl, h.nl, h.nt, h.lt, h.le⟩
theorem RowB.lt {w : World} {base : Nat} {v : Value} {L : Bs} (h : RowB w base v L) : ∀ k, v.ownBlock = some k → base ≤ k ∧ k < w.heap.size := Row.lt h
theorem RowB.setCell_far {w : World} {base : Nat} {v : Value} {L : Bs} (h : RowB w base v L) {p : Addr} (hp : v.ownBlock ≠ some p.block) (u : Value) : RowB (w.setCell p u) base v L := Row.setCell h hp u
theorem RowB.chg {w w' : World} {base : Nat} {v : Value} {L : Bs} {S : Nat → Prop} (h : RowB w base v L) (hc : Chg S w w') (hs : ∀ k, v.ownBlock = some k → ¬ S k) : RowB w' base v L := Row.chg h hc hs

set_option maxHeartbeats 8000000 in
set_option maxRecDepth 100000 in
theorem feed_any {s : Chunk.St} {T : Nat} (A : Option Addr) (n c : Nat) (l : Bs) {w : World} {base b : Nat} {vl vt : Value} (hsh : Shp base w) (h : Rdr w base b s vl vt) (hok : Chunk.Ok s T) (h11 : s.at_ ≠ 11) (hT : T + n ≤ 1000000000000)
    (hn : n ≤ 100000000) (hnc : n ≤ c) (hA : A = none → n = 0) (hrd : Rd w w.heap.size 1 A n (bytesV l)) (hsep : 0 < n → ∀ g o, A = some ⟨g, o, none⟩ → ¬ foot b vl vt g) :
    Calls Tryz.prog 95 #[.pointer (some ⟨b, 0, none⟩), .slice A n c] w (FeedPost w base b vl vt (Chunk.feed s l 0 [])) := by
  have hlen : l.length = n := by have := hrd.1; rw [bytesV_len] at this; omega
  have HM := Lib.hid h.mid
  have HS := Lib.hid hsh
  have HOK := Lib.hid hok
  have hbs := HM.out.le
  have hlt := HM.out.var.lt
  have a12 := hok.at_
  have HRD := Lib.hid hrd
  have HSEP := Lib.hid hsep
  have HL := Lib.hid hlen
  have H11 := Lib.hid h11
  have c0 := HM.out.var.cell (j := 0) rfl
  have e12 : ((s.at_ : Int) == 12) = false := by simp; omega
  clear h hok hsh hlen hrd hsep h11
  go_enter Tryz.func95, Tryz.ntmps95
  go_wp2
  go_loopw [8, 9] (fun vo i wr => ∃ (k : Nat) (s' : Chunk.St) (o : Bs) (vl' vt' : Value), i = .int .i64 k ∧ FeedIs w wr base b n T vl vt s l k s' o vo vl' vt') (fun _ i _ => n - (intOf i).toNat)
  case atStart => exact ⟨0, s, [], vl, vt, rfl, ⟨Nat.zero_le _, RowB.nil _ _, HM.out, fun k hk => Or.inl hk, fun k hk => Or.inl hk, fun k hk => by simp [Value.ownBlock] at hk, HOK.out, H11.out, rfl, Nat.le_refl _⟩⟩
  case round =>
    obtain ⟨k, s', o, vl1, vt1, rfl, hf⟩ := hrel
    have HF := Lib.hid hf
    have hk := hf.le
    have ho := hf.short
    have a11 := hf.ok.at_
    have hm11 := hf.more
    have b1 : s'.left ≤ 2147483647 := hf.ok.left
    have b6 : s'.total ≤ T + k := hf.ok.total
    have hzw := hf.mid.size
    clear hf c0 e12
    by_cases hlt2 : k < n
    · obtain ⟨g, o0, rfl, hg, hcell⟩ := HRD.out.2 (by omega)
      have hgf := HSEP.out (by omega) g o0 rfl
      have hcw := hcell k _ (bytesV_get (l := l) (j := k) (by have := HL.out; omega))
      have hck : wr.cell? ⟨g, o0 + k, none⟩ = some (.int .u8 (l[k]'(by have := HL.out; omega)).toNat) := (World.cell?_of_block (w := w) (a := ⟨g, o0 + k, none⟩) (HF.out.mid.chg.block g hg hgf)).trans hcw
      have d0 := HF.out.mid.var.cell (j := 0) rfl
      have d1 := HF.out.mid.var.cell (j := 1) rfl
      have d6 := HF.out.mid.var.cell (j := 6) rfl
      have f0 := HF.out.mid.var.frozen 0
      have f1 := HF.out.mid.var.frozen 1
      have f6 := HF.out.mid.var.frozen 6
      have e11 : ((s'.at_ : Int) == 11) = false := by simp; omega
      have e11' : ((s'.at_ : Int) != 11) = true := by simp; omega
      have HDR : Hid (l.drop k = (l[k]'(by have := HL.out; omega)) :: l.drop (k + 1)) := Lib.hid (List.drop_eq_getElem_cons (by have := HL.out; omega))
      generalize (l[k]'(by have := HL.out; omega)) = ch at hck HDR hcw
      clear hm11 hcell hcw
      by_cases h3 : s'.at_ = 3
      · have hl0 := HF.out.ok.data h3
        have e3 : ((s'.at_ : Int) == 3) = true := by simp; omega
        have H3 := Lib.hid h3
        clear h3
        obtain ⟨m, hm0⟩ : ∃ m, m = min s'.left (n - k) := ⟨_, rfl⟩
        have hm1 : m ≤ s'.left := by omega
        have hm2 : k + m ≤ n := by omega
        have hm3 : 0 < m := by omega
        have hmin : min (s'.left : Int) ((n : Int) - (k : Int)) = (m : Int) := by omega
        have HFD : Hid (Chunk.feed s l 0 [] = Chunk.feed { s' with at_ := if s'.left - m = 0 then 4 else 3, left := s'.left - m, total := s'.total + m } (l.drop (k + m)) (k + m) (o ++ (l.drop k).take m)) := Lib.hid (by
          have hl := HL.out
          rw [HF.out.feed, Chunk.feed_bulk (l.drop k) s' k o H3.out hl0 (by rw [List.length_drop]; omega)]
          rw [List.length_drop, hl, ← hm0, List.drop_drop])
        have HSL : Hid (((l.drop k).take m).length = m) := Lib.hid (by rw [List.length_take, List.length_drop, HL.out]; omega)
        have HSRC : Hid (SrcB wr 26 (.slice (some ⟨g, o0 + k, none⟩) (k + m - k) (c - k)) ((l.drop k).take m)) := Lib.hid (by
          rw [Nat.add_sub_cancel_left]
          have h1 : Rd wr w.heap.size 1 (some ⟨g, o0, none⟩) n (bytesV l) := ⟨HRD.out.1, fun _ => ⟨g, o0, rfl, hg, fun j u hu => by
            obtain ⟨g', o', e, _, hc⟩ := HRD.out.2 (by omega)
            injection e with e
            injection e with e1 e2 _
            subst e1 e2
            exact (World.cell?_of_block (w := w) (a := ⟨g, o0 + j, none⟩) (HF.out.mid.chg.block g hg hgf)).trans (hc j u hu)⟩⟩
          exact SrcB.slice (h1.sub k m hm2) (fun e => by cases e))
        clear hm0 hck HDR
        generalize (l.drop k).take m = M at HFD HSL HSRC
        have i0 : (0 : Int) ≤ (k : Int) := by omega
        have i1 : (k : Int) ≤ (k : Int) + (m : Int) := by omega
        have i2 : (k : Int) + (m : Int) ≤ (c : Int) := by omega
        go_upto_region 10 with (fail)
        go_upto_region 11 with (first
          | (at_builtin; go_must (refine wpList_appB (L := o) (M := M) rfl (.tmp 45) (.tmp 51) 26 rfl w.heap.size (by rfl) HF.out.row (by rfl) HSRC.out (by have := HSL.out; omega) hzw ?_); go_must (intro vo2 w2 hrow2 hb2 hg2 hv2))
          | fail)
        clear hmin i0 i1 i2
        obtain ⟨A2, c2, rfl, _, _, _, _⟩ := hrow2.form
        have hz2 : wr.heap.size ≤ w2.heap.size := hg2.size
        have hvo : ∀ q, (Value.slice A2 (o ++ M).length c2).ownBlock = some q → ¬ foot b vl1 vt1 q := fun q hq hf => by
          rcases hv2 with e | e
          · exact HF.out.apart q (by rw [← e]; exact hq) hf
          · rw [e] at hq; injection hq with hq; have := HF.out.mid.foot_lt q hf; omega
        have HM2 := Lib.hid (HF.out.mid.grown_far hg2 (fun q hq => (HF.out.row.lt q hq).1) HF.out.apart)
        have g1 := HM2.out.var.cell (j := 1) rfl
        have g6 := HM2.out.var.cell (j := 6) rfl
        have g0 := HM2.out.var.cell (j := 0) rfl
        have y1 := HM2.out.var.frozen 1
        have y6 := HM2.out.var.frozen 6
        have y0 := HM2.out.var.frozen 0
        have HROW := Lib.hid hrow2
        have hol : (o ++ M).length ≤ k + m := by rw [List.length_append, HSL.out]; omega
        clear hrow2 hb2 hg2 hv2 d0 d1 d6 f0 f1 f6
        have HFN := Lib.hid (HF.out.ok.data_ok H3.out m hm1)
        have hbt : base ≤ b := hbs
        by_cases hz : s'.left - m = 0
        · have hzb : ((s'.left : Int) - (m : Int) == 0) = true := by simp; omega
          have HR2 : Hid (Chunk.feed s l 0 [] = Chunk.feed { s' with at_ := 4, left := s'.left - m, total := s'.total + m } (l.drop (k + m)) (k + m) (o ++ M)) := Lib.hid (by rw [HFD.out, if_pos hz])
          rw [if_pos hz] at HFN
          clear HFD hz
          go_region
          all_goals
            go_wp2
            go_roundw
            case rel => exact ⟨k + m, _, o ++ M, vl1, vt1, by go_num, ⟨hm2, (by first | exact ((HROW.out.drew.setCell_far (fun e => hvo b e (Or.inl rfl)) _).setCell_far (fun e => hvo b e (Or.inl rfl)) _).setCell_far (fun e => hvo b e (Or.inl rfl)) _ | exact HROW.out), (by first | exact (((HM2.out.drew.set 1 _).set 6 _).set 0 _).cast (by simp [rcs]; omega) | exact (((HM2.out.drew.set 6 _).set 1 _).set 0 _).cast (by simp [rcs]; omega)), HF.out.k1, HF.out.k2, hvo, HFN.out.mono (by omega), (by simp), HR2.out, hol⟩⟩
            case measure => simp [intOf]; omega
        · have hzb : ((s'.left : Int) - (m : Int) == 0) = false := by simp; omega
          have HR2 : Hid (Chunk.feed s l 0 [] = Chunk.feed { s' with at_ := 3, left := s'.left - m, total := s'.total + m } (l.drop (k + m)) (k + m) (o ++ M)) := Lib.hid (by rw [HFD.out, if_neg hz])
          rw [if_neg hz] at HFN
          clear HFD hz
          go_region
          all_goals
            go_wp2
            go_roundw
            case rel => exact ⟨k + m, _, o ++ M, vl1, vt1, by go_num, ⟨hm2, (by first | exact ((HROW.out.drew.setCell_far (fun e => hvo b e (Or.inl rfl)) _).setCell_far (fun e => hvo b e (Or.inl rfl)) _) | exact HROW.out), (by first | exact ((HM2.out.drew.set 1 _).set 6 _).cast (by simp [rcs, H3.out]; omega) | exact ((HM2.out.drew.set 6 _).set 1 _).cast (by simp [rcs, H3.out]; omega)), HF.out.k1, HF.out.k2, hvo, HFN.out.mono (by omega), (by simp), HR2.out, hol⟩⟩
            case measure => simp [intOf]; omega
      · have e3 : ((s'.at_ : Int) == 3) = false := by simp; omega
        have H3 := Lib.hid h3
        have HST : Hid (Calls Tryz.prog 132 #[.pointer (some ⟨b, 0, none⟩), .int .u8 (ch.toNat : Int)] wr (StepPost wr base b vl1 vt1 (Chunk.step s' ch))) := Lib.hid (step_any ch (HS.out.chg HF.out.mid.chg HM.out.foot_ge) HF.out.mid.rdr HF.out.ok h3 HF.out.more)
        obtain ⟨⟨s2, ok⟩, hz⟩ : ∃ z, z = Chunk.step s' ch := ⟨_, rfl⟩
        have HZ : Hid (Chunk.step s' ch = (s2, ok)) := Lib.hid hz.symm
        rw [← hz] at HST
        clear hz h3
        have HFD : Hid (Chunk.feed s l 0 [] = if ok = false then ({ s2 with at_ := 12 }, o, k, 2) else if s2.at_ = 11 then (s2, o, k + 1, 1) else Chunk.feed s2 (l.drop (k + 1)) (k + 1) o) := Lib.hid (by
          rw [HF.out.feed, HDR.out, Chunk.feed, if_neg H3.out, HZ.out])
        have HOS : Hid (ok = true → Chunk.Ok s2 (T + k)) := Lib.hid (fun e => by
          have := HF.out.ok.step_ok H3.out ch (by rw [HZ.out]; exact e)
          rw [HZ.out] at this; exact this)
        cases ok
        · have HR2 : Hid (Chunk.feed s l 0 [] = ({ s2 with at_ := 12 }, o, k, 2)) := Lib.hid (by rw [HFD.out, if_pos rfl])
          clear HFD
          go_wp2_with (first
            | (go_at_call 132; go_must (refine HST.out.mono ?_; rintro _ w1 ⟨rfl, vl2, vt2, hr1, hc1, k1, k2⟩; have HM1 := Lib.hid (HF.out.mid.step HF.out.k1 HF.out.k2 hr1 hc1); have g0 := HM1.out.var.cell (j := 0) rfl; have x0 := HM1.out.var.frozen 0))
            | fail)
          refine bodyPost_ret (results_tmp4 rfl _ _ _) rfl ?_
          exact HF.out.fin HR2.out (HM1.out.set 0 _) (by simp [rcs]) ((HF.out.row.chg hc1 HF.out.apart).setCell_far (fun e => HF.out.apart b e (Or.inl rfl)) _) (own_step hzw HF.out.k1 k1) (own_step hzw HF.out.k2 k2) (apart_step HF.out.row HF.out.apart k1 k2) rfl rfl
        · by_cases h211 : s2.at_ = 11
          · have HR2 : Hid (Chunk.feed s l 0 [] = (s2, o, k + 1, 1)) := Lib.hid (by rw [HFD.out, if_neg (by simp), if_pos h211])
            have y11 : ((s2.at_ : Int) == 11) = true := by simp; omega
            have y11' : ((s2.at_ : Int) != 11) = false := by simp; omega
            clear HFD h211
            go_wp2_with (first
              | (go_at_call 132; go_must (refine HST.out.mono ?_; rintro _ w1 ⟨rfl, vl2, vt2, hr1, hc1, k1, k2⟩; have HM1 := Lib.hid (HF.out.mid.step HF.out.k1 HF.out.k2 hr1 hc1); have g0 := HM1.out.var.cell (j := 0) rfl; have x0 := HM1.out.var.frozen 0))
              | fail)
            refine bodyPost_ret (results_tmp4 rfl _ _ _) rfl ?_
            exact HF.out.fin HR2.out HM1.out rfl (HF.out.row.chg hc1 HF.out.apart) (own_step hzw HF.out.k1 k1) (own_step hzw HF.out.k2 k2) (apart_step HF.out.row HF.out.apart k1 k2) rfl rfl
          · have HR2 : Hid (Chunk.feed s l 0 [] = Chunk.feed s2 (l.drop (k + 1)) (k + 1) o) := Lib.hid (by rw [HFD.out, if_neg (by simp), if_neg h211])
            have H211 := Lib.hid h211
            have a22 : s2.at_ ≤ 11 := (HOS.out rfl).at_
            have HO2 : Hid (Chunk.Ok s2 (T + k)) := Lib.hid (HOS.out rfl)
            clear HOS
            have y11 : ((s2.at_ : Int) == 11) = false := by simp; omega
            have y11' : ((s2.at_ : Int) != 11) = true := by simp; omega
            clear HFD h211
            go_wp2_with (first
              | (go_at_call 132; go_must (refine HST.out.mono ?_; rintro _ w1 ⟨rfl, vl2, vt2, hr1, hc1, k1, k2⟩; have HM1 := Lib.hid (HF.out.mid.step HF.out.k1 HF.out.k2 hr1 hc1); have g0 := HM1.out.var.cell (j := 0) rfl; have x0 := HM1.out.var.frozen 0))
              | fail)
            go_roundw
            case rel => exact ⟨k + 1, s2, o, vl2, vt2, by go_num, ⟨by omega, HF.out.row.chg hc1 HF.out.apart, HM1.out, own_step hzw HF.out.k1 k1, own_step hzw HF.out.k2 k2, apart_step HF.out.row HF.out.apart k1 k2, HO2.out.mono (by omega), H211.out, HR2.out, by omega⟩⟩
            case measure => simp [intOf]; omega
    · have e1 : k = n := by omega
      have HE : Hid (Chunk.feed s l 0 [] = (s', o, n, 0)) := Lib.hid (by rw [HF.out.feed, e1, List.drop_of_length_le (by have := HL.out; omega)]; rfl)
      have d0 := HF.out.mid.var.cell (j := 0) rfl
      have e11 : ((s'.at_ : Int) == 11) = false := by simp; omega
      have e11' : ((s'.at_ : Int) != 11) = true := by simp; omega
      clear hm11 e1
      go_wp2
      refine bodyPost_ret (results_tmp4 rfl _ _ _) rfl ?_
      exact HF.out.fin HE.out HF.out.mid rfl HF.out.row HF.out.k1 HF.out.k2 HF.out.apart rfl rfl
end Go.Proofs.YtklmpadcfioefaaGreatDoor
