/- the law ChunkFeeds. Conditions: sizes, the world's shape. -/
import Derived.Test.YthipgmnfokfaiaaDoorTrio
namespace Go.Proofs.YthipgmnfokfaiaaDoor
open Go.RowKit

theorem Rdr.mono {w : World} {base base' b : Nat} {s : Chunk.St} {vl vt : Value} (h : Rdr w base b s vl vt) (hb : base' ≤ base) : Rdr w base' b s vl vt :=
  ⟨h.mid.var, h.mid.line.mono hb, h.mid.tr.mono hb, Chg.refl _ _, Or.inl rfl, h.mid.nl, h.mid.nt, h.mid.lt, Nat.le_trans hb h.mid.le⟩
theorem QR.mono {w : World} {base base' b : Nat} {d : Chunk.Doc} {va : Value} (h : QR w base b d va) (hb : base' ≤ base) : QR w base' b d va :=
  ⟨h.var, Row.mono h.row hb, h.far, Nat.le_trans hb h.le⟩
theorem Rdr.below {w w' : World} {base b : Nat} {s : Chunk.St} {vl vt : Value} (h : Rdr w base b s vl vt) (hb : Below w.heap.size w w') : Rdr w' base b s vl vt :=
  h.chg (S := fun _ => False) (Chg.of_below hb) (fun _ _ e => e)
theorem trio_new (w : World) : Trio w.heap.size (((w.alloc (.cells #[.int .i64 0, .int .i64 0, .slice none 0 0, .int .i64 0, .int .i64 0, .int .i64 0, .int .i64 0, .slice none 0 0] 38)).alloc (.cells #[.int .i64 0, .int .i64 0, .slice none 0 0, .int .i64 0, .int .i64 0, .int .i64 0, .int .i64 0, .slice none 0 0] 38)).alloc (.cells #[.slice none 0 0, .bool false, .bool false] 41)) w.heap.size (w.heap.size + 1) (w.heap.size + 2) {} {} ⟨[], false, false⟩ (.slice none 0 0) (.slice none 0 0) (.slice none 0 0) (.slice none 0 0) (.slice none 0 0) := by
  have h1 := ((rdr_new w).below ((Below.refl _ _).alloc (Nat.le_refl _) (.cells #[.int .i64 0, .int .i64 0, .slice none 0 0, .int .i64 0, .int .i64 0, .int .i64 0, .int .i64 0, .slice none 0 0] 38))).below ((Below.refl _ _).alloc (Nat.le_refl _) (.cells #[.slice none 0 0, .bool false, .bool false] 41))
  have h2 := (rdr_new (w.alloc (.cells #[.int .i64 0, .int .i64 0, .slice none 0 0, .int .i64 0, .int .i64 0, .int .i64 0, .int .i64 0, .slice none 0 0] 38))).below ((Below.refl _ _).alloc (Nat.le_refl _) (.cells #[.slice none 0 0, .bool false, .bool false] 41))
  have h3 := QR.new ((w.alloc (.cells #[.int .i64 0, .int .i64 0, .slice none 0 0, .int .i64 0, .int .i64 0, .int .i64 0, .int .i64 0, .slice none 0 0] 38)).alloc (.cells #[.int .i64 0, .int .i64 0, .slice none 0 0, .int .i64 0, .int .i64 0, .int .i64 0, .int .i64 0, .slice none 0 0] 38))
  have e1 : ∀ (o : Obj), (w.alloc o).heap.size = w.heap.size + 1 := fun o => by simp
  have e2 : ∀ (o o' : Obj), ((w.alloc o).alloc o').heap.size = w.heap.size + 2 := fun o o' => by simp
  rw [e1] at h2
  rw [e2] at h3
  have n0 : ∀ b k, foot b (.slice none 0 0) (.slice none 0 0) k → k = b := fun b k hk => by
    rcases hk with x | x | x
    · exact x
    · simp [Value.ownBlock] at x
    · simp [Value.ownBlock] at x
  have n1 : ∀ b k, qfoot b (.slice none 0 0) k → k = b := fun b k hk => by
    rcases hk with x | x
    · exact x
    · simp [Value.ownBlock] at x
  exact ⟨h1, h2.mono (by omega), h3.mono (by omega), fun k x y => by have := n0 _ k x; have := n0 _ k y; omega, fun k x y => by have := n0 _ k x; have := n1 _ k y; omega, fun k x y => by have := n0 _ k x; have := n1 _ k y; omega⟩

namespace Chunk
theorem feed_body_le (l : Bs) : ∀ (s : St), (feed s l 0 []).2.1.length ≤ l.length := by
  induction l with
  | nil => intro s; simp [feed]
  | cons c l ih =>
    intro s
    rw [feed]
    split
    · rw [feed_acc]; have := ih { s with at_ := if s.left - 1 = 0 then 4 else 3, left := s.left - 1, total := s.total + 1 }; simp only [List.length_cons, List.length_append, List.length_nil]; omega
    · split
      · simp
      · split
        · simp
        · rw [feed_acc]; have := ih (step s c).1; simp only [List.length_cons, List.length_append, List.length_nil]; omega
theorem feedA_le (s : St) (l : Bs) : (feedA s l).2.1.length ≤ l.length := by
  unfold feedA
  by_cases h11 : s.at_ = 11
  · rw [if_pos h11]; exact Nat.zero_le _
  · rw [if_neg h11]
    by_cases h12 : s.at_ = 12
    · rw [if_pos h12]; exact Nat.zero_le _
    · rw [if_neg h12]; exact feed_body_le l s
end Chunk
/-- at the head of a round -/
structure FdsIs (w wr : World) (ps : List Bs) (n2 k : Nat) (s1 s2 : Chunk.St) (d : Chunk.Doc) (b : Bs) (vl1 vt1 vl2 vt2 va : Value) : Prop where
  le : k ≤ ps.length
  trio : Trio w.heap.size wr w.heap.size (w.heap.size + 1) (w.heap.size + 2) s1 s2 d vl1 vt1 vl2 vt2 va
  both : Chunk.Both d s1 b
  g1 : Chunk.Good s1 (sizes (ps.take k))
  g2 : Chunk.Good s2 (k * n2)
  all : d.all.length ≤ sizes (ps.take k)
  below : Below w.heap.size w wr

set_option maxHeartbeats 8000000 in
set_option maxRecDepth 100000 in
theorem cfeeds_any (A : Option Addr) (n c : Nat) (ps : List Bs) (A2 : Option Addr) (n2 c2 : Nat) (l2 : Bs) (w : World) (hsh : w.ShapedOpen Tryd.prog) (hp : Pcs w w.heap.size A n ps) (hsz : sizes ps ≤ 16777216) (hn : n ≤ 16777216)
    (hA2 : A2 = none → n2 = 0) (hrd2 : Rd w w.heap.size 1 A2 n2 (bytesV l2)) (hn2 : n2 ≤ 16777216) :
    Calls Tryd.prog 4 #[.slice A n c, .slice A2 n2 c2] w fun e w' => e = .returned (.bool true) ∧ Below w.heap.size w w' := by
  have HS := Lib.hid hsh
  have HP := Lib.hid hp
  have hpl := hp.len
  have HR2 := Lib.hid hrd2
  clear hsh hp hrd2
  go_enter Tryd.func4, Tryd.ntmps4
  go_wp2
  go_loopw [5, 6] (fun z i wr => ∃ k : Nat, k ≤ n ∧ z = .int .i64 (sizes (ps.take k) : Int) ∧ i = .int .i64 k ∧ w = wr) (fun _ i _ => n - (intOf i).toNat)
  case atStart => exact ⟨0, Nat.zero_le _, by simp [sizes], rfl, rfl⟩
  case round =>
    obtain ⟨k, hk, rfl, rfl, rfl⟩ := hrel
    have hszk := sizes_le ps k
    by_cases hlt : k < n
    · obtain ⟨g, o, a, cp, rfl, hg, hcell, _, _, _⟩ := HP.out.get k (by omega)
      have hst := sizes_take ps k (by omega)
      have hsz2 := sizes_le ps (k + 1)
      generalize ps[k].length = m at hcell hst
      have HST := Lib.hid hst
      go_wp2
      go_roundw
      case rel => exact ⟨k + 1, by omega, by rw [HST.out]; go_num, by go_num, trivial⟩
      case measure => simp [intOf]; omega
    · obtain rfl : k = n := by omega
      have hall : sizes (ps.take k) = sizes ps := by rw [List.take_of_length_le (by omega)]
      rw [hall]
      by_cases h100 : k ≤ 100
      · have h100' : ¬ (100 : Int) < (k : Int) := by omega
        by_cases h40 : sizes ps ≤ 40000
        · have h40' : ¬ (40000 : Int) < (sizes ps : Int) := by omega
          have HT0 := Lib.hid (trio_new w)
          go_wp2
          go_loopw [11] (fun i wr => ∃ (j : Nat) (s1 s2 : Chunk.St) (d : Chunk.Doc) (b : Bs) (vl1 vt1 vl2 vt2 va : Value), i = .int .i64 j ∧ FdsIs w wr ps n2 j s1 s2 d b vl1 vt1 vl2 vt2 va) (fun i _ => k - (intOf i).toNat)
          case atStart => exact ⟨0, _, _, _, [], _, _, _, _, _, rfl, ⟨Nat.zero_le _, HT0.out, Chunk.Both.init, Chunk.Good.init.mono (Nat.zero_le _), Chunk.Good.init.mono (Nat.zero_le _), Nat.zero_le _, (((Below.refl _ _).alloc (Nat.le_refl _) _).alloc (by simp) _).alloc (by simp; omega) _⟩⟩
          case round =>
            obtain ⟨j, s1, s2, d, b, vl1, vt1, vl2, vt2, va, rfl, hf⟩ := hrel
            obtain ⟨wo, rfl⟩ : ∃ wo : World, wo = wr := ⟨_, rfl⟩
            have HF := Lib.hid hf
            have hjk := hf.le
            clear HT0 hf
            by_cases hlt : j < k
            · obtain ⟨g, o, a, cp, rfl, hg, hcell0, hle, hnone, hrdp0⟩ := HP.out.get j (by omega)
              have hst := sizes_take ps j (by omega)
              have hsz2 := sizes_le ps (j + 1)
              generalize ps[j] = p at hcell0 hle hnone hrdp0 hst
              have hpl2 : p.length ≤ 40000 := by omega
              have hcell := (HF.out.below.cell (p := ⟨g, o + j, none⟩) hg).trans hcell0
              have hrdp : Rd wo wo.heap.size 1 a p.length (bytesV p) := (hrdp0.below HF.out.below).more HF.out.below.size
              have HC0 := Lib.hid hcell0
              have HR0 := Lib.hid hrdp0
              have HST := Lib.hid hst
              have hzr := HF.out.below.size
              have hz3 : w.heap.size + 2 < wo.heap.size := HF.out.trio.q.var.lt
              have e0 : (p ++ [201, 202]).take p.length = p := List.take_left
              clear hcell0 hrdp0 hst
              go_upto_region 16 with (first
                | (go_at_call 27; go_must (refine (mlent_any a p.length cp p wo hnone hrdp (by omega)).mono ?_; rintro _ w1 ⟨g1, o1, c1, rfl, hc1, hm1, hrow1, hb1⟩))
                | fail)
              have hz1 := hb1.size
              have HB1 := Lib.hid (HF.out.below.trans (hb1.mono HF.out.below.size))
              have HT1 := Lib.hid (HF.out.trio.below hb1)
              obtain ⟨_, _, q1, _, _, _, hrg⟩ := hrow1.form
              injection q1 with q1 _ q3
              subst q1 q3
              have hrp := hrg.pre (k := p.length) (by omega)
              rw [Nat.mul_one, bytesV_take, e0] at hrp
              have hgb := hrow1.lt g1 rfl
              have hfl : ∀ q, foot w.heap.size vl1 vt1 q → q < wo.heap.size := fun q hq => (HF.out.trio.r.foot_lt q hq).2
              have HFE := Lib.hid (feedA_any (T := sizes (ps.take j)) (some ⟨g1, o1, none⟩) p.length c1 p ⟨w, HS.out, Nat.le_refl _, HB1.out⟩ HT1.out.r HF.out.g1 (by have := sizes_le ps j; omega) (by omega) (by omega) (fun e => by cases e) hrp (fun _ g' o' e hf => by
                injection e with e
                injection e with e1 _ _
                subst e1
                have := hfl _ hf
                omega))
              have HBO := Lib.hid (HF.out.both.next p)
              have HGO := Lib.hid (HF.out.g1.goes p)
              rw [← HST.out] at HGO
              have HDA := Lib.hid (Chunk.docFeed_all d p)
              have hobl := Chunk.feedA_le s1 p
              generalize Chunk.feedA s1 p = F at HFE HBO HGO hobl
              obtain ⟨s1', ob, jr, q⟩ := F
              have HQF : Hid (∀ (W : World), Rd W W.heap.size 1 a p.length (bytesV p) → QR W w.heap.size (w.heap.size + 2) d va → Calls Tryd.prog 29 #[.pointer (some ⟨w.heap.size + 2, 0, none⟩), .slice a p.length cp] W (QFeedPost W w.heap.size (w.heap.size + 2) va (Chunk.docFeed d p))) := Lib.hid (fun W h1 h2 => qfeed_any a p.length cp p h2 HF.out.both.alive hnone h1 (by have := HF.out.all; have := sizes_le ps j; omega))
              generalize Chunk.docFeed d p = D at HBO HQF HDA
              obtain ⟨d', D2⟩ := D
              obtain ⟨hb1', hb2'⟩ := HBO.out
              simp only at hb1' hb2'
              subst hb1'
              have HB2' := Lib.hid hb2'
              unfold FeedPost at HFE
              unfold QFeedPost at HQF
              simp only at HFE HQF HGO HDA hobl
              have hcast : ((if q = 2 then 230 else 0 : Nat) : Int) = (if q = 2 then (230 : Int) else 0) := by split <;> rfl
              simp only [hcast] at HQF
              generalize (if q = 2 then (230 : Int) else 0) = er at HFE HQF
              generalize decide (q = 1) = dn at HFE HQF
              have HRW1 := Lib.hid hrow1
              clear hcast HBO hb2' hrp hrg hrdp hcell hrow1 hb1
              go_upto_region 17 with (first
                | (go_at_call 28; go_must (refine HFE.out.mono ?_; rintro _ w2 ⟨vo, rfl, hro, vl1', vt1', hr1', hch, kk1, kk2, kk3⟩))
                | fail)
              have hz2 := hch.size
              have HT2 := Lib.hid (HT1.out.fed1 hch hr1' kk1 kk2)
              have HB2 := Lib.hid (Below.chg HB1.out hch (by omega) (fun q hq => (HT1.out.r.foot_lt q hq).1))
              have RG2 := Lib.hid (HRW1.out.chg hch (fun q hq e => by have h1 := hfl q e; have h2 := (HRW1.out.lt q hq).1; omega))
              have hcell := (HB2.out.cell (p := ⟨g, o + j, none⟩) hg).trans HC0.out
              have hrdp : Rd w2 w2.heap.size 1 a p.length (bytesV p) := (HR0.out.below HB2.out).more HB2.out.size
              have HQC := Lib.hid (HQF.out w2 hrdp HT2.out.q)
              have HRO := Lib.hid hro
              have HK3 := Lib.hid kk3
              have HNG : Hid (¬ foot w.heap.size vl1' vt1' g1) := Lib.hid (fun e => by
                rcases e with x | x | x
                · omega
                · rcases kk1 _ x with y | y
                  · have := hfl g1 (Or.inr (Or.inl y)); omega
                  · omega
                · rcases kk2 _ x with y | y
                  · have := hfl g1 (Or.inr (Or.inr y)); omega
                  · omega)
              have hfl2 : ∀ q, foot (w.heap.size + 1) vl2 vt2 q → q < wo.heap.size := fun q hq => (HF.out.trio.s.foot_lt q hq).2
              have hfl3 : ∀ q, qfoot (w.heap.size + 2) va q → q < wo.heap.size := fun q hq => (HF.out.trio.q.foot_lt q hq).2
              have HF2 := Lib.hid hfl2
              have HF3 := Lib.hid hfl3
              have HFL := Lib.hid hfl
              clear hfl hfl2 hfl3
              clear HFE HRW1 HT1 HB1 hch hr1' kk1 kk2 HQF hro kk3 hrdp
              go_upto_region 18 with (first
                | (go_at_call 29; go_must (refine HQC.out.mono ?_; rintro _ w3 ⟨Aw, nw, cw, va', rfl, hrw, hw0, hq3, hch, kk4⟩))
                | fail)
              have hz4 := hch.size
              have HN2 : Hid (∀ q, wo.heap.size ≤ q → q < w2.heap.size → ¬ foot w.heap.size vl1' vt1' q → ¬ three w.heap.size (w.heap.size + 1) (w.heap.size + 2) vl1' vt1' vl2 vt2 va' q) := Lib.hid (fun q h1 h2 h3 e => by
                rcases e with x | x | x
                · exact h3 x
                · have := HF2.out q x; omega
                · rcases x with x | x
                  · omega
                  · rcases kk4 q x with y | y
                    · have := HF3.out q (Or.inr y); omega
                    · omega)
              have HKV : Hid (∀ q, vo.ownBlock = some q → ¬ three w.heap.size (w.heap.size + 1) (w.heap.size + 2) vl1' vt1' vl2 vt2 va' q) := Lib.hid (fun q hq => HN2.out q (by have := (RowB.lt HRO.out q hq).1; omega) (RowB.lt HRO.out q hq).2 (HK3.out q hq))
              have HT3 := Lib.hid (HT2.out.fedq hch hq3 kk4)
              have HB3 := Lib.hid (Below.chg HB2.out hch (by omega) (fun q hq => by subst hq; omega))
              have RG3 := Lib.hid (RG2.out.chg hch (fun q hq e => by have h2 := (RG2.out.lt q hq).1; omega))
              have RO3 := RowB.chg HRO.out hch (fun q hq e => by have h2 := (RowB.lt HRO.out q hq).1; omega)
              obtain ⟨Ao, co, rfl, _, _, _, _⟩ := RO3.form
              have v1 := conv_row RO3
              have v2 := conv_str (P := Tryd.prog) 35 9 5 Tryd.underlying35 Tryd.underlying5 Tryd.underlying9 (c := cw) hrw hw0
              have HRO3 := Lib.hid RO3
              clear hcell HQC RG2 HRO HT2 HB2 hch hq3 kk4 RO3 hrw hw0
              go_upto_region 19 with (first
                | (go_at_call 28; go_must (refine (feed_nil _ _).mono ?_; rintro _ _ ⟨rfl, rfl⟩))
                | fail)
              have hcell := (HB3.out.cell (p := ⟨g, o + j, none⟩) hg).trans HC0.out
              have hrdp : Rd w3 w3.heap.size 1 a p.length (bytesV p) := (HR0.out.below HB3.out).more HB3.out.size
              obtain ⟨_, _, q1, _, _, _, hrg⟩ := RG3.out.form
              injection q1 with q1 _ q3
              subst q1 q3
              have HKP := Lib.hid (mkept_any g1 o1 p.length c1 a cp p w3 hc1 hrg hrdp hnone (by omega))
              have HTC := Lib.hid (ctrail_any HT3.out.r HGO.out)
              have hfew := trOf_few HGO.out
              have HTQ : Hid (∀ W, QR W w.heap.size (w.heap.size + 2) d' va' → Calls Tryd.prog 33 #[.pointer (some ⟨w.heap.size + 2, 0, none⟩)] W fun e w' => ∃ v, e = .returned v ∧ Row w' W.heap.size 2 v (trOf s1').length (fieldsV (flB (trOf s1'))) ∧ Below W.heap.size W w') := Lib.hid (fun W h => qtrail_any h HB2'.out (by have := HDA.out; have := HF.out.all; have := sizes_le ps j; omega))
              have HTT : Hid (∀ W, QR W w.heap.size (w.heap.size + 2) d' va' → Calls Tryd.prog 35 #[.pointer (some ⟨w.heap.size + 2, 0, none⟩)] W fun e w' => e = .returned (.int .i64 (s1'.total : Int)) ∧ Below W.heap.size W w') := Lib.hid (fun W h => by
                have := qtotal_any h (by have := HDA.out; have := HF.out.all; have := sizes_le ps j; omega)
                rw [HB2'.out.total] at this
                exact this)
              generalize trOf s1' = tr1 at HTC HTQ hfew
              clear hrg hrdp
              go_upto_region 21 with (first
                | (go_at_call 30; go_must (refine HKP.out.mono ?_; rintro _ _ ⟨rfl, rfl⟩))
                | (go_at_call 32; go_must (refine HTC.out.mono ?_; rintro _ w4 ⟨vt4, rfl, hrt4, hb4⟩; obtain ⟨A4, c4, rfl, _, _, _, _⟩ := hrt4.form; have HT4 := Lib.hid (HT3.out.below hb4)))
                | (go_at_call 33; go_must (refine (HTQ.out _ HT4.out.q).mono ?_; rintro _ w5 ⟨vt5, rfl, hrt5, hb5⟩; have R45 := hrt4.below_all hb5; obtain ⟨A5, c5, rfl, _, _, _, hr5⟩ := hrt5.form; obtain ⟨_, _, q1, _, _, _, hr4⟩ := R45.form; injection q1 with q1 _ q3; subst q1 q3; have HT5 := Lib.hid (HT4.out.below hb5)))
                | (go_at_call 31; go_must (refine (mfields_any A4 A5 tr1.length c4 c5 (flB tr1) _ hr4 hr5 (by omega)).mono ?_; rintro _ w6 ⟨rfl, hb6⟩; have HT6 := Lib.hid (HT5.out.below hb6)))
                | (go_at_call 34; go_must (refine (ctotal_any HT6.out.r).mono ?_; rintro _ _ ⟨rfl, rfl⟩))
                | (go_at_call 35; go_must (refine (HTT.out _ HT6.out.q).mono ?_; rintro _ w7 ⟨rfl, hb7⟩))
                | fail)
              have HT7 := Lib.hid (HT6.out.below hb7)
              have h45 := hb4.size
              have h56 := hb5.size
              have h67 := hb6.size
              have h77 := hb7.size
              have HB37 : Hid (Below w3.heap.size w3 w7) := Lib.hid (((hb4.trans (hb5.mono h45)).trans (hb6.mono (by omega))).trans (hb7.mono (by omega)))
              have HB7 := Lib.hid (HB3.out.trans (HB37.out.mono HB3.out.size))
              have RG7 := RG3.out.below_all HB37.out
              have HRO7 := Lib.hid (HRO3.out.below_all HB37.out)
              clear v1 v2 hcell HKP HTC HTQ HTT hrt4 hrt5 R45 hr4 hr5 hb4 hb5 hb6 hb7 HT3 HT4 HT5 HT6 RG3 HRO3 HB3
              go_upto_region 23 with (first
                | (go_at_call 34; go_must (refine (ctotal_nil _).mono ?_; rintro _ _ ⟨rfl, rfl⟩))
                | (go_at_call 32; go_must (refine (ctrail_nil _).mono ?_; rintro _ _ ⟨rfl, rfl⟩))
                | fail)
              have HB8 := Lib.hid (ByteCells.of (p ++ [201, 202]))
              have KO : ∀ q, (Value.slice Ao ob.length co).ownBlock = some q → w1.heap.size ≤ q := fun q hq => (RowB.lt HRO7.out q hq).1
              have hz5 := HB37.out.size
              have hz6 : w3.heap.size ≤ w7.heap.size := hz5
              have HG1N : Hid (∀ q, some g1 = some q → ¬ three w.heap.size (w.heap.size + 1) (w.heap.size + 2) vl1' vt1' vl2 vt2 va' q) := Lib.hid (fun q e hq => by
                injection e with e
                subst e
                exact HN2.out g1 (by omega) (by omega) HNG.out hq)
              clear HN2 HNG
              go_wp2
              go_loopw [25] (fun i wy => ∃ (z : Nat) (xs : List Value), z ≤ p.length ∧ i = .int .i64 z ∧ ByteCells xs ∧ Row wy wo.heap.size 1 (.slice (some ⟨g1, o1, none⟩) (p.length + 2) c1) (p.length + 2) xs ∧ w7.grownBy wy (some g1)) (fun i _ => p.length - (intOf i).toNat)
              case atStart => exact ⟨0, _, Nat.zero_le _, rfl, HB8.out, RG7, World.grownBy.refl _ _⟩
              case round =>
                obtain ⟨z, xs, hz, rfl, hvs, hrow, hgr⟩ := hrel
                obtain ⟨wy, rfl⟩ : ∃ wy : World, wy = wr := ⟨_, rfl⟩
                have HV := Lib.hid hvs
                have HR := Lib.hid hrow
                have HG := Lib.hid hgr
                clear RG7
                by_cases hlt3 : z < p.length
                · obtain ⟨g', o', e1, hgb', hgl, hcell, hfro⟩ := hrow.own (by omega)
                  injection e1 with e1
                  injection e1 with e1 e2 _
                  subst e1 e2
                  have hxl : xs.length = (p.length + 2) * 1 := hrow.1
                  obtain ⟨x0, hx0⟩ : ∃ u, xs[z]? = some u := ⟨_, List.getElem?_eq_getElem (show z < xs.length by omega)⟩
                  obtain ⟨y0, hy0, hy1, rfl⟩ := hvs x0 (List.mem_of_getElem? hx0)
                  have k0 := hcell z _ hx0
                  have k1 := hfro z (by omega)
                  have HXL := Lib.hid hxl
                  clear hcell hfro hrow hgr hxl hx0 hvs
                  go_wp2
                  go_roundw
                  case rel =>
                    exact ⟨z + 1, _, by omega, by go_num, HV.out.set z (by omega) (by omega), HR.out.set (j := z) (by rw [HXL.out]; omega), World.grownBy.comp HG.out (World.grownBy.set _ ⟨g1, o1 + z, none⟩ _)⟩
                  case measure => simp [intOf]; omega
                · clear hvs hrow hgr
                  have hzy := HG.out.size
                  have HTy := Lib.hid (HT7.out.grown HG.out HG1N.out)
                  have ROy := Row.beside HRO7.out HG.out (fun q hq e => by injection e with e; have := KO q hq; omega)
                  have HBy := Lib.hid (Below.grown HB7.out HG.out (by omega) (fun q e => by injection e with e; omega))
                  clear HG HR HV HT7 HRO7 HB7 HB37
                  go_wp2
                  go_loopw [26] (fun i wz => ∃ (z : Nat) (xs : List Value), z ≤ ob.length ∧ i = .int .i64 z ∧ Row wz w1.heap.size 1 (.slice Ao ob.length co) ob.length xs ∧ wy.grownBy wz (Value.slice Ao ob.length co).ownBlock) (fun i _ => ob.length - (intOf i).toNat)
                  case atStart => exact ⟨0, _, Nat.zero_le _, rfl, ROy, World.grownBy.refl _ _⟩
                  case round =>
                    obtain ⟨z4, xs4, hz4', rfl, hrow, hgr⟩ := hrel
                    obtain ⟨wz, rfl⟩ : ∃ wz : World, wz = wr := ⟨_, rfl⟩
                    have HR := Lib.hid hrow
                    have HG := Lib.hid hgr
                    clear ROy
                    by_cases hlt4 : z4 < ob.length
                    · obtain ⟨g', o', rfl, hgb', hgl, hcell, hfro⟩ := hrow.own (by omega)
                      have hxl : xs4.length = ob.length * 1 := hrow.1
                      obtain ⟨x0, hx0⟩ : ∃ u, xs4[z4]? = some u := ⟨_, List.getElem?_eq_getElem (show z4 < xs4.length by omega)⟩
                      have k0 := hcell z4 _ hx0
                      have k1 := hfro z4 (by omega)
                      have HXL := Lib.hid hxl
                      have HG2 : Hid (wy.grownBy wz (some g')) := Lib.hid HG.out
                      clear hcell hfro hrow hgr hxl hx0
                      go_wp2
                      go_roundw
                      case rel =>
                        exact ⟨z4 + 1, _, by omega, by go_num, HR.out.set (j := z4) (by rw [HXL.out]; omega), World.grownBy.comp HG2.out (World.grownBy.set _ ⟨g', o' + z4, none⟩ _)⟩
                      case measure => simp [intOf]; omega
                    · clear hrow hgr
                      have hzz := HG.out.size
                      have HTz := Lib.hid (HTy.out.grown HG.out HKV.out)
                      have HBz := Lib.hid (Below.grown HBy.out HG.out (by omega) (fun q e => by have := KO q e; omega))
                      have HTC := Lib.hid (ctrail_any HTz.out.r HGO.out)
                      have hfew := trOf_few HGO.out
                      generalize trOf s1' = tr2 at HTC hfew
                      clear HG HR HTy HBy
                      go_upto_region 32 with (first
                        | (go_at_call 32; go_must (refine HTC.out.mono ?_; rintro _ w9 ⟨vt9, rfl, hrt9, hb9⟩; obtain ⟨A9, c9, rfl, _, _, _, _⟩ := hrt9.form))
                        | fail)
                      have hz9 := hb9.size
                      have HT9 := Lib.hid (HTz.out.below hb9)
                      have HB9 := Lib.hid (HBz.out.trans (hb9.mono (by omega)))
                      have K9 : ∀ q, (Value.slice A9 tr2.length c9).ownBlock = some q → wz.heap.size ≤ q := fun q hq => (hrt9.lt q hq).1
                      have HN9 : Hid (∀ q, (Value.slice A9 tr2.length c9).ownBlock = some q → ¬ three w.heap.size (w.heap.size + 1) (w.heap.size + 2) vl1' vt1' vl2 vt2 va' q) := Lib.hid (fun q hq e => by have := (HTz.out.lt q e).2; have := K9 q hq; omega)
                      clear HTC HTz HBz hb9
                      go_wp2
                      go_loopw [28] (fun i wq => ∃ (z : Nat) (xs : List Value), z ≤ tr2.length ∧ i = .int .i64 z ∧ Row wq wz.heap.size 2 (.slice A9 tr2.length c9) tr2.length xs ∧ w9.grownBy wq (Value.slice A9 tr2.length c9).ownBlock) (fun i _ => tr2.length - (intOf i).toNat)
                      case atStart => exact ⟨0, _, Nat.zero_le _, rfl, hrt9, World.grownBy.refl _ _⟩
                      case round =>
                        obtain ⟨z5, xs5, hz5', rfl, hrow, hgr⟩ := hrel
                        obtain ⟨wq, rfl⟩ : ∃ wq : World, wq = wr := ⟨_, rfl⟩
                        have HR := Lib.hid hrow
                        have HG := Lib.hid hgr
                        clear hrt9
                        by_cases hlt5 : z5 < tr2.length
                        · obtain ⟨g', o', rfl, hgb', hgl, hcell, hfro⟩ := hrow.own (by omega)
                          have hxl : xs5.length = tr2.length * 2 := hrow.1
                          obtain ⟨x0, hx0⟩ : ∃ u, xs5[z5 * 2]? = some u := ⟨_, List.getElem?_eq_getElem (show z5 * 2 < xs5.length by omega)⟩
                          obtain ⟨x1, hx1⟩ : ∃ u, xs5[z5 * 2 + 1]? = some u := ⟨_, List.getElem?_eq_getElem (show z5 * 2 + 1 < xs5.length by omega)⟩
                          have k0 := hcell (z5 * 2) _ hx0
                          have k1 := hcell (z5 * 2 + 1) _ hx1
                          have k2 := hfro (z5 * 2) (by omega)
                          have k3 := hfro (z5 * 2 + 1) (by omega)
                          have HXL := Lib.hid hxl
                          have HG2 : Hid (w9.grownBy wq (some g')) := Lib.hid HG.out
                          rw [← Nat.add_assoc] at k1 k3
                          clear hcell hfro hrow hgr hxl hx0 hx1
                          go_wp2
                          go_roundw
                          case rel =>
                            exact ⟨z5 + 1, _, by omega, by go_num, (HR.out.set (j := z5 * 2) (by rw [HXL.out]; omega)).set (j := z5 * 2 + 1) (by rw [List.length_set, HXL.out]; omega), World.grownBy.comp (World.grownBy.comp HG2.out (World.grownBy.set _ ⟨g', o' + z5 * 2, none⟩ _)) (World.grownBy.set _ ⟨g', o' + z5 * 2 + 1, none⟩ _)⟩
                          case measure => simp [intOf]; omega
                        · clear hrow hgr
                          have hzq := HG.out.size
                          have HTq := Lib.hid (HT9.out.grown HG.out HN9.out)
                          have HBq := Lib.hid (Below.grown HB9.out HG.out (by omega) (fun q e => by have := K9 q e; omega))
                          have hrd2 : Rd wq wq.heap.size 1 A2 n2 (bytesV l2) := (HR2.out.below HBq.out).more HBq.out.size
                          clear HG HR HT9 HB9
                          go_upto_region 14 with (first
                            | (go_at_call 27; go_must (refine (mlent_any A2 n2 c2 l2 _ hA2 hrd2 (by omega)).mono ?_; rintro _ w10 ⟨g6, o6, c6, rfl, hc6, hm6, hrow6, hb6⟩; have HTx := HTq.out.below hb6; have hz10 := hb6.size; have HBx := HBq.out.trans (hb6.mono (by omega)); obtain ⟨_, _, q1, _, _, _, hrg6⟩ := hrow6.form; injection q1 with q1 _ q3; subst q1 q3; have hrp6 := hrg6.pre (k := n2) (by omega); have e2 : (l2 ++ [201, 202]).take n2 = l2 := (by (have hl2 : l2.length = n2 := (by have := HR2.out.1; rw [bytesV_len] at this; omega)); rw [← hl2]; exact List.take_left); rw [Nat.mul_one, bytesV_take, e2] at hrp6; have hgb6 := hrow6.lt g6 rfl; have hfl6 : ∀ q, foot (w.heap.size + 1) vl2 vt2 q → q < wq.heap.size := fun q hq => (HTq.out.s.foot_lt q hq).2; have HF6 := Lib.hid (feedA_any (T := j * n2) (some ⟨g6, o6, none⟩) n2 c6 l2 ⟨w, HS.out, Nat.le_refl _, HBx⟩ HTx.s HF.out.g2 (by have : j * n2 ≤ 100 * 16777216 := Nat.mul_le_mul (by omega) hn2; omega) (by omega) (by omega) (fun e => by cases e) hrp6 (fun _ g' o' e hf => by injection e with e; injection e with e1 _ _; subst e1; have := hfl6 _ hf; omega)); have HGS := Lib.hid (HF.out.g2.goes l2)))
                            | (go_at_call 28; go_must (refine HF6.out.mono ?_; rintro _ w11 ⟨vo6, rfl, hro6, vl6, vt6, hr6, hch6, kk6, kk7, kk8⟩))
                            | fail)
                          have HT11 := Lib.hid (HTx.fed2 hch6 hr6 kk6 kk7)
                          have HB11 := Lib.hid (Below.chg HBx hch6 (by have := HTx.q.var.lt; omega) (fun q hq => (HTx.s.foot_lt q hq).1))
                          have hl2 : l2.length = n2 := by have := HR2.out.1; rw [bytesV_len] at this; omega
                          have hmul : j * n2 + l2.length = (j + 1) * n2 := by rw [hl2, Nat.add_mul, Nat.one_mul]
                          have HG11 : Hid (Chunk.Good (Chunk.feedA s2 l2).1 ((j + 1) * n2)) := Lib.hid (by rw [← hmul]; exact HGS.out)
                          have HAL : Hid (d'.all.length ≤ sizes (ps.take (j + 1))) := Lib.hid (by have := HDA.out; have := HF.out.all; have := HST.out; omega)
                          clear hrow6 hb6 hrg6 hrp6 HF6 HTx HBx hro6 hr6 hch6 kk6 kk7 kk8 hmul hl2
                          go_wp2
                          go_roundw
                          case rel => exact ⟨j + 1, _, _, _, _, _, _, _, _, _, by go_num, ⟨by omega, HT11.out, HB2'.out, HGO.out, HG11.out, HAL.out, HB11.out⟩⟩
                          case measure => simp [intOf]; omega
            · go_wp2
              go_ret
              exact ⟨rfl, HF.out.below⟩
        · have h40' : (40000 : Int) < (sizes ps : Int) := by omega
          go_wp2
          go_ret
          exact ⟨rfl, Below.refl _ _⟩
      · have h100' : (100 : Int) < (k : Int) := by omega
        go_wp2
        go_ret
        exact ⟨rfl, Below.refl _ _⟩
end Go.Proofs.YthipgmnfokfaiaaDoor
