/- the law ChunkCut. Conditions: sizes, the world's shape, the library's table. -/
import Derived.Test.YthipgmnfokfaiaaDoorCBack
namespace Go.Proofs.YthipgmnfokfaiaaDoor
open Go.RowKit

/-- a place among m: what round answers -/
theorem mround_any (x : Int) (m : Nat) (w : World) (hm : 0 < m) (hm2 : m ≤ 4611686018427387904) (_hx : -9223372036854775808 ≤ x ∧ x ≤ 9223372036854775807) :
    Calls Tryd.prog 53 #[.int .i64 x, .int .i64 m] w fun e w' => (∃ k : Nat, k < m ∧ e = .returned (.int .i64 (k : Int))) ∧ w = w' := by
  have h1 : Int.tmod x m < (m : Int) := Int.tmod_lt_of_pos x (by omega)
  have h2 : -(m : Int) < Int.tmod x m := by
    have h := Int.tmod_lt_of_pos (-x) (show (0 : Int) < (m : Int) by omega)
    rw [Int.neg_tmod] at h
    omega
  have hm0 : ¬ (m : Int) = 0 := by omega
  have hm0b : ((m : Int) == 0) = false := by simpa using hm0
  have HR : Hid (∃ r : Int, Int.tmod x m = r ∧ -(m : Int) < r ∧ r < m) := Lib.hid ⟨_, rfl, h2, h1⟩
  clear h1 h2
  obtain ⟨r, hr, h1, h2⟩ := HR.out
  have hw : ∀ k : IntKind, k = .i64 → k.wrap r = r := fun k e => by subst e; rw [IntKind.wrap_i64]; omega
  by_cases hneg : r < 0
  · go_enter Tryd.func53, Tryd.ntmps53
    go_wp2
    go_ret
    exact ⟨⟨(r + m).toNat, by omega, by rw [show (((r + m).toNat : Nat) : Int) = r + m by omega] <;> rfl⟩, rfl⟩
  · go_enter Tryd.func53, Tryd.ntmps53
    go_wp2
    go_ret
    exact ⟨⟨r.toNat, by omega, by rw [show ((r.toNat : Nat) : Int) = r by omega] <;> rfl⟩, rfl⟩
namespace Chunk
/-- a beginning of bytes that are read whole, up to their end -/
theorem feed_pre (a b : Bs) (s : St) (_h1 : (feed s (a ++ b) 0 []).2.2.2 = 1) (h2 : a.length < (feed s (a ++ b) 0 []).2.2.1) : (feed s a 0 []).2.2.2 = 0 ∧ feed s (a ++ b) 0 [] = ((feed (feed s a 0 []).1 b 0 []).1, (feed s a 0 []).2.1 ++ (feed (feed s a 0 []).1 b 0 []).2.1, a.length + (feed (feed s a 0 []).1 b 0 []).2.2.1, (feed (feed s a 0 []).1 b 0 []).2.2.2) := by
  have e := feed_app a b s 0 []
  by_cases h0 : (feed s a 0 []).2.2.2 = 0
  · refine ⟨h0, ?_⟩
    rw [e, if_pos h0, feed_acc, feed_more a s h0]
  · rw [if_neg h0] at e
    rw [e] at h2
    have := feed_read_le a s
    omega
end Chunk
/-- a whole body, cut at k: what a reader answers to the two parts -/
theorem cut_law (ps : List Bs) (fs : List (Bs × Bs)) (hm : ∀ p ∈ ps, p.length ≤ Chunk.most) (hok : Chunk.okFs fs 0 0 = true) (k : Nat) (hk : k < (Chunk.chunks ps ++ Chunk.lastB fs).length) :
    ∃ s1 o1 s2 o2, Chunk.feedA {} ((Chunk.chunks ps ++ Chunk.lastB fs).take k) = (s1, o1, k, 0) ∧ s1.at_ ≠ 11 ∧ Chunk.feedA s1 ((Chunk.chunks ps ++ Chunk.lastB fs).drop k) = (s2, o2, (Chunk.chunks ps ++ Chunk.lastB fs).length - k, 1) ∧ s2.at_ = 11 ∧ s2.trailers = fs ∧ s2.total = (joinB ps).length ∧ joinB ps = o1 ++ o2 := by
  have hr := Chunk.readOf_written ps fs [] hm hok
  rw [List.append_nil] at hr
  generalize Chunk.chunks ps ++ Chunk.lastB fs = L at *
  have hf := Chunk.readOf_feed L
  rw [hr] at hf
  have hk1 : (Chunk.feed {} L 0 []).2.2.2 = 1 := by
    by_cases e : (Chunk.feed {} L 0 []).2.2.2 = 1
    · exact e
    · have := congrArg Chunk.Out.done hf
      simp [e] at this
  have hrd : (Chunk.feed {} L 0 []).2.2.1 = L.length := by have := congrArg Chunk.Out.read hf; simpa using this.symm
  have hbd : (Chunk.feed {} L 0 []).2.1 = ps.flatten := by have := congrArg Chunk.Out.body hf; simpa using this.symm
  have htr : (Chunk.feed {} L 0 []).1.trailers = fs := by have := congrArg Chunk.Out.trailers hf; simpa [hk1] using this.symm
  have htt := Chunk.feed_total L {}
  have hat := (Chunk.feed_at L {} (by decide)).2.1 hk1
  have e : L.take k ++ L.drop k = L := List.take_append_drop k L
  have htk : (L.take k).length = k := by rw [List.length_take]; omega
  obtain ⟨h0, h1⟩ := Chunk.feed_pre (L.take k) (L.drop k) {} (by rw [e]; exact hk1) (by rw [e, hrd, htk]; exact hk)
  rw [e, htk] at h1
  have hn11 := (Chunk.feed_at (L.take k) {} (by decide)).1 h0
  have hok1 := Chunk.feed_ok (L.take k) {} 0 Chunk.Ok.init (by rw [h0]; decide)
  have hmore := Chunk.feed_more (L.take k) {} h0
  have hn12 : (Chunk.feed {} (L.take k) 0 []).1.at_ ≠ 12 := by have := hok1.at_; omega
  refine ⟨(Chunk.feed {} (L.take k) 0 []).1, (Chunk.feed {} (L.take k) 0 []).2.1, (Chunk.feed (Chunk.feed {} (L.take k) 0 []).1 (L.drop k) 0 []).1, (Chunk.feed (Chunk.feed {} (L.take k) 0 []).1 (L.drop k) 0 []).2.1, ?_, hn11, ?_, ?_, ?_, ?_, ?_⟩
  · have : Chunk.feedA {} (L.take k) = Chunk.feed {} (L.take k) 0 [] := rfl
    rw [this]
    exact Prod.ext rfl (Prod.ext rfl (Prod.ext (by rw [hmore, htk]) h0))
  · rw [Chunk.feedA, if_neg hn11, if_neg hn12]
    have e1 := congrArg (fun x => x.2.2.1) h1
    have e2 := congrArg (fun x => x.2.2.2) h1
    simp only [hrd, hk1] at e1 e2
    exact Prod.ext rfl (Prod.ext rfl (Prod.ext (by simp only; omega) e2.symm))
  · have := congrArg (fun x => x.1.at_) h1
    simp only [hat] at this
    exact this.symm
  · have := congrArg (fun x => x.1.trailers) h1
    simp only [htr] at this
    exact this.symm
  · have := congrArg (fun x => x.1.total) h1
    simp only [htt, hbd] at this
    rw [← this]
    simp [joinB]
  · have := congrArg (fun x => x.2.1) h1
    simp only [hbd] at this
    exact this
theorem lit_rdn {w : World} {base sz n m c : Nat} {A : Option Addr} {xs : List Value} (h : Row w base sz (.slice A n c) m xs) (e : n = m := by rfl) : Rd w w.heap.size sz A n xs := by
  subst e
  obtain ⟨A', c', e, _, _, _, hr⟩ := h.form
  injection e with e1 e2 e3
  subst e1 e3
  exact hr
theorem Rdr.drewN {w : World} {base b : Nat} {s : Chunk.St} {vl vt : Value} (h : Rdr w base b s vl vt) (q : Nat) : Rdr (w.drewN q) base b s vl vt :=
  h.chg (S := fun _ => False) ((Chg.refl _ w).drewN q) (fun _ _ e => e)

set_option maxHeartbeats 8000000 in
set_option maxRecDepth 100000 in
theorem ccut_any (A : Option Addr) (n c : Nat) (ps : List Bs) (A2 : Option Addr) (n2 c2 : Nat) (fs : List Fl) (x : Int) (hx : -9223372036854775808 ≤ x ∧ x ≤ 9223372036854775807) (w : World) (hsh : w.ShapedOpen Tryd.prog) (ht : Tz w) (hp : Pcs w w.heap.size A n ps) (hsz : sizes ps ≤ 1048576) (hn : n ≤ 1048576)
    (hA2 : A2 = none → n2 = 0) (hrd2 : Rd w w.heap.size 2 A2 n2 (fieldsV fs)) (hn2 : n2 ≤ 1048576) (hf : fSize fs ≤ 16777216) :
    Calls Tryd.prog 12 #[.slice A n c, .slice A2 n2 c2, .int .i64 x] w fun e w' => e = .returned (.bool true) ∧ Below w.heap.size w w' := by
  have hlen2 : fs.length = n2 := by have := hrd2.1; rw [fieldsV_len] at this; omega
  have hpl := hp.len
  have HP := Lib.hid hp
  have HS := Lib.hid hsh
  have HT := Lib.hid ht
  have h5 := ht.lt
  have HR2 := Lib.hid hrd2
  have HL2 := Lib.hid hlen2
  have HM := Lib.hid (most_small (ps := ps) (by omega))
  have hcl : (Chunk.chunks ps).length ≤ 16777216 := by have := chunks_len ps HM.out; omega
  have hlb : (Chunk.lastB (upF fs)).length ≤ 16777221 := by rw [Chunk.lastB_len, linesF_len]; omega
  clear hp hsh ht hrd2 hlen2
  go_enter Tryd.func12, Tryd.ntmps12
  go_upto_region 3 with (first
    | (go_at_call 44; go_must (refine (mawake_any _ HS.out HT.out).mono ?_; rintro _ w1 ⟨rfl, hb1⟩))
    | fail)
  have hz1 := hb1.size
  have HB1 := Lib.hid hb1
  have hp1 : Pcs w1 w1.heap.size A n ps := by
    have h := HP.out.below hb1
    exact ⟨h.len, fun k hk => by
      obtain ⟨g, o, a, c, e, hg, hc, h1, h2, h3⟩ := h.get k hk
      exact ⟨g, o, a, c, e, by omega, hc, h1, h2, h3.more hz1⟩⟩
  have HW1 := mwritten_any A n c ps A2 n2 c2 fs w1 (shaped_below HS.out hb1) (HT.out.below hb1 h5) hp1 hsz hn hA2 (HR2.out.keeps hb1) hn2 (by omega)
  have HLP : Hid (Chunk.lastP (upF fs) = if Chunk.okFs (upF fs) 0 0 = true then (Chunk.lastB (upF fs), 0) else ([], 2)) := Lib.hid rfl
  cases hok : Chunk.okFs (upF fs) 0 0
  · rw [hok] at HW1
    have HW1 := Lib.hid HW1
    clear hp1 hb1
    go_wp2_with (first
      | (go_at_call 52; go_must (refine HW1.out.mono ?_; rintro _ w2 ⟨vo, va, rfl, hro, hra, hb2⟩))
      | fail)
    go_ret
    exact ⟨rfl, HB1.out.trans (hb2.mono hz1)⟩
  · rw [HLP.out, hok, if_pos rfl] at HW1
    have HW1 := Lib.hid HW1
    have HCUT := Lib.hid (fun k h => cut_law ps (upF fs) HM.out hok k h)
    clear hp1 hb1 HLP hok
    have hbl : (Chunk.chunks ps ++ Chunk.lastB (upF fs)).length ≤ 33554440 := by rw [List.length_append]; omega
    have hbp : 0 < (Chunk.chunks ps ++ Chunk.lastB (upF fs)).length := by rw [List.length_append, Chunk.lastB_len]; omega
    generalize Chunk.chunks ps ++ Chunk.lastB (upF fs) = Bb at HW1 HCUT hbl hbp
    have hjb : (joinB ps).length ≤ 1048576 := by rw [flat_len]; exact hsz
    generalize joinB ps = JJ at HW1 HCUT hjb
    go_upto_region 4 with (first
      | (go_at_call 52; go_must (refine HW1.out.mono ?_; rintro _ w2 ⟨vo, va, rfl, hro, hra, hb2⟩))
      | fail)
    have hz2 := hb2.size
    have HB2 := Lib.hid (HB1.out.trans (hb2.mono hz1))
    obtain ⟨Ao, co, rfl, hco, _, hAo, hrb⟩ := hro.form
    obtain ⟨Aa, ca, rfl, _, _, _, _⟩ := hra.form
    obtain ⟨gb, ob, rfl, hgb, _⟩ := hrb.2 hbp
    have HRA := Lib.hid hra
    have HRO := Lib.hid hro
    have HRB := Lib.hid hrb
    have hz02 := HB2.out.size
    clear hb2 hro hra hrb HW1
    go_upto_region 7 with (first
      | (go_at_call 53; go_must (refine (mround_any x Bb.length _ hbp (by omega) hx).mono ?_; rintro _ _ ⟨⟨k, hk, rfl⟩, rfl⟩))
      | fail)
    obtain ⟨s1, o1, s2, o2, hc1, hc11, hc2, hc3, hc4, hc5, hc6⟩ := HCUT.out k hk
    have htk : (Bb.take k).length = k := by rw [List.length_take]; omega
    have hdk : (Bb.drop k).length = Bb.length - k := by rw [List.length_drop]
    have j0 : (0 : Int) ≤ (k : Int) := by omega
    have j1 : (k : Int) ≤ (co : Int) := by omega
    have hrk := Rd.pre HRB.out (k := k) (by omega)
    rw [Nat.mul_one, bytesV_take] at hrk
    have HRK := Lib.hid hrk
    have HC1 := Lib.hid hc1
    have HC2 := Lib.hid hc2
    have HC6 := Lib.hid hc6
    have HC4 := Lib.hid hc4
    have HC5 := Lib.hid hc5
    have HDK := Lib.hid hdk
    have hb20 : Below w2.heap.size w2 (w2.alloc (.cells #[.int .i64 0, .int .i64 0, .slice none 0 0, .int .i64 0, .int .i64 0, .int .i64 0, .int .i64 0, .slice none 0 0] 38)) := (Below.refl _ _).alloc (Nat.le_refl _) _
    have hr20 := hrk.keeps hb20
    have HB20 := Lib.hid hb20
    have hzz : (w2.alloc (.cells #[.int .i64 0, .int .i64 0, .slice none 0 0, .int .i64 0, .int .i64 0, .int .i64 0, .int .i64 0, .slice none 0 0] 38)).heap.size = w2.heap.size + 1 := by simp
    have HZZ := Lib.hid hzz
    have HHR := Lib.hid hr20
    clear hrk hc1 hc2 hc6 hc4 hc5 hdk hb20 hr20 hzz
    generalize hPK : Bb.take k = PK at *
    have e0 : (PK ++ [201, 202]).take k = PK := by rw [← htk]; exact List.take_left
    have e0' : (PK ++ [201, 202]).take PK.length = PK := List.take_left
    go_upto_region 9 with (first
      | (go_at_call 27; go_must (refine (mlent_any (some ⟨gb, ob, none⟩) k co PK _ (fun e => by cases e) HHR.out (by omega)).mono ?_; rintro _ w3 ⟨g3, o3, c3, rfl, hc3', hm3, hrow3, hb3⟩; have hb3' := HB20.out.trans (hb3.mono (by have := HZZ.out; omega)); have hr3 := (lit_rdn hrow3).pre (k := k) (by omega); rw [Nat.mul_one, bytesV_take, e0] at hr3; have hg3 := hrow3.lt g3 rfl; have hz3 := hb3.size; have HF3 := feedA_any (T := 0) (some ⟨g3, o3, none⟩) k c3 PK (w := w3) (base := w2.heap.size) (b := w2.heap.size) (s := {}) (vl := .slice none 0 0) (vt := .slice none 0 0) ⟨w2, shaped_below HS.out HB2.out, Nat.le_refl _, hb3'⟩ ((rdr_new w2).below hb3) Chunk.Good.init (by omega) (by omega) (by omega) (fun e => by cases e) hr3 (fun _ g o e hf => (by injection e with e; injection e with e1 _ _; subst e1; have := HZZ.out; rcases hf with x | x | x; omega; simp [Value.ownBlock] at x; simp [Value.ownBlock] at x)); rw [HC1.out] at HF3; unfold FeedPost at HF3; simp only [show ((0 : Nat) = 1) = False by simp, show ((0 : Nat) = 2) = False by simp, decide_false, if_false] at HF3; have HF3 := Lib.hid HF3; have HB3 := Lib.hid hb3'; clear hrow3 hb3 hb3' hr3))
      | (go_at_call 28; go_must (refine HF3.out.mono ?_; rintro _ w4 ⟨vo4, rfl, hro4, vl4, vt4, hr4, hch4, _, _, kk4⟩))
      | fail)
    have hz4 := hch4.size
    have HB4 : Hid (Below w2.heap.size w2 w4) := Lib.hid (Below.chg HB3.out hch4 (by have := HZZ.out; omega) (fun q hf => by
      rcases hf with x | x | x
      · omega
      · simp [Value.ownBlock] at x
      · simp [Value.ownBlock] at x))
    have RA4 := HRA.out.below_all HB4.out
    obtain ⟨A4, c4, rfl, _, _, _, _⟩ := RowB.form hro4
    have hjl : JJ.length = o1.length + o2.length := by rw [HC6.out, List.length_append]
    obtain ⟨_, _, e1, hca, _, _, _⟩ := RA4.form
    injection e1 with e1 _ e3
    subst e1 e3
    have hh := RowB.head RA4 o1.length (by omega)
    have ejt : JJ.take o1.length = o1 := by rw [HC6.out]; exact List.take_left
    rw [ejt] at hh
    have v1 : ∀ q, (convert 35 9 (.slice A4 o1.length c4)).run Tryd.prog (w4.drewN q) = .ok (.string ⟨o1.toArray⟩) (w4.drewN q) := fun q => conv_row (hro4.drewN q)
    have v2 : ∀ q, (convert 35 9 (.slice Aa o1.length ca)).run Tryd.prog (w4.drewN q) = .ok (.string ⟨o1.toArray⟩) (w4.drewN q) := fun q => conv_row (hh.drewN q)
    have k0 : (0 : Int) ≤ (o1.length : Int) := by omega
    have k1 : (o1.length : Int) ≤ (ca : Int) := by omega
    have k2 : decide ((JJ.length : Int) < (o1.length : Int)) = false := by simp; omega
    have k3 : decide (JJ.length < o1.length) = false := by simp; omega
    have HTR := Lib.hid (fun q => ctrail_no (hr4.drewN q) hc11)
    have HRD4 := Lib.hid hr4
    have HRO4 := Lib.hid hro4
    have HRA4 := Lib.hid RA4
    have HKK := Lib.hid kk4
    have HJL := Lib.hid hjl
    clear hch4 hr4 hro4 RA4 hh kk4 HF3 HHR HRK HB3 hjl
    go_upto_region 9 with (fail)
    go_quiet ((go_at_call 32; refine (HTR.out _).mono ?_; rintro _ _ ⟨rfl, rfl⟩; exact ⟨rfl, _, rfl⟩))
    clear v1 v2 k0 k1 k2 k3 HTR
    have HRDp := Lib.hid (HRD4.out.drewN nq)
    have HROp : Hid (RowB (w4.drewN nq) w3.heap.size (.slice A4 o1.length c4) o1) := Lib.hid (HRO4.out.drewN nq)
    have HBp : Hid (Below w2.heap.size w2 (w4.drewN nq)) := Lib.hid (below_drewN HB4.out nq)
    have hzp : w3.heap.size ≤ (w4.drewN nq).heap.size := hz4
    clear HRD4 HRO4 HRA4 HB4 hz4
    generalize w4.drewN nq = wp at *
    have hsub := Rd.sub HRB.out k (Bb.length - k) (by omega)
    rw [List.take_of_length_le (by have := HDK.out; omega)] at hsub
    have hsubp := hsub.keeps HBp.out
    have i2 : (k : Int) ≤ (Bb.length : Int) := by omega
    have i3 : (0 : Int) ≤ (k : Int) := by omega
    have i4 : ¬ co = k := by omega
    have HG1 : Hid (Chunk.Good s1 k) := Lib.hid (by
      have := Chunk.Good.init.goes PK
      rw [HC1.out, htk, Nat.zero_add] at this
      exact this)
    have e5 : (Bb.drop k ++ [201, 202]).take (Bb.length - k) = Bb.drop k := by rw [← HDK.out]; exact List.take_left
    have HE5 := Lib.hid e5
    have HSP := Lib.hid hsubp
    have hflp : ∀ q, foot w2.heap.size vl4 vt4 q → q < wp.heap.size := fun q hq => (HRDp.out.foot_lt q hq).2
    have HFLP := Lib.hid hflp
    clear hsub hsubp e5 hflp
    generalize Bb.drop k = DK at *
    have i5 : (Bb.length : Int) - (k : Int) = ((Bb.length - k : Nat) : Int) := by omega
    go_upto_region 12 with (first
      | (go_at_call 27; go_must (refine (mlent_any (some ⟨gb, ob + k, none⟩) (Bb.length - k) (co - k) DK _ (fun e => by cases e) HSP.out (by omega)).mono ?_; rintro _ w5 ⟨g5, o5, c5, rfl, hc5', hm5, hrow5, hb5⟩; have hr5 := (lit_rdn hrow5).pre (k := Bb.length - k) (by omega); rw [Nat.mul_one, bytesV_take, HE5.out] at hr5; have hg5 := hrow5.lt g5 rfl; have hz5 := hb5.size; have hb5' := HBp.out.trans (hb5.mono HBp.out.size); have HF5 := feedA_any (T := k) (some ⟨g5, o5, none⟩) (Bb.length - k) c5 DK (w := w5) (base := w2.heap.size) (b := w2.heap.size) (s := s1) (vl := vl4) (vt := vt4) ⟨w2, shaped_below HS.out HB2.out, Nat.le_refl _, hb5'⟩ (HRDp.out.below hb5) HG1.out (by omega) (by omega) (by omega) (fun e => by cases e) hr5 (fun _ g o e hf => (by injection e with e; injection e with e1 _ _; subst e1; have := HFLP.out _ hf; omega)); rw [HC2.out] at HF5; unfold FeedPost at HF5; simp only [show ((1 : Nat) = 2) = False by simp, decide_true, if_false] at HF5; have HF5 := Lib.hid HF5; have HB5 := Lib.hid hb5'; have HRO5 := Lib.hid (HROp.out.below_all hb5); clear hrow5 hb5 hb5' hr5))
      | (go_at_call 28; go_must (refine HF5.out.mono ?_; rintro _ w6 ⟨vo6, rfl, hro6, vl6, vt6, hr6, hch6, _, _, _⟩))
      | fail)
    have hz6 := hch6.size
    have HB6 : Hid (Below w2.heap.size w2 w6) := Lib.hid (Below.chg HB5.out hch6 HB5.out.size (fun q hf => (HRDp.out.foot_lt q hf).1))
    have RO6 := RowB.chg HRO5.out hch6 (fun q hq => HKK.out q hq)
    have RA6 := HRA.out.below_all HB6.out
    obtain ⟨A6, c6, rfl, _, _, _, _⟩ := RowB.form hro6
    have v1 := conv_row RO6
    have v2 := conv_row hro6
    have v3 := conv_row RA6
    have hadd : (⟨o1.toArray⟩ : ByteArray) ++ ⟨o2.toArray⟩ = ⟨JJ.toArray⟩ := by
      rw [HC6.out]
      exact ByteArray.ext (by simp [ByteArray.data_append])
    have ho1 : o1.length ≤ 1048576 := by have := HJL.out; omega
    have ho2 : o2.length ≤ 1048576 := by have := HJL.out; omega
    have HG2 : Chunk.Good s2 (k + DK.length) := by
      have := HG1.out.goes DK
      rw [HC2.out] at this
      exact this
    have hup : (upF fs).length = n2 := by unfold upF; rw [List.length_map]; exact HL2.out
    have HTY := ctrail_yes hr6 hc3 (HG2.few hc3)
    rw [HC4.out, flB_upF, hup] at HTY
    have HTY := Lib.hid HTY
    have HTT : Hid (∀ W, Below w6.heap.size w6 W → Calls Tryd.prog 34 #[.pointer (some ⟨w2.heap.size, 0, none⟩)] W fun e w' => e = .returned (.int .i64 (JJ.length : Int)) ∧ W = w') := Lib.hid (fun W h => by
      have := ctotal_any (hr6.below h)
      rw [HC5.out] at this
      exact this)
    clear hch6 hro6 hr6 HG2 hup HF5
    go_wp2_with (first
      | (go_at_call 32; go_must (refine HTY.out.mono ?_; rintro _ w7 ⟨v7, rfl, hrow7, hb7⟩; obtain ⟨A7, c7, rfl, _, _, _, hr7⟩ := hrow7.form; have hrf7 := (HR2.out.below ((HB2.out.trans (HB6.out.mono hz02)).trans (hb7.mono (by have := HB6.out.size; omega)))).more (by have := hb7.size; have := HB6.out.size; omega : w.heap.size ≤ w7.heap.size)))
      | (go_at_call 31; go_must (refine (mfields_any A7 A2 n2 c7 c2 fs _ hr7 hrf7 (by omega)).mono ?_; rintro _ w8 ⟨rfl, hb8⟩; have hb68 := hb7.trans (hb8.mono hb7.size)))
      | (go_at_call 34; go_must (refine (HTT.out _ hb68).mono ?_; rintro _ _ ⟨rfl, rfl⟩))
      | fail)
    go_ret
    exact ⟨rfl, (HB2.out.trans (HB6.out.mono hz02)).trans (hb68.mono (by have := HB6.out.size; omega))⟩
end Go.Proofs.YthipgmnfokfaiaaDoor
