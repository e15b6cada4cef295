/- stream's Feed: a piece is fed. Conditions: sizes, the world's shape. -/
import Derived.Test.YtklmpadcfioefaaGreatDoorSHead2
import Derived.Deep.QuietTactic
import Derived.BigQuiet
import Derived.Laws.EntriesVeiled
namespace Go.Proofs.YtklmpadcfioefaaGreatDoor
open Go.RowKit

/-- a step, whatever is next -/
theorem scall_any {w : World} {base rb T : Nat} {s : Strm.S} {V : SV} (hsh : Shp base w) (h : SMem w base rb s V s.ph) (hi : Strm.Inv s T) (A : Option Addr) (n c : Nat) (l : Bs) (hT : T + n ≤ 1000000000000) (hn : n ≤ 100000000) (hnc : n ≤ c) (hA : A = none → n = 0 ∧ c = 0)
    (hrd : Rd w w.heap.size 1 A n (bytesV l)) (hsp : Sep A n rb V) (hgo : ¬ (l = [] ∧ s.due = false)) :
    Calls Tryz.prog (nowF s.ph) #[.pointer (some ⟨rb, 0, none⟩), .slice A n c] w (CallPost w base rb V A n c s.ph (Strm.callS s l)) := by
  have hlen : l.length = n := by have := hrd.1; rw [bytesV_len] at this; omega
  have h4 := hi.ph
  rcases (show s.ph = 0 ∨ s.ph = 1 ∨ s.ph = 2 ∨ s.ph = 3 ∨ s.ph = 4 by omega) with hp | hp | hp | hp | hp
  · have hd : s.due = false := by
      cases e : s.due with
      | false => rfl
      | true => have := hi.due e; omega
    have hn1 : 1 ≤ n := by
      have hne : l ≠ [] := fun e => hgo ⟨e, hd⟩
      have := List.length_pos_iff.2 hne
      omega
    obtain ⟨hb, hbl⟩ := hi.blk hp
    rw [hp] at h ⊢
    cases he : Strm.headEnd (s.blk ++ l.take (min n (16384 - s.blk.length))) with
    | some E => exact shead_whole hsh h hp A n c l hn hnc hA hrd hsp _ rfl hbl hn1 E hb he
    | none =>
      by_cases hx : s.blk.length + n < 16384
      · have e1 : l.take (min n (16384 - s.blk.length)) = l := List.take_of_length_le (by omega)
        rw [e1] at he
        exact shead_part hsh h hp A n c l hn hnc hA hrd hsp hn1 hx hb he
      · have e1 : min n (16384 - s.blk.length) = 16384 - s.blk.length := by omega
        rw [e1] at he
        exact shead_long hsh h hp A n c l hn hnc hA hrd hsp (16384 - s.blk.length) (by omega) (by omega) (by omega) hb he
  · rw [hp] at h ⊢
    exact send_any h hp A n c l
  · rw [hp] at h ⊢
    by_cases hx : s.left ≤ n
    · exact slength_full h hp hi.room A n c l hnc (fun e => (hA e).1) hrd (by omega) hsp hx
    · exact slength_part h hp hi.room A n c l hnc (fun e => (hA e).1) hrd (by omega) hsp (by omega)
  · rw [hp] at h ⊢
    obtain ⟨h11, hok⟩ := hi.body hp
    exact schunked_any hsh h hp hok h11 A n c l hT hn hnc (fun e => (hA e).1) hrd hsp
  · rw [hp] at h ⊢
    exact srest_any h hp A n c l (fun e => (hA e).1) hrd (by omega)
/-- what Feed leaves -/
def FeedsPost (w : World) (base rb : Nat) (s : Strm.S) (V : SV) (l : Bs) (e : Ending) (w' : World) : Prop :=
  ∃ v L u V' r q, e = .returned (.tuple #[v, .int .i64 (r : Nat)]) ∧ Strm.Feeds s l u (L.map EvE.x) r ∧ Outs w' w.heap.size v L ∧ SMem w' base rb u V' q ∧ (r = 0 → q = u.ph ∧ u.dead = s.dead) ∧ (r ≠ 0 → u.dead = r) ∧ Chg (footS rb V) w w' ∧ (∀ k, footS rb V' k → footS rb V k ∨ w.heap.size ≤ k) ∧
    (∀ k, v.ownBlock = some k ∨ ownE L k → ¬ footS rb V' k)
theorem infoEv : (Tryz.prog.info? 58).map (fun i => (i.zero, i.size, i.bytes)) = some (some (.agg #[.int .i64 0, .bool false, .string ⟨#[]⟩, .string ⟨#[]⟩, .int .i64 0, .string ⟨#[]⟩, .int .i64 0, .slice none 0 0, .int .i64 0, .int .i64 0, .slice none 0 0]), 11, 144) := by kernel_rfl
theorem cells_one {w : World} {base : Nat} {l : List EvE} (h : ∀ e ∈ l, EvR w base e) : ∀ u ∈ l.flatMap EvE.cells, u.oneCell' = true := by
  intro u hu
  obtain ⟨e, he, hu⟩ := List.mem_flatMap.1 hu
  obtain ⟨_, _, ef, _⟩ := (h e he).f.form
  obtain ⟨_, _, ed, _⟩ := Row.form (h e he).d
  unfold EvE.cells at hu
  rw [ef, ed] at hu
  simp only [List.mem_cons, List.not_mem_nil, or_false] at hu
  rcases hu with rfl | rfl | rfl | rfl | rfl | rfl | rfl | rfl | rfl | rfl | rfl <;> rfl
/-- what is left of the piece, as it lay in the beginning -/
def Pin (w : World) (F : Nat → Prop) (v : Value) (l : Bs) : Prop := ∃ A n c, v = .slice A n c ∧ n ≤ c ∧ (A = none → n = 0 ∧ c = 0) ∧ Rd w w.heap.size 1 A n (bytesV l) ∧ (0 < n → ∀ g o, A = some ⟨g, o, none⟩ → ¬ F g)
theorem Pin.drop {w : World} {F : Nat → Prop} {A : Option Addr} {n c m : Nat} {l : Bs} (hnc : n ≤ c) (hA : A = none → n = 0 ∧ c = 0) (hr : Rd w w.heap.size 1 A n (bytesV l)) (hs : 0 < n → ∀ g o, A = some ⟨g, o, none⟩ → ¬ F g) (hm : m ≤ n) {v : Value}
    (hv : v = .slice none 0 0 ∧ m = n ∨ v = .slice A n c ∧ m = 0 ∨ v = .slice (if c = m then A else A.map (·.add m)) (n - m) (c - m)) : Pin w F v (l.drop m) := by
  have hlen : l.length = n := by have := hr.1; rw [bytesV_len] at this; omega
  rcases hv with ⟨rfl, rfl⟩ | ⟨rfl, rfl⟩ | rfl
  · refine ⟨none, 0, 0, rfl, Nat.le_refl _, fun _ => ⟨rfl, rfl⟩, ?_, fun h => by omega⟩
    rw [List.drop_of_length_le (by omega)]
    exact Rd.nil _ _ _ _
  · rw [List.drop_zero]
    exact ⟨A, n, c, rfl, hnc, hA, hr, hs⟩
  · have h2 := hr.shift (k := m) (cap := c) hm hnc
    rw [Nat.mul_one, bytesV_drop] at h2
    refine ⟨_, _, _, rfl, by omega, fun e => ?_, h2, fun h0 g o e => ?_⟩
    · split at e
      · have := hA e; omega
      · cases A with
        | none => have := hA rfl; omega
        | some a => cases e
    · rw [if_neg (by omega)] at e
      cases A with
      | none => cases e
      | some a =>
        obtain ⟨g', o', e2, _, _⟩ := hr.2 (by omega)
        injection e2 with e2
        subst e2
        simp only [Option.map_some, Addr.add_lit] at e
        injection e with e
        injection e with e _ _
        subst e
        exact hs (by omega) _ _ rfl
structure FdIs (w wr : World) (base rb T : Nat) (s : Strm.S) (V : SV) (l : Bs) (k : Nat) (s' : Strm.S) (V' : SV) (L : List EvE) (pv vo : Value) : Prop where
  pin : Pin w (footS rb V) pv (l.drop k)
  le : k ≤ l.length
  mem : SMem wr base rb s' V' s'.ph
  inv : Strm.Inv s' (T + k)
  dead : s'.dead = 0
  feed : ∀ u es r, Strm.Feeds s' (l.drop k) u es r → Strm.Feeds s l u (L.map EvE.x ++ es) r
  outs : Outs wr w.heap.size vo L
  chg : Chg (footS rb V) w wr
  foot : ∀ k, footS rb V' k → footS rb V k ∨ w.heap.size ≤ k
  apart : ∀ k, vo.ownBlock = some k ∨ ownE L k → ¬ footS rb V' k
set_option maxHeartbeats 4000000 in
set_option maxRecDepth 100000 in
theorem sfeed_any {w : World} {base rb T : Nat} {s : Strm.S} {V : SV} (hsh : Shp base w) (h : SMem w base rb s V s.ph) (hi : Strm.Inv s T) (hdue : s.due = false) (hdead : s.dead = 0) (A : Option Addr) (n c : Nat) (l : Bs) (hT : T + n ≤ 1000000000000) (hn : n ≤ 100000000) (hnc : n ≤ c) (hA : A = none → n = 0 ∧ c = 0)
    (hrd : Rd w w.heap.size 1 A n (bytesV l)) (hsp : Sep A n rb V) :
    Calls Tryz.prog 9 #[.pointer (some ⟨rb, 0, none⟩), .slice A n c] w (FeedsPost w base rb s V l) := by
  have hlen : l.length = n := by have := hrd.1; rw [bytesV_len] at this; omega
  obtain ⟨i0, hi0, iz0, iz1, iz2⟩ := info_parts infoEv
  have d9 := h.cell (j := 9) rfl
  rw [hdead] at d9
  have H0 : FdIs w w base rb T s V l 0 s V [] (.slice A n c) (.slice none 0 0) := ⟨⟨A, n, c, rfl, hnc, hA, by rw [List.drop_zero]; exact hrd, hsp⟩, Nat.zero_le _, h, hi, hdead, fun u es r hf => hf, Outs.nil _ _, Chg.refl _ _, fun k hk => .inl hk, (fun k hk => by
    rcases hk with x | ⟨e, he, _⟩
    · exact (nil_own x).elim
    · cases he)⟩
  have HH := Lib.hid H0
  have HSH := Lib.hid hsh
  have HLT : Hid (∀ k, footS rb V k → base ≤ k ∧ k < w.heap.size) := Lib.hid h.lt
  have hr0 := Strm.rk_no hdue
  have HLEN := Lib.hid hlen
  have HR0 := Lib.hid hr0
  have HD0 := Lib.hid hdead
  clear h hi hdue hdead hrd hsp H0 hsh hlen hr0
  go_enter Tryz.func9, Tryz.ntmps9
  go_wp2
  clear d9
  go_loopg [1, 4] (3 * n + 1) (fun gf pv vo wr => ∃ k s' V' L, FdIs w wr base rb T s V l k s' V' L pv vo ∧ 3 * (l.length - k) + Strm.rk s' + 1 ≤ gf ∧ L.length + gf ≤ 3 * n + 1)
  case atStart => exact ⟨0, s, V, [], HH.out, by rw [HLEN.out, HR0.out]; omega, by simp⟩
  case round =>
    obtain ⟨k, s', V', L, hf, hg, hgl⟩ := hrel
    cases gk with
    | zero => omega
    | succ gk =>
    obtain ⟨Ap, np, cp, rfl, hnc2, hA2, hrp, hsp2⟩ := hf.pin
    obtain ⟨Ao, co, rfl, _, _, _, _⟩ := hf.outs.row.form
    have d8 := hf.mem.cell (j := 8) rfl
    have HFD := Lib.hid hf
    have hnp : (l.drop k).length = np := by have := hrp.1; rw [bytesV_len] at this; omega
    by_cases hgo : l.drop k = [] ∧ s'.due = false
    · have hz : np = 0 := by rw [← hnp, hgo.1]; rfl
      have hd := hgo.2
      rw [hd] at d8
      have HGO := Lib.hid hgo
      subst hz
      clear hgo hd hnp hf hrp hsp2 hA2
      go_wp2
      go_ret2
      have hf := HFD.out
      have hfe := hf.feed s' [] 0 (by rw [HGO.out.1]; exact Strm.Feeds.stop s' HGO.out.2)
      rw [List.append_nil] at hfe
      exact ⟨_, L, s', V', 0, s'.ph, rfl, hfe, hf.outs, hf.mem, fun _ => ⟨rfl, by rw [hf.dead, HD0.out]⟩, fun e => absurd rfl e, hf.chg, hf.foot, hf.apart⟩
    · have HGO := Lib.hid hgo
      have HC := scall_any (T := T + k) (Shp.chg HSH.out hf.chg (fun k hk => (HLT.out k hk).1)) hf.mem hf.inv Ap np cp (l.drop k) (by have := hf.le; have := HLEN.out; rw [List.length_drop] at hnp; omega) (by have := HLEN.out; rw [List.length_drop] at hnp; omega) hnc2 hA2 (hrp.apart hf.chg (Nat.le_refl _) hsp2)
        (fun h0 g o e f => by
          obtain ⟨g', o', e2, hg', _⟩ := hrp.2 h0
          rw [e] at e2
          injection e2 with e2
          injection e2 with e2 _ _
          subst e2
          rcases hf.foot g f with x | x
          · exact hsp2 h0 g o e x
          · omega) hgo
      have hls := Strm.call_less hf.inv hgo
      have hiv := Strm.call_inv (p := l.drop k) hf.inv
      have hgo2 := Strm.Feeds.go s' (l.drop k)
      have herr := Strm.Feeds.err s' (l.drop k) hgo
      have d2 := hf.mem.cell (j := 2) rfl
      have f2 := hf.mem.var.frozen 2
      have f9 := hf.mem.var.frozen 9
      have d9 := hf.mem.cell (j := 9) rfl
      have hdd := Strm.call_dead s' (l.drop k)
      obtain ⟨⟨es, m, t, er⟩, hR⟩ : ∃ R, R = Strm.callS s' (l.drop k) := ⟨_, rfl⟩
      rw [← hR] at HC hls hiv hgo2 herr hdd
      unfold nowV at d2
      obtain ⟨KF, hKF⟩ : ∃ KF, KF = nowF s'.ph := ⟨_, rfl⟩
      rw [← hKF] at d2 HC
      unfold CallPost at HC
      dsimp only at HC hls hiv hgo2 herr hdd
      have HCD := Lib.hid HC
      have HLS := Lib.hid hls
      have HONE : Hid (es.length ≤ 1) := Lib.hid (by have := Strm.call_one s' (l.drop k); rw [← hR] at this; exact this)
      have HDD := Lib.hid hdd
      have HIV := Lib.hid hiv
      have HG2 := Lib.hid hgo2
      have HER := Lib.hid herr
      have HNP := Lib.hid hnp
      have HA2 := Lib.hid hA2
      have HRP := Lib.hid (And.intro hrp hsp2)
      have HKF := Lib.hid hKF
      clear HC hls hiv hgo2 herr hR hf hrp hsp2 hKF hdd
      go_upto_region 5 with (fail)
      go_cut [29] from 22 to 29 (fun v wx => v = .bool true ∧ wr = wx)
      case first =>
        by_cases h0 : np = 0
        · have hd : s'.due = true := by
            cases hd : s'.due with
            | true => rfl
            | false => exact absurd ⟨List.eq_nil_of_length_eq_zero (by omega), hd⟩ hgo
          rw [hd] at d8
          subst h0
          clear hgo hd hnp
          go_wp2
          go_meet
          exact ⟨rfl, rfl⟩
        · have hpos : (0 : Int) < (np : Int) := by omega
          clear hgo hnp
          go_wp2
          go_meet
          exact ⟨rfl, rfl⟩
      case rest =>
      obtain ⟨rfl, rfl⟩ := hcut
      clear hgo hnp
      go_upto_region 6 with (fail)
      go_cut [6, 7, 8, 9] from 30 to 40 (fun v6 v7 v8 v9 wx => CallPost wr base rb V' Ap np cp s'.ph (es, m, t, er) (.returned (.tuple #[v6, v7, v8, v9])) wx)
      case first =>
        rcases (show s'.ph = 0 ∨ s'.ph = 1 ∨ s'.ph = 2 ∨ s'.ph = 3 ∨ s'.ph = 4 by have := HFD.out.inv.ph; omega) with hph | hph | hph | hph | hph
        · obtain rfl : KF = 29 := by rw [HKF.out, hph]; rfl
          clear hph
          go_wp2_with (first
            | (go_at_call 29; go_must (refine HCD.out.mono ?_; rintro _ w1 hcp; obtain ⟨ev, rest, nx, L1, V1, rfl, hcp⟩ := hcp; have HCP := Lib.hid hcp; clear hcp))
            | fail)
          go_meet
          exact ⟨ev, rest, nx, L1, V1, rfl, HCP.out⟩
        · obtain rfl : KF = 55 := by rw [HKF.out, hph]; rfl
          clear hph
          go_wp2_with (first
            | (go_at_call 55; go_must (refine HCD.out.mono ?_; rintro _ w1 hcp; obtain ⟨ev, rest, nx, L1, V1, rfl, hcp⟩ := hcp; have HCP := Lib.hid hcp; clear hcp))
            | fail)
          go_meet
          exact ⟨ev, rest, nx, L1, V1, rfl, HCP.out⟩
        · obtain rfl : KF = 56 := by rw [HKF.out, hph]; rfl
          clear hph
          go_wp2_with (first
            | (go_at_call 56; go_must (refine HCD.out.mono ?_; rintro _ w1 hcp; obtain ⟨ev, rest, nx, L1, V1, rfl, hcp⟩ := hcp; have HCP := Lib.hid hcp; clear hcp))
            | fail)
          go_meet
          exact ⟨ev, rest, nx, L1, V1, rfl, HCP.out⟩
        · obtain rfl : KF = 57 := by rw [HKF.out, hph]; rfl
          clear hph
          go_wp2_with (first
            | (go_at_call 57; go_must (refine HCD.out.mono ?_; rintro _ w1 hcp; obtain ⟨ev, rest, nx, L1, V1, rfl, hcp⟩ := hcp; have HCP := Lib.hid hcp; clear hcp))
            | fail)
          go_meet
          exact ⟨ev, rest, nx, L1, V1, rfl, HCP.out⟩
        · obtain rfl : KF = 58 := by rw [HKF.out, hph]; rfl
          clear hph
          go_wp2_with (first
            | (go_at_call 58; go_must (refine HCD.out.mono ?_; rintro _ w1 hcp; obtain ⟨ev, rest, nx, L1, V1, rfl, hcp⟩ := hcp; have HCP := Lib.hid hcp; clear hcp))
            | fail)
          go_meet
          exact ⟨ev, rest, nx, L1, V1, rfl, HCP.out⟩
      case rest =>
      obtain ⟨w1, rfl⟩ : ∃ w1 : World, w1 = wc := ⟨_, rfl⟩
      obtain ⟨ev, rest, nx, L1, V1, he, hL1, ho1, hm1, hn1, hc1, hf1, ha1⟩ := hcut
      injection he with he
      injection he with he
      injection he with he
      injection he with he6 he
      injection he with he7 he
      injection he with he8 he
      injection he with he9 _
      subst he6 he7 he8 he9
      have O1 := HFD.out.outs.chg hc1 (fun k hk => HFD.out.apart k hk)
      have hxx : ∀ k, ownE L1 k → ¬ ((Value.slice Ao L.length co).ownBlock = some k ∨ ownE L k) := fun k hk hk2 => by
        have h1 := (ho1.lt (.inr hk)).1
        have h2 := (HFD.out.outs.lt hk2).2
        omega
      obtain ⟨Ae, ce, rfl, _, _, hAe, hre⟩ := ho1.row.form
      have hzw : w.heap.size ≤ wr.heap.size := HFD.out.chg.size
      have hz1 := hc1.size
      have HO1 := Lib.hid O1
      have HOE := Lib.hid (ho1.mono hzw)
      have HSR := Lib.hid (Src.slice (size := 11) (c := ce) Tryz.underlying33 hre (fun e => (hAe e).1) (cells_one ho1.el))
      have HLB := Lib.hid (And.intro hgl (show L1.length ≤ 1 by rw [← List.length_map (f := EvE.x), hL1]; exact HONE.out))
      have hlL : L.length ≤ 300000001 := by omega
      have hlL1 : L1.length ≤ 1 := HLB.out.2
      have HX := Lib.hid hxx
      have HM1 := Lib.hid hm1
      have HN1 := Lib.hid hn1
      have HC1 := Lib.hid hc1
      have HF1 := Lib.hid hf1
      have HA1 := Lib.hid ha1
      have HL1 := Lib.hid hL1
      have HAE := Lib.hid hAe
      have HGG := Lib.hid hg
      clear O1 hxx ho1 hre hm1 hn1 hc1 hf1 ha1 hL1 hgl hAe d8 d2 f2 f9 d9 hA2 hg
      go_upto_if 45 with (first
        | (at_builtin; go_must (refine wpList_app _ rfl (.tmp 41) (.tmp 42) 33 33 rfl w.heap.size 58 i0 (.agg #[.int .i64 0, .bool false, .string ⟨#[]⟩, .string ⟨#[]⟩, .int .i64 0, .string ⟨#[]⟩, .int .i64 0, .slice none 0 0, .int .i64 0, .int .i64 0, .slice none 0 0]) 11 144 Tryz.underlying33 hi0 iz0 iz1 iz2 rfl (.slice Ao L.length co) L.length (L.flatMap EvE.cells) rfl HO1.out.row (.slice Ae L1.length ce) L1.length (L1.flatMap EvE.cells) rfl HSR.out (by omega) (by omega) (by omega) (by omega) ?_); intro v2 w2 hrow2 hg2 ho2)
        | fail)
      have O2 := HO1.out.grow HOE.out HX.out hg2 hrow2 ho2
      have hap : ∀ k, footS rb V1 k → ¬ (Value.slice Ao L.length co).ownBlock = some k := fun k hk e => by
        rcases HF1.out k hk with x | x
        · exact HFD.out.apart k (.inl e) x
        · have := (HFD.out.outs.lt (.inl e)).2; omega
      have M2 := HM1.out.chg ((show Chg (fun k => (Value.slice Ao L.length co).ownBlock = some k) w1 w1 from Chg.refl _ _).grown hg2 (fun k _ hk => hk)) hap
      have hft : ∀ k, footS rb V1 k → footS rb V k ∨ w.heap.size ≤ k := fun k hk => by
        rcases HF1.out k hk with x | x
        · exact HFD.out.foot k x
        · exact .inr (by omega)
      have C2 : Chg (footS rb V) w w2 := (HFD.out.chg.trans HC1.out (fun k hk hs => by
        rcases HFD.out.foot k hs with x | x
        · exact x
        · omega)).grown hg2 (fun k hk e => by have := (HFD.out.outs.lt (.inl e)).1; omega)
      have hav : ∀ k, v2.ownBlock = some k ∨ ownE (L ++ L1) k → ¬ footS rb V1 k := fun k hk f => by
        rcases hk with x | x
        · rcases ho2 with e | e
          · rw [e] at x; exact hap k f x
          · rw [e] at x; injection x with x; have := (HM1.out.lt k f).2; omega
        · rcases ownE_app.1 x with x | x
          · rcases HF1.out k f with y | y
            · exact HFD.out.apart k (.inr x) y
            · have := (HFD.out.outs.lt (.inr x)).2; omega
          · exact HA1.out k (.inr x) f
      obtain ⟨A2, c2, rfl, _, _, _, _⟩ := hrow2.form
      have HO2 := Lib.hid O2
      have HM2 := Lib.hid M2
      have HFT := Lib.hid hft
      have HC2 := Lib.hid C2
      have HAV := Lib.hid hav
      have d2 := M2.cell (j := 2) rfl
      have f2 := M2.var.frozen 2
      have d9 := M2.cell (j := 9) rfl
      have f9 := M2.var.frozen 9
      have hrl := M2.var.lt
      clear O2 hap M2 hft C2 hav hrow2 hg2 ho2
      by_cases her : er = 0
      · have he0 : ((er : Int) != 0) = false := by rw [her]; rfl
        obtain ⟨hnx, hrs⟩ := HN1.out her
        subst hnx
        obtain ⟨hiv, hmn⟩ := HIV.out her
        have hpin := Pin.drop hnc2 HA2.out HRP.out.1 HRP.out.2 (by rw [← HNP.out]; exact hmn) hrs
        rw [List.drop_drop] at hpin
        obtain ⟨Ar, nr, cr, rfl, p1, p2, p3, p4⟩ := hpin
        have HPN := Lib.hid (And.intro p1 (And.intro p2 (And.intro p3 p4)))
        have HRR := Lib.hid her
        have HI2 := Lib.hid hiv
        have HMN := Lib.hid hmn
        clear her hrs hiv hmn p1 p2 p3 p4
        unfold nowV
        go_wp2
        have hM3 := HM2.out.put (j := 2) (u := nowV rb t.ph) (t := t) (q' := t.ph) rfl rfl rfl rfl Iff.rfl HM2.out.nil
        have hls := HLS.out HRR.out
        have hk1 := HFD.out.le
        have hln : (l.drop k).length = l.length - k := List.length_drop
        rw [List.length_drop] at hls
        have hmn := HMN.out
        have hgg := HGG.out
        go_roundg gk
        case measure => omega
        case rel =>
          refine ⟨k + m, t, V1, L ++ L1, ⟨⟨Ar, nr, cr, rfl, HPN.out.1, HPN.out.2.1, HPN.out.2.2.1, HPN.out.2.2.2⟩, by omega, hM3, by rw [← Nat.add_assoc]; exact HI2.out, by rw [HDD.out]; exact HFD.out.dead, fun u es' r hfe => ?_, HO2.out.chg ((show Chg (fun k => k = rb) w2 w2 from Chg.refl _ _).setCell (p := ⟨rb, 2, none⟩) (fun _ => rfl) _) (fun k hk e => HAV.out k hk (.inl e)), HC2.out.setCell (p := ⟨rb, 2, none⟩) (fun _ => .inl rfl) _, HFT.out, HAV.out⟩, by omega, by have := HLB.out.1; rw [List.length_append]; omega⟩
          have hg := HG2.out u es' r HGO.out HRR.out (by rw [List.drop_drop]; exact hfe)
          have := HFD.out.feed u _ r hg
          rw [List.map_append, HL1.out, List.append_assoc]
          exact this
      · have he0 : ((er : Int) != 0) = true := by simpa using her
        have HRR := Lib.hid her
        clear her
        go_wp2
        go_ret2
        have hM3 := HM2.out.put (j := 9) (u := .int .i64 (er : Int)) (t := { t with dead := er }) (q' := s'.ph) rfl rfl rfl rfl Iff.rfl HM2.out.nil
        refine ⟨_, L ++ L1, { t with dead := er }, V1, er, s'.ph, rfl, ?_, HO2.out.chg ((show Chg (fun k => k = rb) w2 w2 from Chg.refl _ _).setCell (p := ⟨rb, 9, none⟩) (fun _ => rfl) _) (fun k hk e => HAV.out k hk (.inl e)), hM3, fun e => absurd e HRR.out, fun _ => rfl, HC2.out.setCell (p := ⟨rb, 9, none⟩) (fun _ => .inl rfl) _, HFT.out, HAV.out⟩
        rw [List.map_append, HL1.out]
        exact HFD.out.feed _ _ _ (HER.out HRR.out)
end Go.Proofs.YtklmpadcfioefaaGreatDoor
