/- the reference's Read, walked. Condition: sizes. -/
import Derived.Test.YtklmpadcfioefaaGreatDoorMX0
namespace Go.Proofs.YtklmpadcfioefaaGreatDoor
open Go.RowKit

/-- at the head of the first loop -/
structure R1 (w wr : World) (l : Bs) (n a : Nat) (body : Bs) (vo : Value) : Prop where
  le : a ≤ n
  fd : Fd w wr [vo, .int .i64 0, .bool false, .bool false, .slice none 0 0] vo body (.slice none 0 0) []
  eq : ∃ f, n - a < f ∧ Chunk.readOf l = Chunk.readR f (l.drop a) a body
  bl : body.length ≤ a
/-- at the head of the second loop -/
structure R2 (w wr : World) (l : Bs) (n from_ a : Nat) (body : Bs) (vo vt : Value) (tr : List (Bs × Bs)) : Prop where
  le : a ≤ n
  ge : from_ ≤ a
  fd : Fd w wr [vo, .int .i64 0, .bool false, .bool false, vt] vo body vt tr
  eq : ∃ f, n - a ≤ f ∧ Chunk.readOf l = Chunk.trailR f (l.drop a) a (a - from_) body tr
  few : tr.length ≤ 64

theorem src_built_at (w : World) (us : List Value) (h1 : ∀ u ∈ us, u.oneCell' = true) (k : Nat) (hk : w.heap.size = k) {m : Nat} (hm : us.length = m * 2 := by rfl) : Src Tryz.prog (w.alloc (.cells us.toArray 89)) 50 2 (.slice (some ⟨k, 0, none⟩) m m) m us := by
  subst hk
  exact Src.built us 89 Tryz.underlying50 hm h1
set_option maxHeartbeats 8000000 in
set_option maxRecDepth 100000 in
theorem rread_any (A : Option Addr) (n c : Nat) (l : Bs) (w : World) (hnc : n ≤ c) (hrd : Rd w w.heap.size 1 A n (bytesV l)) (hn : n ≤ 100000000) :
    Calls Tryz.prog 63 #[.slice A n c] w (ReadPost w (Chunk.readOf l)) := by
  have hlen : l.length = n := by have := hrd.1; rw [bytesV_len] at this; omega
  have HL := Lib.hid hlen
  clear hlen
  go_enter Tryz.func63, Tryz.ntmps63
  go_wp2
  go_loopw [4] (fun i wr => ∃ (a : Nat) (body : Bs) (vo : Value), i = .int .i64 a ∧ R1 w wr l n a body vo) (fun i _ => n - (intOf i).toNat)
  case atStart => exact ⟨0, [], .slice none 0 0, rfl, ⟨Nat.zero_le _, fd_new w, ⟨l.length + 1, by have := HL.out; omega, rfl⟩, Nat.le_refl _⟩⟩
  case round =>
    obtain ⟨a, body, vo, rfl, hf⟩ := hrel
    have HF := Lib.hid hf
    have han := hf.le
    obtain ⟨f, hfn, heq⟩ := hf.eq
    have HQ := Lib.hid heq
    have hbl := hf.bl
    have hzw := hf.fd.size
    obtain ⟨Ao, co, hvo, _, _, _, _⟩ := hf.fd.row.form
    subst hvo
    have HRW := Lib.hid ((hrd.below hf.fd.below).more hf.fd.below.size)
    have hlt3 := hf.fd.v3.lt
    clear hf heq
    obtain ⟨f', rfl⟩ : ∃ f', f = f' + 1 := ⟨f - 1, by omega⟩
    have HSZ := Lib.hid (qsize_any A n c l a wr HRW.out hn han)
    have hq := HQ.out
    rw [Chunk.readR_def] at hq
    have hval := Chunk.sizeA_val (l.drop a) a 0 0 (Nat.zero_le _)
    have hge := Chunk.sizeA_ge (l.drop a) a 0 0
    have hle := Chunk.sizeA_le (l.drop a) a 0 0
    have hdr : (l.drop a).length = n - a := by rw [List.length_drop, HL.out]
    rw [hdr] at hle
    unfold SizePost at HSZ
    generalize Chunk.sizeA (l.drop a) a 0 0 = x at HSZ hq hval hge hle
    obtain ⟨N, p, st⟩ := x
    simp only at HSZ hq hval hge hle
    have hval2 : N ≤ 2147483647 := hval
    clear hval
    have d0 := HF.out.fd.v3.cell (j := 0) rfl
    have d1 := HF.out.fd.v3.cell (j := 1) rfl
    have d3 := HF.out.fd.v3.cell (j := 3) rfl
    have f0 := HF.out.fd.v3.frozen 0
    have f1 := HF.out.fd.v3.frozen 1
    have f3 := HF.out.fd.v3.frozen 3
    by_cases hst : st < 1
    · rw [if_pos hst] at hq
      have HE : Hid (Chunk.readOf l = ⟨body, p, false, decide (st < 0), []⟩) := Lib.hid hq
      have HF1 := Lib.hid (((HF.out.fd.set 1 (.int .i64 p)).set 3 (.bool (decide (st < 0)))).cast (cs' := [.slice Ao body.length co, .int .i64 p, .bool false, .bool (decide (st < 0)), .slice none 0 0]) rfl)
      clear hq hle hge
      go_wp2_with (first
        | (go_at_call 105; go_must (refine HSZ.out.mono ?_; rintro _ _ ⟨rfl, rfl⟩))
        | (refine wpList_load_mid rfl 120 (.tmp 3) rfl (w.heap.size + 1) 0 rfl ([.slice Ao body.length co, .int .i64 p, .bool false, .bool (decide (st < 0)), .slice none 0 0]) _ (HF1.out).v3.range Tryz.underlying120 rfl (by kernel_rfl) ?_)
        | (refine wpList_put rfl 120 (.tmp 2) (.tmp 29) rfl w.heap.size rfl (HF1.out).v2 ([.slice Ao body.length co, .int .i64 p, .bool false, .bool (decide (st < 0)), .slice none 0 0]) rfl rfl (by kernel_rfl) (by simp [Value.oneCell']) ?_; intro w9 hv9 hg9 hs9)
        | fail)
      refine bodyPost_ret (results_var1 rfl _ _ rfl hv9 Tryz.underlying120 rfl (by kernel_rfl)) rfl ?_
      exact (HF1.out).fin hg9 (by rw [HE.out]) (by rw [HE.out]) (by rw [HE.out]; intro e; cases e)
    · rw [if_neg hst] at hq
      obtain ⟨hle1, hle2⟩ := hle (by omega)
      have hpn : p ≤ n := by omega
      rw [List.drop_drop, show a + (p - a) = p by omega] at hq
      clear hle hge
      by_cases hN : N = 0
      · subst hN
        rw [if_pos rfl] at hq
        have hlp : (l.drop p).length = n - p := by rw [List.length_drop, HL.out]
        rw [hlp] at hq
        have HT := Lib.hid hq
        clear hq hlp
        go_wp2_with (first
          | (go_at_call 105; go_must (refine HSZ.out.mono ?_; rintro _ _ ⟨rfl, rfl⟩))
          | fail)
        clear d0 d1 d3 f0 f1 f3 HSZ
        go_loopw [4] (fun i wx => ∃ (q : Nat) (vt : Value) (tr : List (Bs × Bs)), i = .int .i64 q ∧ R2 w wx l n p q body (.slice Ao body.length co) vt tr) (fun i _ => n - (intOf i).toNat)
        case atStart => exact ⟨p, .slice none 0 0, [], rfl, ⟨hpn, Nat.le_refl _, HF.out.fd, ⟨n - p, Nat.le_refl _, by rw [HT.out, Nat.sub_self]⟩, Nat.zero_le _⟩⟩
        case round =>
          obtain ⟨q, vt, tr, rfl, hf2⟩ := hrel
          clear HF HQ HRW HT hlt3 hzw
          have HG := Lib.hid hf2
          have hqn := hf2.le
          have hpq := hf2.ge
          have hfew := hf2.few
          obtain ⟨f2, hfn2, heq2⟩ := hf2.eq
          have HQ2 := Lib.hid heq2
          obtain ⟨At, ct, hvt, _, _, _, _⟩ := hf2.fd.tr.form
          subst hvt
          have HRW := Lib.hid ((hrd.below hf2.fd.below).more hf2.fd.below.size)
          have hlt3 := hf2.fd.v3.lt
          have d1 := hf2.fd.v3.cell (j := 1) rfl
          have d2 := hf2.fd.v3.cell (j := 2) rfl
          have d3 := hf2.fd.v3.cell (j := 3) rfl
          have d4 := hf2.fd.v3.cell (j := 4) rfl
          have f1 := hf2.fd.v3.frozen 1
          have f2' := hf2.fd.v3.frozen 2
          have f3 := hf2.fd.v3.frozen 3
          have f4 := hf2.fd.v3.frozen 4
          clear hf2 heq2
          by_cases hgo : ∃ h : q < l.length, l[q] ≠ 13
          · obtain ⟨hql, h13⟩ := hgo
            obtain ⟨g, o, rfl, hg, _⟩ := HRW.out.2 (by have := HL.out; omega)
            have k1 := byte_cell HRW.out q hql
            have hdq := drop_cons (l := l) (k := q) hql
            obtain ⟨u1, u2⟩ := u8_ne h13 13 rfl
            have i0 : (q : Int) < (n : Int) := by have := HL.out; omega
            obtain ⟨f3', rfl⟩ : ∃ f3', f2 = f3' + 1 := ⟨f2 - 1, by have := HL.out; omega⟩
            have hq := HQ2.out
            rw [hdq, Chunk.trailR_go _ _ _ _ _ _ _ h13, ← hdq] at hq
            have hgt := Chunk.fieldA_gt l[q] (l.drop (q + 1)) q (q - p)
            rw [← hdq] at hgt
            have hl1 : (l.drop (q + 1)).length = n - q - 1 := by rw [List.length_drop, HL.out]; omega
            rw [hl1] at hgt
            generalize l[q] = ch at k1 u1 u2
            clear hdq h13 hl1
            by_cases h64 : tr.length = 64
            · rw [if_pos h64] at hq
              have e64 : ((tr.length : Int) == 64) = true := by simp; omega
              have HE : Hid (Chunk.readOf l = ⟨body, q, false, true, []⟩) := Lib.hid hq
              have HF4 := Lib.hid (((HG.out.fd.set 1 (.int .i64 q)).set 3 (.bool true)).cast (cs' := [.slice Ao body.length co, .int .i64 q, .bool false, .bool true, .slice At tr.length ct]) rfl)
              clear hq h64 hgt
              go_wp2_with (first
                | (refine wpList_load_mid rfl 120 (.tmp 3) rfl (w.heap.size + 1) 0 rfl ([.slice Ao body.length co, .int .i64 q, .bool false, .bool true, .slice At tr.length ct]) _ (HF4.out).v3.range Tryz.underlying120 rfl (by kernel_rfl) ?_)
                | (refine wpList_put rfl 120 (.tmp 2) (.tmp 89) rfl w.heap.size rfl (HF4.out).v2 ([.slice Ao body.length co, .int .i64 q, .bool false, .bool true, .slice At tr.length ct]) rfl rfl (by kernel_rfl) (by simp [Value.oneCell']) ?_; intro w9 hv9 hg9 hs9)
                | fail)
              refine bodyPost_ret (results_var1 rfl _ _ rfl hv9 Tryz.underlying120 rfl (by kernel_rfl)) rfl ?_
              exact (HF4.out).fin hg9 (by rw [HE.out]) (by rw [HE.out]) (by rw [HE.out]; intro e; cases e)
            · rw [if_neg h64] at hq
              have e64 : ((tr.length : Int) == 64) = false := by simp; omega
              have hlen63 : tr.length < 64 := by omega
              have HFI := Lib.hid (qfield_any (some ⟨g, o, none⟩) n c l q (q - p) _ hnc HRW.out hn hqn (by omega))
              rw [show (((q - p : Nat)) : Int) = (q : Int) - (p : Int) by omega] at HFI
              unfold FieldPost at HFI
              generalize Chunk.fieldA (l.drop q) q (q - p) 0 [] none = x at HFI hq hgt
              obtain ⟨⟨nm, v⟩, pl, st2⟩ := x
              simp only at HFI hq hgt
              clear h64
              by_cases hst2 : st2 < 1
              · rw [if_pos hst2] at hq
                have HE : Hid (Chunk.readOf l = ⟨body, pl, false, decide (st2 < 0), []⟩) := Lib.hid hq
                clear hq hgt
                go_wp2_with (first
                  | (go_at_call 107; go_must (refine HFI.out.mono ?_; rintro _ w1 ⟨rfl, hb1⟩; have HF1 := Lib.hid (HG.out.fd.then_ hb1); have HF4 := Lib.hid ((((HF1.out.set 1 (.int .i64 pl)).set 3 (.bool (decide (st2 < 0)))).alloc (.cells #[.string ⟨nm.toArray⟩, .string ⟨v.toArray⟩] 89)).cast (cs' := [.slice Ao body.length co, .int .i64 pl, .bool false, .bool (decide (st2 < 0)), .slice At tr.length ct]) rfl); have m1 := HF1.out.v3.cell (j := 1) rfl; have m3 := HF1.out.v3.cell (j := 3) rfl; have n1 := HF1.out.v3.frozen 1; have n3 := HF1.out.v3.frozen 3; have hlt4 := HF1.out.v3.lt))
                  | (refine wpList_load_mid rfl 120 (.tmp 3) rfl (w.heap.size + 1) 0 rfl ([.slice Ao body.length co, .int .i64 pl, .bool false, .bool (decide (st2 < 0)), .slice At tr.length ct]) _ (HF4.out).v3.range Tryz.underlying120 rfl (by kernel_rfl) ?_)
                  | (refine wpList_put rfl 120 (.tmp 2) (.tmp 107) rfl w.heap.size rfl (HF4.out).v2 ([.slice Ao body.length co, .int .i64 pl, .bool false, .bool (decide (st2 < 0)), .slice At tr.length ct]) rfl rfl (by kernel_rfl) (by simp [Value.oneCell']) ?_; intro w9 hv9 hg9 hs9)
                  | fail)
                refine bodyPost_ret (results_var1 rfl _ _ rfl hv9 Tryz.underlying120 rfl (by kernel_rfl)) rfl ?_
                exact (HF4.out).fin hg9 (by rw [HE.out]) (by rw [HE.out]) (by rw [HE.out]; intro e; cases e)
              · rw [if_neg hst2] at hq
                obtain ⟨hgt1, hgt2⟩ := hgt (by omega)
                rw [List.drop_drop, show q + (pl - q) = pl by omega, show q - p + (pl - q) = pl - p by omega] at hq
                have HE := Lib.hid hq
                have hpl1 : q < pl := hgt1
                have hpl2 : pl ≤ n := by have := HL.out; omega
                obtain ⟨j0, hj0, jz0, jz1, jz2⟩ := info_parts infoField
                clear hq hgt1 hgt2 hgt
                go_wp2_with (first
                  | (go_at_call 107; go_must (refine HFI.out.mono ?_; rintro _ w1 ⟨rfl, hb1⟩; have HF1 := Lib.hid (HG.out.fd.then_ hb1); have HF2 := Lib.hid ((HF1.out.alloc (.cells #[.string ⟨nm.toArray⟩, .string ⟨v.toArray⟩] 89)).alloc (.cells #[.string ⟨nm.toArray⟩, .string ⟨v.toArray⟩] 89)); have m4 := HF1.out.v3.cell (j := 4) rfl; have n4 := HF1.out.v3.frozen 4; have hlt4 := HF1.out.v3.lt))
                  | (at_builtin; go_must (refine wpList_app _ rfl (.tmp 109) (.tmp 111) 50 50 rfl (w.heap.size + 2) 89 j0 (.agg #[.string ⟨#[]⟩, .string ⟨#[]⟩]) 2 32 Tryz.underlying50 hj0 jz0 jz1 jz2 rfl (.slice At tr.length ct) tr.length (fieldsV (flB tr)) (by rfl) HF2.out.tr _ 1 [.string ⟨nm.toArray⟩, .string ⟨v.toArray⟩] (by rfl) (src_built_at _ [.string ⟨nm.toArray⟩, .string ⟨v.toArray⟩] (by intro u hu; simp at hu; rcases hu with rfl | rfl <;> rfl) (w1.heap.size + 1) (by simp)) (by omega) (by omega) (by omega) (by have := HF2.out.size; omega) ?_); go_must (intro v2 w2 hrow2 hg2 hv2; obtain ⟨A2, k2, rfl, _, _, _, _⟩ := hrow2.form; have HF3 := Lib.hid (HF2.out.tr_grow (tr' := tr ++ [(nm, v)]) hg2 (by rw [flB_snoc, List.length_append]; exact hrow2) hv2); have y4 := HF3.out.v3.cell (j := 4) rfl; have z4 := HF3.out.v3.frozen 4))
                  | fail)
                have HF5 := Lib.hid ((HF3.out.set 4 (.slice A2 (tr.length + 1) k2)).cast (cs' := [.slice Ao body.length co, .int .i64 0, .bool false, .bool false, .slice A2 (tr.length + 1) k2]) rfl)
                go_roundw
                case rel => exact ⟨pl, .slice A2 (tr.length + 1) k2, tr ++ [(nm, v)], rfl, ⟨hpl2, by omega, HF5.out, ⟨f3', by omega, HE.out⟩, by rw [List.length_append]; simp; omega⟩⟩
                case measure => simp [intOf]; omega
          · have hq := HQ2.out
            rw [Chunk.trailR_13 _ _ _ _ _ _ (by
              intro c' r hcr
              by_cases hc : c' = 13
              · exact hc
              · exfalso
                have hql : q < l.length := by
                  have := congrArg List.length hcr
                  rw [List.length_drop] at this
                  simp at this
                  omega
                rw [drop_cons hql] at hcr
                injection hcr with h1 _
                exact hgo ⟨hql, by rw [h1]; exact hc⟩), Chunk.lastR] at hq
            have HEN := Lib.hid (qended_any A n c l q _ HRW.out hn hqn)
            generalize Chunk.endedR (l.drop q) q = y at HEN hq
            obtain ⟨b2, st2⟩ := y
            simp only at HEN hq
            have HE : Hid (Chunk.readOf l = ⟨body, b2, decide (0 < st2), decide (st2 < 0), if 0 < st2 then tr else []⟩) := Lib.hid hq
            have HF4 := Lib.hid ((((HG.out.fd.set 1 (.int .i64 b2)).set 3 (.bool (decide (st2 < 0)))).set 2 (.bool (decide (0 < st2)))).cast (cs' := [.slice Ao body.length co, .int .i64 b2, .bool (decide (0 < st2)), .bool (decide (st2 < 0)), .slice At tr.length ct]) rfl)
            have hstop : q = n ∨ ∃ g o, A = some ⟨g, o, none⟩ ∧ q < n ∧ wr.cell? ⟨g, o + q, none⟩ = some (.int .u8 13) := by
              rcases Nat.lt_or_ge q n with h1 | h1
              · right
                obtain ⟨g, o, rfl, _, _⟩ := HRW.out.2 (by omega)
                have hql : q < l.length := by have := HL.out; omega
                refine ⟨g, o, rfl, h1, ?_⟩
                rw [byte_cell HRW.out q hql]
                have : l[q] = 13 := by
                  by_cases hc : l[q] = 13
                  · exact hc
                  · exact absurd ⟨hql, hc⟩ hgo
                rw [this]; rfl
              · left; omega
            clear hq hgo
            rcases hstop with e | ⟨g, o, rfl, h1, k1⟩
            · have i0 : ¬ (q : Int) < (n : Int) := by omega
              clear e
              go_wp2_with (first
                | (go_at_call 106; go_must (refine HEN.out.mono ?_; rintro _ _ ⟨rfl, rfl⟩))
                | (refine wpList_load_mid rfl 120 (.tmp 3) rfl (w.heap.size + 1) 0 rfl ([.slice Ao body.length co, .int .i64 b2, .bool (decide (0 < st2)), .bool (decide (st2 < 0)), .slice At tr.length ct]) _ (HF4.out).v3.range Tryz.underlying120 rfl (by kernel_rfl) ?_)
                | (refine wpList_put rfl 120 (.tmp 2) (.tmp 129) rfl w.heap.size rfl (HF4.out).v2 ([.slice Ao body.length co, .int .i64 b2, .bool (decide (0 < st2)), .bool (decide (st2 < 0)), .slice At tr.length ct]) rfl rfl (by kernel_rfl) (by simp [Value.oneCell']) ?_; intro w9 hv9 hg9 hs9)
                | fail)
              refine bodyPost_ret (results_var1 rfl _ _ rfl hv9 Tryz.underlying120 rfl (by kernel_rfl)) rfl ?_
              exact HF4.out.fin hg9 (by rw [HE.out]) (by rw [HE.out]) (by rw [HE.out]; intro e; simp only [decide_eq_true_eq] at e; simp only [if_pos e])
            · have i0 : (q : Int) < (n : Int) := by omega
              go_wp2_with (first
                | (go_at_call 106; go_must (refine HEN.out.mono ?_; rintro _ _ ⟨rfl, rfl⟩))
                | (refine wpList_load_mid rfl 120 (.tmp 3) rfl (w.heap.size + 1) 0 rfl ([.slice Ao body.length co, .int .i64 b2, .bool (decide (0 < st2)), .bool (decide (st2 < 0)), .slice At tr.length ct]) _ (HF4.out).v3.range Tryz.underlying120 rfl (by kernel_rfl) ?_)
                | (refine wpList_put rfl 120 (.tmp 2) (.tmp 129) rfl w.heap.size rfl (HF4.out).v2 ([.slice Ao body.length co, .int .i64 b2, .bool (decide (0 < st2)), .bool (decide (st2 < 0)), .slice At tr.length ct]) rfl rfl (by kernel_rfl) (by simp [Value.oneCell']) ?_; intro w9 hv9 hg9 hs9)
                | fail)
              refine bodyPost_ret (results_var1 rfl _ _ rfl hv9 Tryz.underlying120 rfl (by kernel_rfl)) rfl ?_
              exact HF4.out.fin hg9 (by rw [HE.out]) (by rw [HE.out]) (by rw [HE.out]; intro e; simp only [decide_eq_true_eq] at e; simp only [if_pos e])
      · rw [if_neg hN] at hq
        have hNb : ((N : Int) == 0) = false := by simp; omega
        have hdp : (l.drop p).length = n - p := by rw [List.length_drop, HL.out]
        rw [hdp] at hq
        obtain ⟨g, o, rfl, hg, _⟩ := HRW.out.2 (by omega)
        obtain ⟨e, he⟩ : ∃ e, e = min (p + N) n := ⟨_, rfl⟩
        have he1 : p ≤ e := by omega
        have he2 : e ≤ n := by omega
        have hmin : min ((p : Int) + (N : Int)) (n : Int) = (e : Int) := by omega
        have hMl : ((l.drop p).take (e - p)).length = e - p := by rw [List.length_take, hdp]; omega
        have HSRC : Hid (SrcB wr.drew 26 (.slice (if c = p then some ⟨g, o, none⟩ else some ⟨g, o + p, none⟩) (e - p) (c - p)) ((l.drop p).take (e - p))) := Lib.hid (by
          by_cases hcp : c = p
          · have h0 : e - p = 0 := by omega
            rw [if_pos hcp, h0, List.take_zero]
            exact SrcB.slice (M := []) (Rd.nil wr.drew 0 1 _) (fun _ => rfl)
          · rw [if_neg hcp]
            exact SrcB.slice (HRW.out.drew.sub p (e - p) (by omega)) (fun x => by cases x))
        have HML := Lib.hid hMl
        have HM : Hid ((l.drop p).take (e - p) = (l.drop p).take (e - p)) := Lib.hid rfl
        obtain ⟨M, hM⟩ : ∃ M, M = (l.drop p).take (e - p) := ⟨_, rfl⟩
        rw [← hM] at HSRC HML
        have HMM := Lib.hid hM
        have HEE := Lib.hid he
        clear hM hMl HM he
        have i1 : (0 : Int) ≤ (p : Int) := by omega
        have i2 : (p : Int) ≤ (e : Int) := by omega
        have i3 : (e : Int) ≤ (c : Int) := by omega
        obtain ⟨B2, hB2⟩ : ∃ B2, B2 = body ++ M := ⟨_, rfl⟩
        have HBB := Lib.hid hB2
        clear hB2
        go_upto_region 11 with (first
          | (go_at_call 105; go_must (refine HSZ.out.mono ?_; rintro _ _ ⟨rfl, rfl⟩))
          | fail)
        clear hmin
        go_region_law (first
          | (refine step_appB (L := body) (M := M) (by rfl) (.tmp 40) (.tmp 44) 26 (by rfl) (w.heap.size + 2) (by rfl) HF.out.fd.drew.row (by rfl) HSRC.out (by have := HML.out; omega) (by have := HF.out.fd.size; simp; omega) ?_; intro vo2 w2 hrow2 hb2 hg2 hv2; rw [← HBB.out] at hrow2; obtain ⟨A2, c2, rfl, _, _, _, _⟩ := RowB.form hrow2; have HF2 := Lib.hid (HF.out.fd.drew.body_grow hg2 hrow2 hv2); have z0 := HF2.out.v3.cell (j := 0) rfl; have y0 := HF2.out.v3.frozen 0)
          | fail)
        have HF3 := Lib.hid ((HF2.out.set 0 (.slice A2 B2.length c2)).cast (cs' := [.slice A2 B2.length c2, .int .i64 0, .bool false, .bool false, .slice none 0 0]) rfl)
        have t1 := HF2.out.v3.cell (j := 1) rfl
        have t3 := HF2.out.v3.cell (j := 3) rfl
        have r1 := HF2.out.v3.frozen 1
        have r3 := HF2.out.v3.frozen 3
        by_cases hsh : n - p < N
        · rw [if_pos hsh] at hq
          have hen : e = n := by have := HEE.out; omega
          have HE : Hid (Chunk.readOf l = ⟨B2, e, false, false, []⟩) := Lib.hid (by rw [hq, HBB.out, HMM.out, hen, List.take_of_length_le (by omega), show p + (n - p) = n by omega])
          have i4 : (e : Int) < (p : Int) + (N : Int) := by omega
          have i5 : decide ((e : Int) < (p : Int) + (N : Int)) = true := by simpa using i4
          have HF4 := Lib.hid ((HF3.out.set 1 (.int .i64 e)).cast (cs' := [.slice A2 B2.length c2, .int .i64 e, .bool false, .bool false, .slice none 0 0]) rfl)
          clear hq hen d0 d1 d3 f0 f1 f3
          go_wp2_with (first
            | (refine wpList_load_mid rfl 120 (.tmp 3) rfl (w.heap.size + 1) 0 rfl ([.slice A2 B2.length c2, .int .i64 e, .bool false, .bool false, .slice none 0 0]) _ (HF4.out).v3.range Tryz.underlying120 rfl (by kernel_rfl) ?_)
            | (refine wpList_put rfl 120 (.tmp 2) (.tmp 54) rfl w.heap.size rfl (HF4.out).v2 ([.slice A2 B2.length c2, .int .i64 e, .bool false, .bool false, .slice none 0 0]) rfl rfl (by kernel_rfl) (by simp [Value.oneCell']) ?_; intro w9 hv9 hg9 hs9)
            | fail)
          all_goals
            refine bodyPost_ret (results_var1 rfl _ _ rfl hv9 Tryz.underlying120 rfl (by kernel_rfl)) rfl ?_
            exact (HF4.out).fin hg9 (by rw [HE.out]) (by rw [HE.out]) (by rw [HE.out]; intro e; cases e)
        · rw [if_neg hsh] at hq
          have hen : e = p + N := by have := HEE.out; omega
          rw [List.drop_drop, ← hen, show N = e - p by omega, ← HMM.out, ← HBB.out] at hq
          have i4 : ¬ (e : Int) < (p : Int) + (N : Int) := by omega
          have i5 : decide ((e : Int) < (p : Int) + (N : Int)) = false := by simpa using i4
          have i6 : ¬ c = p := by omega
          have HRE : Hid (Rd (w2.setCell ⟨w.heap.size + 1, 0, none⟩ (.slice A2 B2.length c2)) (w2.setCell ⟨w.heap.size + 1, 0, none⟩ (.slice A2 B2.length c2)).heap.size 1 (some ⟨g, o, none⟩) n (bytesV l)) := Lib.hid ((hrd.below HF3.out.below).more HF3.out.below.size)
          have HEN := Lib.hid (qended_any (some ⟨g, o, none⟩) n c l e _ HRE.out hn he2)
          have hyl := Chunk.endedR_le (l := l.drop e) (i := e)
          rw [List.length_drop, HL.out] at hyl
          generalize Chunk.endedR (l.drop e) e = y at HEN hq hyl
          obtain ⟨b2, st2⟩ := y
          simp only at HEN hq hyl
          clear hen d0 d1 d3 f0 f1 f3
          by_cases hst2 : st2 < 1
          · rw [if_pos hst2] at hq
            have HE : Hid (Chunk.readOf l = ⟨B2, b2, false, decide (st2 < 0), []⟩) := Lib.hid hq
            have HF4 := Lib.hid (((HF3.out.set 1 (.int .i64 b2)).set 3 (.bool (decide (st2 < 0)))).cast (cs' := [.slice A2 B2.length c2, .int .i64 b2, .bool false, .bool (decide (st2 < 0)), .slice none 0 0]) rfl)
            clear hq hyl
            go_wp2_with (first
              | (go_at_call 106; go_must (refine HEN.out.mono ?_; rintro _ _ ⟨rfl, rfl⟩))
              | (refine wpList_load_mid rfl 120 (.tmp 3) rfl (w.heap.size + 1) 0 rfl ([.slice A2 B2.length c2, .int .i64 b2, .bool false, .bool (decide (st2 < 0)), .slice none 0 0]) _ (HF4.out).v3.range Tryz.underlying120 rfl (by kernel_rfl) ?_)
              | (refine wpList_put rfl 120 (.tmp 2) (.tmp 68) rfl w.heap.size rfl (HF4.out).v2 ([.slice A2 B2.length c2, .int .i64 b2, .bool false, .bool (decide (st2 < 0)), .slice none 0 0]) rfl rfl (by kernel_rfl) (by simp [Value.oneCell']) ?_; intro w9 hv9 hg9 hs9)
              | fail)
            refine bodyPost_ret (results_var1 rfl _ _ rfl hv9 Tryz.underlying120 rfl (by kernel_rfl)) rfl ?_
            exact (HF4.out).fin hg9 (by rw [HE.out]) (by rw [HE.out]) (by rw [HE.out]; intro e; cases e)
          · rw [if_neg hst2] at hq
            obtain ⟨hb2, hl2⟩ := hyl hst2
            rw [List.drop_drop] at hq
            have HE : Hid (Chunk.readOf l = Chunk.readR f' (l.drop b2) b2 B2) := Lib.hid (by rw [hq, hb2])
            have HBM : Hid (B2.length ≤ b2) := Lib.hid (by rw [HBB.out, List.length_append, HML.out]; omega)
            have hb3 : a < b2 := by omega
            have hb4 : b2 ≤ n := by omega
            clear hq hyl hb2
            go_wp2_with (first
              | (go_at_call 106; go_must (refine HEN.out.mono ?_; rintro _ _ ⟨rfl, rfl⟩))
              | fail)
            go_roundw
            case rel => exact ⟨b2, B2, .slice A2 B2.length c2, rfl, ⟨by omega, HF3.out, ⟨f', by omega, HE.out⟩, HBM.out⟩⟩
            case measure => simp [intOf]; omega
end Go.Proofs.YtklmpadcfioefaaGreatDoor
