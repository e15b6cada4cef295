/- the law HeadAsks. -/
import Derived.Test.YthipgmnfokfaiaaDoorTexts
import Derived.Test.YthipgmnfokfaiaaDoorTok2
import Derived.Test.YthipgmnfokfaiaaDoorFields2
import Derived.Test.YthipgmnfokfaiaaDoorList2
import Derived.Test.YthipgmnfokfaiaaDoorSame
import Derived.Test.YthipgmnfokfaiaaDoorVars
namespace Go.Proofs.YthipgmnfokfaiaaDoor
open Go.RowKit

theorem info53 : (Tryd.prog.info? 53).map (fun i => (i.zero, i.size, i.bytes)) = some (some (.agg #[.string ⟨#[]⟩, .string ⟨#[]⟩]), 2, 32) := by kernel_rfl
theorem fieldsV_one (l : List Fl) : ∀ u ∈ fieldsV l, u.oneCell' = true := by
  intro u hu
  obtain ⟨f, _, h⟩ := List.mem_flatMap.1 hu
  simp at h
  rcases h with rfl | rfl <;> rfl

set_option maxHeartbeats 4000000 in
set_option maxRecDepth 100000 in
theorem asks_any (rq : Bool) (m t : ByteArray) (st : Int) (rs : ByteArray) (mn : Int) (A : Option Addr) (n c : Nat) (fs : List Fl) (name : ByteArray) (A2 : Option Addr) (n2 c2 : Nat) (vs : List ByteArray) (w : World)
    (hsh : w.ShapedOpen Tryd.prog) (hrd : Rd w w.heap.size 2 A n (fieldsV fs)) (hrd2 : Rd w w.heap.size 1 A2 n2 (strsV vs)) (h0 : A = none → n = 0) (h02 : A2 = none → n2 = 0)
    (hn : n ≤ 16777216) (hn2 : n2 ≤ 16777216) (hname : name.size ≤ 16777216) (hfs : ∀ f ∈ fs, f.1.size ≤ 16777216) (hvs : ∀ s ∈ vs, s.size ≤ 16777216) (htot : total vs ≤ 16777216) :
    Calls Tryd.prog 3 #[headV rq m t st rs mn (.slice A n c), .string name, .slice A2 n2 c2] w fun e w' => e = .returned (.bool true) ∧ Below w.heap.size w w' := by
  obtain ⟨i0, hi, hz0, hz1, hz2⟩ := info_parts info53
  obtain ⟨j0, hj, jz0, jz1, jz2⟩ := info_parts info9
  unfold headV
  go_enter Tryd.func3, Tryd.ntmps3
  have r0 : Rd ((w.alloc (.cells #[.bool rq, .string m, .string t, .int .i64 st, .string rs, .int .i64 mn, .slice A n c] 24)).alloc (.cells #[.bool rq, .string m, .string t, .int .i64 st, .string rs, .int .i64 mn, .slice A n c] 24)) w.heap.size 2 A n (fieldsV fs) := (hrd.alloc (Nat.le_refl _) _).alloc (by simp) _
  have b0 : Below w.heap.size w ((w.alloc (.cells #[.bool rq, .string m, .string t, .int .i64 st, .string rs, .int .i64 mn, .slice A n c] 24)).alloc (.cells #[.bool rq, .string m, .string t, .int .i64 st, .string rs, .int .i64 mn, .slice A n c] 24)) := ((Below.refl _ _).alloc (Nat.le_refl _) _).alloc (by simp) _
  have x1 : Var ((w.alloc (.cells #[.bool rq, .string m, .string t, .int .i64 st, .string rs, .int .i64 mn, .slice A n c] 24)).alloc (.cells #[.bool rq, .string m, .string t, .int .i64 st, .string rs, .int .i64 mn, .slice A n c] 24)) w.heap.size 24 [.bool rq, .string m, .string t, .int .i64 st, .string rs, .int .i64 mn, .slice A n c] := (Var.new w _ _).alloc _
  have x2 : Var ((w.alloc (.cells #[.bool rq, .string m, .string t, .int .i64 st, .string rs, .int .i64 mn, .slice A n c] 24)).alloc (.cells #[.bool rq, .string m, .string t, .int .i64 st, .string rs, .int .i64 mn, .slice A n c] 24)) (w.heap.size + 1) 24 [.bool rq, .string m, .string t, .int .i64 st, .string rs, .int .i64 mn, .slice A n c] := by
    have := Var.new (w.alloc (.cells #[.bool rq, .string m, .string t, .int .i64 st, .string rs, .int .i64 mn, .slice A n c] 24)) 24 [.bool rq, .string m, .string t, .int .i64 st, .string rs, .int .i64 mn, .slice A n c]
    simpa using this
  have s0 : ((w.alloc (.cells #[.bool rq, .string m, .string t, .int .i64 st, .string rs, .int .i64 mn, .slice A n c] 24)).alloc (.cells #[.bool rq, .string m, .string t, .int .i64 st, .string rs, .int .i64 mn, .slice A n c] 24)).heap.size = w.heap.size + 2 := by simp
  go_upto_region 2 with (fail)
  generalize ((w.alloc (.cells #[.bool rq, .string m, .string t, .int .i64 st, .string rs, .int .i64 mn, .slice A n c] 24)).alloc (.cells #[.bool rq, .string m, .string t, .int .i64 st, .string rs, .int .i64 mn, .slice A n c] 24)) = wa at r0 b0 x1 x2 s0
  have er : Row (wa.alloc (.cells #[] 53)) (w.heap.size + 2) 2 (.slice (some ⟨w.heap.size + 2, 0, none⟩) 0 0) 0 [] := by
    have := empty_row wa 53 2
    rwa [s0] at this
  have x1c := x1.cell (j := 6) rfl
  go_upto_region 3 with (
     at_builtin
     go_must (refine wpList_app _ rfl (.tmp 12) (.tmp 14) 22 22 rfl (w.heap.size + 2) 53 i0 (.agg #[.string ⟨#[]⟩, .string ⟨#[]⟩]) 2 32 Tryd.underlying22 hi hz0 hz1 hz2 rfl (.slice (some ⟨w.heap.size + 2, 0, none⟩) 0 0) 0 [] rfl er _ n (fieldsV fs) rfl (Src.slice Tryd.underlying22 (r0.alloc (by omega) _) h0 (fieldsV_one fs)) (by omega) (by omega) (by omega) (by simp <;> omega) ?_)
     go_must (intro v1 w1 hrow1 hg1 hg4; rw [List.nil_append, Nat.zero_add] at hrow1; obtain ⟨A1, c1, rfl, hc1, _, hA1, hf1⟩ := hrow1.form; have hs1 : w.heap.size + 3 ≤ w1.heap.size := (by (have := hg1.size; simp at this; omega)); have y1 := (x1.alloc (.cells #[] 53)).grown hg1 (by simp [Value.ownBlock] <;> omega); have y2 := (x2.alloc (.cells #[] 53)).grown hg1 (by simp [Value.ownBlock] <;> omega); have y2c := y2.cell (j := 6) rfl; have y2f := y2.frozen 6; have hb1 : Below w.heap.size w w1 := Below.app (b0.alloc (by omega) _) er hg1 (by omega) (by simp <;> omega); clear x1c))
  have hne : ∀ k, (Value.slice A1 n c1).ownBlock = some k → w.heap.size + 2 ≤ k := fun k hk => (hrow1.lt k hk).1
  have hrz := hrow1.setCell (p := ⟨w.heap.size + 1, 6, none⟩) (fun e => by have := hne (w.heap.size + 1) e; omega) (.slice A1 n c1)
  have hbz := hb1.setCell (p := ⟨w.heap.size + 1, 6, none⟩) (by simp) (.slice A1 n c1)
  have z1 := y1.set_other (p := ⟨w.heap.size + 1, 6, none⟩) (by simp) (.slice A1 n c1)
  have z2 : Var _ (w.heap.size + 1) 24 [.bool rq, .string m, .string t, .int .i64 st, .string rs, .int .i64 mn, .slice A1 n c1] := y2.set 6 (.slice A1 n c1)
  have sz : w.heap.size + 3 ≤ (w1.setCell ⟨w.heap.size + 1, 6, none⟩ (.slice A1 n c1)).heap.size := by simp <;> omega
  have h01 : A1 = none → n = 0 := fun e => (hA1 e).1
  generalize w1.setCell ⟨w.heap.size + 1, 6, none⟩ (.slice A1 n c1) = wz at hrz hbz z1 z2 sz
  obtain ⟨A1', c1', e1, _, _, _, fz⟩ := hrz.form
  injection e1 with e1 _ e2
  subst e1 e2
  clear hrow1 hg1 hg4 y1 y2 y2c y2f hb1 x1 x2 er r0 b0 s0 hf1 hs1 hne hA1 hc1
  have kz := (hrd2.below hbz).more (Nat.le_trans (by omega) sz)
  have oz := (hrd.below hbz).more (Nat.le_trans (by omega) sz)
  go_upto_region 4 with (
     at_builtin
     go_must (refine wpList_app _ rfl (.tmp 17) (.tmp 18) 25 25 rfl wz.heap.size 9 j0 (.string ⟨#[]⟩) 1 16 Tryd.underlying25 hj jz0 jz1 jz2 rfl (.slice (some ⟨wz.heap.size, 0, none⟩) 0 0) 0 [] rfl (empty_row wz _ 1) _ n2 (strsV vs) rfl (Src.slice Tryd.underlying25 (kz.alloc (Nat.le_refl _) _) h02 (strsV_one vs)) (by omega) (by omega) (by omega) (by simp <;> omega) ?_)
     go_must (intro v3 w3 hrow3 hg3 hg4; rw [List.nil_append, Nat.zero_add] at hrow3; obtain ⟨A3, c3, rfl, hc3, _, hA3, f3⟩ := hrow3.form; have hb3 : Below wz.heap.size wz w3 := Below.app ((Below.refl _ _).alloc (Nat.le_refl _) _) (empty_row wz 9 1) hg3 (by omega) (by simp <;> omega)))
  have hbw := hbz.trans (hb3.mono (by omega))
  have z1' := z1.below_all hb3
  have z2' := z2.below_all hb3
  have fz' := fz.keeps hb3
  have kz' := kz.keeps hb3
  have oz' := oz.keeps hb3
  have hs3 := hb3.size
  have h03 : A3 = none → n2 = 0 := fun e => (hA3 e).1
  clear hrow3 hg3 hg4 hb3 z1 z2 fz kz oz hrz hc3 hA3
  have hsh3 := shaped_below hsh hbw
  have l1 := z1'.range
  have l2 := z2'.range
  go_upto_region 5 with (first
    | (go_at_call 17; go_must (refine (hValues_any rq m t st rs mn A1 n c1 fs name _ fz' hn hname hfs).mono ?_; rintro _ w4 ⟨v4, rfl, hrow4, hb4⟩; obtain ⟨A4, c4, rfl, _, _, _, f4⟩ := hrow4.form; have fz4 := fz'.keeps hb4; have kz4 := kz'.keeps hb4; have oz4 := oz'.keeps hb4; have f34 := f3.keeps hb4; have hsh4 := shaped_below hsh3 hb4))
    | (go_at_call 18; go_must (refine (hList_any A3 n2 c3 vs _ hsh4 f34 hn2 hvs htot).mono ?_; rintro _ w5 ⟨v5, rfl, hrow5, hb5⟩; obtain ⟨A5, c5, rfl, _, _, _, f5⟩ := hrow5.form; have fz5 := fz4.keeps hb5; have kz5 := kz4.keeps hb5; have oz5 := oz4.keeps hb5; have f35 := f34.keeps hb5; have f45 := f4.keeps hb5; have hsh5 := shaped_below hsh4 hb5))
    | (refine wpList_load_mid rfl 24 (.tmp 7) rfl (w.heap.size + 1) 0 rfl [.bool rq, .string m, .string t, .int .i64 st, .string rs, .int .i64 mn, .slice A1 n c1] _ l2 Tryd.underlying24 rfl (by kernel_rfl) ?_))
  have hb5' := hb4.trans (hb5.mono hb4.size)
  have za5 := z1'.below_all hb5'
  have zb5 := z2'.below_all hb5'
  have B5 := hbw.trans (hb5'.mono hbw.size)
  have fa5 := oz5
  have fb5 := fz5
  have ka5 := kz5
  have kc5 := f35
  have f45 := f45
  have f55 := f5
  have hvl : (vals fs name).length ≤ 16777216 := Nat.le_trans (vals_le fs name) (by have := oz5.1; rw [fieldsV_len] at this; omega)
  have hll : (listed vs).length ≤ 16777216 := Nat.le_trans (listed_len vs) htot
  clear z1' z2' fz' kz' oz' hs3 fz4 kz4 oz4 f34 f4 f3 l1 l2 hrow4 hrow5 hbw hsh3 hsh4 hsh5 hb4 hb5 hb5' oz5 fz5 kz5 f35 f5
  go_wp2_with (first
    | (go_at_call 19; (refine (texts_any vs A3 A2 n2 c3 c2 _ kc9 ka9 hn2).mono ?_; rintro _ w10 ⟨rfl, hb10⟩; have za10 := za9.below_all hb10; have zb10 := zb9.below_all hb10; have fa10 := fa9.keeps hb10; have fb10 := fb9.keeps hb10; have ka10 := ka9.keeps hb10; have kc10 := kc9.keeps hb10; have f410 := f49.keeps hb10; have f510 := f59.keeps hb10; have B10 := B9.trans (hb10.mono B9.size)))
    | (go_at_call 19; (refine (texts_any (listed vs) A5 A8 _ c5 c8 _ f58 f88 hll).mono ?_; rintro _ w9 ⟨rfl, hb9⟩; have za9 := za8.below_all hb9; have zb9 := zb8.below_all hb9; have fa9 := fa8.keeps hb9; have fb9 := fb8.keeps hb9; have ka9 := ka8.keeps hb9; have kc9 := kc8.keeps hb9; have f49 := f48.keeps hb9; have f59 := f58.keeps hb9; have B9 := B8.trans (hb9.mono B8.size)))
    | (go_at_call 19; (refine (texts_any (vals fs name) A4 A6 _ c4 c6 _ f46 f66 hvl).mono ?_; rintro _ w7 ⟨rfl, hb7⟩; have za7 := za6.below_all hb7; have zb7 := zb6.below_all hb7; have fa7 := fa6.keeps hb7; have fb7 := fb6.keeps hb7; have ka7 := ka6.keeps hb7; have kc7 := kc6.keeps hb7; have f47 := f46.keeps hb7; have f57 := f56.keeps hb7; have B7 := B6.trans (hb7.mono B6.size)))
    | (go_at_call 20; go_must (refine (rValues_any rq m t st rs mn A n c fs name _ fa5 hn hname hfs).mono ?_; rintro _ w6 ⟨v6, rfl, hrow6, hb6⟩; obtain ⟨A6, c6, rfl, _, _, _, f66⟩ := hrow6.form; have za6 := za5.below_all hb6; have zb6 := zb5.below_all hb6; have fa6 := fa5.keeps hb6; have fb6 := fb5.keeps hb6; have ka6 := ka5.keeps hb6; have kc6 := kc5.keeps hb6; have f46 := f45.keeps hb6; have f56 := f55.keeps hb6; have B6 := B5.trans (hb6.mono B5.size)))
    | (go_at_call 21; go_must (refine (rList_any A2 n2 c2 vs _ ka7 hn2 hvs htot).mono ?_; rintro _ w8 ⟨v8, rfl, hrow8, hb8⟩; obtain ⟨A8, c8, rfl, _, _, _, f88⟩ := hrow8.form; have za8 := za7.below_all hb8; have zb8 := zb7.below_all hb8; have fa8 := fa7.keeps hb8; have fb8 := fb7.keeps hb8; have ka8 := ka7.keeps hb8; have kc8 := kc7.keeps hb8; have f48 := f47.keeps hb8; have f58 := f57.keeps hb8; have B8 := B7.trans (hb8.mono B7.size)))
    | (go_at_call 22; go_must (refine (rSame_any rq m t st rs mn A1 A n c1 c fs _ fb10 fa10 hn).mono ?_; rintro _ w11 ⟨rfl, hb11⟩; have za11 := za10.below_all hb11; have zb11 := zb10.below_all hb11; have fa11 := fa10.keeps hb11; have fb11 := fb10.keeps hb11; have ka11 := ka10.keeps hb11; have kc11 := kc10.keeps hb11; have f411 := f410.keeps hb11; have f511 := f510.keeps hb11; have B11 := B10.trans (hb11.mono B10.size)))
    | (go_at_call 23; go_must (refine (hToken_any name _ (by omega)).mono ?_; rintro _ _ ⟨rfl, rfl⟩))
    | (go_at_call 24; go_must (refine (rToken_any name _ (by omega)).mono ?_; rintro _ _ ⟨rfl, rfl⟩))
    | (go_at_call 25; go_must (refine (hFold_any name _ hname).mono ?_; rintro _ w12 ⟨rfl, hb12⟩; have B12 := B11.trans (hb12.mono B11.size)))
    | (go_at_call 26; go_must (refine (rFold_any name _ hname).mono ?_; rintro _ w13 ⟨rfl, hb13⟩; have B13 := B12.trans (hb13.mono B12.size)))
    | (refine wpList_load_mid_g (by rfl) 24 (.tmp 7) rfl (w.heap.size + 1) 0 rfl [.bool rq, .string m, .string t, .int .i64 st, .string rs, .int .i64 mn, .slice A1 n c1] _ zb10.range Tryd.underlying24 rfl (by kernel_rfl) ?_)
    | (refine wpList_load_mid_g (by rfl) 24 (.tmp 3) rfl w.heap.size 0 rfl [.bool rq, .string m, .string t, .int .i64 st, .string rs, .int .i64 mn, .slice A n c] _ za10.range Tryd.underlying24 rfl (by kernel_rfl) ?_)
    | (refine wpList_load_mid rfl 24 (.tmp 3) rfl w.heap.size 0 rfl [.bool rq, .string m, .string t, .int .i64 st, .string rs, .int .i64 mn, .slice A n c] _ za5.range Tryd.underlying24 rfl (by kernel_rfl) ?_))
  go_ret
  exact ⟨rfl, B13⟩
end Go.Proofs.YthipgmnfokfaiaaDoor
