/- the law HeadWrites. Conditions: sizes, that the numbers are ints, the library's variables. -/
import Derived.Test.YthipgmnfokfaiaaDoorHWrite
import Derived.Test.YthipgmnfokfaiaaDoorAsks
namespace Go.Proofs.YthipgmnfokfaiaaDoor
open Go.RowKit

set_option maxHeartbeats 4000000 in
set_option maxRecDepth 100000 in
theorem writes_any (rq : Bool) (m t : ByteArray) (st : Int) (rs : ByteArray) (mn : Int) (A : Option Addr) (n c : Nat) (fs : List Fl) (w : World)
    (hsh : w.ShapedOpen Tryd.prog) (htab : Tab w) (hrd : Rd w w.heap.size 2 A n (fieldsV fs)) (h0 : A = none → n = 0)
    (hst : isInt st) (hmn : isInt mn) (hn : n ≤ 2097152) (hm : m.size + t.size + rs.size ≤ 2097152) (hf : flSize fs ≤ 8388608) :
    Calls Tryd.prog 13 #[headV rq m t st rs mn (.slice A n c)] w fun e w' => e = .returned (.bool true) ∧ Below w.heap.size w w' := by
  obtain ⟨i0, hi, hz0, hz1, hz2⟩ := info_parts info53
  have HH := Lib.hid (fun A1 c1 W h1 h2 h3 => hWrite_any rq m t st rs mn A1 n c1 fs W h1 h2 h3 hst hmn hn hm hf)
  have HR := Lib.hid (fun W h3 => rWrite_any rq m t st rs mn A n c fs W h3 hst hmn hn hm hf)
  have HS := Lib.hid hsh
  have HTB := Lib.hid htab
  have HTL : Hid (((writeP (hiOf rq m t st rs mn fs)).1.getD []).length ≤ 16777216) := Lib.hid (by
    have htl := textP_len rq m t st rs mn fs hst hmn
    by_cases h : (writeP (hiOf rq m t st rs mn fs)).2 = 0
    · rw [write_ok h]; show (textP _).length ≤ _; omega
    · rw [write_err h]; exact Nat.zero_le _)
  unfold WritePost at HH HR
  generalize writeP (hiOf rq m t st rs mn fs) = wo at HH HR HTL
  obtain ⟨wo1, wo2⟩ := wo
  dsimp only at HH HR HTL
  generalize wo1.getD [] = tx at HH HR HTL
  clear hsh htab hst hmn hm
  unfold headV at *
  go_enter Tryd.func13, Tryd.ntmps13
  have r0 : Rd ((w.alloc (.cells #[.bool rq, .string m, .string t, .int .i64 st, .string rs, .int .i64 mn, .slice A n c] 24)).alloc (.cells #[.bool rq, .string m, .string t, .int .i64 st, .string rs, .int .i64 mn, .slice A n c] 24)) w.heap.size 2 A n (fieldsV fs) := (hrd.alloc (Nat.le_refl _) _).alloc (by simp) _
  have b0 : Below w.heap.size w ((w.alloc (.cells #[.bool rq, .string m, .string t, .int .i64 st, .string rs, .int .i64 mn, .slice A n c] 24)).alloc (.cells #[.bool rq, .string m, .string t, .int .i64 st, .string rs, .int .i64 mn, .slice A n c] 24)) := ((Below.refl _ _).alloc (Nat.le_refl _) _).alloc (by simp) _
  have x1 : Var ((w.alloc (.cells #[.bool rq, .string m, .string t, .int .i64 st, .string rs, .int .i64 mn, .slice A n c] 24)).alloc (.cells #[.bool rq, .string m, .string t, .int .i64 st, .string rs, .int .i64 mn, .slice A n c] 24)) w.heap.size 24 [.bool rq, .string m, .string t, .int .i64 st, .string rs, .int .i64 mn, .slice A n c] := (Var.new w _ _).alloc _
  have x2 : Var ((w.alloc (.cells #[.bool rq, .string m, .string t, .int .i64 st, .string rs, .int .i64 mn, .slice A n c] 24)).alloc (.cells #[.bool rq, .string m, .string t, .int .i64 st, .string rs, .int .i64 mn, .slice A n c] 24)) (w.heap.size + 1) 24 [.bool rq, .string m, .string t, .int .i64 st, .string rs, .int .i64 mn, .slice A n c] := by
    have := Var.new (w.alloc (.cells #[.bool rq, .string m, .string t, .int .i64 st, .string rs, .int .i64 mn, .slice A n c] 24)) 24 [.bool rq, .string m, .string t, .int .i64 st, .string rs, .int .i64 mn, .slice A n c]
    simpa using this
  have s0 : ((w.alloc (.cells #[.bool rq, .string m, .string t, .int .i64 st, .string rs, .int .i64 mn, .slice A n c] 24)).alloc (.cells #[.bool rq, .string m, .string t, .int .i64 st, .string rs, .int .i64 mn, .slice A n c] 24)).heap.size = w.heap.size + 2 := by simp
  go_upto_region 2 with (fail)
  generalize ((w.alloc (.cells #[.bool rq, .string m, .string t, .int .i64 st, .string rs, .int .i64 mn, .slice A n c] 24)).alloc (.cells #[.bool rq, .string m, .string t, .int .i64 st, .string rs, .int .i64 mn, .slice A n c] 24)) = wa at r0 b0 x1 x2 s0
  have er : Row (wa.alloc (.cells #[] 53)) (w.heap.size + 2) 2 (.slice (some ⟨w.heap.size + 2, 0, none⟩) 0 0) 0 [] := by
    have := empty_row wa 53 2
    rwa [s0] at this
  have x1c := x1.cell (j := 6) rfl
  go_upto_region 3 with (
     at_builtin
     go_must (refine wpList_app _ rfl (.tmp 9) (.tmp 11) 22 22 rfl (w.heap.size + 2) 53 i0 (.agg #[.string ⟨#[]⟩, .string ⟨#[]⟩]) 2 32 Tryd.underlying22 hi hz0 hz1 hz2 rfl (.slice (some ⟨w.heap.size + 2, 0, none⟩) 0 0) 0 [] rfl er _ n (fieldsV fs) rfl (Src.slice Tryd.underlying22 (r0.alloc (by omega) _) h0 (fieldsV_one fs)) (by omega) (by omega) (by omega) (by simp <;> omega) ?_)
     go_must (intro v1 w1 hrow1 hg1 hg4; rw [List.nil_append, Nat.zero_add] at hrow1; obtain ⟨A1, c1, rfl, hc1, _, hA1, hf1⟩ := hrow1.form; have hs1 : w.heap.size + 3 ≤ w1.heap.size := (by (have := hg1.size; simp at this; omega)); have y1 := (x1.alloc (.cells #[] 53)).grown hg1 (by simp [Value.ownBlock] <;> omega); have y2 := (x2.alloc (.cells #[] 53)).grown hg1 (by simp [Value.ownBlock] <;> omega); have y2c := y2.cell (j := 6) rfl; have y2f := y2.frozen 6; have hb1 : Below w.heap.size w w1 := Below.app (b0.alloc (by omega) _) er hg1 (by omega) (by simp <;> omega); clear x1c))
  have hne : ∀ k, (Value.slice A1 n c1).ownBlock = some k → w.heap.size + 2 ≤ k := fun k hk => (hrow1.lt k hk).1
  have hrz := hrow1.setCell (p := ⟨w.heap.size + 1, 6, none⟩) (fun e => by have := hne (w.heap.size + 1) e; omega) (.slice A1 n c1)
  have hbz := hb1.setCell (p := ⟨w.heap.size + 1, 6, none⟩) (by simp) (.slice A1 n c1)
  have z1 := y1.set_other (p := ⟨w.heap.size + 1, 6, none⟩) (by simp) (.slice A1 n c1)
  have z2 : Var _ (w.heap.size + 1) 24 [.bool rq, .string m, .string t, .int .i64 st, .string rs, .int .i64 mn, .slice A1 n c1] := y2.set 6 (.slice A1 n c1)
  have sz : w.heap.size + 3 ≤ (w1.setCell ⟨w.heap.size + 1, 6, none⟩ (.slice A1 n c1)).heap.size := by simp <;> omega
  have h01 : A1 = none → n = 0 := fun e => (hA1 e).1
  generalize w1.setCell ⟨w.heap.size + 1, 6, none⟩ (.slice A1 n c1) = wz at hrz hbz z1 z2 sz
  obtain ⟨A1', c1', e1, _, _, _, fz⟩ := hrz.form
  injection e1 with e1 _ e2
  subst e1 e2
  clear hrow1 hg1 hg4 y1 y2 y2c y2f hb1 x1 x2 er r0 b0 s0 hf1 hs1 hne hA1 hc1
  have oz := (hrd.below hbz).more (Nat.le_trans (by omega) sz)
  have HSZ : Hid (wz.ShapedOpen Tryd.prog) := Lib.hid (shaped_below HS.out hbz)
  have HTZ : Hid (Tab wz) := Lib.hid (HTB.out.below hbz)
  go_upto_region 5 with (first
    | (refine wpList_load_mid rfl 24 (.tmp 3) rfl (w.heap.size + 1) 0 rfl [.bool rq, .string m, .string t, .int .i64 st, .string rs, .int .i64 mn, .slice A1 n c1] _ z2.range Tryd.underlying24 rfl (by kernel_rfl) ?_)
    | (refine wpList_load_mid rfl 24 (.tmp 1) rfl w.heap.size 0 rfl [.bool rq, .string m, .string t, .int .i64 st, .string rs, .int .i64 mn, .slice A n c] _ y1.range Tryd.underlying24 rfl (by kernel_rfl) ?_)
    | (go_at_call 54; go_must (refine (HH.out A1 c1 _ HSZ.out HTZ.out fz).mono ?_; rintro _ w2 ⟨v2, rfl, hrow2, hb2⟩; have y1 := z1.below_all hb2; have y2 := z2.below_all hb2; have oy := oz.keeps hb2; have fy := fz.keeps hb2))
    | (go_at_call 55; go_must (refine (HR.out _ oy).mono ?_; rintro _ w3 ⟨v3, rfl, hrow3, hb3⟩))
    | fail)
  have x1 := y1.below_all hb3
  have x2 := y2.below_all hb3
  have ox := oy.keeps hb3
  have fx := fy.keeps hb3
  obtain ⟨A2, c2, rfl, _, _, _, q2⟩ := (hrow2.below_all hb3).form
  obtain ⟨A3, c3, rfl, _, _, _, q3⟩ := hrow3.form
  have hz2' := hb2.size
  have hz3' := hb3.size
  have B3 : Hid (Below w.heap.size w w3) := Lib.hid ((hbz.trans (hb2.mono (by omega))).trans (hb3.mono (by omega)))
  have B3z := B3.out.size
  clear hrow2 hrow3 y1 y2 oy fy z1 z2 oz fz hb2 hb3 hbz hrz HH HR
  go_wp2_with (first
    | (go_at_call 42; go_must (refine (num_any _ _).mono ?_; rintro _ _ ⟨rfl, rfl⟩))
    | (go_at_call 56; go_must (refine (same_any A2 A3 tx.length c2 c3 tx _ q2 q3 HTL.out).mono ?_; rintro _ w4 ⟨rfl, hb4⟩; have x14 := x1.below_all hb4; have x24 := x2.below_all hb4; have o4 := ox.keeps hb4; have f4 := fx.keeps hb4))
    | (refine wpList_load_mid_g (by rfl) 24 (.tmp 3) rfl (w.heap.size + 1) 0 rfl [.bool rq, .string m, .string t, .int .i64 st, .string rs, .int .i64 mn, .slice A1 n c1] _ x24.range Tryd.underlying24 rfl (by kernel_rfl) ?_)
    | (refine wpList_load_mid_g (by rfl) 24 (.tmp 1) rfl w.heap.size 0 rfl [.bool rq, .string m, .string t, .int .i64 st, .string rs, .int .i64 mn, .slice A n c] _ x14.range Tryd.underlying24 rfl (by kernel_rfl) ?_)
    | (go_at_call 22; go_must (refine (rSame_any rq m t st rs mn A1 A n c1 c fs _ f4 o4 (by omega)).mono ?_; rintro _ w5 ⟨rfl, hb5⟩))
    | fail)
  go_ret
  exact ⟨rfl, (B3.out.trans (hb4.mono B3z)).trans (hb5.mono (by have := hb4.size; omega))⟩
end Go.Proofs.YthipgmnfokfaiaaDoor
