/- the law HeadBack. Conditions: sizes, that the numbers are ints, the library's variables. -/
import Derived.Test.YthipgmnfokfaiaaDoorWrites
import Derived.Test.YthipgmnfokfaiaaDoorAwake
namespace Go.Proofs.YthipgmnfokfaiaaDoor
open Go.RowKit

set_option maxHeartbeats 4000000 in
set_option maxRecDepth 100000 in
theorem back_any (rq : Bool) (m t : ByteArray) (st : Int) (rs : ByteArray) (mn : Int) (A : Option Addr) (n c : Nat) (fs : List Fl) (w : World)
    (hsh : w.ShapedOpen Tryd.prog) (htab : Tab w) (hrd : Rd w w.heap.size 2 A n (fieldsV fs))
    (hst : isInt st) (hmn : isInt mn) (hn : n ≤ 2097152) (hm : m.size + t.size + rs.size ≤ 2097152) (hf : flSize fs ≤ 8388608) :
    Calls Tryd.prog 14 #[headV rq m t st rs mn (.slice A n c)] w fun e w' => e = .returned (.bool true) ∧ Below w.heap.size w w' := by
  have HH := Lib.hid (fun W h1 h2 h3 => hWrite_any rq m t st rs mn A n c fs W h1 h2 h3 hst hmn hn hm hf)
  have hb0 : Below w.heap.size w (w.alloc (.cells #[.bool rq, .string m, .string t, .int .i64 st, .string rs, .int .i64 mn, .slice A n c] 24)) := (Below.refl _ _).alloc (Nat.le_refl _) _
  have hv0 := Var.new w 24 [.bool rq, .string m, .string t, .int .i64 st, .string rs, .int .i64 mn, .slice A n c]
  have hrd0 := (hrd.below hb0).more hb0.size
  have HS0 : Hid ((w.alloc (.cells #[.bool rq, .string m, .string t, .int .i64 st, .string rs, .int .i64 mn, .slice A n c] 24)).ShapedOpen Tryd.prog) := Lib.hid (shaped_below hsh hb0)
  have HT0 := Lib.hid (htab.below hb0)
  have HEQ := Lib.hid (fun g : Hd => eqH_up g rq m t st rs mn fs)
  have HRQ : Hid ((hiOf rq m t st rs mn fs).rq = rq) := Lib.hid rfl
  clear hst hmn hsh htab
  generalize hiOf rq m t st rs mn fs = hi at HH HEQ HRQ
  unfold headV at *
  go_enter Tryd.func14, Tryd.ntmps14
  go_upto_region 3 with (go_at_call 43; go_must (refine (awake_any _ HS0.out).mono ?_; rintro _ w1 ⟨rfl, hb1⟩))
  have hv1 := hv0.below_all hb1
  have hrd1 := hrd0.keeps hb1
  have b1 := hb0.trans (hb1.mono hb0.size)
  have HS1 : Hid (w1.ShapedOpen Tryd.prog) := Lib.hid (shaped_below HS0.out hb1)
  have HT1 := Lib.hid (HT0.out.below hb1)
  clear hv0 hrd0 hb0 hb1
  go_upto_region 4 with (first
    | (refine wpList_load_mid rfl 24 (.tmp 1) rfl w.heap.size 0 rfl [.bool rq, .string m, .string t, .int .i64 st, .string rs, .int .i64 mn, .slice A n c] _ hv1.range Tryd.underlying24 rfl (by kernel_rfl) ?_)
    | (go_at_call 54; go_must (refine (HH.out _ HS1.out HT1.out hrd1).mono ?_; rintro _ w2 ⟨v2, rfl, hrow2, hb2⟩))
    | fail)
  have hv2 := hv1.below_all hb2
  have hrd2 := hrd1.keeps hb2
  have b2 := b1.trans (hb2.mono b1.size)
  have HS2 : Hid (w2.ShapedOpen Tryd.prog) := Lib.hid (shaped_below HS1.out hb2)
  have d0 := hv2.cell (j := 0) rfl
  clear hv1 hrd1 b1 hb2
  by_cases he : (writeP hi).2 = 0
  · have hw := write_ok he
    obtain ⟨_, ⟨g, hp, hu⟩, hp2, hl⟩ := write_back hw
    obtain ⟨g2, o2, hg2⟩ : ∃ g2 o2, parseP (textP hi) (!rq) = (g2, o2) := ⟨_, _, rfl⟩
    rw [HRQ.out] at hp hp2
    have ho2 : ((o2 : Int) != 0) = true := by
      rw [hg2] at hp2
      simpa using hp2
    have hfew := parse_few hp
    have hfew2 := parse_few hg2
    have HP := Lib.hid hp
    have HP2 := Lib.hid hg2
    have HE : Hid (eqH g.rq rq ⟨g.m.toArray⟩ m ⟨g.t.toArray⟩ t (g.st : Int) st ⟨g.rs.toArray⟩ rs (g.mn : Int) mn (flB g.fs) fs = true) := Lib.hid (by rw [HEQ.out]; simpa using hu)
    rw [he] 
    rw [hw] at hrow2
    clear hw he hp hp2 hg2 hu
    change RowB _ _ _ (textP hi) at hrow2
    generalize textP hi = tx at *
    obtain ⟨A2, c2, rfl, hc2, hm2, hA2, hr2⟩ := hrow2.form
    go_upto_region 7 with (first
      | (go_at_call 39; go_must (refine (hParse_lit A2 tx.length c2 tx rq _ HS2.out (fun e => (hA2 e).1) hr2 (by omega) HP.out).mono ?_; rintro _ w3 ⟨A3, c3, rfl, hrow3, hb3⟩))
      | (refine wpList_put rfl 24 (.tmp 5) (.tmp 26) rfl w3.heap.size rfl (Var.new w3 24 [.bool false, .string ⟨#[]⟩, .string ⟨#[]⟩, .int .i64 0, .string ⟨#[]⟩, .int .i64 0, .slice none 0 0]) [.bool g.rq, .string ⟨g.m.toArray⟩, .string ⟨g.t.toArray⟩, .int .i64 (g.st : Int), .string ⟨g.rs.toArray⟩, .int .i64 (g.mn : Int), .slice A3 g.fs.length c3] rfl rfl (by kernel_rfl) (by simp [Value.oneCell']) ?_; intro w4 hv4 hg4 hs4)
      | fail)
    have hz3 := hb3.size
    have hz4 := put_size hs4
    have b24 : Below w2.heap.size w2 w4 := Below.put hb3 hz3 hg4
    have b4 := b2.trans (b24.mono b2.size)
    have hv4x := hv2.below_all b24
    have hr4 := hr2.keeps b24
    have ra4 := hrd2.keeps b24
    have rb4 := hrow3.put hg4
    have HS4 : Hid (w4.ShapedOpen Tryd.prog) := Lib.hid (shaped_below HS2.out b24)
    have d4 := hv4x.cell (j := 0) rfl
    clear hv2 hrd2 hrow2 hr2 hrow3 hb3 hg4 hs4 b24 d0
    go_upto_region 8 with (first
      | (go_at_call 39; go_must (refine (hParse_lit A2 tx.length c2 tx (!rq) _ HS4.out (fun e => (hA2 e).1) hr4 (by omega) HP2.out).mono ?_; rintro _ w5 ⟨A5, c5, rfl, hrow5, hb5⟩))
      | (refine wpList_put rfl 24 (.tmp 7) (.tmp 34) rfl w5.heap.size rfl (Var.new w5 24 [.bool false, .string ⟨#[]⟩, .string ⟨#[]⟩, .int .i64 0, .string ⟨#[]⟩, .int .i64 0, .slice none 0 0]) [.bool g2.rq, .string ⟨g2.m.toArray⟩, .string ⟨g2.t.toArray⟩, .int .i64 (g2.st : Int), .string ⟨g2.rs.toArray⟩, .int .i64 (g2.mn : Int), .slice A5 g2.fs.length c5] rfl rfl (by kernel_rfl) (by simp [Value.oneCell']) ?_; intro w6 hv6 hg6 hs6)
      | fail)
    have hz5 := hb5.size
    have hz6 := put_size hs6
    have b46 : Below w4.heap.size w4 w6 := Below.put hb5 hz5 hg6
    have B6 := Lib.hid (b4.trans (b46.mono b4.size))
    have V6 := hv4x.below_all b46
    have G6 := hv4.below_all b46
    have ra := ra4.keeps b46
    obtain ⟨_, _, e1, _, _, _, rb⟩ := (rb4.below_all b46).form
    injection e1 with e1 _ q1
    subst e1 q1
    have z6 := B6.out.size
    have hl' : (tx.length : Int) ≤ 16384 := by omega
    clear hv4x hv4 hr4 ra4 rb4 d4 hrow5 hb5 hv6 hg6 hs6 b46 b4 b2
    go_wp2_with (first
      | (refine wpList_load_mid_g (by rfl) 24 (.tmp 5) rfl w3.heap.size 0 rfl [.bool g.rq, .string ⟨g.m.toArray⟩, .string ⟨g.t.toArray⟩, .int .i64 (g.st : Int), .string ⟨g.rs.toArray⟩, .int .i64 (g.mn : Int), .slice A3 g.fs.length c3] _ G6.range Tryd.underlying24 rfl (by kernel_rfl) ?_)
      | (refine wpList_load_mid_g (by rfl) 24 (.tmp 1) rfl w.heap.size 0 rfl [.bool rq, .string m, .string t, .int .i64 st, .string rs, .int .i64 mn, .slice A n c] _ V6.range Tryd.underlying24 rfl (by kernel_rfl) ?_)
      | (go_at_call 22; go_must (refine (rSame_gen g.rq rq ⟨g.m.toArray⟩ m ⟨g.t.toArray⟩ t (g.st : Int) st ⟨g.rs.toArray⟩ rs (g.mn : Int) mn A3 A g.fs.length n c3 c (flB g.fs) fs _ rb ra (by omega) (by omega)).mono ?_; rintro _ w7 ⟨rfl, hb7⟩; rw [HE.out]))
      | fail)
    go_ret
    exact ⟨rfl, B6.out.trans (hb7.mono z6)⟩
  · have hw := write_err he
    rw [hw] at hrow2
    have he' : (((writeP hi).2 : Int) != 0) = true := by simpa using he
    obtain ⟨A2, c2, rfl, _⟩ := hrow2.form
    generalize (writeP hi).2 = en at he'
    clear he hw hrow2
    go_wp2
    go_ret
    exact ⟨rfl, b2⟩
end Go.Proofs.YthipgmnfokfaiaaDoor
