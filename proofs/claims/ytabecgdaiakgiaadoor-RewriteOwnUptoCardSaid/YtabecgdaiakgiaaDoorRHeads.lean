/- law RewriteHeads. Conditions: sizes, the library's variables. -/
import Derived.Test.YtabecgdaiakgiaaDoorRAwake
import Derived.Test.YtabecgdaiakgiaaDoorMB
import Derived.Test.YtabecgdaiakgiaaDoorRBackH
namespace Go.Proofs.YtabecgdaiakgiaaDoor
open Go.RowKit

theorem Held.tab {W0 W : World} {X : Prop} (h : Below W0.heap.size W0 W ∧ X) (ht : Tab W0) : Tab W := ht.below h.1
theorem Below.set7 {B : Nat} {W0 W : World} (h : Below B W0 W) {b : Nat} (hb : B ≤ b) (v0 v1 v2 v3 v4 v5 v6 : Value) :
    Below B W0 (((((((W.setCell ⟨b, 0, none⟩ v0).setCell ⟨b, 1, none⟩ v1).setCell ⟨b, 2, none⟩ v2).setCell ⟨b, 3, none⟩ v3).setCell ⟨b, 4, none⟩ v4).setCell ⟨b, 5, none⟩ v5).setCell ⟨b, 6, none⟩ v6) :=
  (((((((h.setCell (p := ⟨b, 0, none⟩) hb v0).setCell (p := ⟨b, 1, none⟩) hb v1).setCell (p := ⟨b, 2, none⟩) hb v2).setCell (p := ⟨b, 3, none⟩) hb v3).setCell (p := ⟨b, 4, none⟩) hb v4).setCell (p := ⟨b, 5, none⟩) hb v5).setCell (p := ⟨b, 6, none⟩) hb v6)
theorem lent_rd {w : World} {B n g o c : Nat} {fs : List Fl} {m : Fl} (h : Row w B 2 (.slice (some ⟨g, o, none⟩) (n + 1) c) (n + 1) (fieldsV (fs ++ [m]))) : Rd w w.heap.size 2 (some ⟨g, o, none⟩) n (fieldsV fs) := by
  obtain ⟨A', c', e, _, _, _, r⟩ := h.form
  injection e with e1 _ _
  subst e1
  have hlen : fs.length = n := by have := h.1; rw [fieldsV_len, List.length_append] at this; simp at this; omega
  have r2 := r.pre (k := n) (by omega)
  rw [fieldsV_take, List.take_left' hlen] at r2
  exact r2
def hbC (R : HB) (A : Option Addr) (c : Nat) : List Value := [.bool R.rq, .string R.m, .string R.t, .int .i64 R.st, .string R.rs, .int .i64 R.mn, .slice A R.fs.length c]
/-- a variable of the call's own, from block B on, that holds the head R -/
def Hold (w : World) (B : Nat) (R : HB) (v : Value) : Prop :=
  ∃ b A c, v = .pointer (some ⟨b, 0, none⟩) ∧ B ≤ b ∧ Var w b 24 (hbC R A c) ∧ Rd w w.heap.size 2 A R.fs.length (fieldsV R.fs)
theorem Rd.grow_any {w w' : World} {sz n B : Nat} {A : Option Addr} {xs : List Value} {row : Option Nat} (h : Rd w B sz A n xs) (hg : w.grownBy w' row) (hr : ∀ g, row = some g → B ≤ g) (hB : B ≤ w.heap.size) : Rd w' w'.heap.size sz A n xs := (h.grown hg hB hr).more (Nat.le_trans hB hg.size)

theorem Hold.put {w : World} {B b base : Nat} {R : HB} {a0 a1 a2 a3 a4 a5 a6 : Value} {A : Option Addr} {c : Nat} (hB : B ≤ b) (hb : b < base) (U : Var w b 24 [a0, a1, a2, a3, a4, a5, a6]) (hrow : Row w base 2 (.slice A R.fs.length c) R.fs.length (fieldsV R.fs)) :
    Hold (((((((w.setCell ⟨b, 0, none⟩ (.bool R.rq)).setCell ⟨b, 1, none⟩ (.string R.m)).setCell ⟨b, 2, none⟩ (.string R.t)).setCell ⟨b, 3, none⟩ (.int .i64 R.st)).setCell ⟨b, 4, none⟩ (.string R.rs)).setCell ⟨b, 5, none⟩ (.int .i64 R.mn)).setCell ⟨b, 6, none⟩ (.slice A R.fs.length c)) B R (.pointer (some ⟨b, 0, none⟩)) := by
  obtain ⟨h1, h2⟩ := set7 U (.bool R.rq) (.string R.m) (.string R.t) (.int .i64 R.st) (.string R.rs) (.int .i64 R.mn) (.slice A R.fs.length c)
  have h3 := hrow.kept h2 (Or.inr (fun e => by have := (hrow.lt _ e).1; omega))
  obtain ⟨_, _, e1, _, _, _, rd⟩ := h3.form
  injection e1 with e1 _ _
  subst e1
  exact ⟨b, _, c, rfl, hB, h1, rd⟩
theorem Hold.new {w : World} {B base : Nat} {R : HB} {A : Option Addr} {c : Nat} (hB : B ≤ w.heap.size) (hrow : Row w base 2 (.slice A R.fs.length c) R.fs.length (fieldsV R.fs)) :
    Hold (w.alloc (.cells (hbC R A c).toArray 24)) B R (.pointer (some ⟨w.heap.size, 0, none⟩)) := by
  obtain ⟨_, _, e1, _, _, _, rd⟩ := (hrow.alloc (.cells (hbC R A c).toArray 24)).form
  injection e1 with e1 _ _
  subst e1
  exact ⟨_, _, c, rfl, hB, Var.new w 24 (hbC R _ c), rd⟩
set_option maxHeartbeats 8000000 in
set_option maxRecDepth 100000 in
theorem rheads_any (rq : Bool) (mt t : ByteArray) (st : Int) (rs : ByteArray) (mn : Int) (A : Option Addr) (n c : Nat) (fs : List Fl) (fr ln : Int) (host : ByteArray) (cl : Bool) (mi : Int) (w : World) (hsh : w.ShapedOpen Tryd.prog) (htab : Tab w) (hA : A = none → n = 0) (hrd : Rd w w.heap.size 2 A n (fieldsV fs))
    (hst : isInt st) (hln : isInt ln) (hn : n ≤ 1048576) (hm : mt.size + t.size + rs.size ≤ 1048576) (hfz : flSize fs ≤ 2097152) (hhs : host.size ≤ 1048576) (hfs : ∀ f ∈ fs, f.1.size ≤ 16777216) (hvs : total (vals fs sConn) ≤ 8388608) :
    Calls Tryd.prog 9 #[.agg #[.bool rq, .string mt, .string t, .int .i64 st, .string rs, .int .i64 mn, .slice A n c, .int .i64 fr, .int .i64 ln, .string host, .bool cl, .int .i64 mi]] w fun e w' => e = .returned (.bool true) ∧ Below w.heap.size w w' := by
  have B1 : Below w.heap.size w (w.alloc (.cells #[.bool rq, .string mt, .string t, .int .i64 st, .string rs, .int .i64 mn, .slice A n c, .int .i64 fr, .int .i64 ln, .string host, .bool cl, .int .i64 mi] 74)) := (Below.refl _ _).alloc (Nat.le_refl _) _
  have R1 := (hrd.below B1).more B1.size
  have V1 := Lib.hid (Var.new w 74 [.bool rq, .string mt, .string t, .int .i64 st, .string rs, .int .i64 mn, .slice A n c, .int .i64 fr, .int .i64 ln, .string host, .bool cl, .int .i64 mi])
  have HR1 := Lib.hid R1
  have HB1 := Lib.hid B1
  have HS0 := Lib.hid hsh
  have HT0 := Lib.hid htab
  have HAW := Lib.hid (vawake_any _ (shaped_below hsh B1) (htab.below B1))
  have HL := Lib.hid (fun W h => vlent_any rq mt t st rs mn A n c fs W hA h (by omega))
  have HRQ := Lib.hid (fun A c W h1 h2 h3 h4 => wRequest_any rq mt t st rs mn A n c fs fr ln host W h1 h2 h3 h4 hln hn hm hfz hhs hfs hvs)
  unfold headV at HL HRQ
  unfold HeadPost hbV headV at HRQ
  obtain ⟨K, hK⟩ : ∃ K, K = reqP ⟨rq, mt, t, st, rs, mn, fs⟩ fr ln host := ⟨_, rfl⟩
  rw [← hK] at HRQ
  have HK := Lib.hid hK
  clear hsh htab hrd B1 R1 hK
  obtain ⟨⟨q0, q1, q2, q3, q4, q5, R2⟩, E⟩ := K
  have hlen : fs.length = n := by have := HR1.out.1; rw [fieldsV_len] at this; omega
  go_enter Tryd.func9, Tryd.ntmps9
  go_upto_region 3 with (first
    | (go_at_call 45; go_must (refine HAW.out.mono ?_; rintro _ w2 ⟨rfl, hb2⟩))
    | fail)
  have z1 := HB1.out.size
  have z2 := hb2.size
  have HB2 := Lib.hid (HB1.out.trans (hb2.mono z1))
  have HS2 : Hid (w2.ShapedOpen Tryd.prog) := Lib.hid (shaped_below HS0.out HB2.out)
  have HT2 := Lib.hid (HT0.out.below HB2.out)
  have HV2 := Lib.hid (V1.out.below_all hb2)
  have HR2 := Lib.hid (HR1.out.keeps hb2)
  have HKK : Hid (∀ w' : World, Below w2.heap.size w2 w' → (Below w2.heap.size w2 w' ∧ w'.cell? ⟨w.heap.size, 0, none⟩ = some (.bool rq) ∧ w'.cell? ⟨w.heap.size, 1, none⟩ = some (.string mt) ∧ w'.cell? ⟨w.heap.size, 2, none⟩ = some (.string t) ∧ w'.cell? ⟨w.heap.size, 3, none⟩ = some (.int .i64 st) ∧ w'.cell? ⟨w.heap.size, 4, none⟩ = some (.string rs) ∧ w'.cell? ⟨w.heap.size, 5, none⟩ = some (.int .i64 mn) ∧ w'.cell? ⟨w.heap.size, 6, none⟩ = some (.slice A n c) ∧ w'.cell? ⟨w.heap.size, 7, none⟩ = some (.int .i64 fr) ∧ w'.cell? ⟨w.heap.size, 8, none⟩ = some (.int .i64 ln) ∧ w'.cell? ⟨w.heap.size, 9, none⟩ = some (.string host) ∧ w'.cell? ⟨w.heap.size, 10, none⟩ = some (.bool cl) ∧ w'.cell? ⟨w.heap.size, 11, none⟩ = some (.int .i64 mi))) := Lib.hid (fun w' hB => by
    have a := HV2.out.below_all hB
    exact ⟨hB, a.cell (j := 0) rfl, a.cell (j := 1) rfl, a.cell (j := 2) rfl, a.cell (j := 3) rfl, a.cell (j := 4) rfl, a.cell (j := 5) rfl, a.cell (j := 6) rfl, a.cell (j := 7) rfl, a.cell (j := 8) rfl, a.cell (j := 9) rfl, a.cell (j := 10) rfl, a.cell (j := 11) rfl⟩)
  clear hb2
  go_cut [3, 4] (fun v3 v4 wx => (v4 = .int .i64 (E : Int) ∧ Hold wx w2.heap.size ⟨q0, q1, q2, q3, q4, q5, R2⟩ v3) ∧ Below w2.heap.size w2 wx)
  case first =>
    go_region_held3 (fun w' => Below w2.heap.size w2 w' ∧ w'.cell? ⟨w.heap.size, 0, none⟩ = some (.bool rq) ∧ w'.cell? ⟨w.heap.size, 1, none⟩ = some (.string mt) ∧ w'.cell? ⟨w.heap.size, 2, none⟩ = some (.string t) ∧ w'.cell? ⟨w.heap.size, 3, none⟩ = some (.int .i64 st) ∧ w'.cell? ⟨w.heap.size, 4, none⟩ = some (.string rs) ∧ w'.cell? ⟨w.heap.size, 5, none⟩ = some (.int .i64 mn) ∧ w'.cell? ⟨w.heap.size, 6, none⟩ = some (.slice A n c) ∧ w'.cell? ⟨w.heap.size, 7, none⟩ = some (.int .i64 fr) ∧ w'.cell? ⟨w.heap.size, 8, none⟩ = some (.int .i64 ln) ∧ w'.cell? ⟨w.heap.size, 9, none⟩ = some (.string host) ∧ w'.cell? ⟨w.heap.size, 10, none⟩ = some (.bool cl) ∧ w'.cell? ⟨w.heap.size, 11, none⟩ = some (.int .i64 mi))
      (first
        | with_reducible exact HKK.out _ hq
        | with_reducible exact HKK.out _ (Below.alloc hq hq.size _)
        | with_reducible exact HKK.out _ (Below.set7 hq hub _ _ _ _ _ _ _)
        | with_reducible exact HKK.out _ ((Below.refl _ _).drew)
        | with_reducible exact HKK.out _ (((Below.refl _ _).alloc (Nat.le_refl _) _).drew)
        | with_reducible exact HKK.out _ (((Below.refl _ _).drew).alloc (Nat.le_refl _) _)
        | fail)
      (first
        | (go_at_call 13; with_reducible (show Calls _ _ _ (World.alloc (World.drew w2) _) _); refine (HL.out _ (Held.rd (by assumption) HR2.out)).mono ?_; rintro _ wx ⟨g, o, cx, rfl, hcx, hrx, hl⟩; have hq := Held.trans (W0 := w2) (by assumption) hl; have rl := Lib.hid (lent_rd hrx); have hqx := Lib.hid hq; have U0 := Lib.hid (Var.below_all (Var.new w2.drew 24 [.bool false, .string ⟨#[]⟩, .string ⟨#[]⟩, .int .i64 0, .string ⟨#[]⟩, .int .i64 0, .slice none 0 0]) hl))
        | (go_at_call 13; with_reducible (show Calls _ _ _ (World.drew (World.alloc w2 _)) _); refine (HL.out _ (Held.rd (by assumption) HR2.out)).mono ?_; rintro _ wx ⟨g, o, cx, rfl, hcx, hrx, hl⟩; have hq := Held.trans (W0 := w2) (by assumption) hl; have rl := Lib.hid (lent_rd hrx); have hqx := Lib.hid hq; have U0 := Lib.hid (Var.below_all (Var.drew (Var.new w2 24 [.bool false, .string ⟨#[]⟩, .string ⟨#[]⟩, .int .i64 0, .string ⟨#[]⟩, .int .i64 0, .slice none 0 0])) hl))
        | (go_at_call 13; refine (HL.out _ (Held.rd (by assumption) HR2.out)).mono ?_; rintro _ wx ⟨g, o, cx, rfl, hcx, hrx, hl⟩; have hq := Held.trans (W0 := w2) (by assumption) hl; have rl := Lib.hid (lent_rd hrx); have hqx := Lib.hid hq)
        | (go_at_call 46; with_reducible (show Calls _ _ _ (World.alloc wx _) _); refine (HRQ.out (some ⟨g, o, none⟩) cx _ (Held.sh (by assumption) HS2.out) (Held.tab (by assumption) HT2.out) (fun e => by cases e) (rl.out.keeps ((Below.refl _ _).alloc (Nat.le_refl _) _))).mono ?_; rintro _ wy ⟨v, rfl, hrow, hl⟩; have hq := Held.trans (W0 := w2) (by assumption) hl; obtain ⟨A5, c5, rfl, _, _, _, rd5⟩ := hrow.form; have U := Lib.hid (Var.below_all (Var.new wx 24 [.bool false, .string ⟨#[]⟩, .string ⟨#[]⟩, .int .i64 0, .string ⟨#[]⟩, .int .i64 0, .slice none 0 0]) hl); have hub := hqx.out.size; have u0 := U.out.cell (j := 0) rfl; have u1 := U.out.cell (j := 1) rfl; have u2 := U.out.cell (j := 2) rfl; have u3 := U.out.cell (j := 3) rfl; have u4 := U.out.cell (j := 4) rfl; have u5 := U.out.cell (j := 5) rfl; have u6 := U.out.cell (j := 6) rfl; have y0 := U.out.frozen 0; have y1 := U.out.frozen 1; have y2 := U.out.frozen 2; have y3 := U.out.frozen 3; have y4 := U.out.frozen 4; have y5 := U.out.frozen 5; have y6 := U.out.frozen 6)
        | (go_at_call 46; refine (HRQ.out (some ⟨g, o, none⟩) cx _ (Held.sh (by assumption) HS2.out) (Held.tab (by assumption) HT2.out) (fun e => by cases e) rl.out).mono ?_; rintro _ wy ⟨v, rfl, hrow, hl⟩; have hq := Held.trans (W0 := w2) (by assumption) hl; obtain ⟨A5, c5, rfl, _, _, _, rd5⟩ := hrow.form; have U := Lib.hid (Var.below_all U0.out hl); have hub := Nat.le_refl w2.heap.size; have u0 := U.out.cell (j := 0) rfl; have u1 := U.out.cell (j := 1) rfl; have u2 := U.out.cell (j := 2) rfl; have u3 := U.out.cell (j := 3) rfl; have u4 := U.out.cell (j := 4) rfl; have u5 := U.out.cell (j := 5) rfl; have u6 := U.out.cell (j := 6) rfl; have y0 := U.out.frozen 0; have y1 := U.out.frozen 1; have y2 := U.out.frozen 2; have y3 := U.out.frozen 3; have y4 := U.out.frozen 4; have y5 := U.out.frozen 5; have y6 := U.out.frozen 6)
        | (go_at_call 46; refine (HRQ.out (some ⟨g, o, none⟩) cx _ (Held.sh (by assumption) HS2.out) (Held.tab (by assumption) HT2.out) (fun e => by cases e) rl.out).mono ?_; rintro _ wy ⟨v, rfl, hrow, hl⟩; have hq := Held.trans (W0 := w2) (by assumption) hl; obtain ⟨A5, c5, rfl, _, _, _, rd5⟩ := hrow.form))
    · have hrw := Lib.hid hrow
      clear hrow rd5
      go_wp2
      go_meet
      exact ⟨⟨rfl, Hold.new (R := ⟨q0, q1, q2, q3, q4, q5, R2⟩) hq.size hrw.out⟩, Below.alloc hq hq.size _⟩
    · have hrw := Lib.hid hrow
      have hbb2 : wx.heap.size < (wx.alloc (.cells #[.bool false, .string ⟨#[]⟩, .string ⟨#[]⟩, .int .i64 0, .string ⟨#[]⟩, .int .i64 0, .slice none 0 0] 24)).heap.size := by rw [heap_alloc_size]; omega
      clear hrow rd5 u0 u1 u2 u3 u4 u5 u6 y0 y1 y2 y3 y4 y5 y6
      go_wp2
      go_meet
      exact ⟨⟨rfl, Hold.put (R := ⟨q0, q1, q2, q3, q4, q5, R2⟩) hub hbb2 U.out hrw.out⟩, Below.set7 hq hub _ _ _ _ _ _ _⟩
    · have hrw := Lib.hid hrow
      have hbb3 := U0.out.lt
      clear hrow rd5 u0 u1 u2 u3 u4 u5 u6 y0 y1 y2 y3 y4 y5 y6
      go_wp2
      go_meet
      exact ⟨⟨rfl, Hold.put (R := ⟨q0, q1, q2, q3, q4, q5, R2⟩) hub hbb3 U.out hrw.out⟩, Below.set7 hq hub _ _ _ _ _ _ _⟩
  case rest =>
    obtain ⟨⟨rfl, hold⟩, hbc⟩ := hcut
    have HO := Lib.hid hold
    have HBC := Lib.hid hbc
    clear hold hbc
    obtain ⟨b3, A3, c3, rfl, hb3, hv3, hr3⟩ := HO.out
    have HS3 := Lib.hid (shaped_below HS2.out HBC.out)
    have HT3 := Lib.hid (HT2.out.below HBC.out)
    clear HO hb3
    go_upto_if 32 with (fail)
    go_cut [] (fun wx => Below wc.heap.size wc wx)
    case first =>
      by_cases he : E = 0
      · subst he
        obtain ⟨hq0, hok⟩ := reqP_ok HK.out.symm
        obtain ⟨g, l, hl, hp, hw, hR⟩ := ok_hd hok
        rw [hq0] at hp
        unfold ofHd at hR
        injection hR with e0 e1 e2 e3 e4 e5 e6
        have hfew := parse_few hp
        subst e0 e1 e2 e3 e4 e5 e6
        dsimp only [hbC] at hv3 hr3
        rw [flB_len] at hv3 hr3
        have HV3 := Lib.hid hv3
        have HR3 := Lib.hid hr3
        clear hv3 hr3
        have HP := Lib.hid hp
        have HW := Lib.hid hw
        clear hp hw hok hq0 HK
        have HL3 := Lib.hid (fun W h => vlent_any g.rq ⟨g.m.toArray⟩ ⟨g.t.toArray⟩ (g.st : Int) ⟨g.rs.toArray⟩ (g.mn : Int) A3 g.fs.length c3 (flB g.fs) W (rd_none HR3.out) h (by omega))
        unfold headV at HL3
        go_upto_region 6 with (first
          | (refine wpList_load_mid rfl 24 (.tmp 3) rfl b3 0 rfl [.bool g.rq, .string ⟨g.m.toArray⟩, .string ⟨g.t.toArray⟩, .int .i64 (g.st : Int), .string ⟨g.rs.toArray⟩, .int .i64 (g.mn : Int), .slice A3 g.fs.length c3] _ HV3.out.range Tryd.underlying24 rfl (by kernel_rfl) ?_)
          | (go_at_call 13; go_must (refine (HL3.out _ HR3.out).mono ?_; rintro _ w4 ⟨g4, o4, c4, rfl, hc4, hr4, hb4⟩; have rl4 := Lib.hid (lent_rd hr4); have HB4 := Lib.hid hb4; clear hr4 hb4))
          | (go_at_call 36; go_must (refine (hWrite_back HP.out HW.out (some ⟨g4, o4, none⟩) c4 _ (shaped_below HS3.out HB4.out) (HT3.out.below HB4.out) rl4.out).mono ?_; rintro _ w5 ⟨A5, c5, rfl, hA5, hr5, hb5⟩))
          | fail)
        have hz4 := HB4.out.size
        have HB5 := Lib.hid (HB4.out.trans (hb5.mono hz4))
        have HV5 := Lib.hid (HV3.out.below_all HB5.out)
        have HR5 := Lib.hid (HR3.out.keeps HB5.out)
        have HS5 := Lib.hid (shaped_below HS3.out HB5.out)
        clear hb5
        go_upto_region 7 with (first
          | (go_at_call 32; go_must (refine (hParse_lit A5 l.length c5 l true _ HS5.out hA5 hr5 (by omega) HP.out).mono ?_; rintro _ w6 ⟨A6, c6, rfl, hrow6, hb6⟩))
          | (refine wpList_put rfl 24 (.tmp 7) (.tmp 42) rfl w6.heap.size rfl (Var.new w6 24 [.bool false, .string ⟨#[]⟩, .string ⟨#[]⟩, .int .i64 0, .string ⟨#[]⟩, .int .i64 0, .slice none 0 0]) [.bool g.rq, .string ⟨g.m.toArray⟩, .string ⟨g.t.toArray⟩, .int .i64 (g.st : Int), .string ⟨g.rs.toArray⟩, .int .i64 (g.mn : Int), .slice A6 g.fs.length c6] rfl rfl (by kernel_rfl) (by simp [Value.oneCell']) ?_; intro w7 hv7 hg7 hs7)
          | fail)
        have hz6 := hb6.size
        have hz7 := put_size hs7
        have hz5 := HB5.out.size
        have b57 : Below w5.heap.size w5 w7 := Below.put hb6 hz6 hg7
        have HB7 := Lib.hid (HB5.out.trans (b57.mono hz5))
        have HV7 := Lib.hid (HV5.out.below_all b57)
        have HG7 := Lib.hid hv7
        have HR7 := Lib.hid (HR5.out.keeps b57)
        have rb7 := hrow6.put hg7
        obtain ⟨_, _, e1, _, _, _, rb⟩ := rb7.form
        injection e1 with e1 _ q1
        subst e1 q1
        clear rb7 b57 hrow6 hb6 hg7 hs7 hv7 hr5
        have HE := Lib.hid (fun W h1 h2 => vsame_any g.rq ⟨g.m.toArray⟩ ⟨g.t.toArray⟩ (g.st : Int) ⟨g.rs.toArray⟩ (g.mn : Int) A3 A6 g.fs.length c3 c6 (flB g.fs) W h1 h2 (by omega))
        unfold headV at HE
        go_wp2_with (first
          | (refine wpList_load_mid_g (by rfl) 24 (.tmp 3) rfl b3 0 rfl [.bool g.rq, .string ⟨g.m.toArray⟩, .string ⟨g.t.toArray⟩, .int .i64 (g.st : Int), .string ⟨g.rs.toArray⟩, .int .i64 (g.mn : Int), .slice A3 g.fs.length c3] _ HV7.out.range Tryd.underlying24 rfl (by kernel_rfl) ?_)
          | (refine wpList_load_mid_g (by rfl) 24 (.tmp 7) rfl w6.heap.size 0 rfl [.bool g.rq, .string ⟨g.m.toArray⟩, .string ⟨g.t.toArray⟩, .int .i64 (g.st : Int), .string ⟨g.rs.toArray⟩, .int .i64 (g.mn : Int), .slice A6 g.fs.length c6] _ HG7.out.range Tryd.underlying24 rfl (by kernel_rfl) ?_)
          | (go_at_call 47; go_must (refine (HE.out _ HR7.out rb).mono ?_; rintro _ w8 ⟨rfl, hb8⟩))
          | fail)
        go_meet
        exact HB7.out.trans (hb8.mono HB7.out.size)
      · have he' : ((E : Int) == 0) = false := by simp [he]
        clear HK hv3 hr3
        go_wp2
        go_meet
        exact Below.refl _ _
    case rest =>
    have HBD := Lib.hid (HBC.out.trans (hcut.mono HBC.out.size))
    clear hcut hv3 hr3 HK HS3 HT3 HBC HRQ HAW HKK
    obtain ⟨wd, rfl⟩ : ∃ wd : World, wd = wc := ⟨_, rfl⟩
    have HSd : Hid (wd.ShapedOpen Tryd.prog) := Lib.hid (shaped_below HS2.out HBD.out)
    have HTd := Lib.hid (HT2.out.below HBD.out)
    have HVd := Lib.hid (HV2.out.below_all HBD.out)
    have HRd := Lib.hid (HR2.out.keeps HBD.out)
    have HZD := Lib.hid (HB2.out.trans (HBD.out.mono HB2.out.size))
    clear HBD HS2 HT2 HV2 HR2 HB2 z2
    have HRS := Lib.hid (fun A c W h1 h2 h3 h4 => wResponse_any rq mt t st rs mn A n c fs fr ln cl mi W h1 h2 h3 h4 hst hln hn hm hfz hfs hvs)
    unfold headV at HRS
    unfold RspPost hbV headV at HRS
    obtain ⟨K, hK⟩ : ∃ K, K = rspP ⟨rq, mt, t, st, rs, mn, fs⟩ fr ln cl mi := ⟨_, rfl⟩
    rw [← hK] at HRS
    have HK := Lib.hid hK
    clear hK
    obtain ⟨⟨⟨p0, p1, p2, p3, p4, p5, Rp⟩, F⟩, G⟩ := K
    have HKd : Hid (∀ w' : World, Below wd.heap.size wd w' → (Below wd.heap.size wd w' ∧ w'.cell? ⟨w.heap.size, 0, none⟩ = some (.bool rq) ∧ w'.cell? ⟨w.heap.size, 1, none⟩ = some (.string mt) ∧ w'.cell? ⟨w.heap.size, 2, none⟩ = some (.string t) ∧ w'.cell? ⟨w.heap.size, 3, none⟩ = some (.int .i64 st) ∧ w'.cell? ⟨w.heap.size, 4, none⟩ = some (.string rs) ∧ w'.cell? ⟨w.heap.size, 5, none⟩ = some (.int .i64 mn) ∧ w'.cell? ⟨w.heap.size, 6, none⟩ = some (.slice A n c) ∧ w'.cell? ⟨w.heap.size, 7, none⟩ = some (.int .i64 fr) ∧ w'.cell? ⟨w.heap.size, 8, none⟩ = some (.int .i64 ln) ∧ w'.cell? ⟨w.heap.size, 9, none⟩ = some (.string host) ∧ w'.cell? ⟨w.heap.size, 10, none⟩ = some (.bool cl) ∧ w'.cell? ⟨w.heap.size, 11, none⟩ = some (.int .i64 mi))) := Lib.hid (fun w' hB => by
      have a := HVd.out.below_all hB
      exact ⟨hB, a.cell (j := 0) rfl, a.cell (j := 1) rfl, a.cell (j := 2) rfl, a.cell (j := 3) rfl, a.cell (j := 4) rfl, a.cell (j := 5) rfl, a.cell (j := 6) rfl, a.cell (j := 7) rfl, a.cell (j := 8) rfl, a.cell (j := 9) rfl, a.cell (j := 10) rfl, a.cell (j := 11) rfl⟩)
    go_upto_region 9 with (fail)
    go_cut [9, 10, 11] (fun v9 v10 v11 wx => ((v10 = .bool G ∧ v11 = .int .i64 (F : Int)) ∧ Hold wx wd.heap.size ⟨p0, p1, p2, p3, p4, p5, Rp⟩ v9) ∧ Below wd.heap.size wd wx)
    case first =>
      go_region_held3 (fun w' => Below wd.heap.size wd w' ∧ w'.cell? ⟨w.heap.size, 0, none⟩ = some (.bool rq) ∧ w'.cell? ⟨w.heap.size, 1, none⟩ = some (.string mt) ∧ w'.cell? ⟨w.heap.size, 2, none⟩ = some (.string t) ∧ w'.cell? ⟨w.heap.size, 3, none⟩ = some (.int .i64 st) ∧ w'.cell? ⟨w.heap.size, 4, none⟩ = some (.string rs) ∧ w'.cell? ⟨w.heap.size, 5, none⟩ = some (.int .i64 mn) ∧ w'.cell? ⟨w.heap.size, 6, none⟩ = some (.slice A n c) ∧ w'.cell? ⟨w.heap.size, 7, none⟩ = some (.int .i64 fr) ∧ w'.cell? ⟨w.heap.size, 8, none⟩ = some (.int .i64 ln) ∧ w'.cell? ⟨w.heap.size, 9, none⟩ = some (.string host) ∧ w'.cell? ⟨w.heap.size, 10, none⟩ = some (.bool cl) ∧ w'.cell? ⟨w.heap.size, 11, none⟩ = some (.int .i64 mi))
        (first
          | with_reducible exact HKd.out _ hq
          | with_reducible exact HKd.out _ (Below.alloc hq hq.size _)
          | with_reducible exact HKd.out _ (Below.set7 hq hub _ _ _ _ _ _ _)
          | with_reducible exact HKd.out _ ((Below.refl _ _).drew)
          | with_reducible exact HKd.out _ (((Below.refl _ _).alloc (Nat.le_refl _) _).drew)
          | with_reducible exact HKd.out _ (((Below.refl _ _).drew).alloc (Nat.le_refl _) _)
          | fail)
        (first
          | (go_at_call 13; with_reducible (show Calls _ _ _ (World.alloc (World.drew wd) _) _); refine (HL.out _ (Held.rd (by assumption) HRd.out)).mono ?_; rintro _ wx ⟨g, o, cx, rfl, hcx, hrx, hl⟩; have hq := Held.trans (W0 := wd) (by assumption) hl; have rl := Lib.hid (lent_rd hrx); have hqx := Lib.hid hq; have U0 := Lib.hid (Var.below_all (Var.new wd.drew 24 [.bool false, .string ⟨#[]⟩, .string ⟨#[]⟩, .int .i64 0, .string ⟨#[]⟩, .int .i64 0, .slice none 0 0]) hl))
          | (go_at_call 13; with_reducible (show Calls _ _ _ (World.drew (World.alloc wd _)) _); refine (HL.out _ (Held.rd (by assumption) HRd.out)).mono ?_; rintro _ wx ⟨g, o, cx, rfl, hcx, hrx, hl⟩; have hq := Held.trans (W0 := wd) (by assumption) hl; have rl := Lib.hid (lent_rd hrx); have hqx := Lib.hid hq; have U0 := Lib.hid (Var.below_all (Var.drew (Var.new wd 24 [.bool false, .string ⟨#[]⟩, .string ⟨#[]⟩, .int .i64 0, .string ⟨#[]⟩, .int .i64 0, .slice none 0 0])) hl))
          | (go_at_call 13; refine (HL.out _ (Held.rd (by assumption) HRd.out)).mono ?_; rintro _ wx ⟨g, o, cx, rfl, hcx, hrx, hl⟩; have hq := Held.trans (W0 := wd) (by assumption) hl; have rl := Lib.hid (lent_rd hrx); have hqx := Lib.hid hq)
          | (go_at_call 48; with_reducible (show Calls _ _ _ (World.alloc wx _) _); refine (HRS.out (some ⟨g, o, none⟩) cx _ (Held.sh (by assumption) HSd.out) (Held.tab (by assumption) HTd.out) (fun e => by cases e) (rl.out.keeps ((Below.refl _ _).alloc (Nat.le_refl _) _))).mono ?_; rintro _ wy ⟨v, rfl, hrow, hl⟩; have hq := Held.trans (W0 := wd) (by assumption) hl; obtain ⟨A5, c5, rfl, _, _, _, rd5⟩ := hrow.form; have U := Lib.hid (Var.below_all (Var.new wx 24 [.bool false, .string ⟨#[]⟩, .string ⟨#[]⟩, .int .i64 0, .string ⟨#[]⟩, .int .i64 0, .slice none 0 0]) hl); have hub := hqx.out.size; have u0 := U.out.cell (j := 0) rfl; have u1 := U.out.cell (j := 1) rfl; have u2 := U.out.cell (j := 2) rfl; have u3 := U.out.cell (j := 3) rfl; have u4 := U.out.cell (j := 4) rfl; have u5 := U.out.cell (j := 5) rfl; have u6 := U.out.cell (j := 6) rfl; have y0 := U.out.frozen 0; have y1 := U.out.frozen 1; have y2 := U.out.frozen 2; have y3 := U.out.frozen 3; have y4 := U.out.frozen 4; have y5 := U.out.frozen 5; have y6 := U.out.frozen 6)
          | (go_at_call 48; refine (HRS.out (some ⟨g, o, none⟩) cx _ (Held.sh (by assumption) HSd.out) (Held.tab (by assumption) HTd.out) (fun e => by cases e) rl.out).mono ?_; rintro _ wy ⟨v, rfl, hrow, hl⟩; have hq := Held.trans (W0 := wd) (by assumption) hl; obtain ⟨A5, c5, rfl, _, _, _, rd5⟩ := hrow.form; have U := Lib.hid (Var.below_all U0.out hl); have hub := Nat.le_refl wd.heap.size; have u0 := U.out.cell (j := 0) rfl; have u1 := U.out.cell (j := 1) rfl; have u2 := U.out.cell (j := 2) rfl; have u3 := U.out.cell (j := 3) rfl; have u4 := U.out.cell (j := 4) rfl; have u5 := U.out.cell (j := 5) rfl; have u6 := U.out.cell (j := 6) rfl; have y0 := U.out.frozen 0; have y1 := U.out.frozen 1; have y2 := U.out.frozen 2; have y3 := U.out.frozen 3; have y4 := U.out.frozen 4; have y5 := U.out.frozen 5; have y6 := U.out.frozen 6)
          | (go_at_call 48; refine (HRS.out (some ⟨g, o, none⟩) cx _ (Held.sh (by assumption) HSd.out) (Held.tab (by assumption) HTd.out) (fun e => by cases e) rl.out).mono ?_; rintro _ wy ⟨v, rfl, hrow, hl⟩; have hq := Held.trans (W0 := wd) (by assumption) hl; obtain ⟨A5, c5, rfl, _, _, _, rd5⟩ := hrow.form))
      · have hrw := Lib.hid hrow
        clear hrow rd5
        go_wp2
        go_meet
        exact ⟨⟨⟨rfl, rfl⟩, Hold.new (R := ⟨p0, p1, p2, p3, p4, p5, Rp⟩) hq.size hrw.out⟩, Below.alloc hq hq.size _⟩
      · have hrw := Lib.hid hrow
        have hbb2 : wx.heap.size < (wx.alloc (.cells #[.bool false, .string ⟨#[]⟩, .string ⟨#[]⟩, .int .i64 0, .string ⟨#[]⟩, .int .i64 0, .slice none 0 0] 24)).heap.size := by rw [heap_alloc_size]; omega
        clear hrow rd5 u0 u1 u2 u3 u4 u5 u6 y0 y1 y2 y3 y4 y5 y6
        go_wp2
        go_meet
        exact ⟨⟨⟨rfl, rfl⟩, Hold.put (R := ⟨p0, p1, p2, p3, p4, p5, Rp⟩) hub hbb2 U.out hrw.out⟩, Below.set7 hq hub _ _ _ _ _ _ _⟩
      · have hrw := Lib.hid hrow
        have hbb3 := U0.out.lt
        clear hrow rd5 u0 u1 u2 u3 u4 u5 u6 y0 y1 y2 y3 y4 y5 y6
        go_wp2
        go_meet
        exact ⟨⟨⟨rfl, rfl⟩, Hold.put (R := ⟨p0, p1, p2, p3, p4, p5, Rp⟩) hub hbb3 U.out hrw.out⟩, Below.set7 hq hub _ _ _ _ _ _ _⟩
    case rest =>
      obtain ⟨⟨⟨rfl, rfl⟩, hold⟩, hbc⟩ := hcut
      have HO := Lib.hid hold
      have HBC := Lib.hid hbc
      have HZB := Lib.hid (HZD.out.trans (hbc.mono HZD.out.size))
      clear hold hbc
      obtain ⟨b3, A3, c3, rfl, hb3, hv3, hr3⟩ := HO.out
      have HS3 := Lib.hid (shaped_below HSd.out HBC.out)
      have HT3 := Lib.hid (HTd.out.below HBC.out)
      clear HO hb3
      go_upto_if 73 with (fail)
      by_cases he : F = 0
      · subst he
        obtain ⟨hq0, hok⟩ := rspP_ok HK.out.symm
        obtain ⟨g, l, hl, hp, hw, hR⟩ := ok_hd hok
        rw [hq0] at hp
        unfold ofHd at hR
        injection hR with e0 e1 e2 e3 e4 e5 e6
        have hfew := parse_few hp
        subst e0 e1 e2 e3 e4 e5 e6
        dsimp only [hbC] at hv3 hr3
        rw [flB_len] at hv3 hr3
        have HV3 := Lib.hid hv3
        have HR3 := Lib.hid hr3
        clear hv3 hr3
        have HP := Lib.hid hp
        have HW := Lib.hid hw
        clear hp hw hok hq0 HK
        have HL3 := Lib.hid (fun W h => vlent_any g.rq ⟨g.m.toArray⟩ ⟨g.t.toArray⟩ (g.st : Int) ⟨g.rs.toArray⟩ (g.mn : Int) A3 g.fs.length c3 (flB g.fs) W (rd_none HR3.out) h (by omega))
        unfold headV at HL3
        go_upto_region 13 with (first
          | (refine wpList_load_mid rfl 24 (.tmp 9) rfl b3 0 rfl [.bool g.rq, .string ⟨g.m.toArray⟩, .string ⟨g.t.toArray⟩, .int .i64 (g.st : Int), .string ⟨g.rs.toArray⟩, .int .i64 (g.mn : Int), .slice A3 g.fs.length c3] _ HV3.out.range Tryd.underlying24 rfl (by kernel_rfl) ?_)
          | (go_at_call 13; go_must (refine (HL3.out _ HR3.out).mono ?_; rintro _ w4 ⟨g4, o4, c4, rfl, hc4, hr4, hb4⟩; have rl4 := Lib.hid (lent_rd hr4); have HB4 := Lib.hid hb4; clear hr4 hb4))
          | (go_at_call 36; go_must (refine (hWrite_back HP.out HW.out (some ⟨g4, o4, none⟩) c4 _ (shaped_below HS3.out HB4.out) (HT3.out.below HB4.out) rl4.out).mono ?_; rintro _ w5 ⟨A5, c5, rfl, hA5, hr5, hb5⟩))
          | fail)
        have hz4 := HB4.out.size
        have HB5 := Lib.hid (HB4.out.trans (hb5.mono hz4))
        have HV5 := Lib.hid (HV3.out.below_all HB5.out)
        have HR5 := Lib.hid (HR3.out.keeps HB5.out)
        have HS5 := Lib.hid (shaped_below HS3.out HB5.out)
        clear hb5
        go_upto_region 14 with (first
          | (go_at_call 32; go_must (refine (hParse_lit A5 l.length c5 l false _ HS5.out hA5 hr5 (by omega) HP.out).mono ?_; rintro _ w6 ⟨A6, c6, rfl, hrow6, hb6⟩))
          | (refine wpList_put rfl 24 (.tmp 14) (.tmp 83) rfl w6.heap.size rfl (Var.new w6 24 [.bool false, .string ⟨#[]⟩, .string ⟨#[]⟩, .int .i64 0, .string ⟨#[]⟩, .int .i64 0, .slice none 0 0]) [.bool g.rq, .string ⟨g.m.toArray⟩, .string ⟨g.t.toArray⟩, .int .i64 (g.st : Int), .string ⟨g.rs.toArray⟩, .int .i64 (g.mn : Int), .slice A6 g.fs.length c6] rfl rfl (by kernel_rfl) (by simp [Value.oneCell']) ?_; intro w7 hv7 hg7 hs7)
          | fail)
        have hz6 := hb6.size
        have hz7 := put_size hs7
        have hz5 := HB5.out.size
        have b57 : Below w5.heap.size w5 w7 := Below.put hb6 hz6 hg7
        have HB7 := Lib.hid (HB5.out.trans (b57.mono hz5))
        have HV7 := Lib.hid (HV5.out.below_all b57)
        have HG7 := Lib.hid hv7
        have HR7 := Lib.hid (HR5.out.keeps b57)
        have rb7 := hrow6.put hg7
        obtain ⟨_, _, e1, _, _, _, rb⟩ := rb7.form
        injection e1 with e1 _ q1
        subst e1 q1
        clear rb7 b57 hrow6 hb6 hg7 hs7 hv7 hr5
        have HE := Lib.hid (fun W h1 h2 => vsame_any g.rq ⟨g.m.toArray⟩ ⟨g.t.toArray⟩ (g.st : Int) ⟨g.rs.toArray⟩ (g.mn : Int) A3 A6 g.fs.length c3 c6 (flB g.fs) W h1 h2 (by omega))
        unfold headV at HE
        go_wp2_with (first
          | (refine wpList_load_mid_g (by rfl) 24 (.tmp 9) rfl b3 0 rfl [.bool g.rq, .string ⟨g.m.toArray⟩, .string ⟨g.t.toArray⟩, .int .i64 (g.st : Int), .string ⟨g.rs.toArray⟩, .int .i64 (g.mn : Int), .slice A3 g.fs.length c3] _ HV7.out.range Tryd.underlying24 rfl (by kernel_rfl) ?_)
          | (refine wpList_load_mid_g (by rfl) 24 (.tmp 14) rfl w6.heap.size 0 rfl [.bool g.rq, .string ⟨g.m.toArray⟩, .string ⟨g.t.toArray⟩, .int .i64 (g.st : Int), .string ⟨g.rs.toArray⟩, .int .i64 (g.mn : Int), .slice A6 g.fs.length c6] _ HG7.out.range Tryd.underlying24 rfl (by kernel_rfl) ?_)
          | (go_at_call 47; go_must (refine (HE.out _ HR7.out rb).mono ?_; rintro _ w8 ⟨rfl, hb8⟩))
          | fail)
        go_ret
        exact ⟨rfl, HZB.out.trans ((HB7.out.trans (hb8.mono HB7.out.size)).mono HZB.out.size)⟩
      · have he' : ((F : Int) != 0) = true := by simp [he]
        clear HK hv3 hr3
        go_wp2
        go_ret
        exact ⟨rfl, HZB.out⟩
end Go.Proofs.YtabecgdaiakgiaaDoor
