/- the law ChunkPieces. Conditions: sizes, the world's shape, the library's table. -/
import Derived.Test.YtabecgdaiakgiaaDoorFed
import Derived.Test.YtabecgdaiakgiaaDoorMAwake
import Derived.Test.YtabecgdaiakgiaaDoorCReads
namespace Go.Proofs.YtabecgdaiakgiaaDoor
open Go.RowKit

set_option maxHeartbeats 2000000 in
set_option maxRecDepth 100000 in
theorem msame_any (X : ByteArray) (m : Int) (D1 D2 : Bool) (A A2 : Option Addr) (T c c2 : Nat) (fs : List Fl) (w : World) (h1 : Rd w w.heap.size 2 A T (fieldsV fs)) (h2 : Rd w w.heap.size 2 A2 T (fieldsV fs)) (hT : T ≤ 16777216) :
    Calls Tryd.prog 28 #[.agg #[.string X, .int .i64 m, .bool D1, .bool D2, .slice A T c], .agg #[.string X, .int .i64 m, .bool D1, .bool D2, .slice A2 T c2]] w fun e w' => e = .returned (.bool true) ∧ Below w.heap.size w w' := by
  have B1 : Below w.heap.size w ((w.alloc (.cells #[.string X, .int .i64 m, .bool D1, .bool D2, .slice A T c] 52)).alloc (.cells #[.string X, .int .i64 m, .bool D1, .bool D2, .slice A2 T c2] 52)) := ((Below.refl _ _).alloc (Nat.le_refl _) _).alloc (by simp) _
  have HM := Lib.hid (mfields_any A A2 T c c2 fs _ (h1.keeps B1) (h2.keeps B1) hT)
  have HB := Lib.hid B1
  clear h1 h2 B1
  go_enter Tryd.func28, Tryd.ntmps28
  go_wp2_with (first
    | (go_at_call 30; (refine HM.out.mono ?_; rintro _ w2 ⟨rfl, hb2⟩))
    | fail)
  go_ret
  exact ⟨rfl, HB.out.trans (hb2.mono HB.out.size)⟩
theorem fed_form {w w' : World} {s : Chunk.St} {o : Bs} {m q : Nat} {e : Ending} (h : FedPost w (s, o, m, q) e w') : ∃ A c, e = .returned (.tuple #[.agg #[.string ⟨o.toArray⟩, .int .i64 (m : Int), .bool (decide (q = 1)), .bool (decide (q = 2)), .slice A (trL (s, o, m, q)).length c], .bool true]) ∧ Rd w' w'.heap.size 2 A (trL (s, o, m, q)).length (fieldsV (flB (trL (s, o, m, q)))) ∧ Below w.heap.size w w' := by
  obtain ⟨v, rfl, hr, hb⟩ := h
  obtain ⟨A, c, rfl, _, _, _, rd⟩ := hr.form
  exact ⟨A, c, rfl, rd, hb⟩
set_option maxHeartbeats 8000000 in
set_option maxRecDepth 100000 in
theorem cpieces_any (A : Option Addr) (n c : Nat) (l : Bs) (A1 : Option Addr) (n1 c1 : Nat) (z1 : List Int) (A2 : Option Addr) (n2 c2 : Nat) (z2 : List Int) (w : World) (hsh : w.ShapedOpen Tryd.prog) (ht : Tz w) (hnc : n ≤ c) (hA : A = none → n = 0) (hrd : Rd w w.heap.size 1 A n (bytesV l))
    (hrd1 : Rd w w.heap.size 1 A1 n1 (intsV z1)) (hn1 : n1 ≤ 16777216) (hz1 : ∀ z ∈ z1, -9223372036854775808 ≤ z ∧ z ≤ 9223372036854775807) (hrd2 : Rd w w.heap.size 1 A2 n2 (intsV z2)) (hn2 : n2 ≤ 16777216) (hz2 : ∀ z ∈ z2, -9223372036854775808 ≤ z ∧ z ≤ 9223372036854775807) (hn : n ≤ 1048576) :
    Calls Tryd.prog 5 #[.slice A n c, .slice A1 n1 c1, .slice A2 n2 c2] w fun e w' => e = .returned (.bool true) ∧ Below w.heap.size w w' := by
  have hlen : l.length = n := by have := hrd.1; rw [bytesV_len] at this; omega
  have HA := Lib.hid hA
  have HS := Lib.hid hsh
  have HR := Lib.hid hrd
  have HR1 := Lib.hid hrd1
  have HR2 := Lib.hid hrd2
  have HZ1 := Lib.hid hz1
  have HZ2 := Lib.hid hz2
  have HAW := Lib.hid (mawake_any w hsh ht)
  have HLEN := Lib.hid hlen
  clear hsh ht hrd hrd1 hrd2 hA hz1 hz2 hlen
  go_enter Tryd.func5, Tryd.ntmps5
  go_upto_region 3 with (first
    | (go_at_call 21; go_must (refine HAW.out.mono ?_; rintro _ w1 ⟨rfl, hb1⟩))
    | fail)
  have HB1 := Lib.hid hb1
  clear hb1
  by_cases hbig : 20000 < n
  · go_wp2
    go_ret
    exact ⟨rfl, HB1.out⟩
  have HF := Lib.hid (fun (A' : Option Addr) (n' c' : Nat) (zs : List Int) (W : World) (hb : Below w.heap.size w W) (h1 : Rd w w.heap.size 1 A' n' (intsV zs)) (h2 : n' ≤ 16777216) (h3 : ∀ z ∈ zs, -9223372036854775808 ≤ z ∧ z ≤ 9223372036854775807) =>
    mfed_any A n c l A' n' c' zs W (shaped_below HS.out hb) hnc HA.out ((HR.out.below hb).more hb.size) (by omega) ((h1.below hb).more hb.size) h2 h3)
  have HD : Hid (∀ (o c' : Nat) (g : Nat) (W : World), W.ShapedOpen Tryd.prog → n ≤ c' → Rd W W.heap.size 1 (some ⟨g, o, none⟩) n (bytesV l) → Calls Tryd.prog 22 #[.slice (some ⟨g, o, none⟩) n c'] W (DecPost W (decP l))) := Lib.hid (fun o c' g W h1 h2 h3 => decode_any (some ⟨g, o, none⟩) n c' l W h1 (by omega) h2 (fun e => by cases e) h3)
  have hdp : decP l = if (Chunk.feed {} l 0 []).2.2.2 = 2 then ([], [], 0, 230) else if (Chunk.feed {} l 0 []).2.2.2 = 1 then ((Chunk.feed {} l 0 []).2.1, (Chunk.feed {} l 0 []).1.trailers, (Chunk.feed {} l 0 []).2.2.1, 0) else ([], [], 0, 10) := rfl
  have hkd := Chunk.feed_kind' l {}
  have hmo := Chunk.feed_more l {}
  have hol := Chunk.feed_out_le l {}
  have hok := Chunk.feed_ok l {} 0 Chunk.Ok.init
  obtain ⟨⟨s, o, m, q⟩, hR⟩ : ∃ R, R = Chunk.feed {} l 0 [] := ⟨_, rfl⟩
  rw [← hR] at HF hkd hmo hdp hol hok
  dsimp only at hkd hmo hdp hol hok
  rw [HLEN.out] at hol hmo
  have hT : (trL (s, o, m, q)).length ≤ 64 := by
    unfold trL
    dsimp only
    split
    · exact (hok (by omega)).trailers
    · simp
  have HFF : Hid (∀ (A' : Option Addr) (n' c' : Nat) (zs : List Int) (W : World) (_ : Below w.heap.size w W) (_ : Rd w w.heap.size 1 A' n' (intsV zs)) (_ : n' ≤ 16777216) (_ : ∀ z ∈ zs, -9223372036854775808 ≤ z ∧ z ≤ 9223372036854775807),
    Calls Tryd.prog 27 #[.slice A n c, .slice A' n' c'] W fun e w' => ∃ A c, e = .returned (.tuple #[.agg #[.string ⟨o.toArray⟩, .int .i64 (m : Int), .bool (decide (q = 1)), .bool (decide (q = 2)), .slice A (trL (s, o, m, q)).length c], .bool true]) ∧ Rd w' w'.heap.size 2 A (trL (s, o, m, q)).length (fieldsV (flB (trL (s, o, m, q)))) ∧ Below W.heap.size W w') :=
    Lib.hid (fun A' n' c' zs W h1 h2 h3 h4 => (HF.out A' n' c' zs W h1 h2 h3 h4).mono fun e w' h => fed_form h)
  have HTR : Hid (q = 1 → trL (s, o, m, q) = s.trailers) := Lib.hid (fun e => by unfold trL; dsimp only; rw [if_pos e])
  obtain ⟨T, hTe⟩ : ∃ T, T = (trL (s, o, m, q)).length := ⟨_, rfl⟩
  obtain ⟨F, hFe⟩ : ∃ F, F = flB (trL (s, o, m, q)) := ⟨_, rfl⟩
  rw [← hTe, ← hFe] at HFF
  rw [← hTe] at hT
  obtain ⟨X, hX⟩ : ∃ X : ByteArray, X = ⟨o.toArray⟩ := ⟨_, rfl⟩
  obtain ⟨D1, hD1⟩ : ∃ D1, D1 = decide (q = 1) := ⟨_, rfl⟩
  obtain ⟨D2, hD2⟩ : ∃ D2, D2 = decide (q = 2) := ⟨_, rfl⟩
  rw [← hX, ← hD1, ← hD2] at HFF
  have HKD := Lib.hid hkd
  have HMO := Lib.hid hmo
  have HDP := Lib.hid hdp
  have HXX := Lib.hid hX
  have HDD := Lib.hid (And.intro hD1 hD2)
  have HTF := Lib.hid (And.intro hTe hFe)
  clear HF hkd hmo hdp hok hR hTe hFe hX hD1 hD2
  go_upto_region 6 with (first
    | (go_at_call 27; go_must (refine (HFF.out A1 n1 c1 z1 _ HB1.out HR1.out hn1 HZ1.out).mono ?_; rintro _ wp1 ⟨A7, c7, rfl, hr7, hb7⟩))
    | fail)
  have V7 := Lib.hid (Var.new wp1 52 [.string X, .int .i64 (m : Int), .bool D1, .bool D2, .slice A7 T c7])
  have HC7 : Hid (Below w1.heap.size w1 (wp1.alloc (.cells #[.string X, .int .i64 (m : Int), .bool D1, .bool D2, .slice A7 T c7] 52))) := Lib.hid (hb7.alloc hb7.size _)
  have HB7 := Lib.hid (HB1.out.trans (HC7.out.mono HB1.out.size))
  have HR7 := Lib.hid (hr7.keeps ((Below.refl _ _).alloc (Nat.le_refl _) (.cells #[.string X, .int .i64 (m : Int), .bool D1, .bool D2, .slice A7 T c7] 52)))
  obtain ⟨b7, hbe7⟩ : ∃ b7, b7 = wp1.heap.size := ⟨_, rfl⟩
  rw [← hbe7] at V7 ⊢
  obtain ⟨w7, hw7⟩ : ∃ w7 : World, w7 = wp1.alloc (.cells #[.string X, .int .i64 (m : Int), .bool D1, .bool D2, .slice A7 T c7] 52) := ⟨_, rfl⟩
  change Hid (Var (wp1.alloc (.cells #[.string X, .int .i64 (m : Int), .bool D1, .bool D2, .slice A7 T c7] 52)) b7 52 [.string X, .int .i64 (m : Int), .bool D1, .bool D2, .slice A7 T c7]) at V7
  rw [← hw7] at V7 HB7 HC7 HR7 ⊢
  clear hw7 hbe7 hb7 hr7
  go_upto_region 7 with (first
    | (go_at_call 27; go_must (refine (HFF.out A2 n2 c2 z2 _ HB7.out HR2.out hn2 HZ2.out).mono ?_; rintro _ wp2 ⟨A9, c9, rfl, hr9, hb9⟩))
    | fail)
  have V9 := Lib.hid (Var.new wp2 52 [.string X, .int .i64 (m : Int), .bool D1, .bool D2, .slice A9 T c9])
  have HC9 : Hid (Below w7.heap.size w7 (wp2.alloc (.cells #[.string X, .int .i64 (m : Int), .bool D1, .bool D2, .slice A9 T c9] 52))) := Lib.hid (hb9.alloc hb9.size _)
  have HB9 := Lib.hid (HB7.out.trans (HC9.out.mono HB7.out.size))
  have HR9 := Lib.hid (hr9.keeps ((Below.refl _ _).alloc (Nat.le_refl _) (.cells #[.string X, .int .i64 (m : Int), .bool D1, .bool D2, .slice A9 T c9] 52)))
  obtain ⟨b9, hbe9⟩ : ∃ b9, b9 = wp2.heap.size := ⟨_, rfl⟩
  rw [← hbe9] at V9 ⊢
  obtain ⟨w9, hw9⟩ : ∃ w9 : World, w9 = wp2.alloc (.cells #[.string X, .int .i64 (m : Int), .bool D1, .bool D2, .slice A9 T c9] 52) := ⟨_, rfl⟩
  change Hid (Var (wp2.alloc (.cells #[.string X, .int .i64 (m : Int), .bool D1, .bool D2, .slice A9 T c9] 52)) b9 52 [.string X, .int .i64 (m : Int), .bool D1, .bool D2, .slice A9 T c9]) at V9
  rw [← hw9] at V9 HB9 HC9 HR9 ⊢
  clear hw9 hbe9 hb9 hr9
  have V79 := Lib.hid (V7.out.below_all HC9.out)
  have R79 := Lib.hid (HR7.out.keeps HC9.out)
  go_upto_region 8 with (first
    | (go_at_call 27; go_must (refine (HFF.out none 0 0 [] _ HB9.out (Rd.nil _ _ _ _) (by omega) (by intro z hz; cases hz)).mono ?_; rintro _ wp3 ⟨A11, c11, rfl, hr11, hb11⟩))
    | fail)
  have V11 := Lib.hid (Var.new wp3 52 [.string X, .int .i64 (m : Int), .bool D1, .bool D2, .slice A11 T c11])
  have HC11 : Hid (Below w9.heap.size w9 (wp3.alloc (.cells #[.string X, .int .i64 (m : Int), .bool D1, .bool D2, .slice A11 T c11] 52))) := Lib.hid (hb11.alloc hb11.size _)
  have HB11 := Lib.hid (HB9.out.trans (HC11.out.mono HB9.out.size))
  have HR11 := Lib.hid (hr11.keeps ((Below.refl _ _).alloc (Nat.le_refl _) (.cells #[.string X, .int .i64 (m : Int), .bool D1, .bool D2, .slice A11 T c11] 52)))
  obtain ⟨b11, hbe11⟩ : ∃ b11, b11 = wp3.heap.size := ⟨_, rfl⟩
  rw [← hbe11] at V11 ⊢
  obtain ⟨w11, hw11⟩ : ∃ w11 : World, w11 = wp3.alloc (.cells #[.string X, .int .i64 (m : Int), .bool D1, .bool D2, .slice A11 T c11] 52) := ⟨_, rfl⟩
  change Hid (Var (wp3.alloc (.cells #[.string X, .int .i64 (m : Int), .bool D1, .bool D2, .slice A11 T c11] 52)) b11 52 [.string X, .int .i64 (m : Int), .bool D1, .bool D2, .slice A11 T c11]) at V11
  rw [← hw11] at V11 HB11 HC11 HR11 ⊢
  clear hw11 hbe11 hb11 hr11
  have V7 := Lib.hid (V79.out.below_all HC11.out)
  have R7 := Lib.hid (R79.out.keeps HC11.out)
  have V9' := Lib.hid (V9.out.below_all HC11.out)
  have R9 := Lib.hid (HR9.out.keeps HC11.out)
  clear V79 R79 HR7 HR9 HC7 HC9 HC11 HR1 HR2 HZ1 HZ2 HFF HB1 HB7 HB9 V9
  have HM1 := Lib.hid (msame_any X m D1 D2 A7 A9 T c7 c9 F w11 R7.out R9.out (by omega))
  have HM2 := Lib.hid (fun W (h : Below w11.heap.size w11 W) => msame_any X m D1 D2 A7 A11 T c7 c11 F W (R7.out.keeps h) (HR11.out.keeps h) (by omega))
  have HL := Lib.hid (fun W h => mlent_any A n c l W HA.out h (by omega))
  go_wp2_with (first
    | (refine wpList_load_mid_g (by rfl) 52 (.tmp 7) rfl b7 0 rfl [.string X, .int .i64 (m : Int), .bool D1, .bool D2, .slice A7 T c7] _ V7.out.range Tryd.underlying52 rfl (by kernel_rfl) ?_)
    | (refine wpList_load_mid_g (by rfl) 52 (.tmp 9) rfl b9 0 rfl [.string X, .int .i64 (m : Int), .bool D1, .bool D2, .slice A9 T c9] _ V9'.out.range Tryd.underlying52 rfl (by kernel_rfl) ?_)
    | fail)
  go_at_call 28
  refine HM1.out.mono ?_
  rintro _ wq ⟨rfl, hbq⟩
  have V7q := Lib.hid (V7.out.below_all hbq)
  have V11q := Lib.hid (V11.out.below_all hbq)
  go_wp2_with (first
    | (refine wpList_load_mid_g (by rfl) 52 (.tmp 7) rfl b7 0 rfl [.string X, .int .i64 (m : Int), .bool D1, .bool D2, .slice A7 T c7] _ V7q.out.range Tryd.underlying52 rfl (by kernel_rfl) ?_)
    | (refine wpList_load_mid_g (by rfl) 52 (.tmp 11) rfl b11 0 rfl [.string X, .int .i64 (m : Int), .bool D1, .bool D2, .slice A11 T c11] _ V11q.out.range Tryd.underlying52 rfl (by kernel_rfl) ?_)
    | fail)
  go_at_call 28
  refine (HM2.out _ hbq).mono ?_
  rintro _ wr ⟨rfl, hbr⟩
  have HBR := Lib.hid (hbq.trans (hbr.mono hbq.size))
  have HBW := Lib.hid (HB11.out.trans (HBR.out.mono HB11.out.size))
  have V7r := Lib.hid (V7.out.below_all HBR.out)
  have R7r := Lib.hid (R7.out.keeps HBR.out)
  clear hbq hbr V7q V11q HM1 HM2 V7 V9' V11 R7 R9 HR11 HBR
  have HSr : Hid (wr.ShapedOpen Tryd.prog) := Lib.hid (shaped_below HS.out HBW.out)
  have HRr := Lib.hid ((HR.out.below HBW.out).more HBW.out.size)
  have HE0 : Hid ((l ++ [201, 202]).take n = l) := Lib.hid (by rw [← HLEN.out]; exact List.take_left)
  obtain ⟨hD1, hD2⟩ := HDD.out
  obtain ⟨hTe, hFe⟩ := HTF.out
  rcases HKD.out with e | e | e
  · subst e
    obtain rfl : D1 = false := by rw [hD1]; rfl
    obtain rfl : D2 = false := by rw [hD2]; rfl
    obtain rfl : m = n := HMO.out rfl
    rw [HDP.out, if_neg (by decide), if_neg (by decide)] at HD
    clear hD1 hD2 hTe hFe
    (go_upto_region 11 with (first
       | (go_at_call 29; go_must (refine (HL.out _ HRr.out).mono ?_; rintro _ ws ⟨g, o1, c1', rfl, hc1, hm1, hrow1, hbs⟩; have hrl := (fed_rdn hrow1).pre (k := m) (by omega); rw [Nat.mul_one, bytesV_take, HE0.out] at hrl))
       | (go_at_call 22; go_must (refine (HD.out o1 c1' g _ (shaped_below HSr.out hbs) (by omega) hrl).mono ?_; rintro _ wt ⟨vo, vt, rfl, hro, hrt, _, hbt⟩))
       | fail))
    have a3 := (V7r.out.below_all (hbs.trans (hbt.mono hbs.size))).cell (j := 3) rfl
    have a2 := (V7r.out.below_all (hbs.trans (hbt.mono hbs.size))).cell (j := 2) rfl
    have a1 := (V7r.out.below_all (hbs.trans (hbt.mono hbs.size))).cell (j := 1) rfl
    go_wp2
    go_ret
    exact ⟨rfl, HBW.out.trans ((hbs.trans (hbt.mono hbs.size)).mono HBW.out.size)⟩
  · subst e
    obtain rfl : D1 = true := by rw [hD1]; rfl
    obtain rfl : D2 = false := by rw [hD2]; rfl
    rw [HDP.out, if_neg (by decide), if_pos (by decide)] at HD
    have hts := HTR.out rfl
    rw [hts] at hTe hFe
    have hTF : T = s.trailers.length := hTe
    have HTF2 := Lib.hid (And.intro hTF hFe)
    clear hD1 hD2 hTe hFe hts hTF
    (go_upto_region 11 with (first
       | (go_at_call 29; go_must (refine (HL.out _ HRr.out).mono ?_; rintro _ ws ⟨g, o1, c1', rfl, hc1, hm1, hrow1, hbs⟩; have hrl := (fed_rdn hrow1).pre (k := n) (by omega); rw [Nat.mul_one, bytesV_take, HE0.out] at hrl))
       | (go_at_call 22; go_must (refine (HD.out o1 c1' g _ (shaped_below HSr.out hbs) (by omega) hrl).mono ?_; rintro _ wt ⟨vo, vt, rfl, hro, hrt, _, hbt⟩))
       | fail))
    have hb := hbs.trans (hbt.mono hbs.size)
    have a3 := (V7r.out.below_all hb).cell (j := 3) rfl
    have a2 := (V7r.out.below_all hb).cell (j := 2) rfl
    have a1 := (V7r.out.below_all hb).cell (j := 1) rfl
    have a0 := (V7r.out.below_all hb).cell (j := 0) rfl
    have a4 := (V7r.out.below_all hb).cell (j := 4) rfl
    have R7t := R7r.out.keeps hb
    obtain ⟨Ao, co, rfl, _, _, _, _⟩ := RowB.form hro
    obtain ⟨At, ct, rfl, _, _, _, rdt⟩ := hrt.form
    have v1 := conv_row hro
    rw [← HXX.out] at v1
    rw [← HTF2.out.2, ← HTF2.out.1] at rdt
    have HMF := Lib.hid (mfields_any At A7 T ct c7 F wt rdt R7t (by omega))
    have hTl : s.trailers.length = T := HTF2.out.1.symm
    obtain ⟨nt, hnt⟩ : ∃ nt, nt = s.trailers.length := ⟨_, rfl⟩
    rw [← hnt] at hTl ⊢
    subst hTl
    clear rdt R7t hro hrt hbt hnt
    have HB := Lib.hid hb
    clear hb hbs
    go_wp2_with (first
      | (go_at_call 30; go_must (refine HMF.out.mono ?_; rintro _ wv ⟨rfl, hbv⟩))
      | fail)
    go_ret
    exact ⟨rfl, HBW.out.trans ((HB.out.trans (hbv.mono HB.out.size)).mono HBW.out.size)⟩
  · subst e
    obtain rfl : D1 = false := by rw [hD1]; rfl
    obtain rfl : D2 = true := by rw [hD2]; rfl
    rw [HDP.out, if_pos (by decide)] at HD
    clear hD1 hD2 hTe hFe
    (go_upto_region 11 with (first
       | (go_at_call 29; go_must (refine (HL.out _ HRr.out).mono ?_; rintro _ ws ⟨g, o1, c1', rfl, hc1, hm1, hrow1, hbs⟩; have hrl := (fed_rdn hrow1).pre (k := n) (by omega); rw [Nat.mul_one, bytesV_take, HE0.out] at hrl))
       | (go_at_call 22; go_must (refine (HD.out o1 c1' g _ (shaped_below HSr.out hbs) (by omega) hrl).mono ?_; rintro _ wt ⟨vo, vt, rfl, hro, hrt, _, hbt⟩))
       | fail))
    have a3 := (V7r.out.below_all (hbs.trans (hbt.mono hbs.size))).cell (j := 3) rfl
    go_wp2
    go_ret
    exact ⟨rfl, HBW.out.trans ((hbs.trans (hbt.mono hbs.size)).mono HBW.out.size)⟩
end Go.Proofs.YtabecgdaiakgiaaDoor
