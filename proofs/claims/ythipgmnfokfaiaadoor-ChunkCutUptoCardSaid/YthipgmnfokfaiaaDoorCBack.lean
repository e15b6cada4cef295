/- the law ChunkBack. Conditions: sizes, the world's shape, the library's table. -/
import Derived.Test.YthipgmnfokfaiaaDoorMWritten
namespace Go.Proofs.YthipgmnfokfaiaaDoor
open Go.RowKit

/-- bytes lent, as a row that may be appended to -/
theorem lent_row {w : World} {base g o c : Nat} {l : Bs} (h : Row w base 1 (.slice (some ⟨g, o, none⟩) (l.length + 2) c) (l.length + 2) (bytesV (l ++ [201, 202]))) : RowB w base (.slice (some ⟨g, o, none⟩) l.length c) l := by
  have h1 := Row.head h (k := l.length) (by omega)
  rw [Nat.mul_one, bytesV_take, List.take_left] at h1
  exact h1
theorem decP_written (ps : List Bs) (fs : List (Bs × Bs)) (t : Bs) (hm : ∀ p ∈ ps, p.length ≤ Chunk.most) (hok : Chunk.okFs fs 0 0 = true) :
    decP (Chunk.chunks ps ++ Chunk.lastB fs ++ t) = (joinB ps, fs, (Chunk.chunks ps ++ Chunk.lastB fs).length, 0) := by
  rw [decP_read, Chunk.readOf_written ps fs t hm hok]; rfl
theorem lastP_nil : Chunk.lastP [] = ([48, 13, 10, 13, 10], 0) := by decide +kernel
theorem okFs_nil : Chunk.okFs [] 0 0 = true := rfl
theorem lastB_nil : Chunk.lastB [] = [48, 13, 10, 13, 10] := rfl

set_option maxHeartbeats 8000000 in
set_option maxRecDepth 100000 in
theorem cback_any (A : Option Addr) (n c : Nat) (ps : List Bs) (A2 : Option Addr) (n2 c2 : Nat) (fs : List Fl) (A3 : Option Addr) (n3 c3 : Nat) (l3 : Bs) (w : World) (hsh : w.ShapedOpen Tryd.prog) (ht : Tz w) (hp : Pcs w w.heap.size A n ps) (hsz : sizes ps ≤ 1048576) (hn : n ≤ 1048576)
    (hA2 : A2 = none → n2 = 0) (hrd2 : Rd w w.heap.size 2 A2 n2 (fieldsV fs)) (hn2 : n2 ≤ 1048576) (hf : fSize fs ≤ 16777216) (hA3 : A3 = none → n3 = 0) (hrd3 : Rd w w.heap.size 1 A3 n3 (bytesV l3)) (hn3 : n3 ≤ 1048576) :
    Calls Tryd.prog 11 #[.slice A n c, .slice A2 n2 c2, .slice A3 n3 c3] w fun e w' => e = .returned (.bool true) ∧ Below w.heap.size w w' := by
  have hlen2 : fs.length = n2 := by have := hrd2.1; rw [fieldsV_len] at this; omega
  have hlen3 : l3.length = n3 := by have := hrd3.1; rw [bytesV_len] at this; omega
  have hpl := hp.len
  have HP := Lib.hid hp
  have HS := Lib.hid hsh
  have HT := Lib.hid ht
  have h5 := ht.lt
  have HR2 := Lib.hid hrd2
  have HR3 := Lib.hid hrd3
  have HL2 := Lib.hid hlen2
  have HL3 := Lib.hid hlen3
  have HM := Lib.hid (most_small (ps := ps) (by omega))
  have hcl : (Chunk.chunks ps).length ≤ 16777216 := by have := chunks_len ps HM.out; omega
  have hlb : (Chunk.lastB (upF fs)).length ≤ 16777221 := by rw [Chunk.lastB_len, linesF_len]; omega
  clear hp hsh ht hrd2 hrd3 hlen2 hlen3
  go_enter Tryd.func11, Tryd.ntmps11
  go_upto_region 3 with (first
    | (go_at_call 44; go_must (refine (mawake_any _ HS.out HT.out).mono ?_; rintro _ w1 ⟨rfl, hb1⟩))
    | fail)
  have hz1 := hb1.size
  have HB1 := Lib.hid hb1
  have hp1 : Pcs w1 w1.heap.size A n ps := by
    have h := HP.out.below hb1
    exact ⟨h.len, fun k hk => by
      obtain ⟨g, o, a, c, e, hg, hc, h1, h2, h3⟩ := h.get k hk
      exact ⟨g, o, a, c, e, by omega, hc, h1, h2, h3.more hz1⟩⟩
  have HW1 := mwritten_any A n c ps A2 n2 c2 fs w1 (shaped_below HS.out hb1) (HT.out.below hb1 h5) hp1 hsz hn hA2 (HR2.out.keeps hb1) hn2 (by omega)
  have HLP : Hid (Chunk.lastP (upF fs) = if Chunk.okFs (upF fs) 0 0 = true then (Chunk.lastB (upF fs), 0) else ([], 2)) := Lib.hid rfl
  cases hok : Chunk.okFs (upF fs) 0 0
  · rw [hok] at HW1
    have HW1 := Lib.hid HW1
    clear hp1 hb1
    go_wp2_with (first
      | (go_at_call 52; go_must (refine HW1.out.mono ?_; rintro _ w2 ⟨vo, va, rfl, hro, hra, hb2⟩))
      | fail)
    go_ret
    exact ⟨rfl, HB1.out.trans (hb2.mono hz1)⟩
  · rw [HLP.out, hok, if_pos rfl] at HW1
    have HW1 := Lib.hid HW1
    have HDP := Lib.hid (fun t => decP_written ps (upF fs) t HM.out hok)
    clear hp1 hb1 HLP hok
    have hbl : (Chunk.chunks ps ++ Chunk.lastB (upF fs)).length ≤ 33554440 := by rw [List.length_append]; omega
    generalize Chunk.chunks ps ++ Chunk.lastB (upF fs) = Bb at HW1 HDP hbl
    go_upto_region 4 with (first
      | (go_at_call 52; go_must (refine HW1.out.mono ?_; rintro _ w2 ⟨vo, va, rfl, hro, hra, hb2⟩))
      | fail)
    have hz2 := hb2.size
    have HB2 := Lib.hid (HB1.out.trans (hb2.mono hz1))
    obtain ⟨Ao, co, rfl, _, _, hAo, hrb⟩ := hro.form
    obtain ⟨Aa, ca, rfl, _, _, _, _⟩ := hra.form
    have HRA := Lib.hid hra
    have HRO := Lib.hid hro
    have hz02 := HB2.out.size
    clear hb2 hro hra
    obtain ⟨T1, hT1⟩ : ∃ T1, T1 = Bb ++ l3 := ⟨_, rfl⟩
    have HT1 := Lib.hid hT1
    have hln4 : T1.length ≤ 100000000 := by have := HL3.out; rw [hT1, List.length_append]; omega
    have HD0 := Lib.hid (HDP.out l3)
    rw [← hT1] at HD0
    clear hT1
    go_upto_region 7 with (first
      | (go_at_call 27; go_must (refine (mlent_any Ao Bb.length co Bb _ (fun e => (hAo e).1) hrb (by omega)).mono ?_; rintro _ w3 ⟨g3, o3, c5, rfl, hc5, hm5, hrow3, hb3⟩; have B3 := HB2.out.trans (hb3.mono hz02)))
      | (at_builtin; (refine wpList_appB (L := Bb) (M := l3) rfl (.tmp 31) (.tmp 32) 35 rfl w2.heap.size rfl (lent_row hrow3) rfl (SrcB.slice ((HR3.out.below B3).more B3.size) hA3) (by have := HL3.out; omega) hb3.size ?_); go_must (intro v4 w4 hrow4 hbb4 hg4 hv4; rw [← HT1.out] at hrow4; have hb4 := hb3.trans hbb4; have hz4 := hb4.size; obtain ⟨A4, c4, rfl, hc4, _, hA4, hr4⟩ := RowB.form hrow4; have HD4 := decode_any A4 T1.length c4 T1 w4 (shaped_below HS.out (HB2.out.trans (hb4.mono hz02))) hln4 hc4 (fun e => (hA4 e).1) hr4; rw [HD0.out] at HD4; have HD4 := Lib.hid HD4; have HB4 := Lib.hid hb4; clear hrow3 hb3 B3 hrow4 hbb4 hg4 hv4 hb4 hr4))
      | (go_at_call 36; go_must (refine HD4.out.mono ?_; rintro _ w6 ⟨vo6, vt6, rfl, hro6, hrt6, hap6, hb6⟩))
      | fail)
    have hz6 := hb6.size
    have HB6 : Hid (Below w2.heap.size w2 w6) := Lib.hid (HB4.out.trans (hb6.mono hz4))
    have R6 := HRA.out.below_all HB6.out
    obtain ⟨A6, c6, rfl, _, _, _, _⟩ := RowB.form hro6
    obtain ⟨T6, k6, rfl, _, _, _, hrt⟩ := hrt6.form
    have v1 := conv_row R6
    have v2 := conv_row hro6
    have hrf := (HR2.out.below (HB2.out.trans (HB6.out.mono hz02))).more (by have := HB6.out.size; omega : w.heap.size ≤ w6.heap.size)
    have hup : (upF fs).length = n2 := by unfold upF; rw [List.length_map]; exact HL2.out
    rw [flB_upF] at hrt
    rw [hup] at hrt ⊢
    clear hap6 hb6 HD4 HD0 hup
    go_upto_region 9 with (first
      | (go_at_call 31; go_must (refine (mfields_any T6 A2 n2 k6 c2 fs _ hrt hrf (by omega)).mono ?_; rintro _ w7 ⟨rfl, hb7⟩))
      | fail)
    have hz7 := hb7.size
    have HB7 : Hid (Below w2.heap.size w2 w7) := Lib.hid (HB6.out.trans (hb7.mono HB6.out.size))
    have hz27 := HB7.out.size
    have HB07 := Lib.hid (HB2.out.trans (HB7.out.mono hz02))
    have hp7 : Pcs w7 w7.heap.size A n ps := by
      have h := HP.out.below HB07.out
      exact ⟨h.len, fun k hk => by
        obtain ⟨g, o, a, c, e, hg, hc, h1, h2, h3⟩ := h.get k hk
        exact ⟨g, o, a, c, e, by omega, hc, h1, h2, h3.more HB07.out.size⟩⟩
    have HW7 := mwritten_any A n c ps none 0 0 [] w7 (shaped_below HS.out HB07.out) (HT.out.below HB07.out h5) hp7 hsz hn (fun _ => rfl) (Rd.nil _ _ _ _) (by omega) (by simp [fSize])
    have eu : upF [] = [] := rfl
    rw [eu, lastP_nil, okFs_nil] at HW7
    have HDN := decP_written ps [] l3 HM.out okFs_nil
    rw [lastB_nil] at HDN
    have hcl5 : (Chunk.chunks ps ++ [48, 13, 10, 13, 10]).length = (Chunk.chunks ps).length + 5 := by simp
    have htk : (Chunk.chunks ps ++ [48, 13, 10, 13, 10]).take (Chunk.chunks ps).length = Chunk.chunks ps := List.take_left
    generalize hCC : Chunk.chunks ps = CC at *
    obtain ⟨CE, hCE⟩ : ∃ CE, CE = CC ++ [48, 13, 10, 13, 10] := ⟨_, rfl⟩
    have HCE := Lib.hid hCE
    rw [← hCE] at HW7 HDN hcl5 htk
    obtain ⟨T2, hT2⟩ : ∃ T2, T2 = CE ++ l3 := ⟨_, rfl⟩
    have HT2 := Lib.hid hT2
    have hln2 : T2.length ≤ 100000000 := by have := HL3.out; rw [hT2, List.length_append]; omega
    rw [← hT2] at HDN
    have HDN := Lib.hid HDN
    have HW7 := Lib.hid HW7
    have HTK := Lib.hid htk
    have HC5 := Lib.hid hcl5
    have HCC := Lib.hid hCC
    clear hCE hT2 hb7 hp7 v1 v2 hrt hrf eu htk hcl5 hCC hrt6 hro6
    go_upto_region 10 with (first
      | (go_at_call 52; go_must (refine HW7.out.mono ?_; rintro _ w8 ⟨vo8, va8, rfl, hro8, hra8, hb8⟩))
      | fail)
    have hz8 := hb8.size
    have HB8 : Hid (Below w2.heap.size w2 w8) := Lib.hid (HB7.out.trans (hb8.mono hz27))
    obtain ⟨A8, c8, rfl, hc8, _, hA8, _⟩ := hro8.form
    have HR8 := Lib.hid hro8
    have i0 : (CE.length : Int) - 5 = (CC.length : Int) := by have := HC5.out; omega
    have i1 : (CC.length : Int) ≤ (c8 : Int) := by have := HC5.out; omega
    have i2 : (0 : Int) ≤ (CC.length : Int) := by omega
    clear hb8 hro8 hra8 HW7
    go_upto_region 11 with (first
      | (go_at_call 46; go_must (refine (cend_any _).mono ?_; rintro _ w9 ⟨v9, rfl, hrow9, hb9⟩; obtain ⟨A9, c9, rfl⟩ := rowb_form hrow9))
      | fail)
    have hz9 := hb9.size
    have HB9 : Hid (Below w2.heap.size w2 w9) := Lib.hid (HB8.out.trans (hb9.mono HB8.out.size))
    have hh := RowB.head (HR8.out.below_all hb9) CC.length (by have := HC5.out; omega)
    rw [HTK.out] at hh
    have HH := Lib.hid hh
    have hrh := lit_rd hh
    have hz29 := HB9.out.size
    clear hrow9 hb9 hh i0 i1 i2
    go_upto_region 12 with (first
      | (go_at_call 27; go_must (refine (mlent_any A8 CC.length c8 CC _ (fun e => by have h1 := (hA8 e).1; have h2 := HC5.out; omega) hrh (by omega)).mono ?_; rintro _ w10 ⟨g10, o10, c10, rfl, hc10, hm10, hrow10, hb10⟩; have z10 := hb10.size))
      | (go_at_call 46; go_must (refine (cend_any _).mono ?_; rintro _ w11 ⟨v11, rfl, hrow11, hb11⟩; obtain ⟨A11, c11, rfl⟩ := rowb_form hrow11; have z11 := hb11.size; have r11 := (lent_row hrow10).below_all hb11))
      | (at_builtin; (refine wpList_appB (L := CC) (M := [48, 13, 10, 13, 10]) rfl (.tmp 75) (.tmp 76) 35 rfl w9.heap.size rfl r11 rfl (SrcB.of_row hrow11) (by simp; omega) (by omega) ?_); go_must (intro v12 w12 hrow12 hbb12 hg12 _; rw [← HCE.out] at hrow12; have b12 := (hb10.trans (hb11.mono z10)).trans hbb12; have z12 := b12.size; have B12 := (HB2.out.trans (HB9.out.mono hz02)).trans (b12.mono (by omega))))
      | (at_builtin; (refine wpList_appB (L := CE) (M := l3) rfl (.tmp 77) (.tmp 78) 35 rfl w9.heap.size rfl hrow12 rfl (SrcB.slice ((HR3.out.below B12).more B12.size) hA3) (by have := HL3.out; have := HC5.out; omega) z12 ?_); go_must (intro v13 w13 hrow13 hbb13 hg13 _; rw [← HT2.out] at hrow13; have b13 := b12.trans hbb13; have z13 := b13.size; obtain ⟨A13, c13, rfl, hc13, _, hA13, hr13⟩ := RowB.form hrow13; have HD13 := decode_any A13 T2.length c13 T2 w13 (shaped_below HS.out ((HB2.out.trans (HB9.out.mono hz02)).trans (b13.mono (by omega)))) hln2 hc13 (fun e => (hA13 e).1) hr13; rw [HDN.out] at HD13; have HD13 := Lib.hid HD13; have HB13 := Lib.hid b13; clear hrow10 hb10 hrow11 hb11 r11 hrow12 hbb12 hg12 b12 B12 hrow13 hbb13 hg13 b13 hr13))
      | (go_at_call 36; go_must (refine HD13.out.mono ?_; rintro _ w14 ⟨vo14, vt14, rfl, hro14, hrt14, hap14, hb14⟩))
      | fail)
    have HB14 : Hid (Below w9.heap.size w9 w14) := Lib.hid (HB13.out.trans (hb14.mono z13))
    have R14 := HRA.out.below_all (HB9.out.trans (HB14.out.mono hz29))
    obtain ⟨A14, c14, rfl, _, _, _, _⟩ := RowB.form hro14
    obtain ⟨T14, k14, rfl, _, _, _, _⟩ := hrt14.form
    have v1 := conv_row R14
    have v2 := conv_row hro14
    clear hap14 hb14 HD13 hrt14
    go_wp2
    go_ret
    exact ⟨rfl, (HB2.out.trans (HB9.out.mono hz02)).trans (HB14.out.mono (by omega))⟩
end Go.Proofs.YthipgmnfokfaiaaDoor
