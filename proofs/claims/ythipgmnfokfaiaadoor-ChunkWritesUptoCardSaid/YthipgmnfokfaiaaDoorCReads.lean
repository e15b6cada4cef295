/- the law ChunkReads. Conditions: sizes, the world's shape. -/
import Derived.Test.YthipgmnfokfaiaaDoorMLent
namespace Go.Proofs.YthipgmnfokfaiaaDoor
open Go.RowKit

/-- a row stays where only another row's block has turned -/
theorem Row.beside {w w' : World} {base sz n : Nat} {v : Value} {row : Option Nat} {xs : List Value} (h : Row w base sz v n xs) (hg : w.grownBy w' row) (hne : ∀ k, v.ownBlock = some k → row ≠ some k) : Row w' base sz v n xs :=
  h.kept hg (by
    cases hv : v.ownBlock with
    | none => exact Or.inl rfl
    | some k => exact Or.inr (fun e => hne k hv e.symm))
/-- cells that are bytes -/
def ByteCells (xs : List Value) : Prop := ∀ u ∈ xs, ∃ x : Int, 0 ≤ x ∧ x < 256 ∧ u = .int .u8 x
theorem ByteCells.of (l : Bs) : ByteCells (bytesV l) := fun u hu => by
  obtain ⟨b, _, rfl⟩ := List.mem_map.1 hu
  exact ⟨_, by omega, by have := UInt8.toNat_lt b; omega, rfl⟩
theorem ByteCells.set {xs : List Value} (h : ByteCells xs) (j : Nat) {x : Int} (h1 : 0 ≤ x) (h2 : x < 256) : ByteCells (xs.set j (.int .u8 x)) := fun u hu => by
  rcases List.mem_or_eq_of_mem_set hu with hh | hh
  · exact h u hh
  · exact ⟨x, h1, h2, hh⟩
set_option maxRecDepth 100000 in
theorem conv_row {w : World} {base : Nat} {A : Option Addr} {c : Nat} {L : Bs} (h : RowB w base (.slice A L.length c) L) : (convert 35 9 (.slice A L.length c)).run Tryd.prog w = .ok (.string ⟨L.toArray⟩) w := by
  obtain ⟨A', c', e, _, _, h0, hr⟩ := h.form
  injection e with e1 _ e3
  subst e1 e3
  exact conv_str (P := Tryd.prog) 35 9 5 Tryd.underlying35 Tryd.underlying5 Tryd.underlying9 hr (fun e => (h0 e).1)

set_option maxHeartbeats 2000000 in
set_option maxRecDepth 100000 in
theorem creads_any (A : Option Addr) (n c : Nat) (l : Bs) (w : World) (hsh : w.ShapedOpen Tryd.prog) (hnc : n ≤ c) (hA : A = none → n = 0) (hrd : Rd w w.heap.size 1 A n (bytesV l)) (hn : n ≤ 16777216) :
    Calls Tryd.prog 5 #[.slice A n c] w fun e w' => e = .returned (.bool true) ∧ Below w.heap.size w w' := by
  have hlen : l.length = n := by have := hrd.1; rw [bytesV_len] at this; omega
  have HL := Lib.hid hlen
  have HRD := Lib.hid hrd
  have HS := Lib.hid hsh
  have HB8 := Lib.hid (ByteCells.of (l ++ [201, 202]))
  clear hrd hsh hlen
  have e0 : (l ++ [201, 202]).take n = l := by rw [← HL.out]; exact List.take_left
  go_enter Tryd.func5, Tryd.ntmps5
  go_upto_region 2 with (first
    | (go_at_call 27; go_must (refine (mlent_any A n c l _ hA HRD.out (by omega)).mono ?_; rintro _ w1 ⟨g, o, c1, rfl, hc1, hm1, hrow1, hb1⟩))
    | fail)
  have hz1 := hb1.size
  obtain ⟨_, _, q1, _, _, _, hrg⟩ := hrow1.form
  injection q1 with q1 _ q3
  subst q1 q3
  have hrp := hrg.pre (k := n) (by omega)
  rw [Nat.mul_one, bytesV_take, e0] at hrp
  have HS1 : Hid (w1.ShapedOpen Tryd.prog) := Lib.hid (shaped_below HS.out hb1)
  have hgb := (hrow1.lt g rfl)
  have HD := Lib.hid (decode_any (some ⟨g, o, none⟩) n c1 l w1 HS1.out (by omega) (by omega) (fun e => by cases e) hrp)
  have HD2 : Hid (∀ W, Rd W W.heap.size 1 A n (bytesV l) → Calls Tryd.prog 37 #[.slice A n c] W (DecPost W (decP l))) := Lib.hid (fun W h => qdecode_any A n c l W hnc h (by omega))
  have hsm : (decP l).2.1.length ≤ 64 := by
    unfold decP
    by_cases h2 : (Chunk.feed {} l 0 []).2.2.2 = 2
    · rw [if_pos h2]; exact Nat.zero_le _
    · rw [if_neg h2]
      by_cases h1 : (Chunk.feed {} l 0 []).2.2.2 = 1
      · rw [if_pos h1]; exact (Chunk.feed_ok l {} 0 Chunk.Ok.init h2).trailers
      · rw [if_neg h1]; exact Nat.zero_le _
  generalize decP l = r at HD HD2 hsm
  unfold DecPost at HD HD2
  clear hrp
  go_upto_region 3 with (first
    | (go_at_call 36; go_must (refine HD.out.mono ?_; rintro _ w2 ⟨vo2, vt2, rfl, hro2, hrt2, hap2, hb2⟩))
    | fail)
  have hz2 := hb2.size
  have hrd2 := (HRD.out.keeps hb1).keeps (hb2.mono (Nat.le_refl _))
  go_upto_region 4 with (first
    | (go_at_call 37; go_must (refine (HD2.out _ hrd2).mono ?_; rintro _ w3 ⟨vo3, vt3, rfl, hro3, hrt3, hap3, hb3⟩))
    | fail)
  have hz3 := hb3.size
  have hrd3 := hrd2.keeps hb3
  have RG3 := (hrow1.below_all hb2).below_all hb3
  have RO3 := hro2.below_all hb3
  have RT3 := hrt2.below_all hb3
  obtain ⟨Ao2, co2, rfl, _, _, _, _⟩ := RO3.form
  obtain ⟨Ao3, co3, rfl, _, _, _, _⟩ := hro3.form
  obtain ⟨At2, ct2, rfl, _, _, _, hrt2'⟩ := RT3.form
  obtain ⟨At3, ct3, rfl, _, _, _, hrt3'⟩ := hrt3.form
  obtain ⟨_, _, q1, _, _, _, hrg3⟩ := RG3.form
  injection q1 with q1 _ q3
  subst q1 q3
  have v1 := conv_row RO3
  have v2 := conv_row hro3
  have B3 := Lib.hid ((hb1.trans (hb2.mono hz1)).trans (hb3.mono (by omega)))
  clear hro2 hrt2 hrow1 hrg hb1 hb2 hb3 hrt3 RT3 HD HD2 hap2 hap3
  go_upto_region 6 with (first
    | (go_at_call 31; go_must (refine (mfields_any At2 At3 r.2.1.length ct2 ct3 (flB r.2.1) _ hrt2' hrt3' (by omega)).mono ?_; rintro _ w4 ⟨rfl, hb4⟩))
    | (go_at_call 30; go_must (refine (mkept_any g o n c1 A c l _ hc1 (hrg3.keeps hb4) (hrd3.keeps hb4) hA (by omega)).mono ?_; rintro _ _ ⟨rfl, rfl⟩))
    | fail)
  have hz4 := hb4.size
  have RG4 := (RG3.below_all hb4)
  have RO4 := Lib.hid (RO3.below_all hb4)
  have RW4 := Lib.hid (hro3.below_all hb4)
  have B4 := Lib.hid (B3.out.trans (hb4.mono (by have := B3.out.size; omega)))
  have KO : ∀ q, (Value.slice Ao2 r.1.length co2).ownBlock = some q → w1.heap.size ≤ q := fun q hq => (RO3.lt q hq).1
  have KW : ∀ q, (Value.slice Ao3 r.1.length co3).ownBlock = some q → w2.heap.size ≤ q := fun q hq => (hro3.lt q hq).1
  clear v1 v2 RO3 hro3 RG3 B3 hrg3 hrt2' hrt3' hb4
  go_wp2
  go_loopw [12] (fun i wr => ∃ (k : Nat) (xs : List Value), k ≤ n ∧ i = .int .i64 k ∧ ByteCells xs ∧ Row wr w.heap.size 1 (.slice (some ⟨g, o, none⟩) (n + 2) c1) (n + 2) xs ∧ w4.grownBy wr (some g)) (fun i _ => n - (intOf i).toNat)
  case atStart => exact ⟨0, _, Nat.zero_le _, rfl, HB8.out, RG4, World.grownBy.refl _ _⟩
  case round =>
    obtain ⟨k, xs, hk, rfl, hvs, hrow, hgr⟩ := hrel
    have HV := Lib.hid hvs
    have HR := Lib.hid hrow
    have HG := Lib.hid hgr
    have hzr := hgr.size
    clear RG4
    by_cases hlt : k < n
    · obtain ⟨g', o', e1, hgb', hgl, hcell, hfro⟩ := hrow.own (by omega)
      injection e1 with e1
      injection e1 with e1 e2 _
      subst e1 e2
      have hxl : xs.length = (n + 2) * 1 := hrow.1
      obtain ⟨x0, hx0⟩ : ∃ u, xs[k]? = some u := ⟨_, List.getElem?_eq_getElem (show k < xs.length by omega)⟩
      obtain ⟨y0, hy0, hy1, rfl⟩ := hvs x0 (List.mem_of_getElem? hx0)
      have g0 := hcell k _ hx0
      have q0 := hfro k (by omega)
      have HXL := Lib.hid hxl
      clear hcell hfro hrow hgr hxl hx0 hvs
      go_wp2
      go_roundw
      case rel =>
        exact ⟨k + 1, _, by omega, by go_num, HV.out.set k (by omega) (by omega), HR.out.set (j := k) (by rw [HXL.out]; omega), World.grownBy.comp HG.out (World.grownBy.set _ ⟨g, o + k, none⟩ _)⟩
      case measure => simp [intOf]; omega
    · clear hvs hrow hgr
      have hgs : ∀ q, some g = some q → q < w1.heap.size := fun q e => by injection e with e; omega
      have R1 := Row.beside RO4.out HG.out (fun q hq e => by have := KO q hq; have := hgs q e; omega)
      have R2 := Row.beside RW4.out HG.out (fun q hq e => by have := KW q hq; have := hgs q e; omega)
      have v1 := conv_row R1
      have v2 := conv_row R2
      have BR := Lib.hid (Below.grown B4.out HG.out (by omega) (fun q e => by injection e with e; omega))
      clear R1 R2 HG HR HV RO4 RW4
      go_wp2
      go_ret
      exact ⟨rfl, BR.out⟩
end Go.Proofs.YthipgmnfokfaiaaDoor
