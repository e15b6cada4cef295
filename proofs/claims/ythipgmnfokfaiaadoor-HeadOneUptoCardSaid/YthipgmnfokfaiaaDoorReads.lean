/- the law HeadReads. Conditions: the size, the library's variable. -/
import Derived.Test.YthipgmnfokfaiaaDoorAwake
import Derived.Test.YthipgmnfokfaiaaDoorLent
import Derived.Test.YthipgmnfokfaiaaDoorRParse
import Derived.Test.YthipgmnfokfaiaaDoorSame
namespace Go.Proofs.YthipgmnfokfaiaaDoor
open Go.RowKit

/-- what a call that returned a struct leaves once the struct lies in a new variable -/
theorem Row.put {w w' : World} {base sz n : Nat} {v : Value} {xs : List Value} {o : Obj} (h : Row w base sz v n xs) (hg : (w.alloc o).grownBy w' (some w.heap.size)) : Row w' base sz v n xs :=
  (h.alloc o).kept hg (by
    cases hv : v.ownBlock with
    | none => exact Or.inl rfl
    | some k => exact Or.inr (fun e => by have := (h.lt k hv).2; injection e with e; omega))
theorem Var.put {w w' : World} {b : Nat} {t : TypeId} {cs : List Value} {o : Obj} (h : Var w b t cs) (hg : (w.alloc o).grownBy w' (some w.heap.size)) : Var w' b t cs :=
  (h.alloc o).grown hg (fun e => by have := h.lt; injection e with e; omega)
theorem Below.put {B : Nat} {a w w' : World} {o : Obj} (h : Below B a w) (hB : B ≤ w.heap.size) (hg : (w.alloc o).grownBy w' (some w.heap.size)) : Below B a w' :=
  Below.grown (h.alloc hB _) hg (by simp; omega) (by intro k hk; injection hk with hk; omega)
theorem put_size {w w' : World} {o : Obj} (hs : w'.heap.size = (w.alloc o).heap.size) : w'.heap.size = w.heap.size + 1 := by simpa using hs

theorem rParse_lit (A : Option Addr) (n c : Nat) (l : Bs) (rq : Bool) (w : World) (hnc : n ≤ c) (hcm : c ≤ maxLen) (hA : A = none → n = 0 ∧ c = 0) (hrd : Rd w w.heap.size 1 A n (bytesV l)) (hn : n ≤ 16777216) {h : Hd} {e0 : Nat} (hp : parseP l rq = (h, e0)) :
    Calls Tryd.prog 41 #[.slice A n c, .bool rq] w fun e w' => ∃ A' c', e = .returned (.tuple #[.agg #[.bool h.rq, .string ⟨h.m.toArray⟩, .string ⟨h.t.toArray⟩, .int .i64 (h.st : Int), .string ⟨h.rs.toArray⟩, .int .i64 (h.mn : Int), .slice A' h.fs.length c'], .int .i64 (e0 : Int)]) ∧
      Row w' w.heap.size 2 (.slice A' h.fs.length c') h.fs.length (fieldsV (flB h.fs)) ∧ Below w.heap.size w w' :=
  (rParse_any A n c l rq w hnc hcm hA hrd hn).mono fun e w' ⟨v, h1, h2, h3⟩ => by
    rw [hp] at h1 h2
    obtain ⟨A', c', rfl, _⟩ := h2.form
    exact ⟨A', c', h1, h2, h3⟩

/-- in how few fields a head is parsed -/
theorem parse_few {l : Bs} {rq : Bool} {h : Hd} {e : Nat} (hp : parseP l rq = (h, e)) : h.fs.length ≤ 64 := by
  by_cases he : e = 0
  · subst he; exact (smuggle hp).2.1
  · unfold parseP at hp
    split at hp
    · cases hp; exact Nat.zero_le _
    · split at hp
      · cases hp; exact Nat.zero_le _
      · split at hp
        · cases hp; exact Nat.zero_le _
        · cases hf : firstP rq ((lines [] l).headD []) with
          | none => rw [hf] at hp; cases hp; exact Nat.zero_le _
          | some g =>
            rw [hf] at hp
            simp only at hp
            split at hp
            · cases hp; exact absurd rfl he
            · cases hp; exact Nat.zero_le _

set_option maxHeartbeats 4000000 in
set_option maxRecDepth 100000 in
theorem reads_any (A : Option Addr) (n c : Nat) (l : Bs) (w : World) (hsh : w.ShapedOpen Tryd.prog) (hnc : n ≤ c) (hcm : c ≤ maxLen) (hA : A = none → n = 0 ∧ c = 0) (hrd : Rd w w.heap.size 1 A n (bytesV l)) (hn : n ≤ 16777216) :
    Calls Tryd.prog 6 #[.slice A n c] w fun e w' => e = .returned (.bool true) ∧ Below w.heap.size w w' := by
  have hlen : l.length = n := by have := hrd.1; rw [bytesV_len] at this; omega
  obtain ⟨h, e0, hp⟩ : ∃ h e0, parseP l true = (h, e0) := ⟨_, _, rfl⟩
  obtain ⟨h', e0', hp'⟩ : ∃ h e0, parseP l false = (h, e0) := ⟨_, _, rfl⟩
  have hf := parse_few hp
  have hf' := parse_few hp'
  have HP := Lib.hid hp
  have HP' := Lib.hid hp'
  have HS := Lib.hid hsh
  clear hp hp' hsh
  go_enter Tryd.func6, Tryd.ntmps6
  go_upto_region 2 with (go_at_call 38; go_must (refine (lent_any A n c l _ (fun e => (hA e).1) hrd hn).mono ?_; rintro _ w1 ⟨g, o, c1, rfl, hrow1, hb1⟩))
  have hz1 := hb1.size
  have hgl := hrow1.lt g rfl
  have hcc : n + 2 ≤ c1 := by
    obtain ⟨_, _, e, h2, _⟩ := hrow1.form
    injection e with _ _ e; omega
  have hrx : Rd w1 w1.heap.size 1 (some ⟨g, o, none⟩) n (bytesV l) := by
    obtain ⟨_, _, e, _, _, _, h3⟩ := hrow1.form
    injection e with e _ _
    subst e
    have h4 := h3.pre (k := n) (by omega)
    have e0 : (l ++ [201, 202]).take n = l := by rw [← hlen]; exact List.take_left
    rw [Nat.mul_one, bytesV_take, e0] at h4
    exact h4
  have HS1 : Hid (w1.ShapedOpen Tryd.prog) := Lib.hid (shaped_below HS.out hb1)
  go_upto_region 3 with (first
    | (go_at_call 39; go_must (refine (hParse_lit (some ⟨g, o, none⟩) n c1 l true _ HS1.out (fun e => by cases e) hrx hn HP.out).mono ?_; rintro _ w2 ⟨A2, c2, rfl, hrow2, hb2⟩))
    | (refine wpList_put rfl 24 (.tmp 4) (.tmp 18) rfl w2.heap.size rfl (Var.new w2 24 [.bool false, .string ⟨#[]⟩, .string ⟨#[]⟩, .int .i64 0, .string ⟨#[]⟩, .int .i64 0, .slice none 0 0]) [.bool h.rq, .string ⟨h.m.toArray⟩, .string ⟨h.t.toArray⟩, .int .i64 (h.st : Int), .string ⟨h.rs.toArray⟩, .int .i64 (h.mn : Int), .slice A2 h.fs.length c2] rfl rfl (by kernel_rfl) (by simp [Value.oneCell']) ?_; intro w3 hvw3 hgw3 hsw3)
    | fail)
  have hz2 := hb2.size
  have hz3 := put_size hsw3
  have b13 : Below w1.heap.size w1 w3 := Below.put hb2 hz2 hgw3
  have RA3 := Lib.hid (hrow2.put hgw3)
  have VA3 := Lib.hid hvw3
  have HS3 : Hid (w3.ShapedOpen Tryd.prog) := Lib.hid (shaped_below HS1.out b13)
  have hrx3 := (hrx.below b13).more b13.size
  have hz13 := b13.size
  clear hrow2 hvw3 hgw3 hsw3 hb2
  go_upto_region 4 with (first
    | (go_at_call 39; go_must (refine (hParse_lit (some ⟨g, o, none⟩) n c1 l false _ HS3.out (fun e => by cases e) hrx3 hn HP'.out).mono ?_; rintro _ w4 ⟨A4, c4, rfl, hrow4, hb4⟩))
    | (refine wpList_put rfl 24 (.tmp 6) (.tmp 23) rfl w4.heap.size rfl (Var.new w4 24 [.bool false, .string ⟨#[]⟩, .string ⟨#[]⟩, .int .i64 0, .string ⟨#[]⟩, .int .i64 0, .slice none 0 0]) [.bool h'.rq, .string ⟨h'.m.toArray⟩, .string ⟨h'.t.toArray⟩, .int .i64 (h'.st : Int), .string ⟨h'.rs.toArray⟩, .int .i64 (h'.mn : Int), .slice A4 h'.fs.length c4] rfl rfl (by kernel_rfl) (by simp [Value.oneCell']) ?_; intro w5 hvw5 hgw5 hsw5)
    | fail)
  have hz4 := hb4.size
  have hz5 := put_size hsw5
  have b35 : Below w3.heap.size w3 w5 := Below.put hb4 hz4 hgw5
  have RB5 := Lib.hid (hrow4.put hgw5)
  have RA5 := Lib.hid (RA3.out.below_all b35)
  have VB5 := Lib.hid hvw5
  have VA5 := Lib.hid (VA3.out.below_all b35)
  have b15 := b13.trans (b35.mono hz13)
  have hrow5 := hrow1.below_all b15
  have hrd5 := (hrd.below hb1).below (b15.mono hz1)
  have b05 := hb1.trans (b15.mono hz1)
  have hz35 := b35.size
  have hrd5' := hrd5.more (B' := w5.heap.size) (by omega)
  have h5x : Rd w5 w5.heap.size 1 (some ⟨g, o, none⟩) (n + 2) (bytesV (l ++ [201, 202])) := by
    obtain ⟨_, _, e, _, _, _, h3⟩ := hrow5.form
    injection e with e _ _
    subst e
    exact h3
  clear hrow4 hvw5 hgw5 hsw5 hb4 hrx hrx3 RA3 VA3 HS3 HS1 b13 b35
  go_upto_region 5 with (go_at_call 40; go_must (refine (kept_any g o n c1 A c l _ hcc h5x hrd5' hn).mono ?_; rintro _ w6 ⟨rfl, hb6⟩))
  have b06 := b05.trans (hb6.mono b05.size)
  have hz6 := hb6.size
  have hz06 := b06.size
  have hrow6 := hrow5.below_all hb6
  have RA6 := Lib.hid (RA5.out.below_all hb6)
  have RB6 := Lib.hid (RB5.out.below_all hb6)
  have VA6 := Lib.hid (VA5.out.below_all hb6)
  have VB6 := Lib.hid (VB5.out.below_all hb6)
  have HB06 := Lib.hid b06
  have HRD6 := Lib.hid ((hrd5.below (hb6.mono b05.size)))
  have HV0 : Hid (∀ u ∈ bytesV (l ++ [201, 202]), ∃ x : Int, 0 ≤ x ∧ x < 256 ∧ u = .int .u8 x) := Lib.hid (fun u hu => by
    obtain ⟨b, _, rfl⟩ := List.mem_map.1 hu
    exact ⟨_, by omega, by have := UInt8.toNat_lt b; omega, rfl⟩)
  clear RA5 RB5 VA5 VB5 h5x hrd5' hrd5 hrow5 hb6 b06 b05 b15 hrow1 hb1 hrd
  go_loopw [8] (fun i wr => ∃ (k : Nat) (vs : List Value), k ≤ n ∧ i = .int .i64 k ∧ (∀ u ∈ vs, ∃ x : Int, 0 ≤ x ∧ x < 256 ∧ u = .int .u8 x) ∧ Row wr w.heap.size 1 (.slice (some ⟨g, o, none⟩) (n + 2) c1) (n + 2) vs ∧ w6.grownBy wr (some g)) (fun i _ => n - (intOf i).toNat)
  case atStart => exact ⟨0, _, Nat.zero_le _, rfl, HV0.out, hrow6, World.grownBy.refl _ _⟩
  case round =>
    obtain ⟨k, vs, hk, rfl, hvs, hrow, hgr⟩ := hrel
    have HV := Lib.hid hvs
    have HR := Lib.hid hrow
    have HG := Lib.hid hgr
    have hzr := hgr.size
    by_cases hlt : k < n
    · obtain ⟨g', o', e, _, _, hcell, hfro⟩ := hrow.own (by omega)
      injection e with e
      injection e with e1 e2 _
      subst e1 e2
      have hvl : vs.length = n + 2 := by have := hrow.1; omega
      obtain ⟨x, hx0, hx1, hx⟩ := hvs vs[k] (List.getElem_mem _)
      have ck : wr.cell? ⟨g, o + k, none⟩ = some (.int .u8 x) := by rw [← hx]; exact hcell k _ (List.getElem?_eq_getElem _)
      have fk := hfro k (by omega)
      have HVL := Lib.hid hvl
      clear hcell hfro hvs hrow hgr hx hvl
      go_wp2
      go_roundw
      case rel =>
        refine ⟨k + 1, _, by omega, by go_num, ?_, HR.out.set (by rw [HVL.out]; omega), World.grownBy.comp HG.out (World.grownBy.set _ ⟨g, o + k, none⟩ _)⟩
        intro u hu
        rcases List.mem_or_eq_of_mem_set hu with h | h
        · exact HV.out u h
        · exact ⟨_, by omega, by omega, h⟩
      case measure => simp [intOf]; omega
    · clear hvs hrow HV HR
      have RA := Lib.hid (RA6.out.kept hgr (by
        cases hv : (Value.slice A2 h.fs.length c2).ownBlock with
        | none => exact Or.inl rfl
        | some k => exact Or.inr (fun e => by have := (RA6.out.lt k hv).1; injection e with e; omega)))
      have RB := Lib.hid (RB6.out.kept hgr (by
        cases hv : (Value.slice A4 h'.fs.length c4).ownBlock with
        | none => exact Or.inl rfl
        | some k => exact Or.inr (fun e => by have := (RB6.out.lt k hv).1; injection e with e; omega)))
      have VA := Lib.hid (VA6.out.grown hgr (fun e => by injection e with e; omega))
      have VB := Lib.hid (VB6.out.grown hgr (fun e => by injection e with e; omega))
      have HRD := Lib.hid (HRD6.out.grown hgr (by omega) (by intro q hq; injection hq with hq; omega))
      have HB := Lib.hid (Below.grown HB06.out hgr (by omega) (by intro q hq; injection hq with hq; omega))
      have hzw := HB.out.size
      have HRD' := Lib.hid (HRD.out.more hzw)
      clear hgr RA6 RB6 VA6 VB6 HRD6 HB06 HRD
      go_upto_region 11 with (first
        | (go_at_call 41; go_must (refine (rParse_lit A n c l true _ hnc hcm hA HRD'.out hn HP.out).mono ?_; rintro _ w7 ⟨A7, c7, rfl, hrow7, hb7⟩))
        | (refine wpList_put rfl 24 (.tmp 9) (.tmp 46) rfl w7.heap.size rfl (Var.new w7 24 [.bool false, .string ⟨#[]⟩, .string ⟨#[]⟩, .int .i64 0, .string ⟨#[]⟩, .int .i64 0, .slice none 0 0]) [.bool h.rq, .string ⟨h.m.toArray⟩, .string ⟨h.t.toArray⟩, .int .i64 (h.st : Int), .string ⟨h.rs.toArray⟩, .int .i64 (h.mn : Int), .slice A7 h.fs.length c7] rfl rfl (by kernel_rfl) (by simp [Value.oneCell']) ?_; intro w8 hvw8 hgw8 hsw8)
        | fail)
      have hz7 := hb7.size
      have hz8 := put_size hsw8
      have br8 : Below wr.heap.size wr w8 := Below.put hb7 hz7 hgw8
      have hzr8 := br8.size
      have RC8 := Lib.hid (hrow7.put hgw8)
      have VC8 := Lib.hid hvw8
      have RA8 := Lib.hid (RA.out.below_all br8)
      have RB8 := Lib.hid (RB.out.below_all br8)
      have VA8 := Lib.hid (VA.out.below_all br8)
      have VB8 := Lib.hid (VB.out.below_all br8)
      have HRD8 := Lib.hid ((HRD'.out.below br8).more br8.size)
      have HB8 : Hid (Below w.heap.size w w8) := Lib.hid (HB.out.trans (br8.mono hzw))
      clear RA RB VA VB HRD' HB hrow7 hb7 hvw8 hgw8 hsw8 br8
      go_upto_region 12 with (first
        | (go_at_call 41; go_must (refine (rParse_lit A n c l false _ hnc hcm hA HRD8.out hn HP'.out).mono ?_; rintro _ w9 ⟨A9, c9, rfl, hrow9, hb9⟩))
        | (refine wpList_put rfl 24 (.tmp 11) (.tmp 51) rfl w9.heap.size rfl (Var.new w9 24 [.bool false, .string ⟨#[]⟩, .string ⟨#[]⟩, .int .i64 0, .string ⟨#[]⟩, .int .i64 0, .slice none 0 0]) [.bool h'.rq, .string ⟨h'.m.toArray⟩, .string ⟨h'.t.toArray⟩, .int .i64 (h'.st : Int), .string ⟨h'.rs.toArray⟩, .int .i64 (h'.mn : Int), .slice A9 h'.fs.length c9] rfl rfl (by kernel_rfl) (by simp [Value.oneCell']) ?_; intro w10 hvw10 hgw10 hsw10)
        | fail)
      have hz9 := hb9.size
      have hz10 := put_size hsw10
      have b810 : Below w8.heap.size w8 w10 := Below.put hb9 hz9 hgw10
      have VD := hvw10
      have VA := VA8.out.below_all b810
      have VB := VB8.out.below_all b810
      have VC := VC8.out.below_all b810
      obtain ⟨_, _, e1, _, _, _, ra⟩ := (RA8.out.below_all b810).form
      obtain ⟨_, _, e2, _, _, _, rb⟩ := (RB8.out.below_all b810).form
      obtain ⟨_, _, e3, _, _, _, rc⟩ := (RC8.out.below_all b810).form
      obtain ⟨_, _, e4, _, _, _, rd⟩ := (hrow9.put hgw10).form
      injection e1 with e1 _ q1
      injection e2 with e2 _ q2
      injection e3 with e3 _ q3
      injection e4 with e4 _ q4
      subst e1 e2 e3 e4 q1 q2 q3 q4
      have B10 : Hid (Below w.heap.size w w10) := Lib.hid (HB8.out.trans (b810.mono HB8.out.size))
      have hz10' := B10.out.size
      clear RA8 RB8 RC8 VA8 VB8 VC8 HB8 HRD8 hrow9 hb9 hvw10 hgw10 hsw10 b810
      go_wp2_with (first
        | (go_at_call 42; go_must (refine (num_any _ _).mono ?_; rintro _ _ ⟨rfl, rfl⟩))
        | (refine wpList_load_mid_g (by rfl) 24 (.tmp 4) rfl w2.heap.size 0 rfl [.bool h.rq, .string ⟨h.m.toArray⟩, .string ⟨h.t.toArray⟩, .int .i64 (h.st : Int), .string ⟨h.rs.toArray⟩, .int .i64 (h.mn : Int), .slice A2 h.fs.length c2] _ (VA).range Tryd.underlying24 rfl (by kernel_rfl) ?_)
        | (refine wpList_load_mid_g (by rfl) 24 (.tmp 9) rfl w7.heap.size 0 rfl [.bool h.rq, .string ⟨h.m.toArray⟩, .string ⟨h.t.toArray⟩, .int .i64 (h.st : Int), .string ⟨h.rs.toArray⟩, .int .i64 (h.mn : Int), .slice A7 h.fs.length c7] _ (VC).range Tryd.underlying24 rfl (by kernel_rfl) ?_)
        | (refine wpList_load_mid_g (by rfl) 24 (.tmp 6) rfl w4.heap.size 0 rfl [.bool h'.rq, .string ⟨h'.m.toArray⟩, .string ⟨h'.t.toArray⟩, .int .i64 (h'.st : Int), .string ⟨h'.rs.toArray⟩, .int .i64 (h'.mn : Int), .slice A4 h'.fs.length c4] _ (VB1).range Tryd.underlying24 rfl (by kernel_rfl) ?_)
        | (refine wpList_load_mid_g (by rfl) 24 (.tmp 11) rfl w9.heap.size 0 rfl [.bool h'.rq, .string ⟨h'.m.toArray⟩, .string ⟨h'.t.toArray⟩, .int .i64 (h'.st : Int), .string ⟨h'.rs.toArray⟩, .int .i64 (h'.mn : Int), .slice A9 h'.fs.length c9] _ (VD1).range Tryd.underlying24 rfl (by kernel_rfl) ?_)
        | (go_at_call 22; (refine (rSame_any h'.rq ⟨h'.m.toArray⟩ ⟨h'.t.toArray⟩ h'.st ⟨h'.rs.toArray⟩ h'.mn A4 A9 h'.fs.length c4 c9 (flB h'.fs) w11 rb1 rd1 (by omega)).mono ?_; rintro _ w12 ⟨rfl, hb12⟩))
        | (go_at_call 22; (refine (rSame_any h.rq ⟨h.m.toArray⟩ ⟨h.t.toArray⟩ h.st ⟨h.rs.toArray⟩ h.mn A2 A7 h.fs.length c2 c7 (flB h.fs) w10 ra rc (by omega)).mono ?_; rintro _ w11 ⟨rfl, hb11⟩; have VB1 := VB.below_all hb11; have VD1 := VD.below_all hb11; have rb1 := rb.keeps hb11; have rd1 := rd.keeps hb11))
        | fail)
      go_ret
      exact ⟨rfl, (B10.out.trans (hb11.mono hz10')).trans (hb12.mono (by have := hb11.size; omega))⟩
end Go.Proofs.YthipgmnfokfaiaaDoor
