/- the law HeadOne. Conditions: the size, the library's variables. -/
import Derived.Test.YthipgmnfokfaiaaDoorWrites
import Derived.Test.YthipgmnfokfaiaaDoorAwake
namespace Go.Proofs.YthipgmnfokfaiaaDoor
open Go.RowKit

theorem parse_err {l : Bs} {rq : Bool} {h : Hd} {e : Nat} (hp : parseP l rq = (h, e)) (he : e ≠ 0) : h = {} := by
  unfold parseP at hp
  split at hp
  · cases hp; rfl
  · split at hp
    · cases hp; rfl
    · split at hp
      · cases hp; rfl
      · cases hf : firstP rq ((lines [] l).headD []) with
        | none => rw [hf] at hp; cases hp; rfl
        | some g =>
          rw [hf] at hp
          simp only at hp
          split at hp
          · cases hp; exact absurd rfl he
          · cases hp; rfl
theorem first_nums {rq : Bool} {l : Bs} {h : Hd} (hf : firstP rq l = some h) : h.st ≤ 599 ∧ h.mn ≤ 1 := by
  have hm : ∀ (c : Bs) (k : Nat), minorP c = some k → k ≤ 1 := fun c k h => by
    rcases minor_shape h with ⟨e, _⟩ | ⟨e, _⟩ <;> omega
  unfold firstP at hf
  cases h1 : cutAt 32 l with
  | none => rw [h1] at hf; cases hf
  | some p =>
    obtain ⟨a, r⟩ := p
    rw [h1] at hf
    simp only at hf
    cases h2 : cutAt 32 r with
    | none => rw [h2] at hf; cases hf
    | some p =>
      obtain ⟨b, c⟩ := p
      rw [h2] at hf
      simp only at hf
      cases rq with
      | true =>
        simp only [if_true] at hf
        cases h3 : minorP c with
        | none => rw [h3] at hf; cases hf
        | some k =>
          rw [h3] at hf
          simp only at hf
          split at hf
          · cases hf; exact ⟨Nat.zero_le _, hm c k h3⟩
          · cases hf
      | false =>
        simp only [Bool.false_eq_true, if_false] at hf
        cases h3 : minorP a with
        | none => rw [h3] at hf; cases hf
        | some k =>
          rw [h3] at hf
          simp only at hf
          split at hf
          · rename_i c4; cases hf; exact ⟨c4.2.2.2.2, hm a k h3⟩
          · cases hf
theorem parse_nums {l : Bs} {rq : Bool} {h : Hd} {e : Nat} (hp : parseP l rq = (h, e)) : h.st ≤ 599 ∧ h.mn ≤ 1 := by
  by_cases he : e = 0
  · subst he
    obtain ⟨h0, hf, hh, _, _⟩ := parse_inv hp
    obtain ⟨k1, k2⟩ := first_nums hf
    rw [hh]; exact ⟨k1, k2⟩
  · rw [parse_err hp he]; exact ⟨Nat.zero_le _, Nat.zero_le _⟩
/-- sizes of what is parsed -/
theorem parse_sizes {l : Bs} {rq : Bool} {h : Hd} {e : Nat} (hp : parseP l rq = (h, e)) : h.m.length + h.t.length + h.rs.length ≤ 49152 ∧ flSize (flB h.fs) ≤ 2097408 ∧ h.fs.length ≤ 64 := by
  by_cases he : e = 0
  · subst he
    obtain ⟨_, k2, _, _, _, k6, k7, k8, k9⟩ := smuggle hp
    have hl : l.length ≤ 16384 := (parse_yes (by rw [hp])).1
    refine ⟨by omega, ?_, k2⟩
    have key : ∀ fs : List (Bs × Bs), (∀ f ∈ fs, f.1.length ≤ 16384 ∧ f.2.length ≤ 16384) → flSize (flB fs) ≤ fs.length * 32772 := by
      intro fs
      induction fs with
      | nil => intro _; exact Nat.zero_le _
      | cons f fs ih =>
        intro hf
        have h1 := ih fun g hg => hf g (by simp [hg])
        have h2 := hf f (by simp)
        have e : flSize (flB (f :: fs)) = (f.1.length + f.2.length + 4) + flSize (flB fs) := rfl
        rw [e, List.length_cons]
        omega
    have := key h.fs fun f hf => by have := k9 f hf; omega
    omega
  · rw [parse_err hp he]; exact ⟨Nat.zero_le _, Nat.zero_le _, Nat.zero_le _⟩
theorem hiOf_up (h : Hd) : hiOf h.rq ⟨h.m.toArray⟩ ⟨h.t.toArray⟩ (h.st : Int) ⟨h.rs.toArray⟩ (h.mn : Int) (flB h.fs) = h.up := by
  have := eqH_up h h.rq ⟨h.m.toArray⟩ ⟨h.t.toArray⟩ (h.st : Int) ⟨h.rs.toArray⟩ (h.mn : Int) (flB h.fs)
  have e : eqH h.rq h.rq ⟨h.m.toArray⟩ ⟨h.m.toArray⟩ ⟨h.t.toArray⟩ ⟨h.t.toArray⟩ (h.st : Int) h.st ⟨h.rs.toArray⟩ ⟨h.rs.toArray⟩ (h.mn : Int) h.mn (flB h.fs) (flB h.fs) = true := by unfold eqH; simp
  rw [e] at this
  exact (of_decide_eq_true this.symm).symm
theorem isInt_small (n : Nat) (h : n ≤ 1000000) : isInt (n : Int) := by unfold isInt; omega
/-- head.Write of what was parsed -/
theorem hWrite_hd {l : Bs} {rq : Bool} {h : Hd} {e : Nat} (hp : parseP l rq = (h, e)) (A : Option Addr) (c : Nat) (w : World) (hsh : w.ShapedOpen Tryd.prog) (htab : Tab w) (hrd : Rd w w.heap.size 2 A h.fs.length (fieldsV (flB h.fs))) :
    Calls Tryd.prog 54 #[.agg #[.bool h.rq, .string ⟨h.m.toArray⟩, .string ⟨h.t.toArray⟩, .int .i64 (h.st : Int), .string ⟨h.rs.toArray⟩, .int .i64 (h.mn : Int), .slice A h.fs.length c]] w (WritePost w h.up) := by
  obtain ⟨k1, k2⟩ := parse_nums hp
  obtain ⟨k3, k4, k5⟩ := parse_sizes hp
  have := hWrite_any h.rq ⟨h.m.toArray⟩ ⟨h.t.toArray⟩ (h.st : Int) ⟨h.rs.toArray⟩ (h.mn : Int) A h.fs.length c (flB h.fs) w hsh htab hrd (isInt_small _ (by omega)) (isInt_small _ (by omega)) (by omega) (by show h.m.length + h.t.length + h.rs.length ≤ _; omega) (by omega)
  rw [hiOf_up] at this
  exact this

set_option maxHeartbeats 4000000 in
set_option maxRecDepth 100000 in
theorem one_any (A : Option Addr) (n c : Nat) (l : Bs) (rq : Bool) (w : World) (hsh : w.ShapedOpen Tryd.prog) (htab : Tab w) (hA : A = none → n = 0) (hrd : Rd w w.heap.size 1 A n (bytesV l)) (hn : n ≤ 16777216) :
    Calls Tryd.prog 15 #[.slice A n c, .bool rq] w fun e w' => e = .returned (.bool true) ∧ Below w.heap.size w w' := by
  have hlen : l.length = n := by have := hrd.1; rw [bytesV_len] at this; omega
  obtain ⟨j0, hj0, jz0, jz1, jz2⟩ := info_parts infoU8
  obtain ⟨h, e0, hp⟩ : ∃ h e0, parseP l rq = (h, e0) := ⟨_, _, rfl⟩
  have hfew := parse_few hp
  have HP := Lib.hid hp
  have HS := Lib.hid hsh
  have HT := Lib.hid htab
  have HH := Lib.hid (fun A c W h1 h2 h3 => hWrite_hd hp A c W h1 h2 h3)
  clear hp hsh htab
  go_enter Tryd.func15, Tryd.ntmps15
  go_upto_region 3 with (go_at_call 43; go_must (refine (awake_any _ HS.out).mono ?_; rintro _ w1 ⟨rfl, hb1⟩))
  have hsz1 := hb1.size
  have hrd1 := (hrd.below hb1).more hsz1
  have HS1 : Hid (w1.ShapedOpen Tryd.prog) := Lib.hid (shaped_below HS.out hb1)
  have HT1 := Lib.hid (HT.out.below hb1)
  go_upto_region 4 with (first
    | (at_builtin; go_must (refine wpList_app _ rfl (.tmp 16) (.tmp 17) 35 35 rfl w1.heap.size 5 j0 (.int .u8 0) 1 1 Tryd.underlying35 hj0 jz0 jz1 jz2 rfl (.slice (some ⟨w1.heap.size, 0, none⟩) 0 0) 0 [] rfl (empty_row w1 _ 1) _ n (bytesV l) rfl (Src.slice Tryd.underlying35 (hrd1.alloc (Nat.le_refl _) _) hA (bytesV_one l)) (by omega) (by omega) (by omega) (by simp <;> omega) ?_); go_must (intro v2 w2 hrow2 hg2 _; rw [List.nil_append, Nat.zero_add] at hrow2; obtain ⟨A2, c2, rfl, _, _, hA2, hrd2⟩ := hrow2.form; have hb2 : Below w1.heap.size w1 w2 := Below.app ((Below.refl _ _).alloc (Nat.le_refl _) _) (empty_row w1 5 1) hg2 (by omega) (by simp <;> omega); have HS2 : Hid (w2.ShapedOpen Tryd.prog) := Lib.hid (shaped_below HS1.out hb2)))
    | (go_at_call 39; go_must (refine (hParse_lit A2 n c2 l rq _ HS2.out (fun e => (hA2 e).1) hrd2 hn HP.out).mono ?_; rintro _ w3 ⟨A3, c3, rfl, hrow3, hb3⟩))
    | (refine wpList_put rfl 24 (.tmp 5) (.tmp 21) rfl w3.heap.size rfl (Var.new w3 24 [.bool false, .string ⟨#[]⟩, .string ⟨#[]⟩, .int .i64 0, .string ⟨#[]⟩, .int .i64 0, .slice none 0 0]) [.bool h.rq, .string ⟨h.m.toArray⟩, .string ⟨h.t.toArray⟩, .int .i64 (h.st : Int), .string ⟨h.rs.toArray⟩, .int .i64 (h.mn : Int), .slice A3 h.fs.length c3] rfl rfl (by kernel_rfl) (by simp [Value.oneCell']) ?_; intro w4 hvw4 hgw4 hsw4)
    | fail)
  have hz2 := hb2.size
  have hz3 := hb3.size
  have hz4 := put_size hsw4
  have b24 : Below w2.heap.size w2 w4 := Below.put hb3 hz3 hgw4
  have b14 := hb2.trans (b24.mono hz2)
  have B4 := Lib.hid (hb1.trans (b14.mono hsz1))
  have z4 := B4.out.size
  have V4 := hvw4
  obtain ⟨_, _, e1, _, _, _, r4⟩ := (hrow3.put hgw4).form
  injection e1 with e1 _ q1
  subst e1 q1
  have HS4 : Hid (w4.ShapedOpen Tryd.prog) := Lib.hid (shaped_below HS1.out b14)
  have HT4 := Lib.hid (HT1.out.below b14)
  clear hb1 hrd1 hrd hrow2 hg2 hrd2 hb2 hrow3 hb3 hvw4 hgw4 hsw4 b24 b14 hA2
  by_cases he : e0 = 0
  · subst he
    have hw := (write_one HP.out).2
    rcases hw with hw | ⟨hw, hp2⟩
    · have HW := Lib.hid hw
      clear hw
      go_wp2_with (first
        | (refine wpList_load_mid rfl 24 (.tmp 5) rfl w3.heap.size 0 rfl [.bool h.rq, .string ⟨h.m.toArray⟩, .string ⟨h.t.toArray⟩, .int .i64 (h.st : Int), .string ⟨h.rs.toArray⟩, .int .i64 (h.mn : Int), .slice A3 h.fs.length c3] _ (V4).range Tryd.underlying24 rfl (by kernel_rfl) ?_)
        | (go_at_call 54; go_must (refine (HH.out A3 c3 _ HS4.out HT4.out r4).mono ?_; rintro _ w5 ⟨v5, rfl, hrow5, hb5⟩; rw [HW.out]))
        | fail)
      go_ret
      exact ⟨rfl, B4.out.trans (hb5.mono z4)⟩
    · have HW := Lib.hid hw
      have HP2 := Lib.hid hp2
      have hl : (textP h.up).length ≤ 16384 := (parse_yes (by rw [hp2])).1
      clear hw hp2
      generalize textP h.up = tx at *
      go_upto_region 7 with (first
        | (refine wpList_load_mid rfl 24 (.tmp 5) rfl w3.heap.size 0 rfl [.bool h.rq, .string ⟨h.m.toArray⟩, .string ⟨h.t.toArray⟩, .int .i64 (h.st : Int), .string ⟨h.rs.toArray⟩, .int .i64 (h.mn : Int), .slice A3 h.fs.length c3] _ (V4).range Tryd.underlying24 rfl (by kernel_rfl) ?_)
        | (go_at_call 54; go_must (refine (HH.out A3 c3 _ HS4.out HT4.out r4).mono ?_; rintro _ w5 ⟨v5, rfl, hrow5, hb5⟩; rw [HW.out] at hrow5 ⊢; change RowB _ _ _ tx at hrow5; dsimp only; obtain ⟨A5, c5, rfl, _, _, hA5, hr5⟩ := hrow5.form))
        | fail)
      have V5 := V4.below_all hb5
      have r5 := r4.keeps hb5
      have HS5 : Hid (w5.ShapedOpen Tryd.prog) := Lib.hid (shaped_below HS4.out hb5)
      have HT5 := Lib.hid (HT4.out.below hb5)
      have B5 := Lib.hid (B4.out.trans (hb5.mono z4))
      have z5 := B5.out.size
      clear V4 r4 hb5
      go_upto_region 10 with (first
        | (go_at_call 39; go_must (refine (hParse_lit A5 tx.length c5 tx rq _ HS5.out (fun e => (hA5 e).1) hr5 (by omega) HP2.out).mono ?_; rintro _ w6 ⟨A6, c6, rfl, hrow6, hb6⟩))
        | (refine wpList_put rfl 24 (.tmp 9) (.tmp 41) rfl w6.heap.size rfl (Var.new w6 24 [.bool false, .string ⟨#[]⟩, .string ⟨#[]⟩, .int .i64 0, .string ⟨#[]⟩, .int .i64 0, .slice none 0 0]) [.bool h.rq, .string ⟨h.m.toArray⟩, .string ⟨h.t.toArray⟩, .int .i64 (h.st : Int), .string ⟨h.rs.toArray⟩, .int .i64 (h.mn : Int), .slice A6 h.fs.length c6] rfl rfl (by kernel_rfl) (by simp [Value.oneCell']) ?_; intro w7 hvw7 hgw7 hsw7)
        | fail)
      have hz6 := hb6.size
      have hz7 := put_size hsw7
      have b57 : Below w5.heap.size w5 w7 := Below.put hb6 hz6 hgw7
      have V7 := V5.below_all b57
      have r7 := r5.keeps b57
      have t7 := hr5.keeps b57
      have G7 := hvw7
      obtain ⟨_, _, e1, _, _, _, s7⟩ := (hrow6.put hgw7).form
      injection e1 with e1 _ q1
      subst e1 q1
      have HS7 : Hid (w7.ShapedOpen Tryd.prog) := Lib.hid (shaped_below HS5.out b57)
      have HT7 := Lib.hid (HT5.out.below b57)
      have B7 := Lib.hid (B5.out.trans (b57.mono z5))
      have z7 := B7.out.size
      clear V5 r5 hr5 hrow6 hb6 hvw7 hgw7 hsw7 b57 hrow5
      go_upto_region 11 with (first
        | (refine wpList_load_mid rfl 24 (.tmp 9) rfl w6.heap.size 0 rfl [.bool h.rq, .string ⟨h.m.toArray⟩, .string ⟨h.t.toArray⟩, .int .i64 (h.st : Int), .string ⟨h.rs.toArray⟩, .int .i64 (h.mn : Int), .slice A6 h.fs.length c6] _ (G7).range Tryd.underlying24 rfl (by kernel_rfl) ?_)
        | (go_at_call 54; go_must (refine (HH.out A6 c6 _ HS7.out HT7.out s7).mono ?_; rintro _ w8 ⟨v8, rfl, hrow8, hb8⟩; rw [HW.out] at hrow8 ⊢; change RowB _ _ _ tx at hrow8; dsimp only; obtain ⟨A8, c8, rfl, _, _, hA8, hr8⟩ := hrow8.form))
        | fail)
      have V8 := V7.below_all hb8
      have G8 := G7.below_all hb8
      have r8 := r7.keeps hb8
      have s8 := s7.keeps hb8
      have t8 := t7.keeps hb8
      have B8 := Lib.hid (B7.out.trans (hb8.mono z7))
      have z8 := B8.out.size
      clear V7 G7 r7 s7 t7 hb8 hrow8
      go_wp2_with (first
        | (refine wpList_load_mid_g (by rfl) 24 (.tmp 9) rfl w6.heap.size 0 rfl [.bool h.rq, .string ⟨h.m.toArray⟩, .string ⟨h.t.toArray⟩, .int .i64 (h.st : Int), .string ⟨h.rs.toArray⟩, .int .i64 (h.mn : Int), .slice A6 h.fs.length c6] _ (G8).range Tryd.underlying24 rfl (by kernel_rfl) ?_)
        | (refine wpList_load_mid_g (by rfl) 24 (.tmp 5) rfl w3.heap.size 0 rfl [.bool h.rq, .string ⟨h.m.toArray⟩, .string ⟨h.t.toArray⟩, .int .i64 (h.st : Int), .string ⟨h.rs.toArray⟩, .int .i64 (h.mn : Int), .slice A3 h.fs.length c3] _ (V8).range Tryd.underlying24 rfl (by kernel_rfl) ?_)
        | (go_at_call 22; go_must (refine (rSame_any h.rq ⟨h.m.toArray⟩ ⟨h.t.toArray⟩ h.st ⟨h.rs.toArray⟩ h.mn A6 A3 h.fs.length c6 c3 (flB h.fs) _ s8 r8 (by omega)).mono ?_; rintro _ w9 ⟨rfl, hb9⟩; have t9 := t8.keeps hb9; have u9 := hr8.keeps hb9))
        | (go_at_call 56; go_must (refine (same_any A5 A8 tx.length c5 c8 tx _ t9 u9 (by omega)).mono ?_; rintro _ w10 ⟨rfl, hb10⟩))
        | fail)
      go_ret
      exact ⟨rfl, (B8.out.trans (hb9.mono z8)).trans (hb10.mono (by have := hb9.size; omega))⟩
  · have hh := parse_err HP.out he
    have he' : ((e0 : Int) != 0) = true := by simpa using he
    have HE : Hid (eqH h.rq false ⟨h.m.toArray⟩ ⟨#[]⟩ ⟨h.t.toArray⟩ ⟨#[]⟩ (h.st : Int) 0 ⟨h.rs.toArray⟩ ⟨#[]⟩ (h.mn : Int) 0 (flB h.fs) [] = true) := Lib.hid (by rw [hh]; rfl)
    clear he hh
    go_wp2_with (first
      | (refine wpList_load_mid rfl 24 (.tmp 5) rfl w3.heap.size 0 rfl [.bool h.rq, .string ⟨h.m.toArray⟩, .string ⟨h.t.toArray⟩, .int .i64 (h.st : Int), .string ⟨h.rs.toArray⟩, .int .i64 (h.mn : Int), .slice A3 h.fs.length c3] _ (V4).range Tryd.underlying24 rfl (by kernel_rfl) ?_)
      | (go_at_call 22; go_must (refine (rSame_gen h.rq false ⟨h.m.toArray⟩ ⟨#[]⟩ ⟨h.t.toArray⟩ ⟨#[]⟩ (h.st : Int) 0 ⟨h.rs.toArray⟩ ⟨#[]⟩ (h.mn : Int) 0 A3 none h.fs.length 0 c3 0 (flB h.fs) [] _ r4 (Rd.nil _ _ _ _) (by omega) (by omega)).mono ?_; rintro _ w5 ⟨rfl, hb5⟩; rw [HE.out]))
      | fail)
    go_ret
    exact ⟨rfl, B4.out.trans (hb5.mono z4)⟩
end Go.Proofs.YthipgmnfokfaiaaDoor
