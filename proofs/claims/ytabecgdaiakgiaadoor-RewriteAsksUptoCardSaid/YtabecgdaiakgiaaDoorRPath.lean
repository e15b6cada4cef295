/- rewrite.Path. Conditions: sizes. -/
import Derived.Test.YtabecgdaiakgiaaDoorRPath2
import Derived.Test.YtabecgdaiakgiaaDoorIdxAny
namespace Go.Proofs.YtabecgdaiakgiaaDoor
open Go.RowKit

theorem cutP_none : ∀ {l : Bs}, Lib.indexAny l [47, 63] = -1 → cutP l = [47]
  | [], _ => rfl
  | b :: l, h => by
    unfold Lib.indexAny at h
    split at h
    · cases h
    · rename_i hb
      have h47 : b ≠ 47 := fun e => hb (by subst e; rfl)
      have h63 : b ≠ 63 := fun e => hb (by subst e; rfl)
      split at h
      · rename_i hi
        rw [cutP, if_neg h47, if_neg h63]
        exact cutP_none (by simpa using hi)
      · have := Lib.indexAny_ge [47, 63] l
        omega
theorem cutP_some : ∀ {l : Bs} {i : Nat}, Lib.indexAny l [47, 63] = (i : Int) → ∃ b, l[i]? = some b ∧ ((b = 47 ∧ cutP l = l.drop i) ∨ (b = 63 ∧ cutP l = 47 :: l.drop i))
  | [], i, h => by unfold Lib.indexAny at h; omega
  | b :: l, i, h => by
    unfold Lib.indexAny at h
    split at h
    · rename_i hb
      obtain rfl : i = 0 := by omega
      refine ⟨b, rfl, ?_⟩
      have : b = 47 ∨ b = 63 := by simpa using hb
      rcases this with rfl | rfl
      · exact .inl ⟨rfl, by rw [cutP, if_pos rfl]; rfl⟩
      · exact .inr ⟨rfl, by rw [cutP, if_neg (by decide), if_pos rfl]; rfl⟩
    · rename_i hb
      have h47 : b ≠ 47 := fun e => hb (by subst e; rfl)
      have h63 : b ≠ 63 := fun e => hb (by subst e; rfl)
      split at h
      · omega
      · have hg := Lib.indexAny_ge [47, 63] l
        rename_i hi
        have hi' : Lib.indexAny l [47, 63] ≠ -1 := by simpa using hi
        obtain ⟨j, hj⟩ : ∃ j : Nat, Lib.indexAny l [47, 63] = (j : Int) := ⟨(Lib.indexAny l [47, 63]).toNat, by omega⟩
        obtain rfl : i = j + 1 := by omega
        obtain ⟨c, h1, h2⟩ := cutP_some hj
        refine ⟨c, by simpa using h1, ?_⟩
        rw [cutP, if_neg h47, if_neg h63]
        simpa using h2
theorem cutP_zero {l : Bs} (h : Lib.indexAny l [47, 63] = 0) : l[0]? = some 47 ∨ l[0]? = some 63 := by
  obtain ⟨b, h1, h2⟩ := cutP_some (i := 0) (by simpa using h)
  rcases h2 with ⟨rfl, _⟩ | ⟨rfl, _⟩
  · exact .inl h1
  · exact .inr h1
theorem idx_pos {l : Bs} (h : Lib.indexAny l [47, 63] ≠ 0) : l[0]? ≠ some 47 ∧ l[0]? ≠ some 63 := by
  cases l with
  | nil => simp
  | cons b l =>
    unfold Lib.indexAny at h
    split at h
    · exact absurd rfl h
    · rename_i hb
      exact ⟨fun e => hb (by cases e; rfl), fun e => hb (by cases e; rfl)⟩

theorem hasPre_head {l : Bs} : Lib.hasPrefix l [47] = true ↔ l.head? = some 47 := by
  unfold Lib.hasPrefix
  cases l with
  | nil => simp
  | cons b l =>
    show (47 == b && List.isPrefixOf [] l) = true ↔ some b = some 47
    rw [show List.isPrefixOf ([] : Bs) l = true from by cases l <;> rfl, Bool.and_true, beq_iff_eq, Option.some.injEq]
    exact eq_comm

set_option maxHeartbeats 4000000 in
set_option maxRecDepth 100000 in
theorem wPath_any (t : ByteArray) (w : World) (hs : t.size ≤ 16777216) :
    Calls Tryd.prog 14 #[.string t] w fun e w' => e = .returned (pathV (pathP t.data.toList)) ∧ Below w.heap.size w w' := by
  have hhp := fun W => Tryd.strings_HasPrefix t ⟨#[47]⟩ W
  cases hP : Lib.hasPrefix t.data.toList [47] with
  | true =>
    rw [show (ByteArray.mk #[47]).data.toList = [47] from rfl, hP] at hhp
    have HHP := Lib.hid hhp
    have HE := Lib.hid (path_slash (l := t.data.toList) (hasPre_head.1 hP))
    clear hhp hP
    go_enter Tryd.func14, Tryd.ntmps14
    go_wp2_with (first
      | (go_at_call 55; go_must (refine (HHP.out _).mono ?_; rintro _ w0 ⟨rfl, rfl⟩))
      | fail)
    go_ret2
    exact ⟨by rw [HE.out]; rfl, Below.refl _ _⟩
  | false =>
    rw [show (ByteArray.mk #[47]).data.toList = [47] from rfl, hP] at hhp
    have HHP := Lib.hid hhp
    have hh : t.data.toList.head? ≠ some 47 := fun e => by rw [hasPre_head.2 e] at hP; cases hP
    clear hhp hP
    by_cases hx : t = ⟨#[42]⟩
    · subst hx
      go_enter Tryd.func14, Tryd.ntmps14
      go_wp2_with (first
        | (go_at_call 55; go_must (refine (HHP.out _).mono ?_; rintro _ w0 ⟨rfl, rfl⟩))
        | fail)
      go_ret2
      exact ⟨rfl, Below.refl _ _⟩
    · have b0 := toList_ne (l := [42]) hx
      have hx' : t.data.toList ≠ [42] := fun e => hx (byte_ext.2 e)
      by_cases h8 : t.size < 8
      · have h8d : decide ((t.size : Int) ≤ 7) = true := by simp; omega
        (have HE := Lib.hid (path_no8 hx' hh (.inl (by rw [← Lib.size_eq]; exact h8)))
         clear hx' hh
         try clear hno
         go_enter Tryd.func14, Tryd.ntmps14
         go_wp2_with (first
           | (go_at_call 55; go_must (refine (HHP.out _).mono ?_; rintro _ w0 ⟨rfl, rfl⟩))
           | (go_at_call 56; go_must (refine (HF.out _).mono ?_; rintro _ w1 ⟨rfl, hb1⟩))
           | (go_at_call 57; go_must (refine (HIA.out _).mono ?_; rintro _ w2 ⟨rfl, hb2⟩))
           | fail)
         go_ret2
         exact ⟨by rw [HE.out]; rfl, Below.refl _ _⟩)
      · have hF := fun W => hFold_any (t.extract 0 7) W (by rw [ByteArray.size_extract]; omega)
        rw [extract_pre] at hF
        obtain ⟨F, hFe⟩ : ∃ F : ByteArray, F = ⟨(fold (t.data.toList.take 7)).toArray⟩ := ⟨_, rfl⟩
        rw [← hFe] at hF
        have hFd : F.data.toList = fold (t.data.toList.take 7) := by rw [hFe]
        have HF := Lib.hid hF
        have h7 : 7 < t.size := by omega
        have h8d : decide ((t.size : Int) ≤ 7) = false := by simp; omega
        by_cases hfe : F = ⟨#[104, 116, 116, 112, 58, 47, 47]⟩
        · have hIA := fun W => idxAny_any (t.extract 7 t.size) W (by rw [ByteArray.size_extract]; omega)
          rw [extract7] at hIA
          have hR := extract7 t 7
          have hRz : (t.extract 7 t.size).size = t.size - 7 := by rw [ByteArray.size_extract]; omega
          have h0 : (t.data.toList.drop 7)[0]? = t.data.toList[7]? := by simp
          subst hfe
          obtain ⟨I, hI⟩ : ∃ I, I = Lib.indexAny (t.data.toList.drop 7) [47, 63] := ⟨_, rfl⟩
          rw [← hI] at hIA
          have HIA := Lib.hid hIA
          by_cases hI0 : I = 0
          · subst hI0
            have hno : t.data.toList[7]? = some 47 ∨ t.data.toList[7]? = some 63 := by rw [← h0]; exact cutP_zero hI.symm
            clear hF hFe hFd hIA hR hRz h0 hI
            (have HE := Lib.hid (path_no8 hx' hh (.inr (.inr hno)))
             clear hx' hh
             try clear hno
             go_enter Tryd.func14, Tryd.ntmps14
             go_wp2_with (first
               | (go_at_call 55; go_must (refine (HHP.out _).mono ?_; rintro _ w0 ⟨rfl, rfl⟩))
               | (go_at_call 56; go_must (refine (HF.out _).mono ?_; rintro _ w1 ⟨rfl, hb1⟩))
               | (go_at_call 57; go_must (refine (HIA.out _).mono ?_; rintro _ w2 ⟨rfl, hb2⟩))
               | fail)
             go_ret2
             exact ⟨by rw [HE.out]; rfl, hb1.trans (hb2.mono hb1.size)⟩)
          · have hnn := idx_pos (l := t.data.toList.drop 7) (by rw [← hI]; exact hI0)
            rw [h0] at hnn
            have HE := Lib.hid (path_cut hx' hh (by
              rintro (h | h | h | h)
              · rw [← Lib.size_eq] at h; exact h8 h
              · rw [← hFd] at h; exact h rfl
              · exact hnn.1 h
              · exact hnn.2 h))
            have hge := Lib.indexAny_ge [47, 63] (t.data.toList.drop 7)
            rw [← hI] at hge
            clear hnn h0
            by_cases hIn : I = -1
            · subst hIn
              have HC := Lib.hid (cutP_none hI.symm)
              clear hIA hR hRz hI hge hI0
              (clear hF hFe hFd hx' hh
               go_enter Tryd.func14, Tryd.ntmps14
               go_wp2_with (first
                 | (go_at_call 55; go_must (refine (HHP.out _).mono ?_; rintro _ w0 ⟨rfl, rfl⟩))
                 | (go_at_call 56; go_must (refine (HF.out _).mono ?_; rintro _ w1 ⟨rfl, hb1⟩))
                 | (go_at_call 57; go_must (refine (HIA.out _).mono ?_; rintro _ w2 ⟨rfl, hb2⟩))
                 | fail)
               go_ret2
               refine ⟨?_, hb1.trans (hb2.mono hb1.size)⟩
               rw [HE.out])
              rw [HC.out]
              rfl
            · obtain ⟨i, rfl⟩ : ∃ i : Nat, I = (i : Int) := ⟨I.toNat, by omega⟩
              obtain ⟨b, hb0, hbb⟩ := cutP_some hI.symm
              have hil : i < (t.data.toList.drop 7).length := (List.getElem?_eq_some_iff.1 hb0).1
              rw [← hR] at hb0 hil
              rw [← Lib.size_eq] at hil
              have hbg : (t.extract 7 t.size)[i] = b := by have := str_get hil; rw [hb0] at this; exact (Option.some.inj this).symm
              have hi0 : ¬ i = 0 := by omega
              have hex : ((t.extract 7 t.size).extract i (t.extract 7 t.size).size).data.toList = (t.data.toList.drop 7).drop i := by rw [extract7, hR]
              obtain ⟨R, hRR⟩ : ∃ R, t.extract 7 t.size = R := ⟨_, rfl⟩
              simp only [hRR] at HIA hil hbg hex hRz
              have hRle : R.size ≤ 16777216 := by omega
              have hilI : (i : Int) < (R.size : Int) := by omega
              rcases hbb with ⟨rfl, hc⟩ | ⟨rfl, hc⟩
              · have q7 : ((R[i].toNat : Int) == 63) = false := by rw [hbg]; rfl
                have HC := Lib.hid hc
                have HX := Lib.hid hex
                clear hIA hR hRz hI hge hI0 hIn hc hex hb0 hbg
                (clear hF hFe hFd hx' hh
                 go_enter Tryd.func14, Tryd.ntmps14
                 go_wp2_with (first
                   | (go_at_call 55; go_must (refine (HHP.out _).mono ?_; rintro _ w0 ⟨rfl, rfl⟩))
                   | (go_at_call 56; go_must (refine (HF.out _).mono ?_; rintro _ w1 ⟨rfl, hb1⟩))
                   | (go_at_call 57; go_must (refine (HIA.out _).mono ?_; rintro _ w2 ⟨rfl, hb2⟩))
                   | fail)
                 go_ret2
                 refine ⟨?_, hb1.trans (hb2.mono hb1.size)⟩
                 rw [HE.out])
                rw [HC.out]
                exact congrArg (fun s => Ending.returned (.tuple #[.string s, .bool true])) (str_mk HX.out)
              · have q7 : ((R[i].toNat : Int) == 63) = true := by rw [hbg]; rfl
                have HC := Lib.hid hc
                have HX := Lib.hid hex
                clear hIA hR hRz hI hge hI0 hIn hc hex hb0 hbg
                (clear hF hFe hFd hx' hh
                 go_enter Tryd.func14, Tryd.ntmps14
                 go_wp2_with (first
                   | (go_at_call 55; go_must (refine (HHP.out _).mono ?_; rintro _ w0 ⟨rfl, rfl⟩))
                   | (go_at_call 56; go_must (refine (HF.out _).mono ?_; rintro _ w1 ⟨rfl, hb1⟩))
                   | (go_at_call 57; go_must (refine (HIA.out _).mono ?_; rintro _ w2 ⟨rfl, hb2⟩))
                   | fail)
                 go_ret2
                 refine ⟨?_, hb1.trans (hb2.mono hb1.size)⟩
                 rw [HE.out])
                rw [HC.out]
                exact congrArg (fun s => Ending.returned (.tuple #[.string s, .bool true])) (str_mk (by rw [data_app, HX.out]; rfl))
        · have hne := toList_ne (l := [104, 116, 116, 112, 58, 47, 47]) hfe
          have hno : fold (t.data.toList.take 7) ≠ bHttp := by rw [← hFd]; exact fun e => hfe (byte_ext.2 e)
          clear hF hFe hFd
          have HIA : Hid (∀ W : World, True) := Lib.hid fun _ => trivial
          (have HE := Lib.hid (path_no8 hx' hh (.inr (.inl hno)))
           clear hx' hh
           try clear hno
           go_enter Tryd.func14, Tryd.ntmps14
           go_wp2_with (first
             | (go_at_call 55; go_must (refine (HHP.out _).mono ?_; rintro _ w0 ⟨rfl, rfl⟩))
             | (go_at_call 56; go_must (refine (HF.out _).mono ?_; rintro _ w1 ⟨rfl, hb1⟩))
             | (go_at_call 57; go_must (refine (HIA.out _).mono ?_; rintro _ w2 ⟨rfl, hb2⟩))
             | fail)
           go_ret2
           exact ⟨by rw [HE.out]; rfl, hb1⟩)
end Go.Proofs.YtabecgdaiakgiaaDoor
