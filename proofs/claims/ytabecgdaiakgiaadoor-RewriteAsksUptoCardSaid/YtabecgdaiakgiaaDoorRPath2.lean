/- the reference's Path. Conditions: sizes. -/
import Derived.Test.YtabecgdaiakgiaaDoorRwLaw
import Derived.Test.YtabecgdaiakgiaaDoorFold
import Derived.Test.YtabecgdaiakgiaaDoorVars
import Derived.Test.YtabecgdaiakgiaaDoorSmall2
namespace Go.Proofs.YtabecgdaiakgiaaDoor
open Go.RowKit

theorem str_get {t : ByteArray} {i : Nat} (h : i < t.size) : t.data.toList[i]? = some t[i] := Lib.data_getElem? t i h
theorem extract7 (t : ByteArray) (k : Nat) : (t.extract k t.size).data.toList = t.data.toList.drop k := by
  rw [Lib.extract_data, List.take_of_length_le]
  rw [List.length_drop, ← Lib.size_eq]
  omega
theorem extract_pre (t : ByteArray) (k : Nat) : (t.extract 0 k).data.toList = t.data.toList.take k := by
  rw [Lib.extract_data]; simp
def pathV (p : Option Bs) : Value := .tuple #[.string ⟨(p.getD []).toArray⟩, .bool p.isSome]
theorem cut_step {t : ByteArray} {k : Nat} (h : k < t.size) : cutP (t.data.toList.drop k) = if t[k] = 47 then t.data.toList.drop k else if t[k] = 63 then 47 :: t.data.toList.drop k else cutP (t.data.toList.drop (k + 1)) := by
  have hl : k < t.data.toList.length := by rw [← Lib.size_eq]; exact h
  have e : t.data.toList[k] = t[k] := by
    have := str_get h
    rw [List.getElem?_eq_getElem hl] at this
    exact Option.some.inj this
  rw [List.drop_eq_getElem_cons hl, cutP, e]

theorem path_no8 {l : Bs} (h1 : l ≠ [42]) (h2 : l.head? ≠ some 47) (h3 : l.length < 8 ∨ fold (l.take 7) ≠ bHttp ∨ l[7]? = some 47 ∨ l[7]? = some 63) : pathP l = none := by
  unfold pathP
  rw [if_neg (by rintro (h | h); exact h1 h; exact h2 h), if_pos h3]
theorem path_cut {l : Bs} (h1 : l ≠ [42]) (h2 : l.head? ≠ some 47) (h3 : ¬ (l.length < 8 ∨ fold (l.take 7) ≠ bHttp ∨ l[7]? = some 47 ∨ l[7]? = some 63)) : pathP l = some (cutP (l.drop 7)) := by
  unfold pathP
  rw [if_neg (by rintro (h | h); exact h1 h; exact h2 h), if_neg h3]
theorem path_slash {l : Bs} (h : l.head? = some 47) : pathP l = some l := by
  unfold pathP
  rw [if_pos (Or.inr h)]
theorem head_ne {t : ByteArray} (h : ∀ h0 : 0 < t.size, t[0] ≠ 47) : t.data.toList.head? ≠ some 47 := by
  rw [List.head?_eq_getElem?]
  by_cases h0 : 0 < t.size
  · rw [str_get h0]; intro e; exact h h0 (Option.some.inj e)
  · rw [List.getElem?_eq_none (by rw [← Lib.size_eq]; omega)]; intro e; cases e
theorem str_mk {t : ByteArray} {l : Bs} (h : t.data.toList = l) : t = ⟨l.toArray⟩ := byte_ext.2 h
theorem data_app (a b : ByteArray) : (a ++ b).data.toList = a.data.toList ++ b.data.toList := by simp
theorem byte_ne {c d : UInt8} (h : c ≠ d) : ((c.toNat : Int) == (d.toNat : Int)) = false := by
  rw [beq_eq_false_iff_ne]
  intro e
  exact h (UInt8.toNat_inj.1 (by omega))

set_option maxHeartbeats 4000000 in
set_option maxRecDepth 100000 in
theorem pPath_any (t : ByteArray) (w : World) (hs : t.size ≤ 16777216) :
    Calls Tryd.prog 15 #[.string t] w fun e w' => e = .returned (pathV (pathP t.data.toList)) ∧ Below w.heap.size w w' := by
  by_cases hx : t = ⟨#[42]⟩
  · subst hx
    go_enter Tryd.func15, Tryd.ntmps15
    go_wp2
    go_ret2
    exact ⟨rfl, Below.refl _ _⟩
  · have b0 := toList_ne (l := [42]) hx
    have hx' : t.data.toList ≠ [42] := fun e => hx (byte_ext.2 e)
    by_cases h0 : 0 < t.size
    · by_cases h47 : t[0] = 47
      · have HE := Lib.hid (path_slash (l := t.data.toList) (by rw [List.head?_eq_getElem?, str_get h0, h47]))
        have hb : ((t[0].toNat : Int) == 47) = true := by rw [h47]; rfl
        go_enter Tryd.func15, Tryd.ntmps15
        go_wp2
        go_ret2
        exact ⟨by rw [HE.out]; rfl, Below.refl _ _⟩
      · have hb : ((t[0].toNat : Int) == 47) = false := byte_ne (d := 47) h47
        have hh := head_ne (t := t) (fun _ => h47)
        clear h47
        by_cases h8 : t.size < 8
        · (have HE := Lib.hid (path_no8 hx' hh (.inl (by rw [← Lib.size_eq]; exact h8)))
           clear hx' hh
           try clear hno
           go_enter Tryd.func15, Tryd.ntmps15
           go_wp2_with (first
             | (go_at_call 58; go_must (refine (HF.out _).mono ?_; rintro _ w1 ⟨rfl, hb1⟩))
             | fail)
           go_ret2
           exact ⟨by rw [HE.out]; rfl, Below.refl _ _⟩)
        · have hF := fun W => rFold_any (t.extract 0 7) W (by rw [ByteArray.size_extract]; omega)
          rw [extract_pre] at hF
          obtain ⟨F, hFe⟩ : ∃ F : ByteArray, F = ⟨(fold (t.data.toList.take 7)).toArray⟩ := ⟨_, rfl⟩
          rw [← hFe] at hF
          have hFd : F.data.toList = fold (t.data.toList.take 7) := by rw [hFe]
          have HF := Lib.hid hF
          have h7 : 7 < t.size := by omega
          have h8d : decide ((t.size : Int) < 8) = false := by simp; omega
          have g7 := str_get h7
          by_cases hfe : F = ⟨#[104, 116, 116, 112, 58, 47, 47]⟩
          · by_cases hs7 : t[7] = 47
            · have q7 : ((t[7].toNat : Int) == 47) = true := by rw [hs7]; rfl
              subst hfe
              clear hFd
              clear hF hFe
              (have HE := Lib.hid (path_no8 hx' hh (.inr (.inr (.inl (by rw [g7, hs7])))))
               clear hx' hh
               try clear hno
               go_enter Tryd.func15, Tryd.ntmps15
               go_wp2_with (first
                 | (go_at_call 58; go_must (refine (HF.out _).mono ?_; rintro _ w1 ⟨rfl, hb1⟩))
                 | fail)
               go_ret2
               exact ⟨by rw [HE.out]; rfl, hb1⟩)
            · by_cases hq7 : t[7] = 63
              · have q7 : ((t[7].toNat : Int) == 47) = false := by rw [hq7]; rfl
                have r7 : ((t[7].toNat : Int) == 63) = true := by rw [hq7]; rfl
                subst hfe
                clear hFd
                clear hF hFe
                (have HE := Lib.hid (path_no8 hx' hh (.inr (.inr (.inr (by rw [g7, hq7])))))
                 clear hx' hh
                 try clear hno
                 go_enter Tryd.func15, Tryd.ntmps15
                 go_wp2_with (first
                   | (go_at_call 58; go_must (refine (HF.out _).mono ?_; rintro _ w1 ⟨rfl, hb1⟩))
                   | fail)
                 go_ret2
                 exact ⟨by rw [HE.out]; rfl, hb1⟩)
              · have q7 : ((t[7].toNat : Int) == 47) = false := byte_ne (d := 47) hs7
                have r7 : ((t[7].toNat : Int) == 63) = false := byte_ne (d := 63) hq7
                have HE := Lib.hid (path_cut hx' hh (by
                  rintro (h | h | h | h)
                  · rw [← Lib.size_eq] at h; exact h8 h
                  · rw [← hFd, hfe] at h; exact h rfl
                  · rw [g7] at h; exact hs7 (Option.some.inj h)
                  · rw [g7] at h; exact hq7 (Option.some.inj h)))
                subst hfe
                clear hFd
                clear hF hFe hx' hh g7
                go_enter Tryd.func15, Tryd.ntmps15
                go_upto_region 6 with (first
                  | (go_at_call 58; go_must (refine (HF.out _).mono ?_; rintro _ w1 ⟨rfl, hb1⟩))
                  | fail)
                have HN : Hid (fold (t.data.toList.take 7) = fold (t.data.toList.take 7)) := Lib.hid rfl
                clear q7 r7 hs7 hq7 h8d HF HN hb b0
                go_loopw [4] (fun i wr => ∃ k : Nat, 7 ≤ k ∧ k ≤ t.size ∧ i = .int .i64 k ∧ cutP (t.data.toList.drop 7) = cutP (t.data.toList.drop k) ∧ wr = w1) (fun i _ => t.size - (intOf i).toNat)
                case atStart => exact ⟨7, by omega, by omega, rfl, rfl, rfl⟩
                case round =>
                  obtain ⟨k, hk7, hk, rfl, hc, rfl⟩ := hrel
                  have HC := Lib.hid hc
                  clear hc
                  by_cases hlt : k < t.size
                  · have HS := Lib.hid (cut_step hlt)
                    by_cases hs7 : t[k] = 47
                    · have q7 : ((t[k].toNat : Int) == 47) = true := by rw [hs7]; rfl
                      go_wp2
                      go_ret2
                      refine ⟨?_, hb1⟩
                      rw [HE.out, HC.out, HS.out, if_pos hs7]
                      exact congrArg (fun s => Ending.returned (.tuple #[.string s, .bool true])) (str_mk (extract7 t k))
                    · have q7 : ((t[k].toNat : Int) == 47) = false := byte_ne (d := 47) hs7
                      by_cases hq7 : t[k] = 63
                      · have r7 : ((t[k].toNat : Int) == 63) = true := by rw [hq7]; rfl
                        go_wp2
                        go_ret2
                        refine ⟨?_, hb1⟩
                        rw [HE.out, HC.out, HS.out, if_neg hs7, if_pos hq7]
                        exact congrArg (fun s => Ending.returned (.tuple #[.string s, .bool true])) (str_mk (by rw [data_app, extract7]; rfl))
                      · have r7 : ((t[k].toNat : Int) == 63) = false := byte_ne (d := 63) hq7
                        go_wp2
                        go_roundw
                        case rel => exact ⟨k + 1, by omega, by omega, by go_num, by rw [HC.out, HS.out, if_neg hs7, if_neg hq7], by first | trivial | rfl⟩
                        case measure => simp [intOf]; omega
                  · go_wp2
                    go_ret2
                    refine ⟨?_, hb1⟩
                    rw [HE.out, HC.out, List.drop_eq_nil_of_le (by rw [← Lib.size_eq]; omega)]
                    rfl
          · have hne := toList_ne (l := [104, 116, 116, 112, 58, 47, 47]) hfe
            have hno : fold (t.data.toList.take 7) ≠ bHttp := by rw [← hFd]; exact fun e => hfe (byte_ext.2 e)
            clear hF hFe hFd
            (have HE := Lib.hid (path_no8 hx' hh (.inr (.inl hno)))
             clear hx' hh
             try clear hno
             go_enter Tryd.func15, Tryd.ntmps15
             go_wp2_with (first
               | (go_at_call 58; go_must (refine (HF.out _).mono ?_; rintro _ w1 ⟨rfl, hb1⟩))
               | fail)
             go_ret2
             exact ⟨by rw [HE.out]; rfl, hb1⟩)
    · have hh := head_ne (t := t) (fun h => absurd h h0)
      have h8 : t.size < 8 := by omega
      have hz : t.size = 0 := by omega
      (have HE := Lib.hid (path_no8 hx' hh (.inl (by rw [← Lib.size_eq]; exact h8)))
       clear hx' hh
       try clear hno
       go_enter Tryd.func15, Tryd.ntmps15
       go_wp2_with (first
         | (go_at_call 58; go_must (refine (HF.out _).mono ?_; rintro _ w1 ⟨rfl, hb1⟩))
         | fail)
       go_ret2
       exact ⟨by rw [HE.out]; rfl, Below.refl _ _⟩)
end Go.Proofs.YtabecgdaiakgiaaDoor
