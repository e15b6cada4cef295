/- The framing of what is rewritten. No program in sight. Conditions: a length below 10^15. -/
import Derived.Test.YtabecgdaiakgiaaDoorFramP
import Derived.Test.YtabecgdaiakgiaaDoorRKeepL
namespace Go.Proofs.YtabecgdaiakgiaaDoor

theorem dig_fin : ∀ i : Fin 10, isDigit (UInt8.ofNat (48 + i.val)) = true ∧ (UInt8.ofNat (48 + i.val)).toNat - 48 = i.val := by decide
theorem dec_step (u : Nat) : Lib.decDigits u = if u < 10 then [UInt8.ofNat (48 + u)] else Lib.decDigits (u / 10) ++ [UInt8.ofNat (48 + u % 10)] := by
  rw [Lib.decDigits]
  split <;> rfl
theorem dec_num : ∀ u : Nat, numP (Lib.decDigits u) = u ∧ (Lib.decDigits u).all isDigit = true ∧ Lib.decDigits u ≠ [] := by
  intro u
  induction u using Nat.strongRecOn with
  | _ u ih =>
    rw [dec_step]
    by_cases h : u < 10
    · have hd := dig_fin ⟨u, h⟩
      rw [if_pos h]
      refine ⟨?_, ?_, by simp⟩
      · show 10 * 0 + ((UInt8.ofNat (48 + u)).toNat - 48) = u
        have := hd.2
        simp only at this
        omega
      · rw [List.all_cons, hd.1]; rfl
    · obtain ⟨i1, i2, i3⟩ := ih (u / 10) (by omega)
      have hd := dig_fin ⟨u % 10, by omega⟩
      rw [if_neg h]
      refine ⟨?_, ?_, by simp⟩
      · have := hd.2
        simp only at this
        rw [numF_snoc, i1, this]; omega
      · rw [List.all_append, i2, List.all_cons, hd.1]; rfl
theorem decF_len : ∀ (k u : Nat), u < 10 ^ (k + 1) → (Lib.decDigits u).length ≤ k + 1
  | k, u, h => by
    rw [dec_step]
    by_cases h10 : u < 10
    · rw [if_pos h10]; simp
    · rw [if_neg h10, List.length_append, List.length_singleton]
      cases k with
      | zero => exact absurd (by simpa using h) h10
      | succ k =>
        have := decF_len k (u / 10) (by rw [Nat.pow_succ] at h; omega)
        omega
theorem itoa_good {ln : Int} (h0 : 0 ≤ ln) (h1 : ln < 1000000000000000) : numP (Lib.itoa ln) = ln.toNat ∧ (Lib.itoa ln).all isDigit = true ∧ Lib.itoa ln ≠ [] ∧ (Lib.itoa ln).length ≤ 15 := by
  obtain ⟨k, rfl⟩ := Int.eq_ofNat_of_zero_le h0
  rw [itoa_nat, Int.toNat_natCast]
  obtain ⟨a, b, c⟩ := dec_num k
  exact ⟨a, b, c, decF_len 14 k (by omega)⟩
theorem length_one {ln : Int} (h0 : 0 ≤ ln) (h1 : ln < 1000000000000000) : lengthP (listed [⟨(Lib.itoa ln).toArray⟩]) = some ln.toNat := by
  obtain ⟨a, b, c, d⟩ := itoa_good h0 h1
  obtain ⟨e, f⟩ := digits_plain b
  have hl : (⟨(Lib.itoa ln).toArray⟩ : ByteArray).size ≤ 15 := by rw [Lib.size_eq]; exact d
  rw [listed_one (v := ⟨(Lib.itoa ln).toArray⟩) e f c]
  rw [lengthP_cons, if_neg (by omega), if_pos ⟨b, by simp⟩, a]
theorem coded_one (mn : Int) (fs : List Fl) (hm : mn = 1) (hl : vals fs sLen = []) (hc : vals fs sCod = [sChunked]) : codedP mn fs = true := by
  unfold codedP
  rw [hl, hc, listed_one (v := sChunked) (by decide) (by decide) (by decide)]
  subst hm
  decide
theorem frameF_vals (fr ln : Int) : vals (frameP fr ln) sLen = (if fr = 1 then [⟨(Lib.itoa ln).toArray⟩] else []) ∧ vals (frameP fr ln) sCod = (if fr = 2 then [sChunked] else []) := by
  unfold frameP
  by_cases h1 : fr = 1
  · subst h1
    simp only [if_true]
    exact ⟨vals_yes rfl, vals_no (by decide +kernel)⟩
  · by_cases h2 : fr = 2
    · subst h2
      simp only [if_true]
      exact ⟨vals_no (by decide +kernel), vals_yes rfl⟩
    · simp only [h1, h2, if_false]
      exact ⟨rfl, rfl⟩
def lenN (fr ln : Int) : Nat := if fr = 1 then ln.toNat else 0
/-- which lengths and codings the fields of a framing tell -/
theorem framing_of (rq : Bool) (st : Int) (F : List Fl) (fr ln : Int) (hf : 0 ≤ fr ∧ fr ≤ 2) (hl : fr = 1 → 0 ≤ ln) (hl2 : ln < 1000000000000000)
    (h1 : ¬ (rq = true ∧ hostedP 1 F = false)) (h2 : ¬ (rq = false ∧ (100 ≤ st ∧ st ≤ 199 ∨ st = 204 ∨ st = 304 ∨ false = true)))
    (hL : vals F sLen = vals (frameP fr ln) sLen) (hC : vals F sCod = vals (frameP fr ln) sCod) (hr : rq = true ∨ fr = 1 ∨ fr = 2) :
    framingP rq false st 1 F = (fr.toNat, lenN fr ln, 0) := by
  obtain ⟨v1, v2⟩ := frameF_vals fr ln
  rw [v1] at hL
  rw [v2] at hC
  unfold framingP lenN
  rw [if_neg h1, if_neg h2]
  by_cases f1 : fr = 1
  · subst f1
    rw [if_neg (by decide)] at hC
    rw [if_pos rfl] at hL
    rw [if_neg (by rw [hC]; simp), if_pos (by rw [hL]; simp), hL, length_one (hl rfl) hl2]
    simp
  · by_cases f2 : fr = 2
    · subst f2
      rw [if_pos rfl] at hC
      rw [if_neg (by decide)] at hL
      rw [if_pos (by rw [hC]; simp), if_pos (coded_one 1 F rfl hL hC)]
      rfl
    · rw [if_neg f2] at hC
      rw [if_neg f1] at hL
      have hq : rq = true := by rcases hr with h | h | h <;> first | exact h | exact absurd h (by assumption)
      rw [if_neg (by rw [hC]; simp), if_neg (by rw [hL]; simp), if_pos hq, if_neg f1]
      have : fr.toNat = 0 := by omega
      rw [this]
theorem req_framing (fs : List Fl) (host : ByteArray) (fr ln st : Int) (hf : 0 ≤ fr ∧ fr ≤ 2) (hl : fr = 1 → 0 ≤ ln) (hl2 : ln < 1000000000000000) (ha : (authP host.data.toList).isSome = true) :
    framingP true false st 1 ((sHost, host) :: othersP true fs ++ frameP fr ln) = (fr.toNat, lenN fr ln, 0) := by
  have hh := (req_counts fs host fr ln).1
  refine framing_of true st _ fr ln hf hl hl2 ?_ (by simp) ?_ ?_ (.inl rfl)
  · unfold hostedP
    rw [hh, show hostedL 1 [host] = true from by show (host.data.toList.isEmpty || (authP host.data.toList).isSome) = true; rw [ha, Bool.or_true]]
    simp
  · rw [show ((sHost, host) :: othersP true fs ++ frameP fr ln) = [(sHost, host)] ++ (othersP true fs ++ frameP fr ln) from rfl, vals_app, vals_app, vals_no (by decide +kernel), others_none _ _ (by decide +kernel)]; rfl
  · rw [show ((sHost, host) :: othersP true fs ++ frameP fr ln) = [(sHost, host)] ++ (othersP true fs ++ frameP fr ln) from rfl, vals_app, vals_app, vals_no (by decide +kernel), others_none _ _ (by decide +kernel)]; rfl
theorem rsp_framing (fs : List Fl) (fr ln st : Int) (cl : Bool) (hf : fr = 1 ∨ fr = 2) (hl : fr = 1 → 0 ≤ ln) (hl2 : ln < 1000000000000000) (hs : 200 ≤ st) (h4 : st ≠ 204) (h5 : st ≠ 304) :
    framingP false false st 1 (othersP false fs ++ (if fr = 2 ∧ (1 : Int) = 0 then [] else frameP fr ln) ++ connF fr cl 1) = (fr.toNat, lenN fr ln, 0) := by
  rw [if_neg (by omega)]
  refine framing_of false st _ fr ln (by omega) hl hl2 (by simp) (by simp only [true_and, Bool.false_eq_true, or_false]; omega) ?_ ?_ (.inr hf)
  · rw [vals_app, vals_app, others_none _ _ (by decide +kernel), conn_none _ _ _ (by decide +kernel), List.append_nil]; rfl
  · rw [vals_app, vals_app, others_none _ _ (by decide +kernel), conn_none _ _ _ (by decide +kernel), List.append_nil]; rfl
end Go.Proofs.YtabecgdaiakgiaaDoor
