/- the reference's List. -/
import Derived.Test.YtabecgdaiakgiaaDoorList
namespace Go.Proofs.YtabecgdaiakgiaaDoor
open Go.RowKit

def cur (s : Bs) (f q : Nat) : Bs := (s.drop f).take (q - f)
theorem cur_next (s : Bs) (f q : Nat) (hf : f ≤ q) (hq : q < s.length) : cur s f (q + 1) = cur s f q ++ [s[q]] := by
  unfold cur
  have h : q - f < (s.drop f).length := by rw [List.length_drop]; omega
  rw [show q + 1 - f = (q - f) + 1 by omega, List.take_succ_eq_append_getElem h, List.getElem_drop]
  congr 2
  simp only [show f + (q - f) = q by omega]
theorem step_ne (s : Bs) (f q : Nat) (hf : f ≤ q) (hq : q < s.length) (h : s[q] ≠ 44) : pieces (cur s f q) (s.drop q) = pieces (cur s f (q + 1)) (s.drop (q + 1)) := by
  rw [List.drop_eq_getElem_cons hq, pieces, if_neg h, cur_next s f q hf hq]
theorem step_eq (s : Bs) (f q : Nat) (hq : q < s.length) (h : s[q] = 44) : pieces (cur s f q) (s.drop q) = cur s f q :: pieces (cur s (q + 1) (q + 1)) (s.drop (q + 1)) := by
  rw [List.drop_eq_getElem_cons hq, pieces, if_pos h]
  simp [cur]
theorem step_end (s : Bs) (f : Nat) : pieces (cur s f s.length) (s.drop s.length) = [cur s f s.length] := by
  rw [List.drop_length]; rfl
def selOne (p : Bs) : List ByteArray := if trim p = [] then [] else [⟨(trim p).toArray⟩]
theorem sel_cons (p : Bs) (l : List Bs) : sel (p :: l) = selOne p ++ sel l := by
  unfold selOne
  by_cases e : trim p = [] <;> simp [sel, e]

/-- what the inner loop holds: at q of s, the piece begun at f -/
def Held (s : Bs) (f q : Nat) (done : List ByteArray) : Prop :=
  (q ≤ s.length ∧ done ++ sel (pieces (cur s f q) (s.drop q)) = sel (pieces [] s)) ∨ (q = s.length + 1 ∧ done = sel (pieces [] s))
theorem held_start (s : Bs) : Held s 0 0 [] := .inl ⟨Nat.zero_le _, by simp [cur]⟩
theorem held_ne {s : Bs} {f q : Nat} {done : List ByteArray} (h : Held s f q done) (hf : f ≤ q) (hq : q < s.length) (hc : s[q] ≠ 44) : Held s f (q + 1) done := by
  rcases h with ⟨_, h⟩ | ⟨h, _⟩
  · exact .inl ⟨hq, by rw [← h, step_ne s f q hf hq hc]⟩
  · omega
theorem held_eq {s : Bs} {f q : Nat} {done : List ByteArray} (h : Held s f q done) (hq : q < s.length) (hc : s[q] = 44) : Held s (q + 1) (q + 1) (done ++ selOne (cur s f q)) := by
  rcases h with ⟨_, h⟩ | ⟨h, _⟩
  · exact .inl ⟨hq, by rw [← h, step_eq s f q hq hc, sel_cons, List.append_assoc]⟩
  · omega
theorem held_end {s : Bs} {f q : Nat} {done : List ByteArray} (h : Held s f q done) (hq : q = s.length) : Held s (q + 1) (q + 1) (done ++ selOne (cur s f q)) := by
  subst hq
  rcases h with ⟨_, h⟩ | ⟨h, _⟩
  · refine .inr ⟨rfl, ?_⟩
    rw [← h, step_end, sel_cons]; simp [sel]
  · omega
theorem held_done {s : Bs} {f q : Nat} {done : List ByteArray} (h : Held s f q done) (hq : s.length < q) : done = sel (pieces [] s) := by
  rcases h with ⟨h, _⟩ | ⟨_, h⟩
  · omega
  · exact h
theorem held_len {s : Bs} {f q : Nat} {done : List ByteArray} (h : Held s f q done) : done.length ≤ s.length + 1 := by
  have h1 := pieces_len s []
  have h2 := sel_len (pieces [] s)
  rcases h with ⟨_, h⟩ | ⟨_, h⟩
  · have := congrArg List.length h
    rw [List.length_append] at this
    omega
  · rw [h]; omega

set_option maxHeartbeats 2000000 in
set_option maxRecDepth 100000 in
theorem rList_any (A : Option Addr) (n c : Nat) (vs : List ByteArray) (w : World) (hrd : Rd w w.heap.size 1 A n (strsV vs))
    (hn : n ≤ 16777216) (hvs : ∀ s ∈ vs, s.size ≤ 16777216) (htot : total vs ≤ 16777216) :
    Calls Tryd.prog 38 #[.slice A n c] w fun e w' => ∃ v, e = .returned v ∧ Row w' w.heap.size 1 v (listed vs).length (strsV (listed vs)) ∧ Below w.heap.size w w' := by
  have hlen : vs.length = n := by have := hrd.1; rw [strsV_len] at this; omega
  obtain ⟨i0, hi, hz0, hz1, hz2⟩ := info_parts info9
  go_enter Tryd.func38, Tryd.ntmps38
  go_wp2
  go_loopw [3, 4] (fun v2 i wr => ∃ k : Nat, k ≤ n ∧ i = .int .i64 k ∧ Row wr w.heap.size 1 v2 (listed (vs.take k)).length (strsV (listed (vs.take k))) ∧ Below w.heap.size w wr) (fun _ i _ => n - (intOf i).toNat)
  case atStart => exact ⟨0, Nat.zero_le _, rfl, Row.nil _ _ _, Below.refl _ _⟩
  case round =>
    obtain ⟨k, hk, rfl, hrow, hb⟩ := hrel
    by_cases hlt : k < n
    · obtain ⟨g, o, rfl, hg, hcell⟩ := hrd.2 (by omega)
      have c1 := hcell _ _ (strs_get (l := vs) (j := k) (by omega))
      have hs1 : vs[k].size ≤ 16777216 := hvs _ (List.getElem_mem _)
      have HL := Lib.hid (listed_take vs k (by omega))
      have HN : Hid ((listed (vs.take k)).length ≤ 16777216) := Lib.hid (Nat.le_trans (listed_len _) (Nat.le_trans (total_take vs k) htot))
      clear hcell
      generalize listed (vs.take k) = pv at HL HN hrow
      generalize vs[k] = s at c1 hs1 HL
      have hpv := HN.out
      go_wp2
      go_loopw [3, 5, 6] (fun v2 fi qi wi => ∃ (f q : Nat) (done : List ByteArray), f ≤ q ∧ q ≤ s.size + 1 ∧ fi = .int .i64 f ∧ qi = .int .i64 q ∧ Held s.data.toList f q done ∧ Row wi w.heap.size 1 v2 (pv ++ done).length (strsV (pv ++ done)) ∧ Below w.heap.size w wi) (fun _ _ i _ => s.size + 1 - (intOf i).toNat)
      case atStart => exact ⟨0, 0, [], Nat.le_refl _, Nat.zero_le _, rfl, rfl, held_start _, by simpa using hrow, hb⟩
      case round =>
        obtain ⟨f, q, done, hfq, hqs, rfl, rfl, hheld, hrowi, hbi⟩ := hrel
        have hszi := hbi.size
        have hdl : s.data.toList.length = s.size := rfl
        have c2 := (hbi.cell (p := ⟨g, o + k, none⟩) hg).trans c1
        have HH := Lib.hid hheld
        have hll : (pv ++ done).length ≤ 33554500 := by have := held_len hheld; rw [List.length_append]; omega
        clear hheld
        by_cases hql : q ≤ s.size
        · by_cases hqe : q = s.size
          · have HH2 := Lib.hid (held_end HH.out (by omega))
            subst hqe
            have HE : Hid ((s.extract f s.size).data.toList = cur s.data.toList f s.size) := Lib.hid (Lib.extract_data s f s.size)
            have HS : Hid (selOne (cur s.data.toList f s.size) = if trim (cur s.data.toList f s.size) = [] then [] else [⟨(trim (cur s.data.toList f s.size)).toArray⟩]) := Lib.hid rfl
            by_cases he : trim (cur s.data.toList f s.size) = []
            · rw [if_pos he] at HS
              go_wp2_with (go_at_call 80; go_must (refine (rtrim_any (s.extract f s.size) _ (by rw [ByteArray.size_extract]; omega)).mono ?_; rintro _ w2 ⟨rfl, rfl⟩; rw [HE.out, he]))
              all_goals first
                | (exfalso; simp only [Bool.or_eq_true, Bool.or_eq_false_iff, beq_iff_eq, beq_eq_false_iff_ne, decide_eq_true_eq, decide_eq_false_iff_not] at *; omega)
                | (refine ⟨⟨s.size + 1, s.size + 1, done, Nat.le_refl _, by omega, by go_num, by go_num, ?_, hrowi, hbi⟩, by simp [intOf] <;> omega⟩
                   have := HH2.out
                   rw [HS.out, List.append_nil] at this
                   exact this)
            · rw [if_neg he] at HS
              have hne : (trim (cur s.data.toList f s.size) == []) = false := by simpa using he
              generalize hpd : pv ++ done = pj at hrowi hll
              go_wp2_with (first
                | (go_at_call 80; go_must (refine (rtrim_any (s.extract f s.size) _ (by rw [ByteArray.size_extract]; omega)).mono ?_; rintro _ w2 ⟨rfl, rfl⟩; rw [HE.out]))
                | (at_builtin; go_must (refine wpList_app _ rfl (.tmp 49) (.tmp 51) 58 58 rfl w.heap.size 9 i0 (.string ⟨#[]⟩) 1 16 Tryd.underlying58 hi hz0 hz1 hz2 rfl u3 pj.length (strsV pj) rfl (hrowi.alloc _) _ 1 [.string ⟨(trim (cur s.data.toList f s.size)).toArray⟩] rfl (Src.built [.string ⟨(trim (cur s.data.toList f s.size)).toArray⟩] 9 Tryd.underlying58 rfl (by intro u hu; simp at hu; subst hu; rfl)) (by omega) (by omega) (by omega) (by simp; omega) ?_); intro v1 w3 hrow3 hg3 _; have hB3 : Below w.heap.size w w3 := Below.app (hbi.alloc (by omega) _) (hrowi.alloc _) hg3 (Nat.le_refl _) (by simp; omega)))
              all_goals first
                | (exfalso; simp only [beq_eq_false_iff_ne] at *; omega)
                | (refine ⟨⟨s.size + 1, s.size + 1, done ++ selOne (cur s.data.toList f s.size), Nat.le_refl _, by omega, by go_num, by go_num, HH2.out, ?_, hB3⟩, by simp [intOf] <;> omega⟩
                   rw [HS.out, ← List.append_assoc, hpd, strsV, List.map_append, List.length_append]
                   exact hrow3)
          · have hqlt : q < s.size := by omega
            by_cases h44 : s[q].toNat = 44
            · have heq : s.data.toList[q] = 44 := by rw [byte_at s q hqlt]; exact UInt8.toNat_inj.mp (by rw [h44]; rfl)
              have HH2 := Lib.hid (held_eq HH.out (by omega) heq)
              have HE : Hid ((s.extract f q).data.toList = cur s.data.toList f q) := Lib.hid (Lib.extract_data s f q)
              have HS : Hid (selOne (cur s.data.toList f q) = if trim (cur s.data.toList f q) = [] then [] else [⟨(trim (cur s.data.toList f q)).toArray⟩]) := Lib.hid rfl
              by_cases he : trim (cur s.data.toList f q) = []
              · rw [if_pos he] at HS
                go_wp2_with (go_at_call 80; go_must (refine (rtrim_any (s.extract f q) _ (by rw [ByteArray.size_extract]; omega)).mono ?_; rintro _ w2 ⟨rfl, rfl⟩; rw [HE.out, he]))
                all_goals first
                  | (exfalso; simp only [Bool.or_eq_true, Bool.or_eq_false_iff, beq_iff_eq, beq_eq_false_iff_ne, decide_eq_true_eq, decide_eq_false_iff_not] at *; omega)
                  | (refine ⟨⟨q + 1, q + 1, done, Nat.le_refl _, by omega, by go_num, by go_num, ?_, hrowi, hbi⟩, by simp [intOf] <;> omega⟩
                     have := HH2.out
                     rw [HS.out, List.append_nil] at this
                     exact this)
              · rw [if_neg he] at HS
                have hne : (trim (cur s.data.toList f q) == []) = false := by simpa using he
                generalize hpd : pv ++ done = pj at hrowi hll
                go_wp2_with (first
                  | (go_at_call 80; go_must (refine (rtrim_any (s.extract f q) _ (by rw [ByteArray.size_extract]; omega)).mono ?_; rintro _ w2 ⟨rfl, rfl⟩; rw [HE.out]))
                  | (at_builtin; go_must (refine wpList_app _ rfl (.tmp 49) (.tmp 51) 58 58 rfl w.heap.size 9 i0 (.string ⟨#[]⟩) 1 16 Tryd.underlying58 hi hz0 hz1 hz2 rfl u3 pj.length (strsV pj) rfl (hrowi.alloc _) _ 1 [.string ⟨(trim (cur s.data.toList f q)).toArray⟩] rfl (Src.built [.string ⟨(trim (cur s.data.toList f q)).toArray⟩] 9 Tryd.underlying58 rfl (by intro u hu; simp at hu; subst hu; rfl)) (by omega) (by omega) (by omega) (by simp; omega) ?_); intro v1 w3 hrow3 hg3 _; have hB3 : Below w.heap.size w w3 := Below.app (hbi.alloc (by omega) _) (hrowi.alloc _) hg3 (Nat.le_refl _) (by simp; omega)))
                all_goals first
                  | (exfalso; simp only [beq_eq_false_iff_ne] at *; omega)
                  | (refine ⟨⟨q + 1, q + 1, done ++ selOne (cur s.data.toList f q), Nat.le_refl _, by omega, by go_num, by go_num, HH2.out, ?_, hB3⟩, by simp [intOf] <;> omega⟩
                     rw [HS.out, ← List.append_assoc, hpd, strsV, List.map_append, List.length_append]
                     exact hrow3)
            · have hne : s.data.toList[q] ≠ 44 := fun e => h44 (by rw [← byte_at s q hqlt, e]; rfl)
              have HH2 := Lib.hid (held_ne HH.out hfq (by omega) hne)
              go_wp2_with (go_at_call 80; (exfalso; simp only [beq_iff_eq] at *; omega))
              all_goals first
                | (exfalso; simp only [beq_eq_false_iff_ne] at *; omega)
                | exact ⟨⟨f, q + 1, done, by omega, by omega, by go_num, by go_num, HH2.out, hrowi, hbi⟩, by simp [intOf] <;> omega⟩
        · have hd := held_done HH.out (by omega)
          rw [hd] at hrowi
          go_wp2
          go_roundw
          case rel => exact ⟨k + 1, by omega, by go_num, by rw [HL.out]; exact hrowi, hbi⟩
          case measure => simp [intOf]; omega
    · have e1 : vs.take k = vs := List.take_of_length_le (by omega)
      rw [e1] at hrow
      go_wp2
      go_ret
      exact ⟨_, rfl, hrow, hb⟩
end Go.Proofs.YtabecgdaiakgiaaDoor
