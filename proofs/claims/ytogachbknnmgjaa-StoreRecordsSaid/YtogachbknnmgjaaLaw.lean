import Derived.Test.YtogachbknnmgjaaRef
namespace Go.Proofs.Ytogachbknnmgjaa
open Go.RowKit

/-- what Record answers -/
def recS (n : Int) (t : List UInt8) : Int × List UInt8 :=
  if n < 1 ∨ 1048576 < n then (2, []) else if 65536 < t.length then (3, []) else (0, recB n.toNat t)

def RecPost (w : World) (code : Int) (bl : List UInt8) (e : Ending) (w' : World) : Prop :=
  ∃ A k c, e = .returned (.tuple #[.slice A k c, .int .i64 code]) ∧ Row w' w.heap.size 1 (.slice A k c) k (bytesV bl) ∧ Below w.heap.size w w'

theorem size_data (s : ByteArray) : s.data.toList.length = s.size := by rw [Array.length_toList]; rfl

theorem RecPost.of_row {w w' : World} {v : Value} {n : Nat} {bl : List UInt8} {code : Int} {e : Ending} (he : e = .returned (.tuple #[v, .int .i64 code])) (hr : Row w' w.heap.size 1 v n (bytesV bl)) (hb : Below w.heap.size w w') : RecPost w code bl e w' := by
  obtain ⟨A, c, rfl, _⟩ := hr.form
  exact ⟨A, n, c, he, hr, hb⟩

theorem rec_any (n : Int) (s : ByteArray) (w : World) : Calls Try.prog 4 #[.int .i64 n, .string s] w (RecPost w (recS n s.data.toList).1 (recS n s.data.toList).2) := by
  unfold recS
  rw [size_data]
  by_cases h : n < 1 ∨ 1048576 < n
  · rw [if_pos h]
    exact (rec_arg n s w h).mono fun e w' ⟨he, hw⟩ => by subst hw; exact RecPost.of_row he (Row.nil _ _ _) (Below.refl _ _)
  · rw [if_neg h]
    by_cases h2 : 65536 < s.size
    · rw [if_pos h2]
      exact (rec_long n s w (by omega) (by omega) h2).mono fun e w' ⟨he, hw⟩ => by subst hw; exact RecPost.of_row he (Row.nil _ _ _) (Below.refl _ _)
    · rw [if_neg h2]
      obtain ⟨k, rfl⟩ := Int.eq_ofNat_of_zero_le (show 0 ≤ n by omega)
      exact (rec_ok k s w (by omega) (by omega) (by omega)).mono fun e w' ⟨v, he, hr, hb⟩ => RecPost.of_row he (by simpa using hr) hb
theorem ref_any (n : Int) (s : ByteArray) (w : World) : Calls Try.prog 5 #[.int .i64 n, .string s] w (RecPost w (recS n s.data.toList).1 (recS n s.data.toList).2) := by
  unfold recS
  rw [size_data]
  by_cases h : n < 1 ∨ 1048576 < n
  · rw [if_pos h]
    exact (ref_arg n s w h).mono fun e w' ⟨he, hw⟩ => by subst hw; exact RecPost.of_row he (Row.nil _ _ _) (Below.refl _ _)
  · rw [if_neg h]
    by_cases h2 : 65536 < s.size
    · rw [if_pos h2]
      exact (ref_long n s w (by omega) (by omega) h2).mono fun e w' ⟨he, hw⟩ => by subst hw; exact RecPost.of_row he (Row.nil _ _ _) (Below.refl _ _)
    · rw [if_neg h2]
      obtain ⟨k, rfl⟩ := Int.eq_ofNat_of_zero_le (show 0 ≤ n by omega)
      exact (ref_ok k s w (by omega) (by omega) (by omega)).mono fun e w' ⟨v, he, hr, hb⟩ => RecPost.of_row he (by simpa using hr) hb

/-- what Read answers -/
def rdS (l : List UInt8) : Int × List UInt8 × Int :=
  if l.length < 8 ∨ 65544 < l.length ∨ acc (l.take 8) = 0 ∨ 1048576 < acc (l.take 8) then (0, [], 71) else (acc (l.take 8), l.drop 8, 0)

def ReadPost (w : World) (x : Int × List UInt8 × Int) (e : Ending) (w' : World) : Prop := e = .returned (.tuple #[.int .i64 x.1, .string ⟨x.2.1.toArray⟩, .int .i64 x.2.2]) ∧ Below w.heap.size w w'

theorem read_any (l : List UInt8) (A : Option Addr) (n c : Nat) (w : World) (hnc : n ≤ c) (hr : Rd w w.heap.size 1 A n (bytesV l)) : Calls Try.prog 6 #[.slice A n c] w (ReadPost w (rdS l)) := by
  have hl : l.length = n := by have := hr.1; rw [bytesV_len] at this; omega
  unfold rdS
  rw [hl]
  by_cases h : n < 8 ∨ 65544 < n
  · rw [if_pos (by omega)]
    exact (read_short A n c w h).mono fun e w' ⟨he, hw⟩ => by subst hw; exact ⟨he, Below.refl _ _⟩
  · by_cases hq : acc (l.take 8) = 0 ∨ 1048576 < acc (l.take 8)
    · rw [if_pos (by omega)]
      exact (read_no l A n c _ w (by omega) (by omega) hnc hr hq).mono fun e w' ⟨he, hw⟩ => by subst hw; exact ⟨he, Below.refl _ _⟩
    · rw [if_neg (by omega)]
      exact (read_yes l A n c _ w (by omega) (by omega) hnc hr (by omega) (by omega)).mono fun e w' ⟨he, q, hw⟩ => by subst hw; exact ⟨he, below_drewN (Below.refl _ _) q⟩

/-- the two tests on a record come to the same -/
theorem rec_iff (l : List UInt8) (h8 : 8 ≤ l.length) : (1 ≤ num3 l ∧ num3 l ≤ 1048576 ∧ recB (num3 l) (l.drop 8) = l) ↔ (acc (l.take 8) ≠ 0 ∧ acc (l.take 8) ≤ 1048576) := by
  match l, h8 with
  | c0 :: c1 :: c2 :: c3 :: c4 :: c5 :: c6 :: c7 :: t, _ =>
    have e1 : num3 (c0 :: c1 :: c2 :: c3 :: c4 :: c5 :: c6 :: c7 :: t) = c5.toNat * 65536 + c6.toNat * 256 + c7.toNat := rfl
    have e2 : acc ((c0 :: c1 :: c2 :: c3 :: c4 :: c5 :: c6 :: c7 :: t).take 8) = ((((((c0.toNat * 256 + c1.toNat) * 256 + c2.toNat) * 256 + c3.toNat) * 256 + c4.toNat) * 256 + c5.toNat) * 256 + c6.toNat) * 256 + c7.toNat := by simp [acc]
    have b0 := UInt8.toNat_lt c0
    have b1 := UInt8.toNat_lt c1
    have b2 := UInt8.toNat_lt c2
    have b3 := UInt8.toNat_lt c3
    have b4 := UInt8.toNat_lt c4
    have b5 := UInt8.toNat_lt c5
    have b6 := UInt8.toNat_lt c6
    have b7 := UInt8.toNat_lt c7
    have e3 : recB (num3 (c0 :: c1 :: c2 :: c3 :: c4 :: c5 :: c6 :: c7 :: t)) t = c0 :: c1 :: c2 :: c3 :: c4 :: c5 :: c6 :: c7 :: t ↔ (c0.toNat = 0 ∧ c1.toNat = 0 ∧ c2.toNat = 0 ∧ c3.toNat = 0 ∧ c4.toNat = 0) := by
      rw [e1]
      have f5 : UInt8.ofNat ((c5.toNat * 65536 + c6.toNat * 256 + c7.toNat) / 65536) = c5 := by
        rw [show (c5.toNat * 65536 + c6.toNat * 256 + c7.toNat) / 65536 = c5.toNat by omega]; simp
      have f6 : UInt8.ofNat ((c5.toNat * 65536 + c6.toNat * 256 + c7.toNat) / 256 % 256) = c6 := by
        rw [show (c5.toNat * 65536 + c6.toNat * 256 + c7.toNat) / 256 % 256 = c6.toNat by omega]; simp
      have f7 : UInt8.ofNat ((c5.toNat * 65536 + c6.toNat * 256 + c7.toNat) % 256) = c7 := by
        rw [show (c5.toNat * 65536 + c6.toNat * 256 + c7.toNat) % 256 = c7.toNat by omega]; simp
      have z : ∀ c : UInt8, (0 = c) ↔ c.toNat = 0 := fun c => by rw [← UInt8.toNat_inj]; simp [eq_comm]
      simp only [recB, f5, f6, f7, List.cons_append, List.nil_append, List.cons.injEq, z, and_true]
    rw [show (c0 :: c1 :: c2 :: c3 :: c4 :: c5 :: c6 :: c7 :: t).drop 8 = t from rfl, e3, e1, e2]
    omega
theorem acc_num3 (l : List UInt8) (h8 : 8 ≤ l.length) (h : acc (l.take 8) ≤ 1048576) : acc (l.take 8) = num3 l := by
  match l, h8 with
  | c0 :: c1 :: c2 :: c3 :: c4 :: c5 :: c6 :: c7 :: t, _ =>
    have e1 : num3 (c0 :: c1 :: c2 :: c3 :: c4 :: c5 :: c6 :: c7 :: t) = c5.toNat * 65536 + c6.toNat * 256 + c7.toNat := rfl
    have e2 : acc ((c0 :: c1 :: c2 :: c3 :: c4 :: c5 :: c6 :: c7 :: t).take 8) = ((((((c0.toNat * 256 + c1.toNat) * 256 + c2.toNat) * 256 + c3.toNat) * 256 + c4.toNat) * 256 + c5.toNat) * 256 + c6.toNat) * 256 + c7.toNat := by simp [acc]
    have b5 := UInt8.toNat_lt c5
    have b6 := UInt8.toNat_lt c6
    have b7 := UInt8.toNat_lt c7
    rw [e2] at h ⊢
    rw [e1]
    omega

theorem rref_any (l : List UInt8) (A : Option Addr) (n c : Nat) (w : World) (hnc : n ≤ c) (hr : Rd w w.heap.size 1 A n (bytesV l)) : Calls Try.prog 7 #[.slice A n c] w (ReadPost w (rdS l)) := by
  have hl : l.length = n := by have := hr.1; rw [bytesV_len] at this; omega
  unfold rdS
  rw [hl]
  by_cases h : n < 8
  · rw [if_pos (by omega)]
    exact (rr_short A n c w h).mono fun e w' ⟨he, hw⟩ => by subst hw; exact ⟨he, Below.refl _ _⟩
  · have hiff := rec_iff l (by omega)
    by_cases hq : num3 l < 1 ∨ 1048576 < num3 l
    · rw [if_pos (by
        have : ¬ (acc (l.take 8) ≠ 0 ∧ acc (l.take 8) ≤ 1048576) := fun h => by have := hiff.2 h; omega
        omega)]
      exact rr_bad l A n c w (by omega) hnc hr hq
    · by_cases hn : 65544 < n
      · rw [if_pos (by omega)]
        exact rr_long l A n c w (by omega) hnc hr (by omega) (by omega) hn
      · by_cases he : recB (num3 l) (l.drop 8) = l
        · have h2 := hiff.1 ⟨by omega, by omega, he⟩
          rw [if_neg (by omega), acc_num3 l (by omega) h2.2]
          exact rr_yes l A n c w (by omega) hnc hr (by omega) (by omega) (by omega) he
        · rw [if_pos (by
            have : ¬ (acc (l.take 8) ≠ 0 ∧ acc (l.take 8) ≤ 1048576) := fun h => he (hiff.2 h).2.2
            omega)]
          exact rr_diff l A n c w (by omega) hnc hr (by omega) (by omega) (by omega) he

set_option maxHeartbeats 1000000 in
theorem law_any (n : Int) (s : ByteArray) (l : List UInt8) (A : Option Addr) (m c : Nat) (w : World) (hmc : m ≤ c) (hm : m ≤ 140737488351232) (hA : A = none → m = 0) (hr : Rd w w.heap.size 1 A m (bytesV l)) :
    Calls Try.prog 3 #[.int .i64 n, .string s, .slice A m c] w fun e w' => e = .returned (.bool true) ∧ Below w.heap.size w w' := by
  obtain ⟨i0, hi, hz0, hz1, hz2⟩ := info_parts info5
  have c1 := fun W => rec_any n s W
  have c2 := fun W => ref_any n s W
  generalize recS n s.data.toList = x at c1 c2
  obtain ⟨code, bl⟩ := x
  simp only at c1 c2
  go_enter Try.func3, Try.ntmps3
  go_wp2_with fail
  refine (c1 _).mono ?_
  rintro e w1 ⟨A1, k1, d1, rfl, hrow1, hb1⟩
  go_wp2_with fail
  refine (c2 _).mono ?_
  rintro e w2 ⟨A2, k2, d2, rfl, hrow2, hb2⟩
  clear c1 c2
  have hr2 := (hr.below hb1).below (hb2.mono hb1.size)
  go_wp2_with (first
    | (at_builtin; refine wpList_app _ rfl (.tmp 30) (.tmp 31) 22 22 rfl w2.heap.size 5 i0 (.int .u8 0) 1 1 Try.underlying22 hi hz0 hz1 hz2 rfl (.slice (some ⟨w2.heap.size, 0, none⟩) 0 0) 0 [] rfl (empty_row _ _ _) (.slice A m c) m (bytesV l) rfl (Src.slice Try.underlying22 (hr2.alloc (by have := hb1.size; have := hb2.size; omega) _) hA (bytesV_one l)) (by omega) (by omega) (by omega) (by simp) ?_; intro v3 w3 hrow3 hg3 _; simp only [Nat.zero_add, List.nil_append] at hrow3)
    | (at_builtin; refine wpList_app _ rfl (.tmp 32) (.tmp 33) 22 22 rfl w2.heap.size 5 i0 (.int .u8 0) 1 1 Try.underlying22 hi hz0 hz1 hz2 rfl v3 m (bytesV l) rfl (hrow3.alloc _) _ 1 [.int .u8 201] rfl (Src.built [.int .u8 201] 5 Try.underlying22 rfl (by simp; rfl)) (by omega) (by omega) (by omega) (by have := hg3.size; simp at this ⊢; omega) ?_; intro v4 w4 hrow4 hg4 _; obtain ⟨A4, c4, rfl, hc4, hm4, h04, hrd4⟩ := hrow4.form))
  have s1 := hb1.size
  have s2 := hb2.size
  have hB24 : Below w2.heap.size w2 w4 := by
    have h3 : Below w2.heap.size w2 w3 := Below.app ((Below.refl _ _).alloc (Nat.le_refl _) _) (empty_row _ _ 1) hg3 (Nat.le_refl _) (by simp)
    exact Below.app (h3.alloc h3.size _) (hrow3.alloc _) hg4 (Nat.le_refl _) (by have := h3.size; simp; omega)
  have s4 := hB24.size
  have hr4 := hr2.below (hB24.mono (by omega))
  have hl : l.length = m := by have := hr.1; rw [bytesV_len] at this; omega
  have hp4 : Rd w4 w4.heap.size 1 A4 m (bytesV l) := by
    have h := hrd4.pre (k := m) (by omega)
    rwa [Nat.mul_one, show (bytesV l ++ [Value.int IntKind.u8 201]).take m = bytesV l by rw [List.take_append_of_le_length (by rw [bytesV_len]; omega), List.take_of_length_le (by rw [bytesV_len]; omega)]] at h
  have c5 := read_any l A4 m c4 w4 (by omega) hp4
  have c6 := fun W h => rref_any l A m c W hmc h
  generalize rdS l = y at c5 c6
  obtain ⟨y1, y2, y3⟩ := y
  refine c5.mono ?_
  rintro e w5 ⟨rfl, hb5⟩
  have s5 := hb5.size
  go_wp2_with fail
  refine (c6 _ ((hr4.below (hb5.mono (by omega))).more (by omega))).mono ?_
  rintro e w6 ⟨rfl, hb6⟩
  have s6 := hb6.size
  have hB46 : Below w4.heap.size w4 w6 := hb5.trans (hb6.mono s5)
  have hB26 : Below w2.heap.size w2 w6 := hB24.trans (hB46.mono s4)
  obtain ⟨A1', d1', e1, _, _, h01, hrd1⟩ := hrow1.form
  injection e1 with e1a _ e1b
  subst e1a e1b
  obtain ⟨A2', d2', e2, _, _, h02, hrd2⟩ := hrow2.form
  injection e2 with e2a _ e2b
  subst e2a e2b
  have v1 : ∀ q, (convert 22 9 (.slice A1 k1 d1)).run Try.prog (w6.drewN q) = .ok (.string ⟨bl.toArray⟩) (w6.drewN q) := fun q =>
    conv_str (P := Try.prog) 22 9 5 Try.underlying22 Try.underlying5 Try.underlying9 ((((hrd1.below hb2).more s2).below hB26).drewN q) (fun e => (h01 e).1)
  have v2 : ∀ q, (convert 22 9 (.slice A2 k2 d2)).run Try.prog (w6.drewN q) = .ok (.string ⟨bl.toArray⟩) (w6.drewN q) := fun q =>
    conv_str (P := Try.prog) 22 9 5 Try.underlying22 Try.underlying5 Try.underlying9 ((hrd2.below hB26).drewN q) (fun e => (h02 e).1)
  have v3' : ∀ q, (convert 22 9 (.slice A4 m c4)).run Try.prog (w6.drewN q) = .ok (.string ⟨l.toArray⟩) (w6.drewN q) := fun q =>
    conv_str (P := Try.prog) 22 9 5 Try.underlying22 Try.underlying5 Try.underlying9 ((hp4.below hB46).drewN q) (fun e => by have := (h04 e).1; omega)
  have v4 : ∀ q, (convert 22 9 (.slice A m c)).run Try.prog (w6.drewN q) = .ok (.string ⟨l.toArray⟩) (w6.drewN q) := fun q =>
    conv_str (P := Try.prog) 22 9 5 Try.underlying22 Try.underlying5 Try.underlying9 (((hr4.below (hB46.mono (by omega)))).drewN q) hA
  obtain ⟨g4, o4, rfl, _, hc4'⟩ := (hrd4.below hB46).2 (by omega)
  have hcell : w6.cell? ⟨g4, o4 + m, none⟩ = some (.int .u8 201) := hc4' m _ (by rw [List.getElem?_append_right (by rw [bytesV_len]; omega), bytesV_len, hl]; simp)
  have i1 : (m : Int) < ((m + 1 : Nat) : Int) := by omega
  have hBw : Below w.heap.size w w6 := (hb1.trans (hb2.mono s1)).trans (hB26.mono (by omega))
  clear hrow1 hrow2 hrow3 hrow4 hg3 hg4 hrd1 hrd2 hrd4 hp4 hr hr2 hr4 hc4' c5 c6 h01 h02 h04 hl hA
  go_wp2_with fail
  go_quiet (fail)
  go_wp2
  go_ret
  exact ⟨rfl, below_drewN hBw _⟩
end Go.Proofs.Ytogachbknnmgjaa
