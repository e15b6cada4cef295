import Derived.Test.YtogachbknnmgjaaRead2
namespace Go.Proofs.Ytogachbknnmgjaa
open Go.RowKit

/-- the number in a record -/
def num3 (l : List UInt8) : Nat := (l.getD 5 0).toNat * 65536 + (l.getD 6 0).toNat * 256 + (l.getD 7 0).toNat

set_option maxHeartbeats 400000 in
theorem rr_short (A : Option Addr) (n c : Nat) (w : World) (h : n < 8) :
    Calls Try.prog 7 #[.slice A n c] w fun e w' => e = .returned (.tuple #[.int .i64 0, .string ⟨#[]⟩, .int .i64 71]) ∧ w = w' := by
  go_enter Try.func7, Try.ntmps7
  go_wp2
  go_ret3
  exact ⟨rfl, rfl⟩

set_option maxHeartbeats 1000000 in
theorem rr_bad (l : List UInt8) (A : Option Addr) (n c : Nat) (w : World) (h8 : 8 ≤ n) (hnc : n ≤ c) (hr : Rd w w.heap.size 1 A n (bytesV l)) (hq : num3 l < 1 ∨ 1048576 < num3 l) :
    Calls Try.prog 7 #[.slice A n c] w fun e w' => e = .returned (.tuple #[.int .i64 0, .string ⟨#[]⟩, .int .i64 71]) ∧ Below w.heap.size w w' := by
  have hl : l.length = n := by have := hr.1; rw [bytesV_len] at this; omega
  have hcv : ∀ q : Nat, (convert 22 9 (.slice (if c = 8 then A else A.map (·.add (8 * 1))) (n - 8) (c - 8))).run Try.prog (w.drewN q) = .ok (.string ⟨(l.drop 8).toArray⟩) (w.drewN q) := by
    intro q
    have h := ((hr.drewN q).shift (k := 8) (cap := c) h8 hnc)
    rw [bytesV_drop] at h
    refine conv_str (P := Try.prog) 22 9 5 Try.underlying22 Try.underlying5 Try.underlying9 h ?_
    obtain ⟨g, o, rfl, _⟩ := hr.2 (by omega)
    split <;> simp
  obtain ⟨g, o, rfl, hg, hc⟩ := hr.2 (by omega)
  have c5 : w.cell? ⟨g, o + 5, none⟩ = some (.int .u8 ((l.getD 5 0).toNat : Int)) := hc 5 _ (by rw [bytesV_get (show 5 < l.length by omega)]; simp [List.getD, show 5 < l.length by omega])
  have c6 : w.cell? ⟨g, o + 6, none⟩ = some (.int .u8 ((l.getD 6 0).toNat : Int)) := hc 6 _ (by rw [bytesV_get (show 6 < l.length by omega)]; simp [List.getD, show 6 < l.length by omega])
  have c7 : w.cell? ⟨g, o + 7, none⟩ = some (.int .u8 ((l.getD 7 0).toNat : Int)) := hc 7 _ (by rw [bytesV_get (show 7 < l.length by omega)]; simp [List.getD, show 7 < l.length by omega])
  unfold num3 at hq
  have b5 : (l.getD 5 0).toNat < 256 := UInt8.toNat_lt _
  have b6 : (l.getD 6 0).toNat < 256 := UInt8.toNat_lt _
  have b7 : (l.getD 7 0).toNat < 256 := UInt8.toNat_lt _
  generalize (l.getD 5 0).toNat = x5 at *
  generalize (l.getD 6 0).toNat = x6 at *
  generalize (l.getD 7 0).toNat = x7 at *
  clear hr hc hl
  have i8 : (8 : Int) ≤ (n : Int) := by omega
  have HCV := Lib.hid hcv
  clear hcv
  by_cases hc8 : c = 8
  · subst hc8
    obtain rfl : n = 8 := by omega
    have h : ∀ q, (convert 22 9 (.slice (some ⟨g, o, none⟩) 0 0)).run Try.prog (w.drewN q) = .ok (.string ⟨(l.drop 8).toArray⟩) (w.drewN q) := by simpa using HCV.out
    go_enter Try.func7, Try.ntmps7
    go_wp2
    go_quiet (fail)
    go_wp2_with (go_at_call 5; refine (ref_arg _ _ _ (by omega)).mono ?_; rintro e w' ⟨rfl, rfl⟩)
    go_ret3
    exact ⟨rfl, below_drewN (Below.refl _ _) _⟩
  · have h : ∀ q, (convert 22 9 (.slice (some ⟨g, o + 8, none⟩) (n - 8) (c - 8))).run Try.prog (w.drewN q) = .ok (.string ⟨(l.drop 8).toArray⟩) (w.drewN q) := by simpa [hc8, Addr.add_lit] using HCV.out
    go_enter Try.func7, Try.ntmps7
    go_wp2
    go_quiet (fail)
    go_wp2_with (go_at_call 5; refine (ref_arg _ _ _ (by omega)).mono ?_; rintro e w' ⟨rfl, rfl⟩)
    go_ret3
    exact ⟨rfl, below_drewN (Below.refl _ _) _⟩

set_option maxHeartbeats 1000000 in
theorem rr_long (l : List UInt8) (A : Option Addr) (n c : Nat) (w : World) (h8 : 8 ≤ n) (hnc : n ≤ c) (hr : Rd w w.heap.size 1 A n (bytesV l)) (hq1 : 1 ≤ num3 l) (hq2 : num3 l ≤ 1048576) (hn : 65544 < n) :
    Calls Try.prog 7 #[.slice A n c] w fun e w' => e = .returned (.tuple #[.int .i64 0, .string ⟨#[]⟩, .int .i64 71]) ∧ Below w.heap.size w w' := by
  have hl : l.length = n := by have := hr.1; rw [bytesV_len] at this; omega
  have hcv : ∀ q : Nat, (convert 22 9 (.slice (if c = 8 then A else A.map (·.add (8 * 1))) (n - 8) (c - 8))).run Try.prog (w.drewN q) = .ok (.string ⟨(l.drop 8).toArray⟩) (w.drewN q) := by
    intro q
    have h := ((hr.drewN q).shift (k := 8) (cap := c) h8 hnc)
    rw [bytesV_drop] at h
    refine conv_str (P := Try.prog) 22 9 5 Try.underlying22 Try.underlying5 Try.underlying9 h ?_
    obtain ⟨g, o, rfl, _⟩ := hr.2 (by omega)
    split <;> simp
  obtain ⟨g, o, rfl, hg, hc⟩ := hr.2 (by omega)
  have c5 : w.cell? ⟨g, o + 5, none⟩ = some (.int .u8 ((l.getD 5 0).toNat : Int)) := hc 5 _ (by rw [bytesV_get (show 5 < l.length by omega)]; simp [List.getD, show 5 < l.length by omega])
  have c6 : w.cell? ⟨g, o + 6, none⟩ = some (.int .u8 ((l.getD 6 0).toNat : Int)) := hc 6 _ (by rw [bytesV_get (show 6 < l.length by omega)]; simp [List.getD, show 6 < l.length by omega])
  have c7 : w.cell? ⟨g, o + 7, none⟩ = some (.int .u8 ((l.getD 7 0).toNat : Int)) := hc 7 _ (by rw [bytesV_get (show 7 < l.length by omega)]; simp [List.getD, show 7 < l.length by omega])
  have hn' : 65544 < l.length := by omega
  unfold num3 at hq1 hq2
  have b5 : (l.getD 5 0).toNat < 256 := UInt8.toNat_lt _
  have b6 : (l.getD 6 0).toNat < 256 := UInt8.toNat_lt _
  have b7 : (l.getD 7 0).toNat < 256 := UInt8.toNat_lt _
  generalize (l.getD 5 0).toNat = x5 at *
  generalize (l.getD 6 0).toNat = x6 at *
  generalize (l.getD 7 0).toNat = x7 at *
  clear hr hc hl
  have i8 : (8 : Int) ≤ (n : Int) := by omega
  have HCV := Lib.hid hcv
  clear hcv
  by_cases hc8 : c = 8
  · subst hc8
    obtain rfl : n = 8 := by omega
    have h : ∀ q, (convert 22 9 (.slice (some ⟨g, o, none⟩) 0 0)).run Try.prog (w.drewN q) = .ok (.string ⟨(l.drop 8).toArray⟩) (w.drewN q) := by simpa using HCV.out
    go_enter Try.func7, Try.ntmps7
    go_wp2
    go_quiet (fail)
    go_wp2_with (go_at_call 5; refine (ref_long _ _ _ (by omega) (by omega) (by simp [ByteArray.size]; omega)).mono ?_; rintro e w' ⟨rfl, rfl⟩)
    go_ret3
    exact ⟨rfl, below_drewN (Below.refl _ _) _⟩
  · have h : ∀ q, (convert 22 9 (.slice (some ⟨g, o + 8, none⟩) (n - 8) (c - 8))).run Try.prog (w.drewN q) = .ok (.string ⟨(l.drop 8).toArray⟩) (w.drewN q) := by simpa [hc8, Addr.add_lit] using HCV.out
    go_enter Try.func7, Try.ntmps7
    go_wp2
    go_quiet (fail)
    go_wp2_with (go_at_call 5; refine (ref_long _ _ _ (by omega) (by omega) (by simp [ByteArray.size]; omega)).mono ?_; rintro e w' ⟨rfl, rfl⟩)
    go_ret3
    exact ⟨rfl, below_drewN (Below.refl _ _) _⟩

set_option maxHeartbeats 1000000 in
theorem rr_diff (l : List UInt8) (A : Option Addr) (n c : Nat) (w : World) (h8 : 8 ≤ n) (hnc : n ≤ c) (hr : Rd w w.heap.size 1 A n (bytesV l)) (hq1 : 1 ≤ num3 l) (hq2 : num3 l ≤ 1048576) (hn : n ≤ 65544) (heq : recB (num3 l) (l.drop 8) ≠ l) :
    Calls Try.prog 7 #[.slice A n c] w fun e w' => e = .returned (.tuple #[.int .i64 0, .string ⟨#[]⟩, .int .i64 71]) ∧ Below w.heap.size w w' := by
  have hl : l.length = n := by have := hr.1; rw [bytesV_len] at this; omega
  have hcv : ∀ q : Nat, (convert 22 9 (.slice (if c = 8 then A else A.map (·.add (8 * 1))) (n - 8) (c - 8))).run Try.prog (w.drewN q) = .ok (.string ⟨(l.drop 8).toArray⟩) (w.drewN q) := by
    intro q
    have h := ((hr.drewN q).shift (k := 8) (cap := c) h8 hnc)
    rw [bytesV_drop] at h
    refine conv_str (P := Try.prog) 22 9 5 Try.underlying22 Try.underlying5 Try.underlying9 h ?_
    obtain ⟨g, o, rfl, _⟩ := hr.2 (by omega)
    split <;> simp
  obtain ⟨g, o, rfl, hg, hc⟩ := hr.2 (by omega)
  have c5 : w.cell? ⟨g, o + 5, none⟩ = some (.int .u8 ((l.getD 5 0).toNat : Int)) := hc 5 _ (by rw [bytesV_get (show 5 < l.length by omega)]; simp [List.getD, show 5 < l.length by omega])
  have c6 : w.cell? ⟨g, o + 6, none⟩ = some (.int .u8 ((l.getD 6 0).toNat : Int)) := hc 6 _ (by rw [bytesV_get (show 6 < l.length by omega)]; simp [List.getD, show 6 < l.length by omega])
  have c7 : w.cell? ⟨g, o + 7, none⟩ = some (.int .u8 ((l.getD 7 0).toNat : Int)) := hc 7 _ (by rw [bytesV_get (show 7 < l.length by omega)]; simp [List.getD, show 7 < l.length by omega])
  have hn' : l.length ≤ 65544 := by omega
  have HB : Hid ((!recB (num3 l) (l.drop 8) == l) = true) := by show (!recB (num3 l) (l.drop 8) == l) = true; simp [heq]
  obtain ⟨kk, hkk⟩ : ∃ kk, kk = num3 l := ⟨_, rfl⟩
  rw [← hkk] at HB hq1 hq2
  have HK := Lib.hid hkk
  have hkk2 : (kk : Int) = ((l.getD 5 0).toNat : Int) * 65536 + ((l.getD 6 0).toNat : Int) * 256 + ((l.getD 7 0).toNat : Int) := by rw [hkk]; unfold num3; omega
  clear hkk heq
  have b5 : (l.getD 5 0).toNat < 256 := UInt8.toNat_lt _
  have b6 : (l.getD 6 0).toNat < 256 := UInt8.toNat_lt _
  have b7 : (l.getD 7 0).toNat < 256 := UInt8.toNat_lt _
  generalize (l.getD 5 0).toNat = x5 at *
  generalize (l.getD 6 0).toNat = x6 at *
  generalize (l.getD 7 0).toNat = x7 at *
  clear hc hl
  have HKK := Lib.hid hkk2
  have hq3 : 1 ≤ x5 * 65536 + x6 * 256 + x7 ∧ x5 * 65536 + x6 * 256 + x7 ≤ 1048576 := by omega
  clear hkk2
  have i8 : (8 : Int) ≤ (n : Int) := by omega
  have HCV := Lib.hid hcv
  clear hcv
  by_cases hc8 : c = 8
  · subst hc8
    obtain rfl : n = 8 := by omega
    have h : ∀ q, (convert 22 9 (.slice (some ⟨g, o, none⟩) 0 0)).run Try.prog (w.drewN q) = .ok (.string ⟨(l.drop 8).toArray⟩) (w.drewN q) := by simpa using HCV.out
    go_enter Try.func7, Try.ntmps7
    go_wp2
    go_quiet (fail)
    go_wp2_with fail
    rw [← HKK.out]
    refine (ref_ok kk _ _ (by omega) (by omega) (by simp [ByteArray.size]; omega)).mono ?_
    rintro e w1 ⟨v, rfl, hrow, hb1⟩
    obtain ⟨m, hm⟩ : ∃ m, m = 8 + (⟨(l.drop 8).toArray⟩ : ByteArray).size := ⟨_, rfl⟩
    rw [← hm] at hrow
    clear hm
    obtain ⟨A', c', rfl, _, _, h0', hrd'⟩ := hrow.form
    have hb2 := (below_drewN (Below.refl _ _) _).trans hb1
    have hcv1 := conv_str (P := Try.prog) 22 9 5 Try.underlying22 Try.underlying5 Try.underlying9 (c := c') hrd' (fun e => (h0' e).1)
    have hcv2 := conv_str (P := Try.prog) 22 9 5 Try.underlying22 Try.underlying5 Try.underlying9 (c := 8) (hr.below hb2) (fun e => by cases e)
    have H1 := Lib.hid hr
    have H2 := Lib.hid hrd'
    have H3 := Lib.hid hrow
    have H4 := Lib.hid h0'
    clear hr hrd' hrow h0'
    have hbool := HB.out
    go_wp2
    go_ret3
    exact ⟨rfl, hb2⟩
  · have h : ∀ q, (convert 22 9 (.slice (some ⟨g, o + 8, none⟩) (n - 8) (c - 8))).run Try.prog (w.drewN q) = .ok (.string ⟨(l.drop 8).toArray⟩) (w.drewN q) := by simpa [hc8, Addr.add_lit] using HCV.out
    go_enter Try.func7, Try.ntmps7
    go_wp2
    go_quiet (fail)
    go_wp2_with fail
    rw [← HKK.out]
    refine (ref_ok kk _ _ (by omega) (by omega) (by simp [ByteArray.size]; omega)).mono ?_
    rintro e w1 ⟨v, rfl, hrow, hb1⟩
    obtain ⟨m, hm⟩ : ∃ m, m = 8 + (⟨(l.drop 8).toArray⟩ : ByteArray).size := ⟨_, rfl⟩
    rw [← hm] at hrow
    clear hm
    obtain ⟨A', c', rfl, _, _, h0', hrd'⟩ := hrow.form
    have hb2 := (below_drewN (Below.refl _ _) _).trans hb1
    have hcv1 := conv_str (P := Try.prog) 22 9 5 Try.underlying22 Try.underlying5 Try.underlying9 (c := c') hrd' (fun e => (h0' e).1)
    have hcv2 := conv_str (P := Try.prog) 22 9 5 Try.underlying22 Try.underlying5 Try.underlying9 (c := c) (hr.below hb2) (fun e => by cases e)
    have H1 := Lib.hid hr
    have H2 := Lib.hid hrd'
    have H3 := Lib.hid hrow
    have H4 := Lib.hid h0'
    clear hr hrd' hrow h0'
    have hbool := HB.out
    go_wp2
    go_ret3
    exact ⟨rfl, hb2⟩

set_option maxHeartbeats 1000000 in
theorem rr_yes (l : List UInt8) (A : Option Addr) (n c : Nat) (w : World) (h8 : 8 ≤ n) (hnc : n ≤ c) (hr : Rd w w.heap.size 1 A n (bytesV l)) (hq1 : 1 ≤ num3 l) (hq2 : num3 l ≤ 1048576) (hn : n ≤ 65544) (heq : recB (num3 l) (l.drop 8) = l) :
    Calls Try.prog 7 #[.slice A n c] w fun e w' => e = .returned (.tuple #[.int .i64 (num3 l), .string ⟨(l.drop 8).toArray⟩, .int .i64 0]) ∧ Below w.heap.size w w' := by
  have hl : l.length = n := by have := hr.1; rw [bytesV_len] at this; omega
  have hcv : ∀ q : Nat, (convert 22 9 (.slice (if c = 8 then A else A.map (·.add (8 * 1))) (n - 8) (c - 8))).run Try.prog (w.drewN q) = .ok (.string ⟨(l.drop 8).toArray⟩) (w.drewN q) := by
    intro q
    have h := ((hr.drewN q).shift (k := 8) (cap := c) h8 hnc)
    rw [bytesV_drop] at h
    refine conv_str (P := Try.prog) 22 9 5 Try.underlying22 Try.underlying5 Try.underlying9 h ?_
    obtain ⟨g, o, rfl, _⟩ := hr.2 (by omega)
    split <;> simp
  obtain ⟨g, o, rfl, hg, hc⟩ := hr.2 (by omega)
  have c5 : w.cell? ⟨g, o + 5, none⟩ = some (.int .u8 ((l.getD 5 0).toNat : Int)) := hc 5 _ (by rw [bytesV_get (show 5 < l.length by omega)]; simp [List.getD, show 5 < l.length by omega])
  have c6 : w.cell? ⟨g, o + 6, none⟩ = some (.int .u8 ((l.getD 6 0).toNat : Int)) := hc 6 _ (by rw [bytesV_get (show 6 < l.length by omega)]; simp [List.getD, show 6 < l.length by omega])
  have c7 : w.cell? ⟨g, o + 7, none⟩ = some (.int .u8 ((l.getD 7 0).toNat : Int)) := hc 7 _ (by rw [bytesV_get (show 7 < l.length by omega)]; simp [List.getD, show 7 < l.length by omega])
  have hn' : l.length ≤ 65544 := by omega
  have HB : Hid ((!recB (num3 l) (l.drop 8) == l) = false) := by show (!recB (num3 l) (l.drop 8) == l) = false; simp [heq]
  obtain ⟨kk, hkk⟩ : ∃ kk, kk = num3 l := ⟨_, rfl⟩
  rw [← hkk] at HB hq1 hq2
  have HK := Lib.hid hkk
  have hkk2 : (kk : Int) = ((l.getD 5 0).toNat : Int) * 65536 + ((l.getD 6 0).toNat : Int) * 256 + ((l.getD 7 0).toNat : Int) := by rw [hkk]; unfold num3; omega
  clear hkk heq
  have b5 : (l.getD 5 0).toNat < 256 := UInt8.toNat_lt _
  have b6 : (l.getD 6 0).toNat < 256 := UInt8.toNat_lt _
  have b7 : (l.getD 7 0).toNat < 256 := UInt8.toNat_lt _
  generalize (l.getD 5 0).toNat = x5 at *
  generalize (l.getD 6 0).toNat = x6 at *
  generalize (l.getD 7 0).toNat = x7 at *
  clear hc hl
  have HKK := Lib.hid hkk2
  have hq3 : 1 ≤ x5 * 65536 + x6 * 256 + x7 ∧ x5 * 65536 + x6 * 256 + x7 ≤ 1048576 := by omega
  clear hkk2
  have i8 : (8 : Int) ≤ (n : Int) := by omega
  have HCV := Lib.hid hcv
  clear hcv
  by_cases hc8 : c = 8
  · subst hc8
    obtain rfl : n = 8 := by omega
    have h : ∀ q, (convert 22 9 (.slice (some ⟨g, o, none⟩) 0 0)).run Try.prog (w.drewN q) = .ok (.string ⟨(l.drop 8).toArray⟩) (w.drewN q) := by simpa using HCV.out
    go_enter Try.func7, Try.ntmps7
    go_wp2
    go_quiet (fail)
    go_wp2_with fail
    rw [← HKK.out]
    refine (ref_ok kk _ _ (by omega) (by omega) (by simp [ByteArray.size]; omega)).mono ?_
    rintro e w1 ⟨v, rfl, hrow, hb1⟩
    obtain ⟨m, hm⟩ : ∃ m, m = 8 + (⟨(l.drop 8).toArray⟩ : ByteArray).size := ⟨_, rfl⟩
    rw [← hm] at hrow
    clear hm
    obtain ⟨A', c', rfl, _, _, h0', hrd'⟩ := hrow.form
    have hb2 := (below_drewN (Below.refl _ _) _).trans hb1
    have hcv1 := conv_str (P := Try.prog) 22 9 5 Try.underlying22 Try.underlying5 Try.underlying9 (c := c') hrd' (fun e => (h0' e).1)
    have hcv2 := conv_str (P := Try.prog) 22 9 5 Try.underlying22 Try.underlying5 Try.underlying9 (c := 8) (hr.below hb2) (fun e => by cases e)
    have H1 := Lib.hid hr
    have H2 := Lib.hid hrd'
    have H3 := Lib.hid hrow
    have H4 := Lib.hid h0'
    clear hr hrd' hrow h0'
    have hbool := HB.out
    go_wp2
    go_ret3
    exact ⟨by rw [← HK.out]; rfl, hb2⟩
  · have h : ∀ q, (convert 22 9 (.slice (some ⟨g, o + 8, none⟩) (n - 8) (c - 8))).run Try.prog (w.drewN q) = .ok (.string ⟨(l.drop 8).toArray⟩) (w.drewN q) := by simpa [hc8, Addr.add_lit] using HCV.out
    go_enter Try.func7, Try.ntmps7
    go_wp2
    go_quiet (fail)
    go_wp2_with fail
    rw [← HKK.out]
    refine (ref_ok kk _ _ (by omega) (by omega) (by simp [ByteArray.size]; omega)).mono ?_
    rintro e w1 ⟨v, rfl, hrow, hb1⟩
    obtain ⟨m, hm⟩ : ∃ m, m = 8 + (⟨(l.drop 8).toArray⟩ : ByteArray).size := ⟨_, rfl⟩
    rw [← hm] at hrow
    clear hm
    obtain ⟨A', c', rfl, _, _, h0', hrd'⟩ := hrow.form
    have hb2 := (below_drewN (Below.refl _ _) _).trans hb1
    have hcv1 := conv_str (P := Try.prog) 22 9 5 Try.underlying22 Try.underlying5 Try.underlying9 (c := c') hrd' (fun e => (h0' e).1)
    have hcv2 := conv_str (P := Try.prog) 22 9 5 Try.underlying22 Try.underlying5 Try.underlying9 (c := c) (hr.below hb2) (fun e => by cases e)
    have H1 := Lib.hid hr
    have H2 := Lib.hid hrd'
    have H3 := Lib.hid hrow
    have H4 := Lib.hid h0'
    clear hr hrd' hrow h0'
    have hbool := HB.out
    go_wp2
    go_ret3
    exact ⟨by rw [← HK.out]; rfl, hb2⟩
end Go.Proofs.Ytogachbknnmgjaa
