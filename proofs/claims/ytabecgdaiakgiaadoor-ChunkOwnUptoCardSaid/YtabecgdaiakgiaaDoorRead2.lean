/- chunk's Trailers, Total, Decode; Feed behind the end, of a dead reader, of nil; slices.Clone of fields. Conditions: sizes, the world's shape. -/
import Derived.Test.YtabecgdaiakgiaaDoorLite
import Derived.Test.YtabecgdaiakgiaaDoorFeed
import Derived.Lib.LazyBuf
namespace Go.Proofs.YtabecgdaiakgiaaDoor
open Go.RowKit

set_option maxHeartbeats 1000000 in
theorem clone_any (A : Option Addr) (n c : Nat) (fs : List Fl) (w : World) (hA : A = none → n = 0 ∧ c = 0) (hrd : Rd w w.heap.size 2 A n (fieldsV fs)) (hn : n ≤ 16777216) :
    Calls Tryd.prog 67 #[.slice A n c] w fun e w' => ∃ v, e = .returned v ∧ Row w' w.heap.size 2 v n (fieldsV fs) ∧ Below w.heap.size w w' := by
  have hlen : fs.length = n := by have := hrd.1; rw [fieldsV_len] at this; omega
  obtain ⟨f0, hf0, fz0, fz1, fz2⟩ := info_parts infoField
  cases A with
  | none =>
    obtain ⟨rfl, rfl⟩ := hA rfl
    have h0 : fs = [] := List.eq_nil_of_length_eq_zero hlen
    subst h0
    have hq := fun (W : World) (a : Option Addr) (l c : Nat) => Go.run_eql_slice_nil (P := Tryd.prog) W 22 48 a l c Tryd.underlying22
    go_enter Tryd.func67, Tryd.ntmps67
    go_wp2
    go_ret
    exact ⟨_, rfl, Row.nil _ _ _, Below.refl _ _⟩
  | some a =>
    have hq := fun (W : World) (a : Option Addr) (l c : Nat) => Go.run_eql_slice_nil (P := Tryd.prog) W 22 48 a l c Tryd.underlying22
    have hrd1 := (hrd.alloc (Nat.le_refl _) (.cells #[] 48)).more (B' := (w.alloc (.cells #[] 48)).heap.size) (by simp)
    go_enter Tryd.func67, Tryd.ntmps67
    go_wp2_with (first
      | (at_builtin; go_must (refine wpList_app _ rfl (.tmp 5) (.tmp 6) 22 22 rfl w.heap.size 48 f0 (.agg #[.string ⟨#[]⟩, .string ⟨#[]⟩]) 2 32 Tryd.underlying22 hf0 fz0 fz1 fz2 rfl (.slice (some ⟨w.heap.size, 0, none⟩) 0 0) 0 [] (by rfl) (empty_row w _ 2) _ n (fieldsV fs) (by rfl) (Src.slice Tryd.underlying22 hrd1 (fun e => by cases e) (fieldsV_one fs)) (by omega) (by omega) (by omega) (by simp) ?_); go_must (intro v2 w2 hrow2 hg2 hv2; rw [List.nil_append, Nat.zero_add] at hrow2))
      | fail)
    go_ret
    exact ⟨_, rfl, hrow2, Below.app ((Below.refl _ _).alloc (Nat.le_refl _) _) (empty_row w 48 2) hg2 (Nat.le_refl _) (by simp)⟩

theorem ctotal_any {s : Chunk.St} {w : World} {base b : Nat} {vl vt : Value} (h : Rdr w base b s vl vt) : Calls Tryd.prog 69 #[.pointer (some ⟨b, 0, none⟩)] w fun e w' => e = .returned (.int .i64 s.total) ∧ w = w' := by
  have d6 := h.mid.var.cell (j := 6) rfl
  go_enter Tryd.func69, Tryd.ntmps69
  go_wp2
  go_ret
  exact ⟨rfl, rfl⟩
theorem ctotal_nil (w : World) : Calls Tryd.prog 69 #[.pointer none] w fun e w' => e = .returned (.int .i64 0) ∧ w = w' := by
  go_enter Tryd.func69, Tryd.ntmps69
  go_wp2
  go_ret
  exact ⟨rfl, rfl⟩
theorem ctrail_nil (w : World) : Calls Tryd.prog 26 #[.pointer none] w fun e w' => e = .returned (.slice none 0 0) ∧ w = w' := by
  go_enter Tryd.func26, Tryd.ntmps26
  go_wp2
  go_ret
  exact ⟨rfl, rfl⟩
theorem ctrail_no {s : Chunk.St} {w : World} {base b : Nat} {vl vt : Value} (h : Rdr w base b s vl vt) (h11 : s.at_ ≠ 11) : Calls Tryd.prog 26 #[.pointer (some ⟨b, 0, none⟩)] w fun e w' => e = .returned (.slice none 0 0) ∧ w = w' := by
  have d0 := h.mid.var.cell (j := 0) rfl
  have e11 : ((s.at_ : Int) != 11) = true := by simp; omega
  clear h11
  go_enter Tryd.func26, Tryd.ntmps26
  go_wp2
  go_ret
  exact ⟨rfl, rfl⟩
theorem ctrail_yes {s : Chunk.St} {w : World} {base b : Nat} {vl vt : Value} (h : Rdr w base b s vl vt) (h11 : s.at_ = 11) (hn : s.trailers.length ≤ 64) : Calls Tryd.prog 26 #[.pointer (some ⟨b, 0, none⟩)] w fun e w' =>
    ∃ v, e = .returned v ∧ Row w' w.heap.size 2 v s.trailers.length (fieldsV (flB s.trailers)) ∧ Below w.heap.size w w' := by
  have d0 := h.mid.var.cell (j := 0) rfl
  have d7 := h.mid.var.cell (j := 7) rfl
  obtain ⟨A, c, hv, _, _, hA, hr⟩ := h.mid.tr.form
  have e11 : ((s.at_ : Int) != 11) = false := by simp; omega
  have HC := Lib.hid (clone_any A s.trailers.length c (flB s.trailers) w hA hr (by omega))
  rw [hv] at d7
  clear h11 hv
  go_enter Tryd.func26, Tryd.ntmps26
  go_wp2_with (go_at_call 67; (refine HC.out.mono ?_; rintro _ w1 ⟨v1, rfl, hrow1, hb1⟩))
  go_ret
  exact ⟨v1, rfl, hrow1, hb1⟩
theorem feed_nil (v : Value) (w : World) : Calls Tryd.prog 23 #[.pointer none, v] w fun e w' => e = .returned (.tuple #[.slice none 0 0, .int .i64 0, .bool false, .int .i64 1]) ∧ w = w' := by
  go_enter Tryd.func23, Tryd.ntmps23
  go_wp2
  exact bodyPost_ret (results_tmp4 rfl _ _ _) rfl ⟨rfl, rfl⟩
theorem feed_dead {s : Chunk.St} {w : World} {base b : Nat} {vl vt v : Value} (h : Rdr w base b s vl vt) (h12 : s.at_ = 12) : Calls Tryd.prog 23 #[.pointer (some ⟨b, 0, none⟩), v] w fun e w' => e = .returned (.tuple #[.slice none 0 0, .int .i64 0, .bool false, .int .i64 230]) ∧ w = w' := by
  have d0 := h.mid.var.cell (j := 0) rfl
  have e12 : ((s.at_ : Int) == 12) = true := by simp; omega
  clear h12
  go_enter Tryd.func23, Tryd.ntmps23
  go_wp2
  exact bodyPost_ret (results_tmp4 rfl _ _ _) rfl ⟨rfl, rfl⟩
theorem feed_over {s : Chunk.St} {w : World} {base b : Nat} {vl vt : Value} (A : Option Addr) (n c : Nat) (h : Rdr w base b s vl vt) (h11 : s.at_ = 11) : Calls Tryd.prog 23 #[.pointer (some ⟨b, 0, none⟩), .slice A n c] w fun e w' => e = .returned (.tuple #[.slice none 0 0, .int .i64 0, .bool true, .int .i64 0]) ∧ w = w' := by
  have d0 := h.mid.var.cell (j := 0) rfl
  have e12 : ((s.at_ : Int) == 12) = false := by simp; omega
  have e11 : ((s.at_ : Int) == 11) = true := by simp; omega
  have e11' : ((s.at_ : Int) != 11) = false := by simp; omega
  clear h11
  go_enter Tryd.func23, Tryd.ntmps23
  go_wp2
  go_loop [8, 9] (fun vo i => vo = .slice none 0 0 ∧ i = .int .i64 0) (fun _ _ => 0)
  case atStart => exact ⟨rfl, rfl⟩
  case round =>
    obtain ⟨rfl, rfl⟩ := hrel
    by_cases hn : 0 < n
    · have hn' : (0 : Int) < (n : Int) := by omega
      go_wp2
      exact bodyPost_ret (results_tmp4 rfl _ _ _) rfl ⟨rfl, rfl⟩
    · have hn' : ¬ (0 : Int) < (n : Int) := by omega
      go_wp2
      exact bodyPost_ret (results_tmp4 rfl _ _ _) rfl ⟨rfl, rfl⟩
end Go.Proofs.YtabecgdaiakgiaaDoor
