/- Fold: the program's (with its closure) and the reference's; trim. -/
import Derived.Test.YtabecgdaiakgiaaDoorTok
import Derived.Lib.ConvBytes
import Derived.Lib.AtoiErrMem
namespace Go.Proofs.YtabecgdaiakgiaaDoor
open Go.RowKit

theorem info5 : (Tryd.prog.info? 5).map (fun i => (i.zero, i.size, i.bytes)) = some (some (.int .u8 0), 1, 1) := by kernel_rfl

theorem ret_int {k : IntKind} {a b : Int} (h : a = b) : Ending.returned (.int k a) = .returned (.int k b) := by rw [h]

set_option maxHeartbeats 400000 in
theorem hFold1_any (c : UInt8) (w : World) : Calls Tryd.prog 92 #[.int .u8 (c.toNat : Int)] w fun e w' => e = .returned (.int .u8 ((small c).toNat : Int)) ∧ w = w' := by
  have hx : c.toNat < 256 := UInt8.toNat_lt c
  have HS := Lib.hid (small_toNat c)
  by_cases h : 65 ≤ c.toNat ∧ c.toNat ≤ 90
  · have HV : Hid ((small c).toNat = c.toNat + 32) := by show _ = _; rw [HS.out, if_pos h]
    obtain ⟨h1, h2⟩ := h
    go_enter Tryd.func92, Tryd.ntmps92
    go_wp2
    go_ret
    exact ⟨ret_int (by rw [HV.out]; omega), rfl⟩
  · have HV : Hid ((small c).toNat = c.toNat) := by show _ = _; rw [HS.out, if_neg h]
    go_enter Tryd.func92, Tryd.ntmps92
    go_wp2
    all_goals go_ret
    all_goals exact ⟨by rw [HV.out]; rfl, rfl⟩

set_option maxHeartbeats 1000000 in
set_option maxRecDepth 100000 in
theorem rFold_any (s : ByteArray) (w : World) (hs : s.size ≤ 16777216) :
    Calls Tryd.prog 58 #[.string s] w fun e w' => e = .returned (.string ⟨(fold s.data.toList).toArray⟩) ∧ Below w.heap.size w w' := by
  obtain ⟨i0, hi, hz0, hz1, hz2⟩ := info_parts info5
  go_enter Tryd.func58, Tryd.ntmps58
  go_wp2
  go_loopw [3, 4] (fun v i wr => ∃ k : Nat, k ≤ s.size ∧ i = .int .i64 k ∧ Row wr w.heap.size 1 v k (bytesV (fold (s.data.toList.take k))) ∧ Below w.heap.size w wr) (fun _ i _ => s.size - (intOf i).toNat)
  case atStart => exact ⟨0, Nat.zero_le _, rfl, Row.nil _ _ _, Below.refl _ _⟩
  case round =>
    obtain ⟨k, hk, rfl, hrow, hb⟩ := hrel
    by_cases hlt : k < s.size
    · have hts := take_succ_data s k hlt
      have HT : Hid (bytesV (fold (s.data.toList.take (k + 1))) = bytesV (fold (s.data.toList.take k)) ++ [.int .u8 ((small s[k]).toNat : Int)]) := by show _ = _; rw [hts, fold_snoc, bytesV_append]; rfl
      have hx : s[k].toNat < 256 := UInt8.toNat_lt s[k]
      have HS := Lib.hid (small_toNat s[k])
      clear hts
      have hsz := hb.size
      by_cases h : 65 ≤ s[k].toNat ∧ s[k].toNat ≤ 90
      · have HV : Hid (((small s[k]).toNat : Int) = (s[k].toNat : Int) + 32) := by show _ = _; rw [HS.out, if_pos h]; omega
        obtain ⟨h1, h2⟩ := h
        go_wp2_with (at_builtin; go_must (refine wpList_app _ rfl (.tmp 23) (.tmp 25) 32 32 rfl w.heap.size 5 i0 (.int .u8 0) 1 1 Tryd.underlying32 hi hz0 hz1 hz2 rfl u3 k (bytesV (fold (s.data.toList.take k))) rfl (hrow.alloc _) _ 1 [.int .u8 ((s[k].toNat : Int) + 32)] rfl (Src.built [.int .u8 ((s[k].toNat : Int) + 32)] 5 Tryd.underlying32 rfl (by intro u hu; simp at hu; subst hu; rfl)) (by omega) (by omega) (by omega) (by simp; omega) ?_); intro v1 w1 hrow1 hg1 _)
        all_goals
          have hrow2 : Row w1 w.heap.size 1 v1 (k + 1) (bytesV (fold (s.data.toList.take (k + 1)))) := by rw [HT.out, HV.out]; exact hrow1
          have hb2 : Below w.heap.size w w1 := Below.app (hb.alloc hsz _) (hrow.alloc _) hg1 (Nat.le_refl _) (by simp; omega)
          clear hrow1 hg1 hrow hb
          go_wp2
          go_roundw
          case rel => exact ⟨k + 1, by omega, by go_num, hrow2, hb2⟩
          case measure => simp [intOf]; omega
      · have HV : Hid (((small s[k]).toNat : Int) = (s[k].toNat : Int)) := by show _ = _; rw [HS.out, if_neg h]
        go_wp2_with (at_builtin; go_must (refine wpList_app _ rfl (.tmp 23) (.tmp 25) 32 32 rfl w.heap.size 5 i0 (.int .u8 0) 1 1 Tryd.underlying32 hi hz0 hz1 hz2 rfl u3 k (bytesV (fold (s.data.toList.take k))) rfl (hrow.alloc _) _ 1 [.int .u8 ((s[k].toNat : Int))] rfl (Src.built [.int .u8 ((s[k].toNat : Int))] 5 Tryd.underlying32 rfl (by intro u hu; simp at hu; subst hu; rfl)) (by omega) (by omega) (by omega) (by simp; omega) ?_); intro v1 w1 hrow1 hg1 _)
        all_goals
          have hrow2 : Row w1 w.heap.size 1 v1 (k + 1) (bytesV (fold (s.data.toList.take (k + 1)))) := by rw [HT.out, HV.out]; exact hrow1
          have hb2 : Below w.heap.size w w1 := Below.app (hb.alloc hsz _) (hrow.alloc _) hg1 (Nat.le_refl _) (by simp; omega)
          clear hrow1 hg1 hrow hb
          go_wp2
          go_roundw
          case rel => exact ⟨k + 1, by omega, by go_num, hrow2, hb2⟩
          case measure => simp [intOf]; omega
    · have e1 : s.data.toList.take k = s.data.toList := List.take_of_length_le (by rw [size_data]; omega)
      rw [e1] at hrow
      obtain ⟨A, c, rfl, hc1, hc2, h0, hrd⟩ := hrow.form
      have hcv := conv_str (P := Tryd.prog) 32 9 5 Tryd.underlying32 Tryd.underlying5 Tryd.underlying9 (c := c) hrd (fun e => (h0 e).1)
      clear hrow hrd h0
      go_wp2
      go_ret
      exact ⟨rfl, hb⟩

theorem bytes_row (w : World) (e : TypeId) (s : ByteArray) (hs : s.size ≤ maxLen) : Row (Lib.bytesWorld w e s) w.heap.size 1 (.slice (some ⟨w.heap.size, 0, none⟩) s.size (grownCap w s.size 0 e)) s.size (bytesV s.data.toList) := by
  have hge := grownCap_ge w s.size 0 e
  have hsz : (Lib.bytesCells w e s).size = grownCap w s.size 0 e := by
    simp [Lib.bytesCells]
    have : s.data.size = s.size := rfl
    omega
  refine ⟨by rw [bytesV_len, size_data]; omega, .inr ⟨w.heap.size, 0, _, _, e, _, rfl, Nat.le_refl _, Lib.bytesWorld_at_new w e s, hge, grownCap_le_maxLen w s.size 0 e hs, by rw [hsz]; omega, ?_, ?_⟩⟩
  · intro j h1 h2
    rw [hsz]
    simp only
    omega
  · simp only [Lib.bytesCells, List.drop_zero, Array.toList_append, Array.toList_map, Nat.mul_one]
    rw [List.take_append_of_le_length (by simp)]
    exact List.take_of_length_le (by simp)

theorem set_fold (l : Bs) (k : Nat) (h : k < l.length) : (bytesV (fold (l.take k) ++ l.drop k)).set k (.int .u8 ((small l[k]).toNat : Int)) = bytesV (fold (l.take (k + 1)) ++ l.drop (k + 1)) := by
  rw [List.take_succ_eq_append_getElem h, fold_snoc, List.drop_eq_getElem_cons h, bytesV_append, bytesV_append, bytesV_append]
  rw [List.set_append_right _ _ (by rw [bytesV_len, fold_len, List.length_take]; omega)]
  have e : k - (bytesV (fold (l.take k))).length = 0 := by rw [bytesV_len, fold_len, List.length_take]; omega
  rw [e, List.append_assoc]
  rfl

set_option maxHeartbeats 1000000 in
set_option maxRecDepth 100000 in
theorem hFold_any (s : ByteArray) (w : World) (hs : s.size ≤ 16777216) :
    Calls Tryd.prog 56 #[.string s] w fun e w' => e = .returned (.string ⟨(fold s.data.toList).toArray⟩) ∧ Below w.heap.size w w' := by
  have hcb := fun (w : World) => Lib.run_convert_string_bytes (P := Tryd.prog) w 9 32 5 s Tryd.underlying9 Tryd.underlying32 Tryd.underlying5
  have hrow0 := bytes_row w 5 s (by unfold maxLen; omega)
  have hb0 := Lib.bytesWorld_below w 5 s
  go_enter Tryd.func56, Tryd.ntmps56
  go_wp2
  generalize grownCap w s.size 0 5 = cp at hrow0 ⊢
  go_loopw [11] (fun i wr => ∃ k : Nat, k ≤ s.size ∧ i = .int .i64 k ∧ Row wr w.heap.size 1 (.slice (some ⟨w.heap.size, 0, none⟩) s.size cp) s.size (bytesV (fold (s.data.toList.take k) ++ s.data.toList.drop k)) ∧ Below w.heap.size w wr) (fun i _ => s.size - (intOf i).toNat)
  case atStart => exact ⟨0, Nat.zero_le _, rfl, by simpa [fold] using hrow0, hb0⟩
  case round =>
    obtain ⟨k, hk, rfl, hrow, hb⟩ := hrel
    clear hcb hrow0 hb0
    by_cases hlt : k < s.size
    · have hd : k < s.data.toList.length := by rw [size_data]; exact hlt
      obtain ⟨g, o, e1, _, _, hcell, hfro⟩ := hrow.own (by omega)
      injection e1 with e1
      injection e1 with e1 e2 _
      subst e1 e2
      have hlen : (bytesV (fold (s.data.toList.take k) ++ s.data.toList.drop k)).length = s.size := by
        rw [bytesV_len, List.length_append, fold_len, List.length_take, List.length_drop, size_data]; omega
      have c1 := hcell k (.int .u8 ((s[k]).toNat : Int)) (by
        rw [bytesV_append, List.getElem?_append_right (by rw [bytesV_len, fold_len, List.length_take]; omega), bytesV_len, fold_len, List.length_take, show k - min k s.data.toList.length = 0 by omega, List.drop_eq_getElem_cons hd, byte_at s k hlt]
        rfl)
      have f1 := hfro k (by omega)
      rw [Nat.zero_add] at c1 f1
      have hrow2 := hrow.set (j := k) (u := .int .u8 ((small s[k]).toNat : Int)) (by omega)
      have hsf := set_fold s.data.toList k hd
      rw [byte_at s k hlt] at hsf
      rw [hsf, Nat.zero_add] at hrow2
      clear hcell hfro hlen hsf hrow
      go_wp2_with (go_at_call 92; refine (hFold1_any s[k] _).mono ?_; rintro e w' ⟨rfl, rfl⟩)
      go_roundw
      case rel => exact ⟨k + 1, by omega, by go_num, hrow2, hb.setCell (Nat.le_refl _) _⟩
      case measure => simp [intOf]; omega
    · have e1 : s.data.toList.take k = s.data.toList := List.take_of_length_le (by rw [size_data]; omega)
      have e2 : s.data.toList.drop k = [] := List.drop_of_length_le (by rw [size_data]; omega)
      rw [e1, e2, List.append_nil] at hrow
      obtain ⟨A, c, e3, hc1, hc2, h0, hrd⟩ := hrow.form
      injection e3 with e3 _ e4
      subst e3 e4
      have hcv := conv_str (P := Tryd.prog) 32 9 5 Tryd.underlying32 Tryd.underlying5 Tryd.underlying9 (c := cp) hrd (fun e => (h0 e).1)
      clear hrow hrd h0 e1 e2
      go_wp2
      go_ret
      exact ⟨rfl, hb⟩
end Go.Proofs.YtabecgdaiakgiaaDoor
