/- the reference's trimmed, ended, size. Condition: sizes. -/
import Derived.Test.YtklmpadcfioefaaGreatDoorCByte
import Derived.Test.YtklmpadcfioefaaGreatDoorMA
namespace Go.Proofs.YtklmpadcfioefaaGreatDoor
open Go.RowKit

set_option maxHeartbeats 2000000 in
set_option maxRecDepth 100000 in
theorem qtrimmed_any (s : ByteArray) (w : World) (hs : s.size ≤ 9223372036854775807) :
    Calls Tryz.prog 136 #[.string s] w fun e w' => e = .returned (.string ⟨(trim s.data.toList).toArray⟩) ∧ w = w' := by
  have HG : Hid (trim s.data.toList = trimR (trimL s.data.toList)) := by show _ = _; rw [trim_comm, trim_eq]
  go_enter Tryz.func136, Tryz.ntmps136
  go_wp2
  go_loop [0] (fun v => ∃ x : ByteArray, v = .string x ∧ x.size ≤ s.size ∧ trimL x.data.toList = trimL s.data.toList) (fun v => match v with | .string x => x.size | _ => 0)
  case atStart => exact ⟨s, rfl, Nat.le_refl _, rfl⟩
  case round =>
    obtain ⟨x, rfl, hx, heq⟩ := hrel
    have HE := Lib.hid heq
    clear heq
    have hsz : (x.extract 1 x.size).size = x.size - 1 := by rw [ByteArray.size_extract]; omega
    by_cases h0 : 0 < x.size
    · have HB := Lib.hid (blank_iff x[0])
      have HC := Lib.hid (data_cons x h0)
      by_cases h9 : x[0].toNat = 9
      · have hb : isBlank x[0] = true := by rw [HB.out, h9]; rfl
        go_wp2
        refine ⟨⟨_, rfl, by omega, ?_⟩, by show ByteArray.size _ < x.size; omega⟩
        rw [← HE.out, HC.out, trimL_step _ _ hb]
      · by_cases h32 : x[0].toNat = 32
        · have hb : isBlank x[0] = true := by rw [HB.out, h32]; rfl
          go_wp2
          refine ⟨⟨_, rfl, by omega, ?_⟩, by show ByteArray.size _ < x.size; omega⟩
          rw [← HE.out, HC.out, trimL_step _ _ hb]
        · have hb : isBlank x[0] = false := by rw [HB.out]; simp; omega
          have HX : Hid (trimR x.data.toList = trim s.data.toList) := by show _ = _; rw [HG.out, ← HE.out, HC.out, trimL_stop _ _ hb]
          go_wp2
          case roundEnd => exfalso; simp only [beq_iff_eq] at *; omega
          go_loop [0] (fun v => ∃ y : ByteArray, v = .string y ∧ y.size ≤ s.size ∧ trimR y.data.toList = trim s.data.toList) (fun v => match v with | .string y => y.size | _ => 0)
          case atStart => exact ⟨x, rfl, hx, HX.out⟩
          case round =>
            obtain ⟨y, rfl, hy, hyeq⟩ := hrel
            have HY := Lib.hid hyeq
            clear hyeq
            have hsy : (y.extract 0 (y.size - 1)).size = y.size - 1 := by rw [ByteArray.size_extract]; omega
            by_cases k0 : 0 < y.size
            · have hi : y.size - 1 < y.size := by omega
              have GB := Lib.hid (blank_iff y[y.size - 1])
              have GC := Lib.hid (data_snoc y k0)
              by_cases k9 : y[y.size - 1].toNat = 9
              · have hb : isBlank y[y.size - 1] = true := by rw [GB.out, k9]; rfl
                go_wp2
                refine ⟨⟨_, rfl, by omega, ?_⟩, by show ByteArray.size _ < y.size; omega⟩
                rw [← HY.out, GC.out, trimR_step _ _ hb]
              · by_cases k32 : y[y.size - 1].toNat = 32
                · have hb : isBlank y[y.size - 1] = true := by rw [GB.out, k32]; rfl
                  go_wp2
                  refine ⟨⟨_, rfl, by omega, ?_⟩, by show ByteArray.size _ < y.size; omega⟩
                  rw [← HY.out, GC.out, trimR_step _ _ hb]
                · have hb : isBlank y[y.size - 1] = false := by rw [GB.out]; simp; omega
                  have HZ : Hid (y.data.toList = trim s.data.toList) := by show _ = _; rw [← HY.out, GC.out, trimR_stop _ _ hb]
                  go_wp2
                  case roundEnd => exfalso; simp only [beq_iff_eq] at *; omega
                  (try simp only [Exit.inBlock, Exit.then]); (show bodyPost _ _ _ _ _ _); refine bodyPost_ret (results_tmp rfl _ _ _) rfl ?_
                  exact ⟨by rw [← HZ.out]; rfl, rfl⟩
            · have HZ : Hid (y.data.toList = trim s.data.toList) := by
                show _ = _
                have : y.data.toList = [] := List.eq_nil_of_length_eq_zero (by rw [← Lib.size_eq]; omega)
                rw [← HY.out, this]; rfl
              go_wp2
              (try simp only [Exit.inBlock, Exit.then]); (show bodyPost _ _ _ _ _ _); refine bodyPost_ret (results_tmp rfl _ _ _) rfl ?_
              exact ⟨by rw [← HZ.out]; rfl, rfl⟩
    · have HX : Hid (trimR x.data.toList = trim s.data.toList) := by
        show _ = _
        have : x.data.toList = [] := List.eq_nil_of_length_eq_zero (by rw [← Lib.size_eq]; omega)
        rw [HG.out, ← HE.out, this]; rfl
      go_wp2
      go_loop [0] (fun v => ∃ y : ByteArray, v = .string y ∧ y.size ≤ s.size ∧ trimR y.data.toList = trim s.data.toList) (fun v => match v with | .string y => y.size | _ => 0)
      case atStart => exact ⟨x, rfl, hx, HX.out⟩
      case round =>
        obtain ⟨y, rfl, hy, hyeq⟩ := hrel
        have HY := Lib.hid hyeq
        clear hyeq
        have hsy : (y.extract 0 (y.size - 1)).size = y.size - 1 := by rw [ByteArray.size_extract]; omega
        by_cases k0 : 0 < y.size
        · have hi : y.size - 1 < y.size := by omega
          have GB := Lib.hid (blank_iff y[y.size - 1])
          have GC := Lib.hid (data_snoc y k0)
          by_cases k9 : y[y.size - 1].toNat = 9
          · have hb : isBlank y[y.size - 1] = true := by rw [GB.out, k9]; rfl
            go_wp2
            refine ⟨⟨_, rfl, by omega, ?_⟩, by show ByteArray.size _ < y.size; omega⟩
            rw [← HY.out, GC.out, trimR_step _ _ hb]
          · by_cases k32 : y[y.size - 1].toNat = 32
            · have hb : isBlank y[y.size - 1] = true := by rw [GB.out, k32]; rfl
              go_wp2
              refine ⟨⟨_, rfl, by omega, ?_⟩, by show ByteArray.size _ < y.size; omega⟩
              rw [← HY.out, GC.out, trimR_step _ _ hb]
            · have hb : isBlank y[y.size - 1] = false := by rw [GB.out]; simp; omega
              have HZ : Hid (y.data.toList = trim s.data.toList) := by show _ = _; rw [← HY.out, GC.out, trimR_stop _ _ hb]
              go_wp2
              case roundEnd => exfalso; simp only [beq_iff_eq] at *; omega
              (try simp only [Exit.inBlock, Exit.then]); (show bodyPost _ _ _ _ _ _); refine bodyPost_ret (results_tmp rfl _ _ _) rfl ?_
              exact ⟨by rw [← HZ.out]; rfl, rfl⟩
        · have HZ : Hid (y.data.toList = trim s.data.toList) := by
            show _ = _
            have : y.data.toList = [] := List.eq_nil_of_length_eq_zero (by rw [← Lib.size_eq]; omega)
            rw [← HY.out, this]; rfl
          go_wp2
          (try simp only [Exit.inBlock, Exit.then]); (show bodyPost _ _ _ _ _ _); refine bodyPost_ret (results_tmp rfl _ _ _) rfl ?_
          exact ⟨by rw [← HZ.out]; rfl, rfl⟩

/-- a byte of what came in -/
theorem byte_cell {w : World} {B g o n : Nat} {l : Bs} (h : Rd w B 1 (some ⟨g, o, none⟩) n (bytesV l)) (k : Nat) (hk : k < l.length) : w.cell? ⟨g, o + k, none⟩ = some (.int .u8 (l[k].toNat : Int)) := by
  have hl : l.length = n := by have := h.1; rw [bytesV_len] at this; omega
  obtain ⟨g', o', e, _, hc⟩ := h.2 (by omega)
  injection e with e
  injection e with e1 e2 _
  subst e1 e2
  exact hc k _ (bytesV_get hk)
theorem drop_cons {l : Bs} {k : Nat} (h : k < l.length) : l.drop k = l[k] :: l.drop (k + 1) := List.drop_eq_getElem_cons h

set_option maxHeartbeats 1000000 in
theorem qended_any (A : Option Addr) (n c : Nat) (l : Bs) (a : Nat) (w : World) (hrd : Rd w w.heap.size 1 A n (bytesV l)) (hn : n ≤ 100000000) (ha : a ≤ n) :
    Calls Tryz.prog 106 #[.slice A n c, .int .i64 (a : Int)] w fun e w' => e = .returned (.tuple #[.int .i64 (Chunk.endedR (l.drop a) a).1, .int .i64 (Chunk.endedR (l.drop a) a).2]) ∧ w = w' := by
  have hlen : l.length = n := by have := hrd.1; rw [bytesV_len] at this; omega
  rcases Nat.lt_or_ge a n with h1 | h1
  · obtain ⟨g, o, rfl, _, _⟩ := hrd.2 (by omega)
    have k1 := byte_cell hrd a (by omega)
    have hd1 := drop_cons (l := l) (k := a) (by omega)
    have i0 : (a : Int) < (n : Int) := by omega
    have hx := UInt8.toNat_lt (l[a]'(by omega))
    by_cases h13 : l[a]'(by omega) = 13
    · rw [h13] at k1 hd1
      have k1' : w.cell? ⟨g, o + a, none⟩ = some (.int .u8 13) := k1
      rcases Nat.lt_or_ge (a + 1) n with h2 | h2
      · have k2 := byte_cell hrd (a + 1) (by omega)
        have k2' : w.cell? ⟨g, o + (a + 1), none⟩ = some (.int .u8 ((l[a + 1]'(by omega)).toNat : Int)) := k2
        have hd2 := drop_cons (l := l) (k := a + 1) (by omega)
        have hy := UInt8.toNat_lt (l[a + 1]'(by omega))
        have i1 : (a : Int) + 1 < (n : Int) := by omega
        by_cases h10 : l[a + 1]'(by omega) = 10
        · have HE : Hid (Chunk.endedR (l.drop a) a = (a + 2, 1)) := Lib.hid (by rw [hd1, hd2, h10]; simp [Chunk.endedR])
          rw [h10] at k2'
          have k3 : w.cell? ⟨g, o + (a + 1), none⟩ = some (.int .u8 10) := k2'
          clear hd1 hd2 h10 h13 k1 k2 k2'
          go_enter Tryz.func106, Tryz.ntmps106
          go_wp2
          go_ret2
          rw [HE.out]
          exact ⟨rfl, rfl⟩
        · have HE : Hid (Chunk.endedR (l.drop a) a = (a + 1, -1)) := Lib.hid (by rw [hd1, hd2]; simp [Chunk.endedR, h10])
          have e10 : (((l[a + 1]'(by omega)).toNat : Int) != 10) = true := by
            simp only [bne_iff_ne, ne_eq]
            exact fun e => h10 (UInt8.toNat_inj.mp (by rw [show (l[a + 1]'(by omega)).toNat = 10 by omega]; rfl))
          generalize (l[a + 1]'(by omega)) = y at k2' e10 hy
          clear hd1 hd2 h10 h13 k1 k2
          go_enter Tryz.func106, Tryz.ntmps106
          go_wp2
          go_ret2
          rw [HE.out]
          exact ⟨rfl, rfl⟩
      · have HE : Hid (Chunk.endedR (l.drop a) a = (a + 1, 0)) := Lib.hid (by rw [hd1, List.drop_of_length_le (by omega)]; simp [Chunk.endedR])
        have i1 : ¬ (a : Int) + 1 < (n : Int) := by omega
        have HN : Hid (n = a + 1) := Lib.hid (by omega)
        clear hd1 h13 k1
        go_enter Tryz.func106, Tryz.ntmps106
        go_wp2
        go_ret2
        rw [HE.out, HN.out]
        exact ⟨rfl, rfl⟩
    · have HE : Hid (Chunk.endedR (l.drop a) a = (a, -1)) := Lib.hid (by rw [hd1]; simp [Chunk.endedR, h13])
      have e13 : (((l[a]'(by omega)).toNat : Int) != 13) = true := by
        simp only [bne_iff_ne, ne_eq]
        exact fun e => h13 (UInt8.toNat_inj.mp (by rw [show (l[a]'(by omega)).toNat = 13 by omega]; rfl))
      generalize (l[a]'(by omega)) = y at k1 e13 hx
      clear hd1 h13
      go_enter Tryz.func106, Tryz.ntmps106
      go_wp2
      go_ret2
      rw [HE.out]
      exact ⟨rfl, rfl⟩
  · have HE : Hid (Chunk.endedR (l.drop a) a = (n, 0)) := Lib.hid (by rw [List.drop_of_length_le (by omega), show a = n by omega]; rfl)
    have i0 : ¬ (a : Int) < (n : Int) := by omega
    have i1 : ¬ (a : Int) + 1 < (n : Int) := by omega
    go_enter Tryz.func106, Tryz.ntmps106
    go_wp2
    go_ret2
    rw [HE.out]
    exact ⟨rfl, rfl⟩
end Go.Proofs.YtklmpadcfioefaaGreatDoor
