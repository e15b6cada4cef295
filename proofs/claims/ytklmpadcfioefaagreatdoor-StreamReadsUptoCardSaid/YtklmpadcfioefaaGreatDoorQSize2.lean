/- the reference's size: a size line. Condition: sizes. -/
import Derived.Test.YtklmpadcfioefaaGreatDoorQSize
namespace Go.Proofs.YtklmpadcfioefaaGreatDoor
open Go.RowKit

theorem hex_neg2 {c : UInt8} (hd : ¬ 0 ≤ Chunk.hexI c) : Chunk.hexI c = -1 := by
  rw [hexI_eq] at hd ⊢
  unfold hexN at hd ⊢
  by_cases h1 : 48 ≤ c.toNat ∧ c.toNat ≤ 57
  · rw [if_pos h1] at hd; omega
  · rw [if_neg h1] at hd ⊢
    by_cases h2 : 97 ≤ c.toNat ∧ c.toNat ≤ 102
    · rw [if_pos h2] at hd; omega
    · rw [if_neg h2] at hd ⊢
      by_cases h3 : 65 ≤ c.toNat ∧ c.toNat ≤ 70
      · rw [if_pos h3] at hd; omega
      · rw [if_neg h3]
theorem u8_iff {c d : UInt8} : (c.toNat : Int) = (d.toNat : Int) ↔ c = d := ⟨fun e => UInt8.toNat_inj.mp (by omega), fun e => by rw [e]⟩
theorem u8_ne {c d : UInt8} (h : c ≠ d) (k : Int) (hk : (d.toNat : Int) = k) : (((c.toNat : Int)) == k) = false ∧ (((c.toNat : Int)) != k) = true := by
  subst hk
  simp only [beq_eq_false_iff_ne, ne_eq, bne_iff_ne]
  exact ⟨fun e => h (u8_iff.1 e), fun e => h (u8_iff.1 e)⟩
def SizePost (x : Nat × Nat × Int) (w : World) (e : Ending) (w' : World) : Prop := e = .returned (.tuple #[.int .i64 x.1, .int .i64 x.2.1, .int .i64 x.2.2]) ∧ w = w'

set_option maxHeartbeats 4000000 in
set_option maxRecDepth 100000 in
theorem qsize_any (A : Option Addr) (n c : Nat) (l : Bs) (a : Nat) (w : World) (hrd : Rd w w.heap.size 1 A n (bytesV l)) (hn : n ≤ 100000000) (ha : a ≤ n) :
    Calls Tryz.prog 105 #[.slice A n c, .int .i64 (a : Int)] w (SizePost (Chunk.sizeA (l.drop a) a 0 0) w) := by
  have hlen : l.length = n := by have := hrd.1; rw [bytesV_len] at this; omega
  have HL := Lib.hid hlen
  clear hlen
  go_enter Tryz.func105, Tryz.ntmps105
  go_wp2
  go_loop [7, 8] (fun v i => ∃ j N : Nat, a ≤ j ∧ j ≤ n ∧ v = .int .i64 N ∧ i = .int .i64 j ∧ N ≤ 2147483647 ∧ j ≤ a + 8 ∧ Chunk.sizeA (l.drop a) a 0 0 = Chunk.sizeA (l.drop j) j (j - a) N) (fun _ i => n - (intOf i).toNat)
  case atStart => exact ⟨a, 0, Nat.le_refl _, ha, rfl, rfl, by omega, by omega, by rw [Nat.sub_self]⟩
  case round =>
    obtain ⟨j, N, haj, hjn, rfl, rfl, hN, hj8, heq⟩ := hrel
    have HQ := Lib.hid heq
    clear heq
    rcases Nat.lt_or_ge j n with h1 | h1
    · have hjl : j < l.length := by have := HL.out; omega
      obtain ⟨g, o, rfl, _, _⟩ := hrd.2 (by omega)
      have k1 := byte_cell hrd j hjl
      have HD := Lib.hid (drop_cons (l := l) (k := j) hjl)
      have i0 : (j : Int) < (n : Int) := by omega
      have hx := UInt8.toNat_lt l[j]
      generalize hch : l[j] = ch at k1 HD hx
      clear hch
      have hq : Chunk.sizeA (l.drop a) a 0 0 = Chunk.sizeA (ch :: l.drop (j + 1)) j (j - a) N := by rw [HQ.out, HD.out]
      rw [Chunk.sizeA] at hq
      by_cases hd : 0 ≤ Chunk.hexI ch
      · obtain ⟨d, hd2⟩ : ∃ d : Nat, Chunk.hexI ch = d := ⟨(Chunk.hexI ch).toNat, by omega⟩
        have b5 : d ≤ 15 := by have := Chunk.hexI_le ch; omega
        have HX : Hid (∀ W : World, Calls Tryz.prog 134 #[.int .u8 (ch.toNat : Int)] W fun e w' => e = .returned (.int .i64 (d : Int)) ∧ W = w') := Lib.hid (fun W => by have := digit_any ch W; rw [hd2] at this; exact this)
        rw [if_pos hd, hd2, Int.toNat_natCast] at hq
        by_cases hf : j - a = 8 ∨ Chunk.most < 16 * N + d
        · have HE : Hid (Chunk.sizeA (l.drop a) a 0 0 = (0, j, -1)) := Lib.hid (by rw [hq, if_pos hf])
          clear hd hd2 hq
          by_cases h8 : j = a + 8
          · have e8 : ((j : Int) - (a : Int) == 8) = true := by simp; omega
            clear hf h8
            go_wp2_with (first
              | (go_at_call 134; go_must (refine (HX.out _).mono ?_; rintro _ _ ⟨rfl, rfl⟩))
              | fail)
            go_ret3
            rw [HE.out]
            exact ⟨rfl, rfl⟩
          · have e8 : ((j : Int) - (a : Int) == 8) = false := by simp; omega
            have em : (2147483647 : Int) < 16 * (N : Int) + (d : Int) := by unfold Chunk.most at hf; omega
            clear hf h8
            go_wp2_with (first
              | (go_at_call 134; go_must (refine (HX.out _).mono ?_; rintro _ _ ⟨rfl, rfl⟩))
              | fail)
            go_ret3
            rw [HE.out]
            exact ⟨rfl, rfl⟩
        · have HE : Hid (Chunk.sizeA (l.drop a) a 0 0 = Chunk.sizeA (l.drop (j + 1)) (j + 1) (j + 1 - a) (16 * N + d)) := Lib.hid (by rw [hq, if_neg hf, show j - a + 1 = j + 1 - a by omega])
          have e8 : ((j : Int) - (a : Int) == 8) = false := by simp; omega
          have em : ¬ (2147483647 : Int) < 16 * (N : Int) + (d : Int) := by unfold Chunk.most at hf; omega
          have em2 : 16 * N + d ≤ 2147483647 := by omega
          have ej : j + 1 ≤ a + 8 := by omega
          clear hd hd2 hq hf
          go_wp2_with (first
            | (go_at_call 134; go_must (refine (HX.out _).mono ?_; rintro _ _ ⟨rfl, rfl⟩))
            | fail)
          go_round
          case rel => exact ⟨j + 1, 16 * N + d, by omega, by omega, by simp, by go_num, em2, ej, HE.out⟩
          case measure => simp [intOf]; omega
      · have hm := hex_neg2 hd
        have HX : Hid (∀ W : World, Calls Tryz.prog 134 #[.int .u8 (ch.toNat : Int)] W fun e w' => e = .returned (.int .i64 (-1)) ∧ W = w') := Lib.hid (fun W => by have := digit_any ch W; rw [hm] at this; exact this)
        rw [if_neg hd] at hq
        clear hd hm
        have ejn : ((j : Int) == (n : Int)) = false := by simp; omega
        by_cases hf : j - a = 0 ∨ (ch ≠ 59 ∧ ch ≠ 13)
        · have HE : Hid (Chunk.sizeA (l.drop a) a 0 0 = (0, j, -1)) := Lib.hid (by rw [hq, if_pos hf])
          clear hq
          by_cases h8 : j = a
          · have e8 : ((j : Int) == (a : Int)) = true := by simp; omega
            clear hf
            obtain rfl := h8
            go_wp2_with (first
              | (go_at_call 134; go_must (refine (HX.out _).mono ?_; rintro _ _ ⟨rfl, rfl⟩))
              | fail)
            go_ret3
            rw [HE.out]
            exact ⟨rfl, rfl⟩
          · have e8 : ((j : Int) == (a : Int)) = false := by simp; omega
            obtain ⟨hc1, hc2⟩ : ch ≠ 59 ∧ ch ≠ 13 := by rcases hf with x | x; omega; exact x
            obtain ⟨u1, u2⟩ := u8_ne hc1 59 rfl
            obtain ⟨u3, u4⟩ := u8_ne hc2 13 rfl
            clear hf h8 hc1 hc2
            go_wp2_with (first
              | (go_at_call 134; go_must (refine (HX.out _).mono ?_; rintro _ _ ⟨rfl, rfl⟩))
              | fail)
            go_ret3
            rw [HE.out]
            exact ⟨rfl, rfl⟩
        · have HB : Hid (Chunk.sizeA (l.drop a) a 0 0 = Chunk.sizeB (l.drop j) j (j - a) N) := Lib.hid (by rw [hq, if_neg hf, HD.out])
          have e8 : ((j : Int) == (a : Int)) = false := by simp; omega
          have hcc : ch = 59 ∨ ch = 13 := by
            by_cases x : ch = 59
            · exact Or.inl x
            · by_cases y : ch = 13
              · exact Or.inr y
              · exact absurd (Or.inr ⟨x, y⟩) hf
          have hjk : j ≤ a + 8 := hj8
          clear hq hf
          have u5 : (((ch.toNat : Int) != 59) && ((ch.toNat : Int) != 13)) = false := by rcases hcc with rfl | rfl <;> rfl
          have fin : ∀ W : World, True := fun _ => trivial
          rcases hcc with rfl | rfl
          all_goals
            go_wp2_with (first
              | (go_at_call 134; go_must (refine (HX.out _).mono ?_; rintro _ _ ⟨rfl, rfl⟩))
              | fail)
            go_loop [8] (fun i => ∃ q : Nat, j ≤ q ∧ q ≤ n ∧ i = .int .i64 q ∧ Chunk.sizeA (l.drop a) a 0 0 = Chunk.sizeB (l.drop q) q (q - a) N) (fun i => n - (intOf i).toNat)
            case atStart => exact ⟨j, Nat.le_refl _, hjn, rfl, HB.out⟩
            case round =>
              obtain ⟨q, hjq, hqn, rfl, heq2⟩ := hrel
              have HQ2 := Lib.hid heq2
              clear heq2 k1 HD HX HB
              rcases Nat.lt_or_ge q n with h2 | h2
              · have hql : q < l.length := by have := HL.out; omega
                have k2 := byte_cell hrd q hql
                have HD2 := Lib.hid (drop_cons (l := l) (k := q) hql)
                have i2 : (q : Int) < (n : Int) := by omega
                have hy := UInt8.toNat_lt l[q]
                generalize hcy : l[q] = cy at k2 HD2 hy
                clear hcy
                have hq2 : Chunk.sizeA (l.drop a) a 0 0 = Chunk.sizeB (cy :: l.drop (q + 1)) q (q - a) N := by rw [HQ2.out, HD2.out]
                rw [Chunk.sizeB] at hq2
                by_cases h13 : cy = 13
                · have HE : Hid (Chunk.sizeA (l.drop a) a 0 0 = (N, Chunk.endedR (l.drop q) q)) := Lib.hid (by rw [hq2, if_pos h13, HD2.out])
                  subst h13
                  clear hq2
                  have HEN := Lib.hid (qended_any (some ⟨g, o, none⟩) n c l q w hrd hn hqn)
                  go_wp2_with (first
                    | (go_at_call 106; go_must (refine HEN.out.mono ?_; rintro _ _ ⟨rfl, rfl⟩))
                    | fail)
                  go_ret3
                  rw [HE.out]
                  exact ⟨rfl, rfl⟩
                · obtain ⟨v1, v2⟩ := u8_ne h13 13 rfl
                  rw [if_neg h13] at hq2
                  by_cases hp : Chunk.plain cy = false ∨ 4096 ≤ q - a
                  · have HE : Hid (Chunk.sizeA (l.drop a) a 0 0 = (0, q, -1)) := Lib.hid (by rw [hq2, if_pos hp])
                    clear hq2 h13
                    by_cases hpl : Chunk.plain cy = true
                    · have HP := Lib.hid hpl
                      have e9 : decide ((4096 : Int) ≤ (q : Int) - (a : Int)) = true := by
                        have : 4096 ≤ q - a := by rcases hp with x | x; rw [hpl] at x; cases x; exact x
                        simp; omega
                      have e9' : (4096 : Int) ≤ (q : Int) - (a : Int) := by simpa using e9
                      clear hp hpl
                      go_wp2_with (first
                        | (go_at_call 135; go_must (refine (qplain_any cy _).mono ?_; rintro _ _ ⟨rfl, rfl⟩; rw [HP.out]))
                        | fail)
                      go_ret3
                      rw [HE.out]
                      exact ⟨rfl, rfl⟩
                    · have hpf : Chunk.plain cy = false := by simpa using hpl
                      have HP := Lib.hid hpf
                      clear hp hpl hpf
                      go_wp2_with (first
                        | (go_at_call 135; go_must (refine (qplain_any cy _).mono ?_; rintro _ _ ⟨rfl, rfl⟩; rw [HP.out]))
                        | fail)
                      go_ret3
                      rw [HE.out]
                      exact ⟨rfl, rfl⟩
                  · have HE : Hid (Chunk.sizeA (l.drop a) a 0 0 = Chunk.sizeB (l.drop (q + 1)) (q + 1) (q + 1 - a) N) := Lib.hid (by rw [hq2, if_neg hp, show q - a + 1 = q + 1 - a by omega])
                    have hpt : Chunk.plain cy = true := by
                      by_cases x : Chunk.plain cy = true
                      · exact x
                      · exact absurd (Or.inl (by simpa using x)) hp
                    have HP := Lib.hid hpt
                    have e9 : ¬ (4096 : Int) ≤ (q : Int) - (a : Int) := by
                      have : ¬ 4096 ≤ q - a := fun x => hp (Or.inr x)
                      omega
                    have e9' : decide ((4096 : Int) ≤ (q : Int) - (a : Int)) = false := by simpa using e9
                    clear hp hpt hq2 h13
                    go_wp2_with (first
                      | (go_at_call 135; go_must (refine (qplain_any cy _).mono ?_; rintro _ _ ⟨rfl, rfl⟩; rw [HP.out]))
                      | fail)
                    go_round
                    case rel => exact ⟨q + 1, by omega, by omega, by go_num, HE.out⟩
                    case measure => simp [intOf]; omega
              · have HE : Hid (Chunk.sizeA (l.drop a) a 0 0 = (N, Chunk.endedR (l.drop q) q)) := Lib.hid (by rw [HQ2.out, List.drop_of_length_le (by have := HL.out; omega)]; rfl)
                have i2 : ¬ (q : Int) < (n : Int) := by omega
                have HEN := Lib.hid (qended_any (some ⟨g, o, none⟩) n c l q w hrd hn hqn)
                go_wp2_with (first
                  | (go_at_call 106; go_must (refine HEN.out.mono ?_; rintro _ _ ⟨rfl, rfl⟩))
                  | fail)
                go_ret3
                rw [HE.out]
                exact ⟨rfl, rfl⟩
    · have HE : Hid (Chunk.sizeA (l.drop a) a 0 0 = (0, j, 0)) := Lib.hid (by rw [HQ.out, List.drop_of_length_le (by have := HL.out; omega)]; rfl)
      have i0 : ¬ (j : Int) < (n : Int) := by omega
      have ejn : ((j : Int) == (n : Int)) = true := by simp; omega
      go_wp2
      go_ret3
      rw [HE.out]
      exact ⟨rfl, rfl⟩
end Go.Proofs.YtklmpadcfioefaaGreatDoor
