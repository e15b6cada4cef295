/- the reference's End: where a head ends (chapter 24). Conditions: sizes. -/
import Derived.Test.YtklmpadcfioefaaGreatDoorMX1
import Derived.Test.YtklmpadcfioefaaGreatDoorMA
namespace Go.Proofs.YtklmpadcfioefaaGreatDoor
open Go.RowKit
theorem occ_four (x : Bs) (i : Nat) (h : i + 4 ≤ x.length) : Lib.occAt x Strm.crlf2 i = (x[i] == 13 && x[i + 1] == 10 && x[i + 2] == 13 && x[i + 3] == 10) := by
  unfold Lib.occAt Strm.crlf2
  rw [List.drop_eq_getElem_cons (by omega), List.drop_eq_getElem_cons (by omega), List.drop_eq_getElem_cons (by omega), List.drop_eq_getElem_cons (by omega)]
  simp only [List.isPrefixOf, Bool.and_true]
  rw [Bool.eq_iff_iff]
  simp only [Bool.and_eq_true, beq_iff_eq]
  constructor
  · rintro ⟨a, b, c, d⟩; exact ⟨⟨⟨a.symm, b.symm⟩, c.symm⟩, d.symm⟩
  · rintro ⟨⟨⟨a, b⟩, c⟩, d⟩; exact ⟨a.symm, b.symm, c.symm, d.symm⟩
def endN (l : Bs) : Nat := (Strm.headEnd (l.take 16384)).getD 0
theorem end_hit {l : Bs} {i : Nat} (h : i + 4 ≤ (l.take 16384).length) (hno : ∀ j, j < i → Lib.occAt (l.take 16384) Strm.crlf2 j = false) (ho : Lib.occAt (l.take 16384) Strm.crlf2 i = true) : endN l = i + 4 := by
  have e : Lib.index (l.take 16384) Strm.crlf2 = (i : Int) := Lib.index_hit hno (by omega) ho
  unfold endN Strm.headEnd
  rw [e, if_neg (by omega)]
  rfl
theorem end_past {l : Bs} {i : Nat} (h : (l.take 16384).length < i + 4) (hno : ∀ j, j < i → Lib.occAt (l.take 16384) Strm.crlf2 j = false) : endN l = 0 := by
  have e : Lib.index (l.take 16384) Strm.crlf2 = -1 := Lib.index_past (by decide) hno h
  unfold endN Strm.headEnd
  rw [e, if_pos (by omega)]
  rfl
set_option maxHeartbeats 2000000 in
set_option maxRecDepth 100000 in
theorem qend_any (A : Option Addr) (n c : Nat) (l : Bs) (w : World) (hrd : Rd w w.heap.size 1 A n (bytesV l)) (hn : n ≤ 100000000) :
    Calls Tryz.prog 59 #[.slice A n c] w fun e w' => e = .returned (.int .i64 (endN l : Nat)) ∧ w = w' := by
  have hlen : l.length = n := by have := hrd.1; rw [bytesV_len] at this; omega
  have htl : (l.take 16384).length = min 16384 n := by rw [List.length_take, hlen]
  have HRD := Lib.hid hrd
  have HTL := Lib.hid htl
  have HLN := Lib.hid hlen
  clear hrd htl hlen
  go_enter Tryz.func59, Tryz.ntmps59
  go_wp2
  go_loop [3] (fun v => ∃ i : Nat, i ≤ n ∧ v = .int .i64 i ∧ ∀ j, j < i → Lib.occAt (l.take 16384) Strm.crlf2 j = false) (fun v => n - (intOf v).toNat)
  case atStart => exact ⟨0, Nat.zero_le _, rfl, fun j hj => by omega⟩
  case round =>
    obtain ⟨i, hi, rfl, hno⟩ := hrel
    have HNO := Lib.hid hno
    clear hno
    by_cases h4 : i + 4 ≤ n
    · have g4 : (i : Int) + 4 ≤ (n : Int) := by omega
      by_cases h16 : i + 4 ≤ 16384
      · have g16 : (i : Int) + 4 ≤ 16384 := by omega
        obtain ⟨g, o, rfl, hg, hc⟩ := HRD.out.2 (by omega)
        have hl0 : i + 4 ≤ (l.take 16384).length := by rw [HTL.out]; omega
        have hll : i + 4 ≤ l.length := by rw [HLN.out]; exact h4
        have hb : ∀ (j : Nat) (h : j < l.length), w.cell? ⟨g, o + j, none⟩ = some (.int .u8 (l[j].toNat : Int)) := fun j h => hc j _ (by unfold bytesV; rw [List.getElem?_map, List.getElem?_eq_getElem h]; rfl)
        have c0 := hb i (by omega)
        have c1 := hb (i + 1) (by omega)
        have c2 := hb (i + 2) (by omega)
        have c3 := hb (i + 3) (by omega)
        have hoc := occ_four (l.take 16384) i hl0
        simp only [List.getElem_take] at hoc
        have x0 := UInt8.toNat_lt l[i]
        have x1 := UInt8.toNat_lt l[i + 1]
        have x2 := UInt8.toNat_lt l[i + 2]
        have x3 := UInt8.toNat_lt l[i + 3]
        have n13 : ∀ x : UInt8, (x == 13) = decide (x.toNat = 13) := fun x => by rw [Bool.eq_iff_iff, beq_iff_eq, decide_eq_true_eq]; exact ⟨fun e => by rw [e]; rfl, fun e => UInt8.toNat_inj.1 e⟩
        have n10 : ∀ x : UInt8, (x == 10) = decide (x.toNat = 10) := fun x => by rw [Bool.eq_iff_iff, beq_iff_eq, decide_eq_true_eq]; exact ⟨fun e => by rw [e]; rfl, fun e => UInt8.toNat_inj.1 e⟩
        rw [n13, n10, n13, n10] at hoc
        generalize l[i].toNat = a0 at *
        generalize l[i + 1].toNat = a1 at *
        generalize l[i + 2].toNat = a2 at *
        generalize l[i + 3].toNat = a3 at *
        have c1' := c1
        have c2' := c2
        have c3' := c3
        rw [← Nat.add_assoc] at c1' c2' c3'
        have HOC := Lib.hid hoc
        have HL0 := Lib.hid hl0
        clear hb hc hoc hl0 hll n13 n10
        by_cases d0 : a0 = 13
        · subst d0
          by_cases d1 : a1 = 10
          · subst d1
            by_cases d2 : a2 = 13
            · subst d2
              by_cases d3 : a3 = 10
              · subst d3
                have HE : Hid (endN l = i + 4) := Lib.hid (end_hit HL0.out HNO.out (by rw [HOC.out]; rfl))
                go_wp2
                go_ret
                exact ⟨by rw [HE.out]; go_num, rfl⟩
              · have q3 : ((a3 : Int) == 10) = false := by rw [beq_eq_false_iff_ne]; omega
                (go_wp2
                 go_round
                 case rel => exact ⟨i + 1, by omega, by go_num, fun j hj => by
                   by_cases e : j < i
                   · exact HNO.out j e
                   · have : j = i := by omega
                     subst this
                     rw [HOC.out]
                     simp [d3]⟩
                 case measure => simp [intOf]; omega)
            · have q2 : ((a2 : Int) == 13) = false := by rw [beq_eq_false_iff_ne]; omega
              (go_wp2
               go_round
               case rel => exact ⟨i + 1, by omega, by go_num, fun j hj => by
                 by_cases e : j < i
                 · exact HNO.out j e
                 · have : j = i := by omega
                   subst this
                   rw [HOC.out]
                   simp [d2]⟩
               case measure => simp [intOf]; omega)
          · have q1 : ((a1 : Int) == 10) = false := by rw [beq_eq_false_iff_ne]; omega
            (go_wp2
             go_round
             case rel => exact ⟨i + 1, by omega, by go_num, fun j hj => by
               by_cases e : j < i
               · exact HNO.out j e
               · have : j = i := by omega
                 subst this
                 rw [HOC.out]
                 simp [d1]⟩
             case measure => simp [intOf]; omega)
        · have q0 : ((a0 : Int) == 13) = false := by rw [beq_eq_false_iff_ne]; omega
          (go_wp2
           go_round
           case rel => exact ⟨i + 1, by omega, by go_num, fun j hj => by
             by_cases e : j < i
             · exact HNO.out j e
             · have : j = i := by omega
               subst this
               rw [HOC.out]
               simp [d0]⟩
           case measure => simp [intOf]; omega)
      · have g16 : decide ((i : Int) + 4 ≤ 16384) = false := by simp; omega
        have HE : Hid (endN l = 0) := Lib.hid (end_past (by rw [HTL.out]; omega) HNO.out)
        go_wp2
        go_ret
        exact ⟨by rw [HE.out]; rfl, rfl⟩
    · have g4 : decide ((i : Int) + 4 ≤ (n : Int)) = false := by simp; omega
      have HE : Hid (endN l = 0) := Lib.hid (end_past (by rw [HTL.out]; omega) HNO.out)
      go_wp2
      go_ret
      exact ⟨by rw [HE.out]; rfl, rfl⟩
end Go.Proofs.YtklmpadcfioefaaGreatDoor
