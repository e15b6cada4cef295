/- the disk's small functions: which names may be, the choices. Conditions: sizes. -/
import Derived.Test.YthgeppdoonbkpaaMB
import Derived.Test.YthgeppdoonbkpaaMA
import Derived.Deep.DeepCutAuto
import Derived.Deep.CutBlock
namespace Go.Proofs.Ythgeppdoonbkpaa
open Go.RowKit
def strV (l : Bs) : Value := .string ⟨l.toArray⟩
def namesV (l : List Bs) : List Value := l.map strV
theorem namesV_len (l : List Bs) : (namesV l).length = l.length := by unfold namesV; rw [List.length_map]
theorem namesV_get {l : List Bs} {j : Nat} (h : j < l.length) : (namesV l)[j]? = some (.string ⟨l[j].toArray⟩) := by
  unfold namesV strV
  rw [List.getElem?_map, List.getElem?_eq_getElem h]
  rfl
theorem strV_size (l : Bs) : (⟨l.toArray⟩ : ByteArray).size = l.length := by
  show l.toArray.size = _
  rw [List.size_toArray]
set_option maxHeartbeats 1000000 in
set_option maxRecDepth 100000 in
theorem dmay_any (n : Bs) (w : World) (hn : n.length ≤ 1000000000000) :
    Calls Try.prog 54 #[.string ⟨n.toArray⟩] w fun e w' => e = .returned (.bool (Dsk.may n)) ∧ Below w.heap.size w w' := by
  obtain ⟨s, hs⟩ : ∃ s : ByteArray, s = ⟨n.toArray⟩ := ⟨_, rfl⟩
  have hsz : s.size = n.length := by rw [hs]; exact strV_size n
  have hget : ∀ (k : Nat) (h : k < s.size) (h2 : k < n.length), s[k] = n[k] := fun k h h2 => by subst hs; rfl
  rw [← hs]
  have HSZ : Hid (s.size = n.length) := Lib.hid hsz
  have HGET := Lib.hid hget
  have hmn : s.size ≤ 1000000000000 := by omega
  clear hs hget hsz hn
  go_enter Try.func54, Try.ntmps54
  go_upto_region 1 with (fail)
  go_cut [3] (fun v wx => v = .bool (decide (1 ≤ n.length ∧ n.length ≤ 64)) ∧ w = wx)
  case first =>
    by_cases h1 : 1 ≤ s.size
    · have k1 : (0 : Int) < (s.size : Int) := by omega
      by_cases h2 : s.size ≤ 64
      · have k2 : (s.size : Int) ≤ 64 := by omega
        have e : decide (1 ≤ n.length ∧ n.length ≤ 64) = true := decide_eq_true (by have := HSZ.out; omega)
        clear h1 h2
        go_wp2
        go_meet
        exact ⟨congrArg Value.bool e.symm, rfl⟩
      · have k2 : ¬ (s.size : Int) ≤ 64 := by omega
        have e : decide (1 ≤ n.length ∧ n.length ≤ 64) = false := decide_eq_false (by have := HSZ.out; omega)
        clear h1 h2
        go_wp2
        go_meet
        exact ⟨congrArg Value.bool e.symm, rfl⟩
    · have k1 : ¬ (0 : Int) < (s.size : Int) := by omega
      have e : decide (1 ≤ n.length ∧ n.length ≤ 64) = false := decide_eq_false (by have := HSZ.out; omega)
      clear h1
      go_wp2
      go_meet
      exact ⟨congrArg Value.bool e.symm, rfl⟩
  case rest =>
  obtain ⟨rfl, rfl⟩ := hcut
  go_wp2
  go_loopw [3, 15] (fun bb kk wr => ∃ k : Nat, k ≤ s.size ∧ kk = .int .i64 k ∧ bb = .bool (decide (1 ≤ n.length ∧ n.length ≤ 64) && (n.take k).all Dsk.mayC) ∧ Below w.heap.size w wr) (fun _ kk _ => s.size - (intOf kk).toNat)
  case atStart => exact ⟨0, Nat.zero_le _, rfl, by simp, Below.refl _ _⟩
  case round =>
    obtain ⟨k, hk, rfl, rfl, hb⟩ := hrel
    have HB := Lib.hid hb
    clear hb
    by_cases hlt : k < s.size
    · have hkn : k < n.length := by have := HSZ.out; omega
      have hg := HGET.out k hlt hkn
      have htk : (n.take (k + 1)).all Dsk.mayC = ((n.take k).all Dsk.mayC && Dsk.mayC n[k]) := by
        rw [List.take_succ_eq_append_getElem hkn, List.all_append]
        simp
      obtain ⟨ac, hac⟩ : ∃ ac : Bool, ac = (decide (1 ≤ n.length ∧ n.length ≤ 64) && (n.take k).all Dsk.mayC) := ⟨_, rfl⟩
      have hnx : (decide (1 ≤ n.length ∧ n.length ≤ 64) && (n.take (k + 1)).all Dsk.mayC) = (ac && Dsk.mayC n[k]) := by rw [htk, hac, Bool.and_assoc]
      have HNX := Lib.hid hnx
      rw [← hac]
      generalize n[k] = c at *
      clear htk hac hnx
      cases ac with
      | false =>
        go_wp2
        go_roundw
        case rel => exact ⟨k + 1, by omega, by go_num, by rw [HNX.out]; rfl, HB.out⟩
        case measure => simp [intOf]; omega
      | true =>
        have hx := c.toNat_lt
        have hmc : Dsk.mayC c = decide (32 < c.toNat ∧ c.toNat ≤ 126 ∧ c.toNat ≠ 47) := by
          unfold Dsk.mayC
          rw [decide_eq_decide]
          simp only [UInt8.lt_iff_toNat_lt, UInt8.le_iff_toNat_le, ne_eq, ← UInt8.toNat_inj]
          exact Iff.rfl
        rw [hmc] at HNX
        have hgt : s[k].toNat = c.toNat := by rw [hg]
        have HL := Lib.hid hlt
        by_cases h1 : 32 < c.toNat
        · have k1 : (32 : Int) < (c.toNat : Int) := by omega
          by_cases h2 : c.toNat ≤ 126
          · have k2 : (c.toNat : Int) ≤ 126 := by omega
            by_cases h3 : c.toNat = 47
            · have k3 : ((c.toNat : Int) != 47) = false := by rw [h3]; rfl
              have e : decide (32 < c.toNat ∧ c.toNat ≤ 126 ∧ c.toNat ≠ 47) = false := decide_eq_false (by omega)
              rw [e] at HNX
              clear h1 h2 h3 hgt hmc e
              go_wp2
              go_roundw
              case rel => exact ⟨k + 1, by omega, by go_num, by rw [HNX.out]; rfl, HB.out⟩
              case measure => simp [intOf]; omega
            · have k3 : ((c.toNat : Int) != 47) = true := by rw [bne_iff_ne]; omega
              have e : decide (32 < c.toNat ∧ c.toNat ≤ 126 ∧ c.toNat ≠ 47) = true := decide_eq_true (by omega)
              rw [e] at HNX
              clear h1 h2 h3 hgt hmc e
              go_wp2
              go_roundw
              case rel => exact ⟨k + 1, by omega, by go_num, by rw [HNX.out]; rfl, HB.out⟩
              case measure => simp [intOf]; omega
          · have k2 : ¬ (c.toNat : Int) ≤ 126 := by omega
            have e : decide (32 < c.toNat ∧ c.toNat ≤ 126 ∧ c.toNat ≠ 47) = false := decide_eq_false (by omega)
            rw [e] at HNX
            clear h1 h2 hgt hmc e
            go_wp2
            go_roundw
            case rel => exact ⟨k + 1, by omega, by go_num, by rw [HNX.out]; rfl, HB.out⟩
            case measure => simp [intOf]; omega
        · have k1 : ¬ (32 : Int) < (c.toNat : Int) := by omega
          have e : decide (32 < c.toNat ∧ c.toNat ≤ 126 ∧ c.toNat ≠ 47) = false := decide_eq_false (by omega)
          rw [e] at HNX
          clear h1 hgt hmc e
          go_wp2
          go_roundw
          case rel => exact ⟨k + 1, by omega, by go_num, by rw [HNX.out]; rfl, HB.out⟩
          case measure => simp [intOf]; omega
    · obtain rfl : k = s.size := by omega
      have hl : n.take s.size = n := List.take_of_length_le (by rw [HSZ.out]; exact Nat.le_refl _)
      rw [hl]
      have hend : ¬ (s.size : Int) < (s.size : Int) := by omega
      have HD : Hid ((decide (1 ≤ n.length ∧ n.length ≤ 64) && n.all Dsk.mayC) = Dsk.may n) := Lib.hid rfl
      rw [HD.out]
      clear hl
      go_wp2
      go_ret
      exact ⟨rfl, HB.out⟩

theorem dreadyC_any (n : Bs) (w : World) (hn : n.length ≤ 1000000000000) :
    Calls Try.prog 53 #[.string ⟨n.toArray⟩] w fun e w' => e = .returned (.bool (!Dsk.may n)) ∧ Below w.heap.size w w' := by
  have HM := Lib.hid (dmay_any n w hn)
  clear hn
  generalize (⟨n.toArray⟩ : ByteArray) = s at *
  generalize Dsk.may n = b at *
  go_enter Try.func53, Try.ntmps53
  go_wp2_with (first
    | (go_at_call 54; go_must (refine HM.out.mono ?_; rintro _ w1 ⟨rfl, hb1⟩))
    | fail)
  go_ret
  exact ⟨rfl, hb1⟩
set_option maxHeartbeats 1000000 in
set_option maxRecDepth 100000 in
theorem dindex_any (A : Option Addr) (n c : Nat) (l : List Bs) (w : World) (hrd : Rd w w.heap.size 1 A n (namesV l)) (hn : n ≤ 16777216) (hz : ∀ x ∈ l, x.length ≤ 1000000000000) :
    Calls Try.prog 61 #[.slice A n c, .func (.func 53) #[] #[]] w fun e w' => ∃ r : Int, e = .returned (.int .i64 r) ∧ (0 ≤ r ↔ Dsk.allMay l = false) ∧ Below w.heap.size w w' := by
  have hlen : l.length = n := by have := hrd.1; rw [namesV_len] at this; omega
  have HL := Lib.hid hlen
  have HZ := Lib.hid hz
  clear hlen hz
  go_enter Try.func61, Try.ntmps61
  go_wp2
  go_loopw [8] (fun kk wr => ∃ k : Nat, k ≤ n ∧ kk = .int .i64 k ∧ Dsk.allMay (l.take k) = true ∧ Below w.heap.size w wr) (fun kk _ => n - (intOf kk).toNat)
  case atStart => exact ⟨0, Nat.zero_le _, rfl, rfl, Below.refl _ _⟩
  case round =>
    obtain ⟨k, hk, rfl, hall, hb⟩ := hrel
    have HB := Lib.hid hb
    have HA := Lib.hid hall
    by_cases hlt : k < n
    · obtain ⟨g, o, rfl, hg, hcell⟩ := hrd.2 (by omega)
      have hkl : k < l.length := by rw [HL.out]; exact hlt
      have c1 := (hb.cell (p := ⟨g, o + k, none⟩) hg).trans (hcell k _ (namesV_get hkl))
      have HC := Lib.hid (dreadyC_any l[k] wr (HZ.out _ (List.getElem_mem hkl)))
      have htk : Dsk.allMay (l.take (k + 1)) = (Dsk.allMay (l.take k) && Dsk.may l[k]) := by
        unfold Dsk.allMay
        rw [List.take_succ_eq_append_getElem hkl, List.all_append]
        simp
      have hmem : Dsk.may l[k] = false → Dsk.allMay l = false := fun e => by
        rw [Bool.eq_false_iff]
        intro h
        unfold Dsk.allMay at h
        have := List.all_eq_true.1 h _ (List.getElem_mem hkl)
        rw [e] at this
        cases this
      rw [hall, Bool.true_and] at htk
      have HT := Lib.hid htk
      have HME := Lib.hid hmem
      generalize (⟨l[k].toArray⟩ : ByteArray) = s at *
      generalize Dsk.may l[k] = b at *
      clear hb hall hcell htk hmem hrd hkl
      go_upto_if 16 with (first
        | (go_at_call 53; go_must (refine HC.out.mono ?_; rintro _ w1 ⟨rfl, hb1⟩))
        | fail)
      have HB1 := Lib.hid (HB.out.trans (hb1.mono HB.out.size))
      clear hb1
      cases b with
      | true =>
        go_wp2
        go_roundw
        case rel => exact ⟨k + 1, by omega, by go_num, HT.out, HB1.out⟩
        case measure => simp [intOf]; omega
      | false =>
        go_wp2
        go_ret
        exact ⟨k, rfl, ⟨fun _ => HME.out (by first | rfl | trivial), fun _ => by omega⟩, HB1.out⟩
    · obtain rfl : k = n := by omega
      rw [List.take_of_length_le (by rw [HL.out]; exact Nat.le_refl _)] at HA
      have hend : ¬ (k : Int) < (k : Int) := by omega
      clear hb hall hrd
      go_wp2
      go_ret
      exact ⟨-1, rfl, ⟨fun h => absurd h (by decide), fun h => by rw [HA.out] at h; cases h⟩, HB.out⟩
theorem dcontains_any (A : Option Addr) (n c : Nat) (l : List Bs) (w : World) (hrd : Rd w w.heap.size 1 A n (namesV l)) (hn : n ≤ 16777216) (hz : ∀ x ∈ l, x.length ≤ 1000000000000) :
    Calls Try.prog 52 #[.slice A n c, .func (.func 53) #[] #[]] w fun e w' => e = .returned (.bool (!Dsk.allMay l)) ∧ Below w.heap.size w w' := by
  have HI := Lib.hid (dindex_any A n c l w hrd hn hz)
  clear hrd hz
  go_enter Try.func52, Try.ntmps52
  go_wp2_with (first
    | (go_at_call 61; go_must (refine HI.out.mono ?_; rintro _ w1 ⟨r, rfl, hr, hb1⟩))
    | fail)
  go_ret
  refine ⟨?_, hb1⟩
  cases h : Dsk.allMay l with
  | false =>
    have := hr.2 h
    simp
  | true =>
    have : ¬ 0 ≤ r := fun e => by have := hr.1 e; rw [h] at this; cases this
    simp
end Go.Proofs.Ythgeppdoonbkpaa
