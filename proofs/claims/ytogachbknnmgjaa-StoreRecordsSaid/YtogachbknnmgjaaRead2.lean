import Derived.Test.YtogachbknnmgjaaRead
namespace Go.Proofs.Ytogachbknnmgjaa
open Go.RowKit


set_option maxHeartbeats 1000000 in
theorem read_yes (l : List UInt8) (A : Option Addr) (n c B : Nat) (w : World) (h8 : 8 ≤ n) (hn : n ≤ 65544) (hnc : n ≤ c) (hr : Rd w B 1 A n (bytesV l)) (hq1 : 1 ≤ acc (l.take 8)) (hq2 : acc (l.take 8) ≤ 1048576) :
    Calls Try.prog 6 #[.slice A n c] w fun e w' => e = .returned (.tuple #[.int .i64 (acc (l.take 8)), .string ⟨(l.drop 8).toArray⟩, .int .i64 0]) ∧ ∃ q, w' = w.drewN q := by
  have hcv : ∀ q : Nat, (convert 22 9 (.slice (if c = 8 then A else A.map (·.add (8 * 1))) (n - 8) (c - 8))).run Try.prog (w.drewN q) = .ok (.string ⟨(l.drop 8).toArray⟩) (w.drewN q) := by
    intro q
    have h := ((hr.drewN q).shift (k := 8) (cap := c) h8 hnc)
    rw [bytesV_drop] at h
    refine conv_str (P := Try.prog) 22 9 5 Try.underlying22 Try.underlying5 Try.underlying9 h ?_
    obtain ⟨g, o, rfl, _⟩ := hr.2 (by omega)
    split <;> simp
  obtain ⟨g, o, rfl, hg, hc⟩ := hr.2 (by omega)
  have hl : l.length = n := by have := hr.1; rw [bytesV_len] at this; omega
  clear hr
  have HCV := Lib.hid hcv
  clear hcv
  go_enter Try.func6, Try.ntmps6
  go_wp2
  · go_step3
    go_wp2
    go_loop [5, 19] (fun a i => ∃ k : Nat, k ≤ 8 ∧ i = .int .i64 k ∧ a = .int .i64 (acc (l.take k))) (fun _ i => 8 - (intOf i).toNat)
    case atStart => exact ⟨0, Nat.zero_le _, rfl, rfl⟩
    case round =>
      obtain ⟨k, hk, rfl, rfl⟩ := hrel
      by_cases hk8 : k < 8
      · have hcell0 : w.cell? ⟨g, o + k, none⟩ = some (.int .u8 (l[k]'(by omega)).toNat) := hc k _ (bytesV_get (by omega))
        have hts : acc (l.take (k + 1)) = acc (l.take k) * 256 + (l[k]'(by omega)).toNat := by rw [List.take_succ_eq_append_getElem (by omega), acc_snoc]
        have hx256 : (l[k]'(by omega)).toNat < 256 := UInt8.toNat_lt _
        have hle := acc_mono l k 8 hk
        generalize (l[k]'(by omega)).toNat = x at hcell0 hts hx256
        generalize acc (l.take k) = q at *
        have HT := Lib.hid hts
        have ha : q ≤ 1048576 := by omega
        clear hts
        go_wp2
        go_round
        case rel => exact ⟨k + 1, by omega, by go_num, by rw [HT.out, shl_or q x ha hx256]⟩
        case measure => simp [intOf]; omega
      · obtain rfl : k = 8 := by omega
        generalize hq' : acc (l.take 8) = q at *
        have HQ := Lib.hid hq'
        clear hq'
        by_cases hc8 : c = 8
        · subst hc8
          obtain rfl : n = 8 := by omega
          have h : ∀ q, (convert 22 9 (.slice (some ⟨g, o, none⟩) 0 0)).run Try.prog (w.drewN q) = .ok (.string ⟨(l.drop 8).toArray⟩) (w.drewN q) := by simpa using HCV.out
          go_wp2
          go_quiet (fail)
          go_wp2
          rw [Exit.noGoto_ret]
          go_ret3
          exact ⟨by rw [HQ.out]; rfl, _, rfl⟩
        · have h : ∀ q, (convert 22 9 (.slice (some ⟨g, o + 8, none⟩) (n - 8) (c - 8))).run Try.prog (w.drewN q) = .ok (.string ⟨(l.drop 8).toArray⟩) (w.drewN q) := by simpa [hc8, Addr.add_lit] using HCV.out
          go_wp2
          go_quiet (fail)
          go_wp2
          rw [Exit.noGoto_ret]
          go_ret3
          exact ⟨by rw [HQ.out]; rfl, _, rfl⟩
end Go.Proofs.Ytogachbknnmgjaa
