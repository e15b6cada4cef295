/- made: a disk behind a script. Conditions: sizes. -/
import Derived.Test.YthgeppdoonbkpaaDskDo
namespace Go.Proofs.Ythgeppdoonbkpaa
open Go.RowKit
/-- the sizes of Ops that came in -/
def OpSz (o : OpV) : Prop := o.nm.length ≤ 1000000000 ∧ o.tt.length ≤ 1000000000 ∧ o.dn ≤ 10000000 ∧ o.cn ≤ 10000000
set_option maxHeartbeats 4000000 in
set_option maxRecDepth 100000 in
theorem dmade_any (w0 w : World) (room : Int) (A : Option Addr) (n c : Nat) (os : List OpV) (hb0 : Below w0.heap.size w0 w) (hops : OpsIn w0 A n os) (hsz : ∀ o ∈ os, OpSz o) (hroom : room ≤ 9223372036854775807) :
    Calls Try.prog 25 #[.int .i64 room, .slice A n c] w fun e w' => ∃ db s, e = .returned (.pointer (some ⟨db, 0, none⟩)) ∧ Live w0 (fun _ => False) w' db s 120 := by
  have HN := Lib.hid (lnew w0 w (fun _ => False) hb0 (fun b h => h.elim) room hroom)
  have HOP := Lib.hid hops
  have HSZ := Lib.hid hsz
  clear hops hsz hb0
  go_enter Try.func25, Try.ntmps25
  go_upto_region 2 with (first
    | (go_at_call 8; go_must (refine HN.out.mono ?_; rintro _ wn ⟨db, rfl, l0, _⟩))
    | fail)
  have LN := Lib.hid l0
  clear l0
  go_wp2
  go_loopw [6] (fun kk wr => ∃ (i : Nat) (s : Dsk.St), i ≤ n ∧ i ≤ 120 ∧ kk = .int .i64 i ∧ Live w0 (fun _ => False) wr db s i) (fun kk _ => n - (intOf kk).toNat)
  case atStart => exact ⟨0, _, Nat.zero_le _, Nat.zero_le _, rfl, LN.out⟩
  case round =>
    obtain ⟨i, s, hi, hi2, rfl, hlv⟩ := hrel
    have LV := Lib.hid hlv
    clear hlv
    obtain ⟨wo, rfl⟩ : ∃ wo : World, wo = wr := ⟨_, rfl⟩
    by_cases hlt : i < n
    · have hlti : (i : Int) < (n : Int) := by omega
      by_cases h120 : i < 120
      · have h120i : (i : Int) < 120 := by omega
        obtain ⟨o, g, f, hoi, hin, rfl, hgl, hcell⟩ := HOP.out.pick (k := i) hlt
        have hs := HSZ.out o (List.mem_of_getElem? hoi)
        obtain ⟨kd, nm, tt, nn, dA, dn, dc, d, cA, cn, cc, cs, onb⟩ := o
        have hrange : World.rangeAt wo g (f + i * 7) [.int .i64 kd, .string (strB nm), .string (strB tt), .int .i64 nn, .slice dA dn dc, .slice cA cn cc, .bool onb] := fun j u hj => by rw [Nat.add_assoc]; exact LV.out.first (hcell j u hj)
        have HRG := Lib.hid hrange
        have CD := Lib.hid (ddoes_any LV.out (by omega) kd nm tt nn dA dn dc d cA cn cc cs onb hin hs.1 hs.2.1 hs.2.2.1 hs.2.2.2)
        clear hoi hin hcell hrange hs
        go_wp2_with (first
          | (refine wpList_load_mid rfl 47 (.tmp 22) rfl g (f + i * 7) rfl [.int .i64 kd, .string (strB nm), .string (strB tt), .int .i64 nn, .slice dA dn dc, .slice cA cn cc, .bool onb] _ HRG.out Try.underlying47 rfl (by kernel_rfl) ?_)
          | (go_at_call 28; go_must (refine CD.out.mono ?_; rintro _ w1 ⟨rfl, l1, _⟩))
          | fail)
        go_roundw
        case rel => exact ⟨i + 1, _, by omega, by omega, by go_num, l1⟩
        case measure => simp [intOf]; omega
      · have h120i : ¬ (i : Int) < 120 := by omega
        go_wp2
        go_ret
        exact ⟨db, rfl, s, LV.out.more hi2⟩
    · have hlti : ¬ (i : Int) < (n : Int) := by omega
      go_wp2
      go_ret
      exact ⟨db, rfl, s, LV.out.more hi2⟩
end Go.Proofs.Ythgeppdoonbkpaa
