/- rewrite.Keeps and the reference's Keeps. Conditions: sizes, the library's variables. -/
import Derived.Test.YtklmpadcfioefaaGreatDoorROwn
namespace Go.Proofs.YtklmpadcfioefaaGreatDoor
open Go.RowKit

/-- the closure in the closure -/
theorem wKeeps11_any (p : ByteArray) (k : ByteArray) (q : Nat) (w : World) (hq : Var w q 9 [.string k]) (hp : p.size ≤ 16777216) :
    Calls Tryz.prog 51 #[.string p, .pointer (some ⟨q, 0, none⟩)] w fun e w' => e = .returned (.bool (fd p == k.data.toList)) ∧ Below w.heap.size w w' := by
  have c0 : ∀ u, (w.drewN u).cell? ⟨q, 0, none⟩ = some (.string k) := fun u => hq.cell (j := 0) rfl
  have d0 : w.cell? ⟨q, 0, none⟩ = some (.string k) := c0 0
  go_enter Tryz.func51, Tryz.ntmps51
  go_wp2
  go_region_with (go_at_call 52; refine (hFold_any p _ hp).mono ?_; rintro _ w1 ⟨rfl, hb1⟩; have d1 := ((hq.drewN 1).below_all hb1).cell (j := 0) rfl)
  all_goals
    clear c0 d0 d1
    go_wp2
    go_ret
    refine ⟨?_, Below.of_drew hb1⟩
    show Ending.returned (.bool (fold p.data.toList == k.toList)) = _
    rw [Lib.toList_data]
    rfl

set_option maxHeartbeats 1000000 in
set_option maxRecDepth 100000 in
theorem idxSays_any (A : Option Addr) (n c : Nat) (vs : List ByteArray) (k : ByteArray) (q : Nat) (w : World) (hq : Var w q 9 [.string k]) (hrd : Rd w w.heap.size 1 A n (strsV vs)) (hn : n ≤ 16777217) (hvs : ∀ s ∈ vs, s.size ≤ 16777216) :
    Calls Tryz.prog 76 #[.slice A n c, .func (.func 51) #[] #[.pointer (some ⟨q, 0, none⟩)]] w fun e w' => ∃ i : Int, e = .returned (.int .i64 i) ∧ inP vs k.data.toList = decide (0 ≤ i) ∧ Below w.heap.size w w' := by
  have hlen : vs.length = n := by have := hrd.1; rw [strsV_len] at this; omega
  go_enter Tryz.func76, Tryz.ntmps76
  go_wp2
  go_loopw [8] (fun i wr => ∃ j : Nat, j ≤ n ∧ i = .int .i64 j ∧ inP (vs.take j) k.data.toList = false ∧ Below w.heap.size w wr) (fun i _ => n - (intOf i).toNat)
  case atStart => exact ⟨0, Nat.zero_le _, rfl, by simp [inP], Below.refl _ _⟩
  case round =>
    obtain ⟨j, hj, rfl, hall, hb⟩ := hrel
    have HA := Lib.hid hall
    clear hall
    by_cases hlt : j < n
    · obtain ⟨g, o, rfl, hg, hcell⟩ := hrd.2 (by omega)
      have c1 := (hb.cell (p := ⟨g, o + j, none⟩) hg).trans (hcell _ _ (strs_get (l := vs) (j := j) (by omega)))
      have hs1 : vs[j].size ≤ 16777216 := hvs _ (List.getElem_mem _)
      have HT := Lib.hid (inP_take vs j (by omega) k.data.toList)
      have HI : Hid (vs[j] ∈ vs) := Lib.hid (List.getElem_mem _)
      have hqr := Lib.hid (hq.below_all hb)
      generalize vs[j] = s at c1 hs1 HT HI
      clear hcell
      by_cases hl : (fd s == k.data.toList) = true
      · have HL : Hid (inP vs k.data.toList = true) := Lib.hid (List.any_eq_true.2 ⟨s, HI.out, hl⟩)
        go_wp2_with (go_at_call 51; go_must (refine (wKeeps11_any s k q _ hqr.out hs1).mono ?_; rintro _ w1 ⟨rfl, hb1⟩; rw [hl]))
        go_ret
        exact ⟨_, rfl, by rw [HL.out]; simp, hb.trans (hb1.mono hb.size)⟩
      · have hl' : (fd s == k.data.toList) = false := by simpa using hl
        have HN : Hid (inP (vs.take (j + 1)) k.data.toList = false) := Lib.hid (by rw [HT.out, HA.out, hl']; rfl)
        clear hl
        go_wp2_with (go_at_call 51; go_must (refine (wKeeps11_any s k q _ hqr.out hs1).mono ?_; rintro _ w1 ⟨rfl, hb1⟩; rw [hl']))
        go_roundw
        case rel => exact ⟨j + 1, by omega, by go_num, HN.out, hb.trans (hb1.mono hb.size)⟩
        case measure => simp [intOf]; omega
    · have HL : Hid (inP vs k.data.toList = false) := Lib.hid (by rw [← HA.out, List.take_of_length_le (by omega)])
      go_wp2
      go_ret
      exact ⟨_, rfl, by rw [HL.out]; simp, hb⟩

theorem hasSays_any (A : Option Addr) (n c : Nat) (vs : List ByteArray) (k : ByteArray) (q : Nat) (w : World) (hq : Var w q 9 [.string k]) (hrd : Rd w w.heap.size 1 A n (strsV vs)) (hn : n ≤ 16777217) (hvs : ∀ s ∈ vs, s.size ≤ 16777216) :
    Calls Tryz.prog 41 #[.slice A n c, .func (.func 51) #[] #[.pointer (some ⟨q, 0, none⟩)]] w fun e w' => e = .returned (.bool (inP vs k.data.toList)) ∧ Below w.heap.size w w' := by
  go_enter Tryz.func41, Tryz.ntmps41
  go_wp2_with (go_at_call 76; go_must (refine (idxSays_any A n c vs k q _ hq hrd hn hvs).mono ?_; rintro _ w1 ⟨i, rfl, hi, hb⟩))
  go_ret
  exact ⟨by rw [hi]; simp, hb⟩

set_option maxHeartbeats 1000000 in
set_option maxRecDepth 100000 in
theorem wKeeps1_any (rq : Bool) (mt t : ByteArray) (st : Int) (rs : ByteArray) (mn : Int) (A : Option Addr) (n c : Nat) (fs : List Fl) (k : ByteArray) (q : Nat) (w : World) (hsh : w.ShapedOpen Tryz.prog)
    (hq : Var w q 52 [.bool rq, .string mt, .string t, .int .i64 st, .string rs, .int .i64 mn, .slice A n c]) (hrd : Rd w w.heap.size 2 A n (fieldsV fs))
    (hn : n ≤ 1048576) (hfs : ∀ f ∈ fs, f.1.size ≤ 16777216) (hvs : total (vals fs sConn) ≤ 8388608) :
    Calls Tryz.prog 49 #[.string k, .pointer (some ⟨q, 0, none⟩)] w fun e w' => e = .returned (.bool (inP (connP fs) k.data.toList)) ∧ Below w.heap.size w w' := by
  have B1 : Below w.heap.size w (w.alloc (.cells #[.string k] 9)) := (Below.refl _ _).alloc (Nat.le_refl _) _
  have r1 := (hrd.below B1).more B1.size
  have V1 := hq.alloc (.cells #[.string k] 9)
  have K1 := Lib.hid (Var.new w 9 [.string k])
  have hvl : (vals fs sConn).length ≤ 1048576 := Nat.le_trans (vals_le _ _) (by have := hrd.1; rw [fieldsV_len] at this; omega)
  have hvz : ∀ s ∈ vals fs sConn, s.size ≤ 16777216 := fun s hs => by have := total_mem hs; omega
  have hll := listed_len (vals fs sConn)
  have hlz : ∀ s ∈ listed (vals fs sConn), s.size ≤ 16777216 := fun s hs => by have := listed_size hs; omega
  have HC : Hid (connP fs = listed (vals fs sConn)) := Lib.hid rfl
  have HVA := Lib.hid (fun W hr => hValues_any rq mt t st rs mn A n c fs sConn W hr (by omega) (by decide) hfs)
  have HLI := Lib.hid (fun A n c W h1 h2 h3 => hList_any A n c (vals fs sConn) W h1 h2 h3 hvz (by omega))
  generalize listed (vals fs sConn) = L at hll HC hlz HLI
  unfold headV at HVA
  generalize vals fs sConn = VS at hvs hvl hvz hll HVA HLI
  have HS1 : Hid ((w.alloc (.cells #[.string k] 9)).ShapedOpen Tryz.prog) := Lib.hid (shaped_below hsh B1)
  have HB1 := Lib.hid B1
  clear hrd B1 hsh hq
  go_enter Tryz.func49, Tryz.ntmps49
  go_wp2_with (first
    | (refine wpList_load_mid rfl 52 (.tmp 1) rfl q 0 rfl [.bool rq, .string mt, .string t, .int .i64 st, .string rs, .int .i64 mn, .slice A n c] _ V1.range Tryz.underlying52 rfl (by kernel_rfl) ?_)
    | (go_at_call 27; (refine (HVA.out _ r1).mono ?_; rintro _ w2 ⟨v2, rfl, hrow2, hb2⟩; obtain ⟨A2, c2, rfl, _, _, _, rd2⟩ := hrow2.form))
    | (go_at_call 50; (refine (HLI.out A2 VS.length c2 w2 (shaped_below HS1.out hb2) rd2 (by omega)).mono ?_; rintro _ w3 ⟨v3, rfl, hrow3, hb3⟩; obtain ⟨A3, c3, rfl, _, _, _, rd3⟩ := hrow3.form; have K3 := Lib.hid ((K1.out.below_all hb2).below_all hb3)))
    | (go_at_call 41; (refine (hasSays_any A3 L.length c3 L k w.heap.size w3 K3.out rd3 (by omega) hlz).mono ?_; rintro _ w4 ⟨rfl, hb4⟩))
    | fail)
  have z1 := HB1.out.size
  have z2 := hb2.size
  have z3 := hb3.size
  clear hrow2 hrow3 rd2 rd3
  go_ret
  exact ⟨by rw [HC.out]; rfl, ((HB1.out.trans (hb2.mono z1)).trans (hb3.mono (by omega))).trans (hb4.mono (by omega))⟩

set_option maxHeartbeats 1000000 in
set_option maxRecDepth 100000 in
theorem wKeeps_any (rq : Bool) (mt t : ByteArray) (st : Int) (rs : ByteArray) (mn : Int) (A : Option Addr) (n c : Nat) (fs : List Fl) (w : World) (hsh : w.ShapedOpen Tryz.prog) (hrd : Rd w w.heap.size 2 A n (fieldsV fs))
    (hn : n ≤ 1048576) (hfs : ∀ f ∈ fs, f.1.size ≤ 16777216) (hvs : total (vals fs sConn) ≤ 8388608) :
    Calls Tryz.prog 26 #[headV rq mt t st rs mn (.slice A n c)] w fun e w' => e = .returned (.bool (keepsP mn fs)) ∧ Below w.heap.size w w' := by
  have B1 : Below w.heap.size w (w.alloc (.cells #[.bool rq, .string mt, .string t, .int .i64 st, .string rs, .int .i64 mn, .slice A n c] 52)) := (Below.refl _ _).alloc (Nat.le_refl _) _
  have HR1 := Lib.hid ((hrd.below B1).more B1.size)
  have HV1 := Lib.hid (Var.new w 52 [.bool rq, .string mt, .string t, .int .i64 st, .string rs, .int .i64 mn, .slice A n c])
  have HS1 : Hid ((w.alloc (.cells #[.bool rq, .string mt, .string t, .int .i64 st, .string rs, .int .i64 mn, .slice A n c] 52)).ShapedOpen Tryz.prog) := Lib.hid (shaped_below hsh B1)
  have HB1 := Lib.hid B1
  have HK := Lib.hid (fun k q W h1 h2 h3 => wKeeps1_any rq mt t st rs mn A n c fs k q W h1 h2 h3 hn hfs hvs)
  have HP : Hid (keepsP mn fs = (!(inP (connP fs) bClose) && (decide (mn = 1) || inP (connP fs) bKeep))) := Lib.hid rfl
  unfold headV
  generalize connP fs = L at HK HP
  clear hrd B1 hsh hvs
  cases hc : inP L bClose with
  | true =>
    rw [hc] at HP
    have e1 : inP L (ByteArray.mk #[99, 108, 111, 115, 101]).data.toList = true := hc
    go_enter Tryz.func26, Tryz.ntmps26
    go_wp2_with (first
      | (go_at_call 49; (refine (HK.out _ w.heap.size _ HS1.out HV1.out HR1.out).mono ?_; rintro _ w2 ⟨rfl, hb2⟩; rw [e1]))
      | fail)
    go_ret
    exact ⟨by rw [HP.out]; rfl, HB1.out.trans (hb2.mono HB1.out.size)⟩
  | false =>
    rw [hc] at HP
    have e1 : inP L (ByteArray.mk #[99, 108, 111, 115, 101]).data.toList = false := hc
    by_cases hm : mn = 1
    · subst hm
      go_enter Tryz.func26, Tryz.ntmps26
      go_wp2_with (first
        | (go_at_call 49; (refine (HK.out _ w.heap.size _ HS1.out HV1.out HR1.out).mono ?_; rintro _ w2 ⟨rfl, hb2⟩; rw [e1]; have v5 := (HV1.out.below_all hb2).cell (j := 5) rfl))
        | fail)
      go_ret
      exact ⟨by rw [HP.out]; rfl, HB1.out.trans (hb2.mono HB1.out.size)⟩
    · have hm1 : decide (mn = 1) = false := by simpa using hm
      have hm2 : (mn == 1) = false := by simpa using hm
      rw [hm1] at HP
      cases hd : inP L bKeep
      all_goals
        rw [hd] at HP
        have e2 := show inP L (ByteArray.mk #[107, 101, 101, 112, 45, 97, 108, 105, 118, 101]).data.toList = _ from hd
        go_enter Tryz.func26, Tryz.ntmps26
        go_wp2_with (first
          | (go_at_call 49; have v5' := v5; (refine (HK.out _ w.heap.size _ HS2.out HV2.out HR2.out).mono ?_; rintro _ w3 ⟨rfl, hb3⟩; rw [e2]))
          | (go_at_call 49; (refine (HK.out _ w.heap.size _ HS1.out HV1.out HR1.out).mono ?_; rintro _ w2 ⟨rfl, hb2⟩; rw [e1]; have v5 := (HV1.out.below_all hb2).cell (j := 5) rfl; have HV2 := Lib.hid (HV1.out.below_all hb2); have HR2 := Lib.hid (HR1.out.keeps hb2); have HS2 : Hid (w2.ShapedOpen Tryz.prog) := Lib.hid (shaped_below HS1.out hb2)))
          | fail)
        go_ret
        exact ⟨by rw [HP.out]; rfl, (HB1.out.trans (hb2.mono HB1.out.size)).trans (hb3.mono (by have := HB1.out.size; have := hb2.size; omega))⟩
end Go.Proofs.YtklmpadcfioefaaGreatDoor
