/- the reference's Framing (printed by gen_qfram.py). Conditions: sizes, the world's shape. -/
import Derived.Test.YtklmpadcfioefaaGreatDoorSFram2
import Derived.Test.YtklmpadcfioefaaGreatDoorQAuth
import Derived.Test.YtklmpadcfioefaaGreatDoorMB
import Derived.Deep.QuietTactic
import Derived.BigQuiet
namespace Go.Proofs.YtklmpadcfioefaaGreatDoor
open Go.RowKit
def lHost : ByteArray := ⟨#[104, 111, 115, 116]⟩
def lCod : ByteArray := ⟨#[116, 114, 97, 110, 115, 102, 101, 114, 45, 101, 110, 99, 111, 100, 105, 110, 103]⟩
def lLen : ByteArray := ⟨#[99, 111, 110, 116, 101, 110, 116, 45, 108, 101, 110, 103, 116, 104]⟩
theorem qvals_low (fs : List Fl) : vals fs lHost = vals fs sHost ∧ vals fs lCod = vals fs sCod ∧ vals fs lLen = vals fs sLen := by
  unfold vals
  rw [show fold lHost.data.toList = fold sHost.data.toList by decide, show fold lCod.data.toList = fold sCod.data.toList by decide, show fold lLen.data.toList = fold sLen.data.toList by decide]
  exact ⟨rfl, rfl, rfl⟩
theorem len_same {a : ByteArray} {r : List ByteArray} (h15 : ¬ 15 < a.size) : lengthP (a :: r) = if a.data.toList.all isDigit = true ∧ (∀ b ∈ r, b = a) then some (numP a.data.toList) else none := by
  rw [lengthP_cons, if_neg h15]

set_option maxHeartbeats 16000000 in
set_option maxRecDepth 100000 in
/-- what stands behind the guards -/
theorem qframing_rest (rq : Bool) (m t : ByteArray) (st : Int) (rs : ByteArray) (mn : Int) (A : Option Addr) (n c : Nat) (fs : List Fl) (mth : ByteArray) (w : World) (hrd : Rd w w.heap.size 2 A n (fieldsV fs))
    (hn : n ≤ 16777216) (hfs : ∀ f ∈ fs, f.1.size ≤ 16777216) (hfz : flSize fs ≤ 16777216)
    (h1 : ¬ (rq = true ∧ hostedP mn fs = false)) (h2 : ¬ (rq = false ∧ (100 ≤ st ∧ st ≤ 199 ∨ st = 204 ∨ st = 304 ∨ decide (mth = ⟨#[72, 69, 65, 68]⟩) = true))) :
    Calls Tryz.prog 62 #[headV rq m t st rs mn (.slice A n c), .string mth] w fun e w' => e = .returned (framV (framingR rq mn fs)) ∧ Below w.heap.size w w' := by
  have B1 : Below w.heap.size w (w.alloc (.cells #[.bool rq, .string m, .string t, .int .i64 st, .string rs, .int .i64 mn, .slice A n c] 52)) := (Below.refl _ _).alloc (Nat.le_refl _) _
  have r1 := (hrd.below B1).more B1.size
  have HV1 := Lib.hid (Var.new w 52 [.bool rq, .string m, .string t, .int .i64 st, .string rs, .int .i64 mn, .slice A n c])
  have HB1 := Lib.hid B1
  have HR1 := Lib.hid r1
  obtain ⟨e1, e2, e3⟩ := qvals_low fs
  have HVH := Lib.hid (fun W h => rValues_any rq m t st rs mn A n c fs lHost W h hn (by decide) hfs)
  have HVC := Lib.hid (fun W h => rValues_any rq m t st rs mn A n c fs lCod W h hn (by decide) hfs)
  have HVL := Lib.hid (fun W h => rValues_any rq m t st rs mn A n c fs lLen W h hn (by decide) hfs)
  rw [e1] at HVH
  rw [e2] at HVC
  rw [e3] at HVL
  have htc := vals_total fs sCod
  have htl := vals_total fs sLen
  have hth := vals_total fs sHost
  have hmc := fun v (h : v ∈ vals fs sCod) => vals_mem (name := sCod) h
  have hml := fun v (h : v ∈ vals fs sLen) => vals_mem (name := sLen) h
  have hmh := fun v (h : v ∈ vals fs sHost) => vals_mem (name := sHost) h
  have hRC := fun C (h : vals fs sCod = C) => R_cod (rq := rq) (mn := mn) h
  have hRL := fun L (h0 : vals fs sCod = []) (h : vals fs sLen = L) => R_len (rq := rq) (mn := mn) h0 h
  have hRN := R_none (rq := rq) (mn := mn) (fs := fs)
  have hCD : codedP mn fs = (decide (mn = 1) && (vals fs sLen).isEmpty && ((listed (vals fs sCod)).map fd == [bChunked])) := rfl
  have hHH : hostedP mn fs = hostedL mn (vals fs sHost) := rfl
  have hll : ∀ nm, (vals fs nm).length ≤ n := fun nm => by
    unfold vals
    rw [List.length_map]
    have h3 := List.length_filter_le (fun f : Fl => fold f.1.data.toList == fold nm.data.toList) fs
    have h4 := hrd.1
    rw [fieldsV_len] at h4
    omega
  have hCl := hll sCod
  have hLl := hll sLen
  have hHl := hll sHost
  obtain ⟨C, hC⟩ : ∃ C, C = vals fs sCod := ⟨_, rfl⟩
  obtain ⟨L, hL⟩ : ∃ L, L = vals fs sLen := ⟨_, rfl⟩
  obtain ⟨H, hH⟩ : ∃ H, H = vals fs sHost := ⟨_, rfl⟩
  rw [← hC] at htc hmc hRC hRL hRN hCD HVC hCl
  rw [← hL] at htl hml hRL hRN hCD HVL hLl
  rw [← hH] at hth hmh hHH HVH hHl
  obtain ⟨R, hR⟩ : ∃ R, R = framingR rq mn fs := ⟨_, rfl⟩
  rw [← hR] at hRC hRL hRN ⊢
  have HRC := Lib.hid (hRC C rfl)
  have HRL := Lib.hid (fun h0 => hRL L h0 rfl)
  have HRN := Lib.hid hRN
  obtain ⟨CD, hCDe⟩ : ∃ CD, CD = codedP mn fs := ⟨_, rfl⟩
  rw [← hCDe] at HRC hCD
  have HCD := Lib.hid hCD
  have HMH := Lib.hid hmh
  have HLC := Lib.hid (fun A n c W h1 h2 => rList_any A n c C W h1 h2 (fun s hs => by have := hmc s hs; omega) (by omega))
  have HLL := Lib.hid (fun A n c W h1 h2 => rList_any A n c L W h1 h2 (fun s hs => by have := hml s hs; omega) (by omega))
  have hzC : ∀ s ∈ listed C, s.size ≤ 16777216 := fun s hs => by have := listed_size hs; omega
  have hzL : ∀ s ∈ listed L, s.size ≤ 16777216 := fun s hs => by have := listed_size hs; omega
  have hlC := listed_len C
  have hlL := listed_len L
  obtain ⟨LC, hLC⟩ : ∃ LC, LC = listed C := ⟨_, rfl⟩
  obtain ⟨LL, hLL⟩ : ∃ LL, LL = listed L := ⟨_, rfl⟩
  rw [← hLC] at HLC hzC hlC HCD
  rw [← hLL] at HLL hzL hlL HRL
  have HZC := Lib.hid hzC
  have HZL := Lib.hid hzL
  have HHH := Lib.hid hHH
  have hHz : ∀ v ∈ H, v.size ≤ 16777216 := fun v hv => by have := hmh v hv; omega
  have HHZ := Lib.hid hHz
  unfold headV at HVC HVL HVH ⊢
  clear hrd B1 r1 hfs hmc hml hmh hRC hRL hRN hR hCD hCDe hC hL hH hLC hLL hzC hzL hHH hHz e1 e2 e3 hll
  obtain ⟨w1, hw1⟩ : ∃ w1 : World, w1 = w.alloc (.cells #[.bool rq, .string m, .string t, .int .i64 st, .string rs, .int .i64 mn, .slice A n c] 52) := ⟨_, rfl⟩
  rw [← hw1] at HV1 HB1 HR1
  have q0 := HV1.out.cell (j := 0) rfl
  have q3 := HV1.out.cell (j := 3) rfl
  have hrg := HV1.out.range
  have hzw := HB1.out.size
  have HH1 : Hid (rq = true → hostedP mn fs = true) := Lib.hid (fun e => by cases hp : hostedP mn fs with | true => rfl | false => exact absurd ⟨e, hp⟩ h1)
  have HS2 : Hid (rq = false → ¬ (100 ≤ st ∧ st ≤ 199) ∧ st ≠ 204 ∧ st ≠ 304 ∧ mth ≠ ⟨#[72, 69, 65, 68]⟩) := Lib.hid (fun e => ⟨fun x => h2 ⟨e, .inl x⟩, fun x => h2 ⟨e, .inr (.inl x)⟩, fun x => h2 ⟨e, .inr (.inr (.inl x))⟩, fun x => h2 ⟨e, .inr (.inr (.inr (by simp [x])))⟩⟩)
  clear h1 h2
  go_enter Tryz.func62, Tryz.ntmps62
  go_upto_region 1 with (fail)
  rw [← hw1]
  clear hw1
  have hgo : (∃ wx : World, w1 = wx ∧ rq = false) ∨ rq = true := by
    cases rq
    · exact .inl ⟨_, rfl, rfl⟩
    · exact .inr rfl
  clear hgo
  cases rq with
  | false =>
    obtain ⟨g1, g2, g3, g4⟩ := HS2.out rfl
    have b2 : (st == 204) = false := by simpa using g2
    have b3 : (st == 304) = false := by simpa using g3
    have b4 := toList_ne g4
    have hBx : Below w1.heap.size w1 w1 := Below.refl _ _
    clear g2 g3 g4
    by_cases g0 : 100 ≤ st
    · have g5 : decide (st ≤ 199) = false := by simp; omega
      clear g1
      go_upto_region 11 with (fail)
      have HVX := Lib.hid (HV1.out.below_all hBx)
      have HBX := Lib.hid hBx
      have hzx := hBx.size
      have hrgx := HVX.out.range
      obtain ⟨wx, rfl⟩ : ∃ wx : World, wx = w1 := ⟨_, rfl⟩
      go_upto_region 12 with (first
        | (refine wpList_load_mid rfl 52 (.tmp 2) rfl w.heap.size 0 rfl [.bool false, .string m, .string t, .int .i64 st, .string rs, .int .i64 mn, .slice A n c] _ hrgx Tryz.underlying52 rfl (by kernel_rfl) ?_)
        | (go_at_call 101; go_must (refine (HVC.out _ ((HR1.out.below HBX.out).more hzx)).mono ?_; rintro _ w4 ⟨v4, rfl, hrow4, hb4⟩; obtain ⟨A4, c4, rfl, _, _, _, rdC⟩ := hrow4.form; have HB4 := Lib.hid hb4; have HDC := Lib.hid rdC; clear hrow4 rdC hb4))
        | fail)
      have HVY := Lib.hid (HVX.out.below_all HB4.out)
      have hrgy := HVY.out.range
      have HB14 := Lib.hid (HBX.out.trans (HB4.out.mono hzx))
      go_upto_region 13 with (first
        | (refine wpList_load_mid rfl 52 (.tmp 2) rfl w.heap.size 0 rfl [.bool false, .string m, .string t, .int .i64 st, .string rs, .int .i64 mn, .slice A n c] _ hrgy Tryz.underlying52 rfl (by kernel_rfl) ?_)
        | (go_at_call 101; go_must (refine (HVL.out _ ((HR1.out.below HB14.out).more HB14.out.size)).mono ?_; rintro _ w5 ⟨v5, rfl, hrow5, hb5⟩; obtain ⟨A5, c5, rfl, _, _, _, rdL⟩ := hrow5.form; have HB5 := Lib.hid hb5; have HDL := Lib.hid rdL; clear hrow5 rdL hb5))
        | fail)
      have HVZ := Lib.hid (HVY.out.below_all HB5.out)
      have q0z := HVZ.out.cell (j := 0) rfl
      have q5z := HVZ.out.cell (j := 5) rfl
      have HB15 := Lib.hid (HB14.out.trans (HB5.out.mono HB14.out.size))
      have HBW := Lib.hid (HB1.out.trans (HB15.out.mono hzw))
      have HDC5 := Lib.hid (HDC.out.keeps HB5.out)
      clear q0 q3 hrg hrgx hrgy hBx hzx HVC HVL HVH HBX HB4 HB5 HDC HB14 HVX HVY HH1 HS2 HHH HMH HHZ
      cases C with
      | nil =>
        cases L with
        | nil =>
          have HE := Lib.hid (HRN.out rfl rfl)
          clear HRC HRL HRN HCD HLC HLL
          go_wp2
          go_ret3
          exact ⟨by rw [HE.out]; rfl, HBW.out⟩
        | cons x r =>
          have HE := Lib.hid (HRL.out rfl (by simp))
          have hl0 : 0 < (x :: r).length := by simp
          obtain ⟨nL, hnL⟩ : ∃ nL, nL = (x :: r).length := ⟨_, rfl⟩
          rw [← hnL] at hLl hl0 HDL ⊢
          clear HRC HRL HRN HCD HLC hnL
          go_upto_region 20 with (first
            | (go_at_call 103; (refine (HLL.out A5 nL c5 _ HDL.out (by omega)).mono ?_; rintro _ w6 ⟨v6, rfl, hrow6, hb6⟩; obtain ⟨A6, c6, rfl, _, _, _, rd6⟩ := hrow6.form; have HD6 := Lib.hid rd6; have HB6 := Lib.hid hb6; clear hrow6 hb6 rd6))
            | fail)
          have HBF := Lib.hid (HBW.out.trans (HB6.out.mono HBW.out.size))
          clear HLL
          cases LL with
          | nil =>
            have HE2 : Hid (framV R = .tuple #[.int .i64 0, .int .i64 0, .int .i64 240]) := Lib.hid HE.out
            go_wp2
            go_ret3
            exact ⟨by rw [HE2.out]; rfl, HBF.out⟩
          | cons a r2 =>
            obtain ⟨g, o, rfl, hg, hc⟩ := HD6.out.2 (by simp)
            have c0 := hc 0 (.string a) rfl
            rw [Nat.add_zero] at c0
            have HC := Lib.hid (fun (k : Nat) (h : k < (a :: r2).length) => hc k (.string (a :: r2)[k]) (by unfold strsV; rw [List.getElem?_map, List.getElem?_eq_getElem h]; rfl))
            have haz : a.size ≤ 16777216 := by have := hc 0; exact HZL.out a (by simp)
            obtain ⟨nA, hnA⟩ : ∃ nA, nA = (a :: r2).length := ⟨_, rfl⟩
            have hnA0 : 0 < nA := by rw [hnA]; simp
            have hnb : ((nA : Int) == 0) = false := by rw [beq_eq_false_iff_ne]; omega
            rw [← hnA] at hlL ⊢
            have HNA := Lib.hid hnA
            clear hc hnA
            by_cases h15 : 15 < a.size
            · have HN : Hid (framV R = .tuple #[.int .i64 0, .int .i64 0, .int .i64 240]) := Lib.hid (by rw [HE.out, lengthP_cons, if_pos h15]; rfl)
              go_wp2
              go_ret3
              exact ⟨by rw [HN.out]; rfl, HBF.out⟩
            · have HL : Hid (lengthP (a :: r2) = if a.data.toList.all isDigit = true ∧ (∀ b ∈ r2, b = a) then some (numP a.data.toList) else none) := Lib.hid (len_same h15)
              go_wp2
              go_loopw [15] (fun vi wr => ∃ i : Nat, i ≤ nA ∧ vi = .int .i64 i ∧ (∀ b ∈ (a :: r2).take i, b = a) ∧ Below w6.heap.size w6 wr) (fun vi _ => nA - (intOf vi).toNat)
              case atStart => exact ⟨0, Nat.zero_le _, rfl, by simp, Below.refl _ _⟩
              case round =>
                obtain ⟨i, hi, rfl, hsame, hbi⟩ := hrel
                obtain ⟨wi, rfl⟩ : ∃ wi : World, wi = wr := ⟨_, rfl⟩
                have HSA := Lib.hid hsame
                have HBI := Lib.hid hbi
                have d0 : wi.cell? ⟨g, o, none⟩ = some (.string a) := (hbi.cell (p := ⟨g, o, none⟩) hg).trans c0
                clear hsame
                by_cases hit : i < nA
                · have hia : i < (a :: r2).length := by rw [← HNA.out]; exact hit
                  have d1 : wi.cell? ⟨g, o + i, none⟩ = some (.string (a :: r2)[i]) := (hbi.cell (p := ⟨g, o + i, none⟩) hg).trans (HC.out i hia)
                  obtain ⟨b, hb⟩ : ∃ b, b = (a :: r2)[i] := ⟨_, rfl⟩
                  rw [← hb] at d1
                  have HBB := Lib.hid hb
                  clear hb hbi
                  by_cases hba : b = a
                  · subst hba
                    have hTK : Hid (∀ z ∈ (b :: r2).take (i + 1), z = b) := Lib.hid (fun z hz => by
                      rw [List.take_succ_eq_append_getElem hia] at hz
                      rcases List.mem_append.1 hz with h | h
                      · exact HSA.out z h
                      · rw [List.mem_singleton.1 h]; exact HBB.out.symm)
                    go_wp2
                    go_quiet (fail)
                    go_wp2
                    go_roundw
                    case rel => exact ⟨i + 1, by omega, by go_num, hTK.out, below_drewN HBI.out _⟩
                    case measure => simp [intOf]; omega
                  · have HN : Hid (framV R = .tuple #[.int .i64 0, .int .i64 0, .int .i64 240]) := Lib.hid (by
                      rw [HE.out, HL.out, if_neg (show ¬ (a.data.toList.all isDigit = true ∧ ∀ b ∈ r2, b = a) from ?_)]
                      · rfl
                      · rintro ⟨_, h⟩
                        have hm : b ∈ a :: r2 := by rw [HBB.out]; exact List.getElem_mem _
                        rcases List.mem_cons.1 hm with e | e
                        · exact hba e
                        · exact hba (h b e))
                    have q1 : (b.toList == a.toList) = false := by
                      rw [ByteArray.toList_eq, ByteArray.toList_eq, beq_eq_false_iff_ne]; intro e; exact hba (by cases b; cases a; simp_all)
                    clear hba
                    go_wp2
                    go_quiet (fail)
                    go_wp2
                    go_ret3
                    exact ⟨by rw [HN.out]; rfl, HBF.out.trans (below_drewN HBI.out _ |>.mono HBF.out.size)⟩
                · have hall0 : ∀ b ∈ r2, b = a := fun b hb => HSA.out b (by rw [List.take_of_length_le (by rw [← HNA.out]; omega)]; exact List.mem_cons_of_mem _ hb)
                  have HL2 : Hid (lengthP (a :: r2) = if a.data.toList.all isDigit = true then some (numP a.data.toList) else none) := Lib.hid (by
                    rw [HL.out]
                    by_cases hd : a.data.toList.all isDigit = true
                    · rw [if_pos ⟨hd, hall0⟩, if_pos hd]
                    · rw [if_neg (fun h => hd h.1), if_neg hd])
                  clear hall0 HSA hbi
                  go_wp2
                  go_loop [14, 16] (fun x i => ∃ k : Nat, k ≤ a.size ∧ i = .int .i64 k ∧ x = .int .i64 (numP (a.data.toList.take k) : Nat) ∧ (a.data.toList.take k).all isDigit = true) (fun _ i => a.size - (intOf i).toNat)
                  case atStart => exact ⟨0, Nat.zero_le _, rfl, rfl, rfl⟩
                  case round =>
                    obtain ⟨k, hk, rfl, hx, hall⟩ := hrel
                    have hlt0 := numP_lt a k hk hall
                    have hpw : 10 ^ k ≤ 10 ^ 15 := Nat.pow_le_pow_right (by omega) (by omega)
                    have hNb : numP (a.data.toList.take k) < 1000000000000000 := by omega
                    clear hlt0 hpw
                    have HST := Lib.hid (fun h => numF_take (s := a) (k := k) h)
                    have HFU : Hid (k = a.size → numP a.data.toList = numP (a.data.toList.take k)) := Lib.hid (fun e => by rw [List.take_of_length_le (by rw [size_data]; omega)])
                    obtain ⟨N, hN⟩ : ∃ N, N = numP (a.data.toList.take k) := ⟨_, rfl⟩
                    rw [← hN] at hx hNb HST HFU
                    subst hx
                    clear hN
                    by_cases hlt : k < a.size
                    · have HT := Lib.hid (all_take_step (p := isDigit) hlt)
                      have HI := Lib.hid (dig_eq a[k])
                      have hx := UInt8.toNat_lt a[k]
                      have HAL := Lib.hid hall
                      have HS3 := Lib.hid (HST.out hlt)
                      clear hall
                      by_cases hd : 48 ≤ a[k].toNat ∧ a[k].toNat ≤ 57
                      · have HY : Hid (isDigit a[k] = true) := Lib.hid (by rw [HI.out]; simp [hd])
                        obtain ⟨hd1, hd2⟩ := hd
                        go_wp2
                        go_round
                        case rel => exact ⟨k + 1, by omega, by go_num, by rw [HS3.out]; go_num, by rw [HT.out, HAL.out, HY.out]; rfl⟩
                        case measure => simp [intOf]; omega
                      · have HN : Hid (framV R = .tuple #[.int .i64 0, .int .i64 0, .int .i64 240]) := Lib.hid (by
                          rw [HE.out, HL2.out, if_neg (show ¬ a.data.toList.all isDigit = true from fun e => by rw [all_take_no hlt (by rw [HI.out]; simp; omega)] at e; cases e)]
                          rfl)
                        by_cases hd1 : a[k].toNat < 48
                        · go_wp2
                          go_ret3
                          exact ⟨by rw [HN.out]; rfl, HBF.out.trans (HBI.out.mono HBF.out.size)⟩
                        · have hd2 : 57 < a[k].toNat := by omega
                          clear hd
                          go_wp2
                          go_ret3
                          exact ⟨by rw [HN.out]; rfl, HBF.out.trans (HBI.out.mono HBF.out.size)⟩
                    · have HP : Hid (a.data.toList.all isDigit = true) := Lib.hid (by rw [← hall, List.take_of_length_le (by rw [size_data]; omega)])
                      have HNV := Lib.hid (HFU.out (by omega))
                      have HN : Hid (framV R = .tuple #[.int .i64 1, .int .i64 (N : Int), .int .i64 0]) := Lib.hid (by
                        rw [HE.out, HL2.out, if_pos HP.out, HNV.out]
                        rfl)
                      clear hall
                      go_wp2
                      go_ret3
                      exact ⟨by rw [HN.out]; rfl, HBF.out.trans (HBI.out.mono HBF.out.size)⟩
      | cons x r =>
        have HE := Lib.hid (HRC.out (by simp))
        have hl0 : 0 < (x :: r).length := by simp
        obtain ⟨nC, hnC⟩ : ∃ nC, nC = (x :: r).length := ⟨_, rfl⟩
        rw [← hnC] at hCl hl0 HDC5 ⊢
        clear HRC HRL HRN hnC HLL q0z q5z
        go_upto_region 15 with (first
          | (go_at_call 103; (refine (HLC.out A4 nC c4 _ HDC5.out (by omega)).mono ?_; rintro _ w6 ⟨v6, rfl, hrow6, hb6⟩; obtain ⟨A6, c6, rfl, _, _, _, rd6⟩ := hrow6.form; have HD6 := Lib.hid rd6; have HB6 := Lib.hid hb6; clear hrow6 hb6 rd6))
          | fail)
        have HBF := Lib.hid (HBW.out.trans (HB6.out.mono HBW.out.size))
        have q5z := (HVZ.out.below_all HB6.out).cell (j := 5) rfl
        clear HLC
        by_cases h1 : mn = 1
        · subst h1
          cases L with
          | nil =>
            cases LC with
            | nil =>
              have HE2 : Hid (R = (0, 0, 240)) := Lib.hid (by rw [HE.out, HCD.out]; rfl)
              clear HE HCD
              go_wp2
              go_ret3
              exact ⟨by rw [HE2.out]; rfl, HBF.out⟩
            | cons y s =>
              cases s with
              | nil =>
                obtain ⟨g, o, rfl, hg, hc⟩ := HD6.out.2 (by simp)
                have c0 := hc 0 (.string y) rfl
                rw [Nat.add_zero] at c0
                have HFO := Lib.hid (fun W => rFold_any y W (HZC.out y (by simp)))
                obtain ⟨F, hF⟩ : ∃ F : ByteArray, F = ⟨(fold y.data.toList).toArray⟩ := ⟨_, rfl⟩
                rw [← hF] at HFO
                have hCE : CD = (F.data.toList == bChunked) := by rw [HCD.out, hF]; simp [fd]
                by_cases hf : F = ⟨#[99, 104, 117, 110, 107, 101, 100]⟩
                · have HE2 : Hid (R = (2, 0, 0)) := Lib.hid (by rw [HE.out, hCE, hf]; rfl)
                  clear HE HCD hCE hF hc
                  subst hf
                  go_wp2_with (first
                    | (go_at_call 104; refine (HFO.out _).mono ?_; rintro _ w7 ⟨rfl, hb7⟩)
                    | fail)
                  go_ret3
                  exact ⟨by rw [HE2.out]; rfl, HBF.out.trans (hb7.mono HBF.out.size)⟩
                · have HE2 : Hid (R = (0, 0, 240)) := Lib.hid (by rw [HE.out, hCE, show (F.data.toList == bChunked) = false from by rw [beq_eq_false_iff_ne]; exact fun e => hf (byte_ext.2 e)]; rfl)
                  have b4 := toList_ne hf
                  clear HE HCD hCE hF hf hc
                  go_wp2_with (first
                    | (go_at_call 104; refine (HFO.out _).mono ?_; rintro _ w7 ⟨rfl, hb7⟩)
                    | fail)
                  go_ret3
                  exact ⟨by rw [HE2.out]; rfl, HBF.out.trans (hb7.mono HBF.out.size)⟩
              | cons z s =>
                have HE2 : Hid (R = (0, 0, 240)) := Lib.hid (by rw [HE.out, HCD.out]; simp)
                obtain ⟨nY, hnY⟩ : ∃ nY, nY = (y :: z :: s).length := ⟨_, rfl⟩
                have hl2 : ((nY : Int) == 1) = false := by rw [beq_eq_false_iff_ne, hnY]; simp; omega
                rw [← hnY]
                clear HE HCD hnY
                go_wp2
                go_ret3
                exact ⟨by rw [HE2.out]; rfl, HBF.out⟩
          | cons y s =>
            have HE2 : Hid (R = (0, 0, 240)) := Lib.hid (by rw [HE.out, HCD.out]; rfl)
            obtain ⟨nY, hnY⟩ : ∃ nY, nY = (y :: s).length := ⟨_, rfl⟩
            have hl1 : ((nY : Int) == 0) = false := by rw [beq_eq_false_iff_ne, hnY]; simp; omega
            rw [← hnY] at hLl ⊢
            clear HE HCD hnY
            go_wp2
            go_ret3
            exact ⟨by rw [HE2.out]; rfl, HBF.out⟩
        · have HE2 : Hid (R = (0, 0, 240)) := Lib.hid (by rw [HE.out, HCD.out, decide_eq_false h1]; rfl)
          have q1 : (mn == 1) = false := by simpa using h1
          clear HE HCD h1
          go_wp2
          go_ret3
          exact ⟨by rw [HE2.out]; rfl, HBF.out⟩
    · clear g1
      go_upto_region 11 with (fail)
      have HVX := Lib.hid (HV1.out.below_all hBx)
      have HBX := Lib.hid hBx
      have hzx := hBx.size
      have hrgx := HVX.out.range
      obtain ⟨wx, rfl⟩ : ∃ wx : World, wx = w1 := ⟨_, rfl⟩
      go_upto_region 12 with (first
        | (refine wpList_load_mid rfl 52 (.tmp 2) rfl w.heap.size 0 rfl [.bool false, .string m, .string t, .int .i64 st, .string rs, .int .i64 mn, .slice A n c] _ hrgx Tryz.underlying52 rfl (by kernel_rfl) ?_)
        | (go_at_call 101; go_must (refine (HVC.out _ ((HR1.out.below HBX.out).more hzx)).mono ?_; rintro _ w4 ⟨v4, rfl, hrow4, hb4⟩; obtain ⟨A4, c4, rfl, _, _, _, rdC⟩ := hrow4.form; have HB4 := Lib.hid hb4; have HDC := Lib.hid rdC; clear hrow4 rdC hb4))
        | fail)
      have HVY := Lib.hid (HVX.out.below_all HB4.out)
      have hrgy := HVY.out.range
      have HB14 := Lib.hid (HBX.out.trans (HB4.out.mono hzx))
      go_upto_region 13 with (first
        | (refine wpList_load_mid rfl 52 (.tmp 2) rfl w.heap.size 0 rfl [.bool false, .string m, .string t, .int .i64 st, .string rs, .int .i64 mn, .slice A n c] _ hrgy Tryz.underlying52 rfl (by kernel_rfl) ?_)
        | (go_at_call 101; go_must (refine (HVL.out _ ((HR1.out.below HB14.out).more HB14.out.size)).mono ?_; rintro _ w5 ⟨v5, rfl, hrow5, hb5⟩; obtain ⟨A5, c5, rfl, _, _, _, rdL⟩ := hrow5.form; have HB5 := Lib.hid hb5; have HDL := Lib.hid rdL; clear hrow5 rdL hb5))
        | fail)
      have HVZ := Lib.hid (HVY.out.below_all HB5.out)
      have q0z := HVZ.out.cell (j := 0) rfl
      have q5z := HVZ.out.cell (j := 5) rfl
      have HB15 := Lib.hid (HB14.out.trans (HB5.out.mono HB14.out.size))
      have HBW := Lib.hid (HB1.out.trans (HB15.out.mono hzw))
      have HDC5 := Lib.hid (HDC.out.keeps HB5.out)
      clear q0 q3 hrg hrgx hrgy hBx hzx HVC HVL HVH HBX HB4 HB5 HDC HB14 HVX HVY HH1 HS2 HHH HMH HHZ
      cases C with
      | nil =>
        cases L with
        | nil =>
          have HE := Lib.hid (HRN.out rfl rfl)
          clear HRC HRL HRN HCD HLC HLL
          go_wp2
          go_ret3
          exact ⟨by rw [HE.out]; rfl, HBW.out⟩
        | cons x r =>
          have HE := Lib.hid (HRL.out rfl (by simp))
          have hl0 : 0 < (x :: r).length := by simp
          obtain ⟨nL, hnL⟩ : ∃ nL, nL = (x :: r).length := ⟨_, rfl⟩
          rw [← hnL] at hLl hl0 HDL ⊢
          clear HRC HRL HRN HCD HLC hnL
          go_upto_region 20 with (first
            | (go_at_call 103; (refine (HLL.out A5 nL c5 _ HDL.out (by omega)).mono ?_; rintro _ w6 ⟨v6, rfl, hrow6, hb6⟩; obtain ⟨A6, c6, rfl, _, _, _, rd6⟩ := hrow6.form; have HD6 := Lib.hid rd6; have HB6 := Lib.hid hb6; clear hrow6 hb6 rd6))
            | fail)
          have HBF := Lib.hid (HBW.out.trans (HB6.out.mono HBW.out.size))
          clear HLL
          cases LL with
          | nil =>
            have HE2 : Hid (framV R = .tuple #[.int .i64 0, .int .i64 0, .int .i64 240]) := Lib.hid HE.out
            go_wp2
            go_ret3
            exact ⟨by rw [HE2.out]; rfl, HBF.out⟩
          | cons a r2 =>
            obtain ⟨g, o, rfl, hg, hc⟩ := HD6.out.2 (by simp)
            have c0 := hc 0 (.string a) rfl
            rw [Nat.add_zero] at c0
            have HC := Lib.hid (fun (k : Nat) (h : k < (a :: r2).length) => hc k (.string (a :: r2)[k]) (by unfold strsV; rw [List.getElem?_map, List.getElem?_eq_getElem h]; rfl))
            have haz : a.size ≤ 16777216 := by have := hc 0; exact HZL.out a (by simp)
            obtain ⟨nA, hnA⟩ : ∃ nA, nA = (a :: r2).length := ⟨_, rfl⟩
            have hnA0 : 0 < nA := by rw [hnA]; simp
            have hnb : ((nA : Int) == 0) = false := by rw [beq_eq_false_iff_ne]; omega
            rw [← hnA] at hlL ⊢
            have HNA := Lib.hid hnA
            clear hc hnA
            by_cases h15 : 15 < a.size
            · have HN : Hid (framV R = .tuple #[.int .i64 0, .int .i64 0, .int .i64 240]) := Lib.hid (by rw [HE.out, lengthP_cons, if_pos h15]; rfl)
              go_wp2
              go_ret3
              exact ⟨by rw [HN.out]; rfl, HBF.out⟩
            · have HL : Hid (lengthP (a :: r2) = if a.data.toList.all isDigit = true ∧ (∀ b ∈ r2, b = a) then some (numP a.data.toList) else none) := Lib.hid (len_same h15)
              go_wp2
              go_loopw [15] (fun vi wr => ∃ i : Nat, i ≤ nA ∧ vi = .int .i64 i ∧ (∀ b ∈ (a :: r2).take i, b = a) ∧ Below w6.heap.size w6 wr) (fun vi _ => nA - (intOf vi).toNat)
              case atStart => exact ⟨0, Nat.zero_le _, rfl, by simp, Below.refl _ _⟩
              case round =>
                obtain ⟨i, hi, rfl, hsame, hbi⟩ := hrel
                obtain ⟨wi, rfl⟩ : ∃ wi : World, wi = wr := ⟨_, rfl⟩
                have HSA := Lib.hid hsame
                have HBI := Lib.hid hbi
                have d0 : wi.cell? ⟨g, o, none⟩ = some (.string a) := (hbi.cell (p := ⟨g, o, none⟩) hg).trans c0
                clear hsame
                by_cases hit : i < nA
                · have hia : i < (a :: r2).length := by rw [← HNA.out]; exact hit
                  have d1 : wi.cell? ⟨g, o + i, none⟩ = some (.string (a :: r2)[i]) := (hbi.cell (p := ⟨g, o + i, none⟩) hg).trans (HC.out i hia)
                  obtain ⟨b, hb⟩ : ∃ b, b = (a :: r2)[i] := ⟨_, rfl⟩
                  rw [← hb] at d1
                  have HBB := Lib.hid hb
                  clear hb hbi
                  by_cases hba : b = a
                  · subst hba
                    have hTK : Hid (∀ z ∈ (b :: r2).take (i + 1), z = b) := Lib.hid (fun z hz => by
                      rw [List.take_succ_eq_append_getElem hia] at hz
                      rcases List.mem_append.1 hz with h | h
                      · exact HSA.out z h
                      · rw [List.mem_singleton.1 h]; exact HBB.out.symm)
                    go_wp2
                    go_quiet (fail)
                    go_wp2
                    go_roundw
                    case rel => exact ⟨i + 1, by omega, by go_num, hTK.out, below_drewN HBI.out _⟩
                    case measure => simp [intOf]; omega
                  · have HN : Hid (framV R = .tuple #[.int .i64 0, .int .i64 0, .int .i64 240]) := Lib.hid (by
                      rw [HE.out, HL.out, if_neg (show ¬ (a.data.toList.all isDigit = true ∧ ∀ b ∈ r2, b = a) from ?_)]
                      · rfl
                      · rintro ⟨_, h⟩
                        have hm : b ∈ a :: r2 := by rw [HBB.out]; exact List.getElem_mem _
                        rcases List.mem_cons.1 hm with e | e
                        · exact hba e
                        · exact hba (h b e))
                    have q1 : (b.toList == a.toList) = false := by
                      rw [ByteArray.toList_eq, ByteArray.toList_eq, beq_eq_false_iff_ne]; intro e; exact hba (by cases b; cases a; simp_all)
                    clear hba
                    go_wp2
                    go_quiet (fail)
                    go_wp2
                    go_ret3
                    exact ⟨by rw [HN.out]; rfl, HBF.out.trans (below_drewN HBI.out _ |>.mono HBF.out.size)⟩
                · have hall0 : ∀ b ∈ r2, b = a := fun b hb => HSA.out b (by rw [List.take_of_length_le (by rw [← HNA.out]; omega)]; exact List.mem_cons_of_mem _ hb)
                  have HL2 : Hid (lengthP (a :: r2) = if a.data.toList.all isDigit = true then some (numP a.data.toList) else none) := Lib.hid (by
                    rw [HL.out]
                    by_cases hd : a.data.toList.all isDigit = true
                    · rw [if_pos ⟨hd, hall0⟩, if_pos hd]
                    · rw [if_neg (fun h => hd h.1), if_neg hd])
                  clear hall0 HSA hbi
                  go_wp2
                  go_loop [14, 16] (fun x i => ∃ k : Nat, k ≤ a.size ∧ i = .int .i64 k ∧ x = .int .i64 (numP (a.data.toList.take k) : Nat) ∧ (a.data.toList.take k).all isDigit = true) (fun _ i => a.size - (intOf i).toNat)
                  case atStart => exact ⟨0, Nat.zero_le _, rfl, rfl, rfl⟩
                  case round =>
                    obtain ⟨k, hk, rfl, hx, hall⟩ := hrel
                    have hlt0 := numP_lt a k hk hall
                    have hpw : 10 ^ k ≤ 10 ^ 15 := Nat.pow_le_pow_right (by omega) (by omega)
                    have hNb : numP (a.data.toList.take k) < 1000000000000000 := by omega
                    clear hlt0 hpw
                    have HST := Lib.hid (fun h => numF_take (s := a) (k := k) h)
                    have HFU : Hid (k = a.size → numP a.data.toList = numP (a.data.toList.take k)) := Lib.hid (fun e => by rw [List.take_of_length_le (by rw [size_data]; omega)])
                    obtain ⟨N, hN⟩ : ∃ N, N = numP (a.data.toList.take k) := ⟨_, rfl⟩
                    rw [← hN] at hx hNb HST HFU
                    subst hx
                    clear hN
                    by_cases hlt : k < a.size
                    · have HT := Lib.hid (all_take_step (p := isDigit) hlt)
                      have HI := Lib.hid (dig_eq a[k])
                      have hx := UInt8.toNat_lt a[k]
                      have HAL := Lib.hid hall
                      have HS3 := Lib.hid (HST.out hlt)
                      clear hall
                      by_cases hd : 48 ≤ a[k].toNat ∧ a[k].toNat ≤ 57
                      · have HY : Hid (isDigit a[k] = true) := Lib.hid (by rw [HI.out]; simp [hd])
                        obtain ⟨hd1, hd2⟩ := hd
                        go_wp2
                        go_round
                        case rel => exact ⟨k + 1, by omega, by go_num, by rw [HS3.out]; go_num, by rw [HT.out, HAL.out, HY.out]; rfl⟩
                        case measure => simp [intOf]; omega
                      · have HN : Hid (framV R = .tuple #[.int .i64 0, .int .i64 0, .int .i64 240]) := Lib.hid (by
                          rw [HE.out, HL2.out, if_neg (show ¬ a.data.toList.all isDigit = true from fun e => by rw [all_take_no hlt (by rw [HI.out]; simp; omega)] at e; cases e)]
                          rfl)
                        by_cases hd1 : a[k].toNat < 48
                        · go_wp2
                          go_ret3
                          exact ⟨by rw [HN.out]; rfl, HBF.out.trans (HBI.out.mono HBF.out.size)⟩
                        · have hd2 : 57 < a[k].toNat := by omega
                          clear hd
                          go_wp2
                          go_ret3
                          exact ⟨by rw [HN.out]; rfl, HBF.out.trans (HBI.out.mono HBF.out.size)⟩
                    · have HP : Hid (a.data.toList.all isDigit = true) := Lib.hid (by rw [← hall, List.take_of_length_le (by rw [size_data]; omega)])
                      have HNV := Lib.hid (HFU.out (by omega))
                      have HN : Hid (framV R = .tuple #[.int .i64 1, .int .i64 (N : Int), .int .i64 0]) := Lib.hid (by
                        rw [HE.out, HL2.out, if_pos HP.out, HNV.out]
                        rfl)
                      clear hall
                      go_wp2
                      go_ret3
                      exact ⟨by rw [HN.out]; rfl, HBF.out.trans (HBI.out.mono HBF.out.size)⟩
      | cons x r =>
        have HE := Lib.hid (HRC.out (by simp))
        have hl0 : 0 < (x :: r).length := by simp
        obtain ⟨nC, hnC⟩ : ∃ nC, nC = (x :: r).length := ⟨_, rfl⟩
        rw [← hnC] at hCl hl0 HDC5 ⊢
        clear HRC HRL HRN hnC HLL q0z q5z
        go_upto_region 15 with (first
          | (go_at_call 103; (refine (HLC.out A4 nC c4 _ HDC5.out (by omega)).mono ?_; rintro _ w6 ⟨v6, rfl, hrow6, hb6⟩; obtain ⟨A6, c6, rfl, _, _, _, rd6⟩ := hrow6.form; have HD6 := Lib.hid rd6; have HB6 := Lib.hid hb6; clear hrow6 hb6 rd6))
          | fail)
        have HBF := Lib.hid (HBW.out.trans (HB6.out.mono HBW.out.size))
        have q5z := (HVZ.out.below_all HB6.out).cell (j := 5) rfl
        clear HLC
        by_cases h1 : mn = 1
        · subst h1
          cases L with
          | nil =>
            cases LC with
            | nil =>
              have HE2 : Hid (R = (0, 0, 240)) := Lib.hid (by rw [HE.out, HCD.out]; rfl)
              clear HE HCD
              go_wp2
              go_ret3
              exact ⟨by rw [HE2.out]; rfl, HBF.out⟩
            | cons y s =>
              cases s with
              | nil =>
                obtain ⟨g, o, rfl, hg, hc⟩ := HD6.out.2 (by simp)
                have c0 := hc 0 (.string y) rfl
                rw [Nat.add_zero] at c0
                have HFO := Lib.hid (fun W => rFold_any y W (HZC.out y (by simp)))
                obtain ⟨F, hF⟩ : ∃ F : ByteArray, F = ⟨(fold y.data.toList).toArray⟩ := ⟨_, rfl⟩
                rw [← hF] at HFO
                have hCE : CD = (F.data.toList == bChunked) := by rw [HCD.out, hF]; simp [fd]
                by_cases hf : F = ⟨#[99, 104, 117, 110, 107, 101, 100]⟩
                · have HE2 : Hid (R = (2, 0, 0)) := Lib.hid (by rw [HE.out, hCE, hf]; rfl)
                  clear HE HCD hCE hF hc
                  subst hf
                  go_wp2_with (first
                    | (go_at_call 104; refine (HFO.out _).mono ?_; rintro _ w7 ⟨rfl, hb7⟩)
                    | fail)
                  go_ret3
                  exact ⟨by rw [HE2.out]; rfl, HBF.out.trans (hb7.mono HBF.out.size)⟩
                · have HE2 : Hid (R = (0, 0, 240)) := Lib.hid (by rw [HE.out, hCE, show (F.data.toList == bChunked) = false from by rw [beq_eq_false_iff_ne]; exact fun e => hf (byte_ext.2 e)]; rfl)
                  have b4 := toList_ne hf
                  clear HE HCD hCE hF hf hc
                  go_wp2_with (first
                    | (go_at_call 104; refine (HFO.out _).mono ?_; rintro _ w7 ⟨rfl, hb7⟩)
                    | fail)
                  go_ret3
                  exact ⟨by rw [HE2.out]; rfl, HBF.out.trans (hb7.mono HBF.out.size)⟩
              | cons z s =>
                have HE2 : Hid (R = (0, 0, 240)) := Lib.hid (by rw [HE.out, HCD.out]; simp)
                obtain ⟨nY, hnY⟩ : ∃ nY, nY = (y :: z :: s).length := ⟨_, rfl⟩
                have hl2 : ((nY : Int) == 1) = false := by rw [beq_eq_false_iff_ne, hnY]; simp; omega
                rw [← hnY]
                clear HE HCD hnY
                go_wp2
                go_ret3
                exact ⟨by rw [HE2.out]; rfl, HBF.out⟩
          | cons y s =>
            have HE2 : Hid (R = (0, 0, 240)) := Lib.hid (by rw [HE.out, HCD.out]; rfl)
            obtain ⟨nY, hnY⟩ : ∃ nY, nY = (y :: s).length := ⟨_, rfl⟩
            have hl1 : ((nY : Int) == 0) = false := by rw [beq_eq_false_iff_ne, hnY]; simp; omega
            rw [← hnY] at hLl ⊢
            clear HE HCD hnY
            go_wp2
            go_ret3
            exact ⟨by rw [HE2.out]; rfl, HBF.out⟩
        · have HE2 : Hid (R = (0, 0, 240)) := Lib.hid (by rw [HE.out, HCD.out, decide_eq_false h1]; rfl)
          have q1 : (mn == 1) = false := by simpa using h1
          clear HE HCD h1
          go_wp2
          go_ret3
          exact ⟨by rw [HE2.out]; rfl, HBF.out⟩
  | true =>
    have hho := HH1.out rfl
    rw [HHH.out] at hho
    go_upto_region 3 with (first
      | (refine wpList_load_mid rfl 52 (.tmp 2) rfl w.heap.size 0 rfl [.bool true, .string m, .string t, .int .i64 st, .string rs, .int .i64 mn, .slice A n c] _ hrg Tryz.underlying52 rfl (by kernel_rfl) ?_)
      | (go_at_call 101; go_must (refine (HVH.out _ HR1.out).mono ?_; rintro _ w2 ⟨v2, rfl, hrow2, hb2⟩; obtain ⟨A2, c2, rfl, _, _, _, rdH⟩ := hrow2.form; have HB2 := Lib.hid hb2; have HRH := Lib.hid rdH; clear hrow2 rdH hb2))
      | fail)
    have hBx := HB2.out
    have q5 := (HV1.out.below_all hBx).cell (j := 5) rfl
    cases H with
    | nil =>
      have hm1 : mn ≠ 1 := by
        intro e
        rw [e] at hho
        cases hho
      have b5 : (mn == 1) = false := by simpa using hm1
      clear hm1 hho
      go_upto_region 11 with (fail)
      have HVX := Lib.hid (HV1.out.below_all hBx)
      have HBX := Lib.hid hBx
      have hzx := hBx.size
      have hrgx := HVX.out.range
      obtain ⟨wx, rfl⟩ : ∃ wx : World, wx = w2 := ⟨_, rfl⟩
      go_upto_region 12 with (first
        | (refine wpList_load_mid rfl 52 (.tmp 2) rfl w.heap.size 0 rfl [.bool true, .string m, .string t, .int .i64 st, .string rs, .int .i64 mn, .slice A n c] _ hrgx Tryz.underlying52 rfl (by kernel_rfl) ?_)
        | (go_at_call 101; go_must (refine (HVC.out _ ((HR1.out.below HBX.out).more hzx)).mono ?_; rintro _ w4 ⟨v4, rfl, hrow4, hb4⟩; obtain ⟨A4, c4, rfl, _, _, _, rdC⟩ := hrow4.form; have HB4 := Lib.hid hb4; have HDC := Lib.hid rdC; clear hrow4 rdC hb4))
        | fail)
      have HVY := Lib.hid (HVX.out.below_all HB4.out)
      have hrgy := HVY.out.range
      have HB14 := Lib.hid (HBX.out.trans (HB4.out.mono hzx))
      go_upto_region 13 with (first
        | (refine wpList_load_mid rfl 52 (.tmp 2) rfl w.heap.size 0 rfl [.bool true, .string m, .string t, .int .i64 st, .string rs, .int .i64 mn, .slice A n c] _ hrgy Tryz.underlying52 rfl (by kernel_rfl) ?_)
        | (go_at_call 101; go_must (refine (HVL.out _ ((HR1.out.below HB14.out).more HB14.out.size)).mono ?_; rintro _ w5 ⟨v5, rfl, hrow5, hb5⟩; obtain ⟨A5, c5, rfl, _, _, _, rdL⟩ := hrow5.form; have HB5 := Lib.hid hb5; have HDL := Lib.hid rdL; clear hrow5 rdL hb5))
        | fail)
      have HVZ := Lib.hid (HVY.out.below_all HB5.out)
      have q0z := HVZ.out.cell (j := 0) rfl
      have q5z := HVZ.out.cell (j := 5) rfl
      have HB15 := Lib.hid (HB14.out.trans (HB5.out.mono HB14.out.size))
      have HBW := Lib.hid (HB1.out.trans (HB15.out.mono hzw))
      have HDC5 := Lib.hid (HDC.out.keeps HB5.out)
      clear q0 q3 hrg hrgx hrgy hBx hzx HVC HVL HVH HBX HB4 HB5 HDC HB14 HVX HVY HH1 HS2 HHH HMH HHZ
      cases C with
      | nil =>
        cases L with
        | nil =>
          have HE := Lib.hid (HRN.out rfl rfl)
          clear HRC HRL HRN HCD HLC HLL
          go_wp2
          go_ret3
          exact ⟨by rw [HE.out]; rfl, HBW.out⟩
        | cons x r =>
          have HE := Lib.hid (HRL.out rfl (by simp))
          have hl0 : 0 < (x :: r).length := by simp
          obtain ⟨nL, hnL⟩ : ∃ nL, nL = (x :: r).length := ⟨_, rfl⟩
          rw [← hnL] at hLl hl0 HDL ⊢
          clear HRC HRL HRN HCD HLC hnL
          go_upto_region 20 with (first
            | (go_at_call 103; (refine (HLL.out A5 nL c5 _ HDL.out (by omega)).mono ?_; rintro _ w6 ⟨v6, rfl, hrow6, hb6⟩; obtain ⟨A6, c6, rfl, _, _, _, rd6⟩ := hrow6.form; have HD6 := Lib.hid rd6; have HB6 := Lib.hid hb6; clear hrow6 hb6 rd6))
            | fail)
          have HBF := Lib.hid (HBW.out.trans (HB6.out.mono HBW.out.size))
          clear HLL
          cases LL with
          | nil =>
            have HE2 : Hid (framV R = .tuple #[.int .i64 0, .int .i64 0, .int .i64 240]) := Lib.hid HE.out
            go_wp2
            go_ret3
            exact ⟨by rw [HE2.out]; rfl, HBF.out⟩
          | cons a r2 =>
            obtain ⟨g, o, rfl, hg, hc⟩ := HD6.out.2 (by simp)
            have c0 := hc 0 (.string a) rfl
            rw [Nat.add_zero] at c0
            have HC := Lib.hid (fun (k : Nat) (h : k < (a :: r2).length) => hc k (.string (a :: r2)[k]) (by unfold strsV; rw [List.getElem?_map, List.getElem?_eq_getElem h]; rfl))
            have haz : a.size ≤ 16777216 := by have := hc 0; exact HZL.out a (by simp)
            obtain ⟨nA, hnA⟩ : ∃ nA, nA = (a :: r2).length := ⟨_, rfl⟩
            have hnA0 : 0 < nA := by rw [hnA]; simp
            have hnb : ((nA : Int) == 0) = false := by rw [beq_eq_false_iff_ne]; omega
            rw [← hnA] at hlL ⊢
            have HNA := Lib.hid hnA
            clear hc hnA
            by_cases h15 : 15 < a.size
            · have HN : Hid (framV R = .tuple #[.int .i64 0, .int .i64 0, .int .i64 240]) := Lib.hid (by rw [HE.out, lengthP_cons, if_pos h15]; rfl)
              go_wp2
              go_ret3
              exact ⟨by rw [HN.out]; rfl, HBF.out⟩
            · have HL : Hid (lengthP (a :: r2) = if a.data.toList.all isDigit = true ∧ (∀ b ∈ r2, b = a) then some (numP a.data.toList) else none) := Lib.hid (len_same h15)
              go_wp2
              go_loopw [15] (fun vi wr => ∃ i : Nat, i ≤ nA ∧ vi = .int .i64 i ∧ (∀ b ∈ (a :: r2).take i, b = a) ∧ Below w6.heap.size w6 wr) (fun vi _ => nA - (intOf vi).toNat)
              case atStart => exact ⟨0, Nat.zero_le _, rfl, by simp, Below.refl _ _⟩
              case round =>
                obtain ⟨i, hi, rfl, hsame, hbi⟩ := hrel
                obtain ⟨wi, rfl⟩ : ∃ wi : World, wi = wr := ⟨_, rfl⟩
                have HSA := Lib.hid hsame
                have HBI := Lib.hid hbi
                have d0 : wi.cell? ⟨g, o, none⟩ = some (.string a) := (hbi.cell (p := ⟨g, o, none⟩) hg).trans c0
                clear hsame
                by_cases hit : i < nA
                · have hia : i < (a :: r2).length := by rw [← HNA.out]; exact hit
                  have d1 : wi.cell? ⟨g, o + i, none⟩ = some (.string (a :: r2)[i]) := (hbi.cell (p := ⟨g, o + i, none⟩) hg).trans (HC.out i hia)
                  obtain ⟨b, hb⟩ : ∃ b, b = (a :: r2)[i] := ⟨_, rfl⟩
                  rw [← hb] at d1
                  have HBB := Lib.hid hb
                  clear hb hbi
                  by_cases hba : b = a
                  · subst hba
                    have hTK : Hid (∀ z ∈ (b :: r2).take (i + 1), z = b) := Lib.hid (fun z hz => by
                      rw [List.take_succ_eq_append_getElem hia] at hz
                      rcases List.mem_append.1 hz with h | h
                      · exact HSA.out z h
                      · rw [List.mem_singleton.1 h]; exact HBB.out.symm)
                    go_wp2
                    go_quiet (fail)
                    go_wp2
                    go_roundw
                    case rel => exact ⟨i + 1, by omega, by go_num, hTK.out, below_drewN HBI.out _⟩
                    case measure => simp [intOf]; omega
                  · have HN : Hid (framV R = .tuple #[.int .i64 0, .int .i64 0, .int .i64 240]) := Lib.hid (by
                      rw [HE.out, HL.out, if_neg (show ¬ (a.data.toList.all isDigit = true ∧ ∀ b ∈ r2, b = a) from ?_)]
                      · rfl
                      · rintro ⟨_, h⟩
                        have hm : b ∈ a :: r2 := by rw [HBB.out]; exact List.getElem_mem _
                        rcases List.mem_cons.1 hm with e | e
                        · exact hba e
                        · exact hba (h b e))
                    have q1 : (b.toList == a.toList) = false := by
                      rw [ByteArray.toList_eq, ByteArray.toList_eq, beq_eq_false_iff_ne]; intro e; exact hba (by cases b; cases a; simp_all)
                    clear hba
                    go_wp2
                    go_quiet (fail)
                    go_wp2
                    go_ret3
                    exact ⟨by rw [HN.out]; rfl, HBF.out.trans (below_drewN HBI.out _ |>.mono HBF.out.size)⟩
                · have hall0 : ∀ b ∈ r2, b = a := fun b hb => HSA.out b (by rw [List.take_of_length_le (by rw [← HNA.out]; omega)]; exact List.mem_cons_of_mem _ hb)
                  have HL2 : Hid (lengthP (a :: r2) = if a.data.toList.all isDigit = true then some (numP a.data.toList) else none) := Lib.hid (by
                    rw [HL.out]
                    by_cases hd : a.data.toList.all isDigit = true
                    · rw [if_pos ⟨hd, hall0⟩, if_pos hd]
                    · rw [if_neg (fun h => hd h.1), if_neg hd])
                  clear hall0 HSA hbi
                  go_wp2
                  go_loop [14, 16] (fun x i => ∃ k : Nat, k ≤ a.size ∧ i = .int .i64 k ∧ x = .int .i64 (numP (a.data.toList.take k) : Nat) ∧ (a.data.toList.take k).all isDigit = true) (fun _ i => a.size - (intOf i).toNat)
                  case atStart => exact ⟨0, Nat.zero_le _, rfl, rfl, rfl⟩
                  case round =>
                    obtain ⟨k, hk, rfl, hx, hall⟩ := hrel
                    have hlt0 := numP_lt a k hk hall
                    have hpw : 10 ^ k ≤ 10 ^ 15 := Nat.pow_le_pow_right (by omega) (by omega)
                    have hNb : numP (a.data.toList.take k) < 1000000000000000 := by omega
                    clear hlt0 hpw
                    have HST := Lib.hid (fun h => numF_take (s := a) (k := k) h)
                    have HFU : Hid (k = a.size → numP a.data.toList = numP (a.data.toList.take k)) := Lib.hid (fun e => by rw [List.take_of_length_le (by rw [size_data]; omega)])
                    obtain ⟨N, hN⟩ : ∃ N, N = numP (a.data.toList.take k) := ⟨_, rfl⟩
                    rw [← hN] at hx hNb HST HFU
                    subst hx
                    clear hN
                    by_cases hlt : k < a.size
                    · have HT := Lib.hid (all_take_step (p := isDigit) hlt)
                      have HI := Lib.hid (dig_eq a[k])
                      have hx := UInt8.toNat_lt a[k]
                      have HAL := Lib.hid hall
                      have HS3 := Lib.hid (HST.out hlt)
                      clear hall
                      by_cases hd : 48 ≤ a[k].toNat ∧ a[k].toNat ≤ 57
                      · have HY : Hid (isDigit a[k] = true) := Lib.hid (by rw [HI.out]; simp [hd])
                        obtain ⟨hd1, hd2⟩ := hd
                        go_wp2
                        go_round
                        case rel => exact ⟨k + 1, by omega, by go_num, by rw [HS3.out]; go_num, by rw [HT.out, HAL.out, HY.out]; rfl⟩
                        case measure => simp [intOf]; omega
                      · have HN : Hid (framV R = .tuple #[.int .i64 0, .int .i64 0, .int .i64 240]) := Lib.hid (by
                          rw [HE.out, HL2.out, if_neg (show ¬ a.data.toList.all isDigit = true from fun e => by rw [all_take_no hlt (by rw [HI.out]; simp; omega)] at e; cases e)]
                          rfl)
                        by_cases hd1 : a[k].toNat < 48
                        · go_wp2
                          go_ret3
                          exact ⟨by rw [HN.out]; rfl, HBF.out.trans (HBI.out.mono HBF.out.size)⟩
                        · have hd2 : 57 < a[k].toNat := by omega
                          clear hd
                          go_wp2
                          go_ret3
                          exact ⟨by rw [HN.out]; rfl, HBF.out.trans (HBI.out.mono HBF.out.size)⟩
                    · have HP : Hid (a.data.toList.all isDigit = true) := Lib.hid (by rw [← hall, List.take_of_length_le (by rw [size_data]; omega)])
                      have HNV := Lib.hid (HFU.out (by omega))
                      have HN : Hid (framV R = .tuple #[.int .i64 1, .int .i64 (N : Int), .int .i64 0]) := Lib.hid (by
                        rw [HE.out, HL2.out, if_pos HP.out, HNV.out]
                        rfl)
                      clear hall
                      go_wp2
                      go_ret3
                      exact ⟨by rw [HN.out]; rfl, HBF.out.trans (HBI.out.mono HBF.out.size)⟩
      | cons x r =>
        have HE := Lib.hid (HRC.out (by simp))
        have hl0 : 0 < (x :: r).length := by simp
        obtain ⟨nC, hnC⟩ : ∃ nC, nC = (x :: r).length := ⟨_, rfl⟩
        rw [← hnC] at hCl hl0 HDC5 ⊢
        clear HRC HRL HRN hnC HLL q0z q5z
        go_upto_region 15 with (first
          | (go_at_call 103; (refine (HLC.out A4 nC c4 _ HDC5.out (by omega)).mono ?_; rintro _ w6 ⟨v6, rfl, hrow6, hb6⟩; obtain ⟨A6, c6, rfl, _, _, _, rd6⟩ := hrow6.form; have HD6 := Lib.hid rd6; have HB6 := Lib.hid hb6; clear hrow6 hb6 rd6))
          | fail)
        have HBF := Lib.hid (HBW.out.trans (HB6.out.mono HBW.out.size))
        have q5z := (HVZ.out.below_all HB6.out).cell (j := 5) rfl
        clear HLC
        by_cases h1 : mn = 1
        · subst h1
          cases L with
          | nil =>
            cases LC with
            | nil =>
              have HE2 : Hid (R = (0, 0, 240)) := Lib.hid (by rw [HE.out, HCD.out]; rfl)
              clear HE HCD
              go_wp2
              go_ret3
              exact ⟨by rw [HE2.out]; rfl, HBF.out⟩
            | cons y s =>
              cases s with
              | nil =>
                obtain ⟨g, o, rfl, hg, hc⟩ := HD6.out.2 (by simp)
                have c0 := hc 0 (.string y) rfl
                rw [Nat.add_zero] at c0
                have HFO := Lib.hid (fun W => rFold_any y W (HZC.out y (by simp)))
                obtain ⟨F, hF⟩ : ∃ F : ByteArray, F = ⟨(fold y.data.toList).toArray⟩ := ⟨_, rfl⟩
                rw [← hF] at HFO
                have hCE : CD = (F.data.toList == bChunked) := by rw [HCD.out, hF]; simp [fd]
                by_cases hf : F = ⟨#[99, 104, 117, 110, 107, 101, 100]⟩
                · have HE2 : Hid (R = (2, 0, 0)) := Lib.hid (by rw [HE.out, hCE, hf]; rfl)
                  clear HE HCD hCE hF hc
                  subst hf
                  go_wp2_with (first
                    | (go_at_call 104; refine (HFO.out _).mono ?_; rintro _ w7 ⟨rfl, hb7⟩)
                    | fail)
                  go_ret3
                  exact ⟨by rw [HE2.out]; rfl, HBF.out.trans (hb7.mono HBF.out.size)⟩
                · have HE2 : Hid (R = (0, 0, 240)) := Lib.hid (by rw [HE.out, hCE, show (F.data.toList == bChunked) = false from by rw [beq_eq_false_iff_ne]; exact fun e => hf (byte_ext.2 e)]; rfl)
                  have b4 := toList_ne hf
                  clear HE HCD hCE hF hf hc
                  go_wp2_with (first
                    | (go_at_call 104; refine (HFO.out _).mono ?_; rintro _ w7 ⟨rfl, hb7⟩)
                    | fail)
                  go_ret3
                  exact ⟨by rw [HE2.out]; rfl, HBF.out.trans (hb7.mono HBF.out.size)⟩
              | cons z s =>
                have HE2 : Hid (R = (0, 0, 240)) := Lib.hid (by rw [HE.out, HCD.out]; simp)
                obtain ⟨nY, hnY⟩ : ∃ nY, nY = (y :: z :: s).length := ⟨_, rfl⟩
                have hl2 : ((nY : Int) == 1) = false := by rw [beq_eq_false_iff_ne, hnY]; simp; omega
                rw [← hnY]
                clear HE HCD hnY
                go_wp2
                go_ret3
                exact ⟨by rw [HE2.out]; rfl, HBF.out⟩
          | cons y s =>
            have HE2 : Hid (R = (0, 0, 240)) := Lib.hid (by rw [HE.out, HCD.out]; rfl)
            obtain ⟨nY, hnY⟩ : ∃ nY, nY = (y :: s).length := ⟨_, rfl⟩
            have hl1 : ((nY : Int) == 0) = false := by rw [beq_eq_false_iff_ne, hnY]; simp; omega
            rw [← hnY] at hLl ⊢
            clear HE HCD hnY
            go_wp2
            go_ret3
            exact ⟨by rw [HE2.out]; rfl, HBF.out⟩
        · have HE2 : Hid (R = (0, 0, 240)) := Lib.hid (by rw [HE.out, HCD.out, decide_eq_false h1]; rfl)
          have q1 : (mn == 1) = false := by simpa using h1
          clear HE HCD h1
          go_wp2
          go_ret3
          exact ⟨by rw [HE2.out]; rfl, HBF.out⟩
    | cons v r =>
      cases r with
      | nil =>
        have hrh := HRH.out
        obtain ⟨g6, o6, rfl, _, hc6⟩ := hrh.2 (by simp)
        have c6 := hc6 0 (.string v) rfl
        rw [Nat.add_zero] at c6
        clear hrh hc6
        by_cases hv0 : v = ⟨#[]⟩
        · subst hv0
          clear hho
          go_upto_region 11 with (fail)
          have HVX := Lib.hid (HV1.out.below_all hBx)
          have HBX := Lib.hid hBx
          have hzx := hBx.size
          have hrgx := HVX.out.range
          obtain ⟨wx, rfl⟩ : ∃ wx : World, wx = w2 := ⟨_, rfl⟩
          go_upto_region 12 with (first
            | (refine wpList_load_mid rfl 52 (.tmp 2) rfl w.heap.size 0 rfl [.bool true, .string m, .string t, .int .i64 st, .string rs, .int .i64 mn, .slice A n c] _ hrgx Tryz.underlying52 rfl (by kernel_rfl) ?_)
            | (go_at_call 101; go_must (refine (HVC.out _ ((HR1.out.below HBX.out).more hzx)).mono ?_; rintro _ w4 ⟨v4, rfl, hrow4, hb4⟩; obtain ⟨A4, c4, rfl, _, _, _, rdC⟩ := hrow4.form; have HB4 := Lib.hid hb4; have HDC := Lib.hid rdC; clear hrow4 rdC hb4))
            | fail)
          have HVY := Lib.hid (HVX.out.below_all HB4.out)
          have hrgy := HVY.out.range
          have HB14 := Lib.hid (HBX.out.trans (HB4.out.mono hzx))
          go_upto_region 13 with (first
            | (refine wpList_load_mid rfl 52 (.tmp 2) rfl w.heap.size 0 rfl [.bool true, .string m, .string t, .int .i64 st, .string rs, .int .i64 mn, .slice A n c] _ hrgy Tryz.underlying52 rfl (by kernel_rfl) ?_)
            | (go_at_call 101; go_must (refine (HVL.out _ ((HR1.out.below HB14.out).more HB14.out.size)).mono ?_; rintro _ w5 ⟨v5, rfl, hrow5, hb5⟩; obtain ⟨A5, c5, rfl, _, _, _, rdL⟩ := hrow5.form; have HB5 := Lib.hid hb5; have HDL := Lib.hid rdL; clear hrow5 rdL hb5))
            | fail)
          have HVZ := Lib.hid (HVY.out.below_all HB5.out)
          have q0z := HVZ.out.cell (j := 0) rfl
          have q5z := HVZ.out.cell (j := 5) rfl
          have HB15 := Lib.hid (HB14.out.trans (HB5.out.mono HB14.out.size))
          have HBW := Lib.hid (HB1.out.trans (HB15.out.mono hzw))
          have HDC5 := Lib.hid (HDC.out.keeps HB5.out)
          clear q0 q3 hrg hrgx hrgy hBx hzx HVC HVL HVH HBX HB4 HB5 HDC HB14 HVX HVY HH1 HS2 HHH HMH HHZ
          cases C with
          | nil =>
            cases L with
            | nil =>
              have HE := Lib.hid (HRN.out rfl rfl)
              clear HRC HRL HRN HCD HLC HLL
              go_wp2
              go_ret3
              exact ⟨by rw [HE.out]; rfl, HBW.out⟩
            | cons x r =>
              have HE := Lib.hid (HRL.out rfl (by simp))
              have hl0 : 0 < (x :: r).length := by simp
              obtain ⟨nL, hnL⟩ : ∃ nL, nL = (x :: r).length := ⟨_, rfl⟩
              rw [← hnL] at hLl hl0 HDL ⊢
              clear HRC HRL HRN HCD HLC hnL
              go_upto_region 20 with (first
                | (go_at_call 103; (refine (HLL.out A5 nL c5 _ HDL.out (by omega)).mono ?_; rintro _ w6 ⟨v6, rfl, hrow6, hb6⟩; obtain ⟨A6, c6, rfl, _, _, _, rd6⟩ := hrow6.form; have HD6 := Lib.hid rd6; have HB6 := Lib.hid hb6; clear hrow6 hb6 rd6))
                | fail)
              have HBF := Lib.hid (HBW.out.trans (HB6.out.mono HBW.out.size))
              clear HLL
              cases LL with
              | nil =>
                have HE2 : Hid (framV R = .tuple #[.int .i64 0, .int .i64 0, .int .i64 240]) := Lib.hid HE.out
                go_wp2
                go_ret3
                exact ⟨by rw [HE2.out]; rfl, HBF.out⟩
              | cons a r2 =>
                obtain ⟨g, o, rfl, hg, hc⟩ := HD6.out.2 (by simp)
                have c0 := hc 0 (.string a) rfl
                rw [Nat.add_zero] at c0
                have HC := Lib.hid (fun (k : Nat) (h : k < (a :: r2).length) => hc k (.string (a :: r2)[k]) (by unfold strsV; rw [List.getElem?_map, List.getElem?_eq_getElem h]; rfl))
                have haz : a.size ≤ 16777216 := by have := hc 0; exact HZL.out a (by simp)
                obtain ⟨nA, hnA⟩ : ∃ nA, nA = (a :: r2).length := ⟨_, rfl⟩
                have hnA0 : 0 < nA := by rw [hnA]; simp
                have hnb : ((nA : Int) == 0) = false := by rw [beq_eq_false_iff_ne]; omega
                rw [← hnA] at hlL ⊢
                have HNA := Lib.hid hnA
                clear hc hnA
                by_cases h15 : 15 < a.size
                · have HN : Hid (framV R = .tuple #[.int .i64 0, .int .i64 0, .int .i64 240]) := Lib.hid (by rw [HE.out, lengthP_cons, if_pos h15]; rfl)
                  go_wp2
                  go_ret3
                  exact ⟨by rw [HN.out]; rfl, HBF.out⟩
                · have HL : Hid (lengthP (a :: r2) = if a.data.toList.all isDigit = true ∧ (∀ b ∈ r2, b = a) then some (numP a.data.toList) else none) := Lib.hid (len_same h15)
                  go_wp2
                  go_loopw [15] (fun vi wr => ∃ i : Nat, i ≤ nA ∧ vi = .int .i64 i ∧ (∀ b ∈ (a :: r2).take i, b = a) ∧ Below w6.heap.size w6 wr) (fun vi _ => nA - (intOf vi).toNat)
                  case atStart => exact ⟨0, Nat.zero_le _, rfl, by simp, Below.refl _ _⟩
                  case round =>
                    obtain ⟨i, hi, rfl, hsame, hbi⟩ := hrel
                    obtain ⟨wi, rfl⟩ : ∃ wi : World, wi = wr := ⟨_, rfl⟩
                    have HSA := Lib.hid hsame
                    have HBI := Lib.hid hbi
                    have d0 : wi.cell? ⟨g, o, none⟩ = some (.string a) := (hbi.cell (p := ⟨g, o, none⟩) hg).trans c0
                    clear hsame
                    by_cases hit : i < nA
                    · have hia : i < (a :: r2).length := by rw [← HNA.out]; exact hit
                      have d1 : wi.cell? ⟨g, o + i, none⟩ = some (.string (a :: r2)[i]) := (hbi.cell (p := ⟨g, o + i, none⟩) hg).trans (HC.out i hia)
                      obtain ⟨b, hb⟩ : ∃ b, b = (a :: r2)[i] := ⟨_, rfl⟩
                      rw [← hb] at d1
                      have HBB := Lib.hid hb
                      clear hb hbi
                      by_cases hba : b = a
                      · subst hba
                        have hTK : Hid (∀ z ∈ (b :: r2).take (i + 1), z = b) := Lib.hid (fun z hz => by
                          rw [List.take_succ_eq_append_getElem hia] at hz
                          rcases List.mem_append.1 hz with h | h
                          · exact HSA.out z h
                          · rw [List.mem_singleton.1 h]; exact HBB.out.symm)
                        go_wp2
                        go_quiet (fail)
                        go_wp2
                        go_roundw
                        case rel => exact ⟨i + 1, by omega, by go_num, hTK.out, below_drewN HBI.out _⟩
                        case measure => simp [intOf]; omega
                      · have HN : Hid (framV R = .tuple #[.int .i64 0, .int .i64 0, .int .i64 240]) := Lib.hid (by
                          rw [HE.out, HL.out, if_neg (show ¬ (a.data.toList.all isDigit = true ∧ ∀ b ∈ r2, b = a) from ?_)]
                          · rfl
                          · rintro ⟨_, h⟩
                            have hm : b ∈ a :: r2 := by rw [HBB.out]; exact List.getElem_mem _
                            rcases List.mem_cons.1 hm with e | e
                            · exact hba e
                            · exact hba (h b e))
                        have q1 : (b.toList == a.toList) = false := by
                          rw [ByteArray.toList_eq, ByteArray.toList_eq, beq_eq_false_iff_ne]; intro e; exact hba (by cases b; cases a; simp_all)
                        clear hba
                        go_wp2
                        go_quiet (fail)
                        go_wp2
                        go_ret3
                        exact ⟨by rw [HN.out]; rfl, HBF.out.trans (below_drewN HBI.out _ |>.mono HBF.out.size)⟩
                    · have hall0 : ∀ b ∈ r2, b = a := fun b hb => HSA.out b (by rw [List.take_of_length_le (by rw [← HNA.out]; omega)]; exact List.mem_cons_of_mem _ hb)
                      have HL2 : Hid (lengthP (a :: r2) = if a.data.toList.all isDigit = true then some (numP a.data.toList) else none) := Lib.hid (by
                        rw [HL.out]
                        by_cases hd : a.data.toList.all isDigit = true
                        · rw [if_pos ⟨hd, hall0⟩, if_pos hd]
                        · rw [if_neg (fun h => hd h.1), if_neg hd])
                      clear hall0 HSA hbi
                      go_wp2
                      go_loop [14, 16] (fun x i => ∃ k : Nat, k ≤ a.size ∧ i = .int .i64 k ∧ x = .int .i64 (numP (a.data.toList.take k) : Nat) ∧ (a.data.toList.take k).all isDigit = true) (fun _ i => a.size - (intOf i).toNat)
                      case atStart => exact ⟨0, Nat.zero_le _, rfl, rfl, rfl⟩
                      case round =>
                        obtain ⟨k, hk, rfl, hx, hall⟩ := hrel
                        have hlt0 := numP_lt a k hk hall
                        have hpw : 10 ^ k ≤ 10 ^ 15 := Nat.pow_le_pow_right (by omega) (by omega)
                        have hNb : numP (a.data.toList.take k) < 1000000000000000 := by omega
                        clear hlt0 hpw
                        have HST := Lib.hid (fun h => numF_take (s := a) (k := k) h)
                        have HFU : Hid (k = a.size → numP a.data.toList = numP (a.data.toList.take k)) := Lib.hid (fun e => by rw [List.take_of_length_le (by rw [size_data]; omega)])
                        obtain ⟨N, hN⟩ : ∃ N, N = numP (a.data.toList.take k) := ⟨_, rfl⟩
                        rw [← hN] at hx hNb HST HFU
                        subst hx
                        clear hN
                        by_cases hlt : k < a.size
                        · have HT := Lib.hid (all_take_step (p := isDigit) hlt)
                          have HI := Lib.hid (dig_eq a[k])
                          have hx := UInt8.toNat_lt a[k]
                          have HAL := Lib.hid hall
                          have HS3 := Lib.hid (HST.out hlt)
                          clear hall
                          by_cases hd : 48 ≤ a[k].toNat ∧ a[k].toNat ≤ 57
                          · have HY : Hid (isDigit a[k] = true) := Lib.hid (by rw [HI.out]; simp [hd])
                            obtain ⟨hd1, hd2⟩ := hd
                            go_wp2
                            go_round
                            case rel => exact ⟨k + 1, by omega, by go_num, by rw [HS3.out]; go_num, by rw [HT.out, HAL.out, HY.out]; rfl⟩
                            case measure => simp [intOf]; omega
                          · have HN : Hid (framV R = .tuple #[.int .i64 0, .int .i64 0, .int .i64 240]) := Lib.hid (by
                              rw [HE.out, HL2.out, if_neg (show ¬ a.data.toList.all isDigit = true from fun e => by rw [all_take_no hlt (by rw [HI.out]; simp; omega)] at e; cases e)]
                              rfl)
                            by_cases hd1 : a[k].toNat < 48
                            · go_wp2
                              go_ret3
                              exact ⟨by rw [HN.out]; rfl, HBF.out.trans (HBI.out.mono HBF.out.size)⟩
                            · have hd2 : 57 < a[k].toNat := by omega
                              clear hd
                              go_wp2
                              go_ret3
                              exact ⟨by rw [HN.out]; rfl, HBF.out.trans (HBI.out.mono HBF.out.size)⟩
                        · have HP : Hid (a.data.toList.all isDigit = true) := Lib.hid (by rw [← hall, List.take_of_length_le (by rw [size_data]; omega)])
                          have HNV := Lib.hid (HFU.out (by omega))
                          have HN : Hid (framV R = .tuple #[.int .i64 1, .int .i64 (N : Int), .int .i64 0]) := Lib.hid (by
                            rw [HE.out, HL2.out, if_pos HP.out, HNV.out]
                            rfl)
                          clear hall
                          go_wp2
                          go_ret3
                          exact ⟨by rw [HN.out]; rfl, HBF.out.trans (HBI.out.mono HBF.out.size)⟩
          | cons x r =>
            have HE := Lib.hid (HRC.out (by simp))
            have hl0 : 0 < (x :: r).length := by simp
            obtain ⟨nC, hnC⟩ : ∃ nC, nC = (x :: r).length := ⟨_, rfl⟩
            rw [← hnC] at hCl hl0 HDC5 ⊢
            clear HRC HRL HRN hnC HLL q0z q5z
            go_upto_region 15 with (first
              | (go_at_call 103; (refine (HLC.out A4 nC c4 _ HDC5.out (by omega)).mono ?_; rintro _ w6 ⟨v6, rfl, hrow6, hb6⟩; obtain ⟨A6, c6, rfl, _, _, _, rd6⟩ := hrow6.form; have HD6 := Lib.hid rd6; have HB6 := Lib.hid hb6; clear hrow6 hb6 rd6))
              | fail)
            have HBF := Lib.hid (HBW.out.trans (HB6.out.mono HBW.out.size))
            have q5z := (HVZ.out.below_all HB6.out).cell (j := 5) rfl
            clear HLC
            by_cases h1 : mn = 1
            · subst h1
              cases L with
              | nil =>
                cases LC with
                | nil =>
                  have HE2 : Hid (R = (0, 0, 240)) := Lib.hid (by rw [HE.out, HCD.out]; rfl)
                  clear HE HCD
                  go_wp2
                  go_ret3
                  exact ⟨by rw [HE2.out]; rfl, HBF.out⟩
                | cons y s =>
                  cases s with
                  | nil =>
                    obtain ⟨g, o, rfl, hg, hc⟩ := HD6.out.2 (by simp)
                    have c0 := hc 0 (.string y) rfl
                    rw [Nat.add_zero] at c0
                    have HFO := Lib.hid (fun W => rFold_any y W (HZC.out y (by simp)))
                    obtain ⟨F, hF⟩ : ∃ F : ByteArray, F = ⟨(fold y.data.toList).toArray⟩ := ⟨_, rfl⟩
                    rw [← hF] at HFO
                    have hCE : CD = (F.data.toList == bChunked) := by rw [HCD.out, hF]; simp [fd]
                    by_cases hf : F = ⟨#[99, 104, 117, 110, 107, 101, 100]⟩
                    · have HE2 : Hid (R = (2, 0, 0)) := Lib.hid (by rw [HE.out, hCE, hf]; rfl)
                      clear HE HCD hCE hF hc
                      subst hf
                      go_wp2_with (first
                        | (go_at_call 104; refine (HFO.out _).mono ?_; rintro _ w7 ⟨rfl, hb7⟩)
                        | fail)
                      go_ret3
                      exact ⟨by rw [HE2.out]; rfl, HBF.out.trans (hb7.mono HBF.out.size)⟩
                    · have HE2 : Hid (R = (0, 0, 240)) := Lib.hid (by rw [HE.out, hCE, show (F.data.toList == bChunked) = false from by rw [beq_eq_false_iff_ne]; exact fun e => hf (byte_ext.2 e)]; rfl)
                      have b4 := toList_ne hf
                      clear HE HCD hCE hF hf hc
                      go_wp2_with (first
                        | (go_at_call 104; refine (HFO.out _).mono ?_; rintro _ w7 ⟨rfl, hb7⟩)
                        | fail)
                      go_ret3
                      exact ⟨by rw [HE2.out]; rfl, HBF.out.trans (hb7.mono HBF.out.size)⟩
                  | cons z s =>
                    have HE2 : Hid (R = (0, 0, 240)) := Lib.hid (by rw [HE.out, HCD.out]; simp)
                    obtain ⟨nY, hnY⟩ : ∃ nY, nY = (y :: z :: s).length := ⟨_, rfl⟩
                    have hl2 : ((nY : Int) == 1) = false := by rw [beq_eq_false_iff_ne, hnY]; simp; omega
                    rw [← hnY]
                    clear HE HCD hnY
                    go_wp2
                    go_ret3
                    exact ⟨by rw [HE2.out]; rfl, HBF.out⟩
              | cons y s =>
                have HE2 : Hid (R = (0, 0, 240)) := Lib.hid (by rw [HE.out, HCD.out]; rfl)
                obtain ⟨nY, hnY⟩ : ∃ nY, nY = (y :: s).length := ⟨_, rfl⟩
                have hl1 : ((nY : Int) == 0) = false := by rw [beq_eq_false_iff_ne, hnY]; simp; omega
                rw [← hnY] at hLl ⊢
                clear HE HCD hnY
                go_wp2
                go_ret3
                exact ⟨by rw [HE2.out]; rfl, HBF.out⟩
            · have HE2 : Hid (R = (0, 0, 240)) := Lib.hid (by rw [HE.out, HCD.out, decide_eq_false h1]; rfl)
              have q1 : (mn == 1) = false := by simpa using h1
              clear HE HCD h1
              go_wp2
              go_ret3
              exact ⟨by rw [HE2.out]; rfl, HBF.out⟩
        · have hia : (authP v.data.toList).isSome = true := by
            have h : (v.data.toList.isEmpty || (authP v.data.toList).isSome) = true := hho
            rw [Bool.or_eq_true] at h
            rcases h with h | h
            · exact absurd (byte_ext.2 (List.isEmpty_iff.1 h)) hv0
            · exact h
          have b6 := toList_ne hv0
          have HAU := Lib.hid (fun W => qauth_any v W (HHZ.out v (by simp)))
          unfold authV at HAU
          rw [hia] at HAU
          clear hho hv0 hia
          go_upto_region 11 with (first
            | (go_at_call 102; go_must (refine (HAU.out _).mono ?_; rintro _ w3 ⟨rfl, hb3⟩; have HB3 := Lib.hid hb3; clear hb3))
            | fail)
          have hBx := HB2.out.trans (HB3.out.mono HB2.out.size)
          have HVX := Lib.hid (HV1.out.below_all hBx)
          have HBX := Lib.hid hBx
          have hzx := hBx.size
          have hrgx := HVX.out.range
          obtain ⟨wx, rfl⟩ : ∃ wx : World, wx = w3 := ⟨_, rfl⟩
          go_upto_region 12 with (first
            | (refine wpList_load_mid rfl 52 (.tmp 2) rfl w.heap.size 0 rfl [.bool true, .string m, .string t, .int .i64 st, .string rs, .int .i64 mn, .slice A n c] _ hrgx Tryz.underlying52 rfl (by kernel_rfl) ?_)
            | (go_at_call 101; go_must (refine (HVC.out _ ((HR1.out.below HBX.out).more hzx)).mono ?_; rintro _ w4 ⟨v4, rfl, hrow4, hb4⟩; obtain ⟨A4, c4, rfl, _, _, _, rdC⟩ := hrow4.form; have HB4 := Lib.hid hb4; have HDC := Lib.hid rdC; clear hrow4 rdC hb4))
            | fail)
          have HVY := Lib.hid (HVX.out.below_all HB4.out)
          have hrgy := HVY.out.range
          have HB14 := Lib.hid (HBX.out.trans (HB4.out.mono hzx))
          go_upto_region 13 with (first
            | (refine wpList_load_mid rfl 52 (.tmp 2) rfl w.heap.size 0 rfl [.bool true, .string m, .string t, .int .i64 st, .string rs, .int .i64 mn, .slice A n c] _ hrgy Tryz.underlying52 rfl (by kernel_rfl) ?_)
            | (go_at_call 101; go_must (refine (HVL.out _ ((HR1.out.below HB14.out).more HB14.out.size)).mono ?_; rintro _ w5 ⟨v5, rfl, hrow5, hb5⟩; obtain ⟨A5, c5, rfl, _, _, _, rdL⟩ := hrow5.form; have HB5 := Lib.hid hb5; have HDL := Lib.hid rdL; clear hrow5 rdL hb5))
            | fail)
          have HVZ := Lib.hid (HVY.out.below_all HB5.out)
          have q0z := HVZ.out.cell (j := 0) rfl
          have q5z := HVZ.out.cell (j := 5) rfl
          have HB15 := Lib.hid (HB14.out.trans (HB5.out.mono HB14.out.size))
          have HBW := Lib.hid (HB1.out.trans (HB15.out.mono hzw))
          have HDC5 := Lib.hid (HDC.out.keeps HB5.out)
          clear q0 q3 hrg hrgx hrgy hBx hzx HVC HVL HVH HBX HB4 HB5 HDC HB14 HVX HVY HH1 HS2 HHH HMH HHZ
          cases C with
          | nil =>
            cases L with
            | nil =>
              have HE := Lib.hid (HRN.out rfl rfl)
              clear HRC HRL HRN HCD HLC HLL
              go_wp2
              go_ret3
              exact ⟨by rw [HE.out]; rfl, HBW.out⟩
            | cons x r =>
              have HE := Lib.hid (HRL.out rfl (by simp))
              have hl0 : 0 < (x :: r).length := by simp
              obtain ⟨nL, hnL⟩ : ∃ nL, nL = (x :: r).length := ⟨_, rfl⟩
              rw [← hnL] at hLl hl0 HDL ⊢
              clear HRC HRL HRN HCD HLC hnL
              go_upto_region 20 with (first
                | (go_at_call 103; (refine (HLL.out A5 nL c5 _ HDL.out (by omega)).mono ?_; rintro _ w6 ⟨v6, rfl, hrow6, hb6⟩; obtain ⟨A6, c6, rfl, _, _, _, rd6⟩ := hrow6.form; have HD6 := Lib.hid rd6; have HB6 := Lib.hid hb6; clear hrow6 hb6 rd6))
                | fail)
              have HBF := Lib.hid (HBW.out.trans (HB6.out.mono HBW.out.size))
              clear HLL
              cases LL with
              | nil =>
                have HE2 : Hid (framV R = .tuple #[.int .i64 0, .int .i64 0, .int .i64 240]) := Lib.hid HE.out
                go_wp2
                go_ret3
                exact ⟨by rw [HE2.out]; rfl, HBF.out⟩
              | cons a r2 =>
                obtain ⟨g, o, rfl, hg, hc⟩ := HD6.out.2 (by simp)
                have c0 := hc 0 (.string a) rfl
                rw [Nat.add_zero] at c0
                have HC := Lib.hid (fun (k : Nat) (h : k < (a :: r2).length) => hc k (.string (a :: r2)[k]) (by unfold strsV; rw [List.getElem?_map, List.getElem?_eq_getElem h]; rfl))
                have haz : a.size ≤ 16777216 := by have := hc 0; exact HZL.out a (by simp)
                obtain ⟨nA, hnA⟩ : ∃ nA, nA = (a :: r2).length := ⟨_, rfl⟩
                have hnA0 : 0 < nA := by rw [hnA]; simp
                have hnb : ((nA : Int) == 0) = false := by rw [beq_eq_false_iff_ne]; omega
                rw [← hnA] at hlL ⊢
                have HNA := Lib.hid hnA
                clear hc hnA
                by_cases h15 : 15 < a.size
                · have HN : Hid (framV R = .tuple #[.int .i64 0, .int .i64 0, .int .i64 240]) := Lib.hid (by rw [HE.out, lengthP_cons, if_pos h15]; rfl)
                  go_wp2
                  go_ret3
                  exact ⟨by rw [HN.out]; rfl, HBF.out⟩
                · have HL : Hid (lengthP (a :: r2) = if a.data.toList.all isDigit = true ∧ (∀ b ∈ r2, b = a) then some (numP a.data.toList) else none) := Lib.hid (len_same h15)
                  go_wp2
                  go_loopw [15] (fun vi wr => ∃ i : Nat, i ≤ nA ∧ vi = .int .i64 i ∧ (∀ b ∈ (a :: r2).take i, b = a) ∧ Below w6.heap.size w6 wr) (fun vi _ => nA - (intOf vi).toNat)
                  case atStart => exact ⟨0, Nat.zero_le _, rfl, by simp, Below.refl _ _⟩
                  case round =>
                    obtain ⟨i, hi, rfl, hsame, hbi⟩ := hrel
                    obtain ⟨wi, rfl⟩ : ∃ wi : World, wi = wr := ⟨_, rfl⟩
                    have HSA := Lib.hid hsame
                    have HBI := Lib.hid hbi
                    have d0 : wi.cell? ⟨g, o, none⟩ = some (.string a) := (hbi.cell (p := ⟨g, o, none⟩) hg).trans c0
                    clear hsame
                    by_cases hit : i < nA
                    · have hia : i < (a :: r2).length := by rw [← HNA.out]; exact hit
                      have d1 : wi.cell? ⟨g, o + i, none⟩ = some (.string (a :: r2)[i]) := (hbi.cell (p := ⟨g, o + i, none⟩) hg).trans (HC.out i hia)
                      obtain ⟨b, hb⟩ : ∃ b, b = (a :: r2)[i] := ⟨_, rfl⟩
                      rw [← hb] at d1
                      have HBB := Lib.hid hb
                      clear hb hbi
                      by_cases hba : b = a
                      · subst hba
                        have hTK : Hid (∀ z ∈ (b :: r2).take (i + 1), z = b) := Lib.hid (fun z hz => by
                          rw [List.take_succ_eq_append_getElem hia] at hz
                          rcases List.mem_append.1 hz with h | h
                          · exact HSA.out z h
                          · rw [List.mem_singleton.1 h]; exact HBB.out.symm)
                        go_wp2
                        go_quiet (fail)
                        go_wp2
                        go_roundw
                        case rel => exact ⟨i + 1, by omega, by go_num, hTK.out, below_drewN HBI.out _⟩
                        case measure => simp [intOf]; omega
                      · have HN : Hid (framV R = .tuple #[.int .i64 0, .int .i64 0, .int .i64 240]) := Lib.hid (by
                          rw [HE.out, HL.out, if_neg (show ¬ (a.data.toList.all isDigit = true ∧ ∀ b ∈ r2, b = a) from ?_)]
                          · rfl
                          · rintro ⟨_, h⟩
                            have hm : b ∈ a :: r2 := by rw [HBB.out]; exact List.getElem_mem _
                            rcases List.mem_cons.1 hm with e | e
                            · exact hba e
                            · exact hba (h b e))
                        have q1 : (b.toList == a.toList) = false := by
                          rw [ByteArray.toList_eq, ByteArray.toList_eq, beq_eq_false_iff_ne]; intro e; exact hba (by cases b; cases a; simp_all)
                        clear hba
                        go_wp2
                        go_quiet (fail)
                        go_wp2
                        go_ret3
                        exact ⟨by rw [HN.out]; rfl, HBF.out.trans (below_drewN HBI.out _ |>.mono HBF.out.size)⟩
                    · have hall0 : ∀ b ∈ r2, b = a := fun b hb => HSA.out b (by rw [List.take_of_length_le (by rw [← HNA.out]; omega)]; exact List.mem_cons_of_mem _ hb)
                      have HL2 : Hid (lengthP (a :: r2) = if a.data.toList.all isDigit = true then some (numP a.data.toList) else none) := Lib.hid (by
                        rw [HL.out]
                        by_cases hd : a.data.toList.all isDigit = true
                        · rw [if_pos ⟨hd, hall0⟩, if_pos hd]
                        · rw [if_neg (fun h => hd h.1), if_neg hd])
                      clear hall0 HSA hbi
                      go_wp2
                      go_loop [14, 16] (fun x i => ∃ k : Nat, k ≤ a.size ∧ i = .int .i64 k ∧ x = .int .i64 (numP (a.data.toList.take k) : Nat) ∧ (a.data.toList.take k).all isDigit = true) (fun _ i => a.size - (intOf i).toNat)
                      case atStart => exact ⟨0, Nat.zero_le _, rfl, rfl, rfl⟩
                      case round =>
                        obtain ⟨k, hk, rfl, hx, hall⟩ := hrel
                        have hlt0 := numP_lt a k hk hall
                        have hpw : 10 ^ k ≤ 10 ^ 15 := Nat.pow_le_pow_right (by omega) (by omega)
                        have hNb : numP (a.data.toList.take k) < 1000000000000000 := by omega
                        clear hlt0 hpw
                        have HST := Lib.hid (fun h => numF_take (s := a) (k := k) h)
                        have HFU : Hid (k = a.size → numP a.data.toList = numP (a.data.toList.take k)) := Lib.hid (fun e => by rw [List.take_of_length_le (by rw [size_data]; omega)])
                        obtain ⟨N, hN⟩ : ∃ N, N = numP (a.data.toList.take k) := ⟨_, rfl⟩
                        rw [← hN] at hx hNb HST HFU
                        subst hx
                        clear hN
                        by_cases hlt : k < a.size
                        · have HT := Lib.hid (all_take_step (p := isDigit) hlt)
                          have HI := Lib.hid (dig_eq a[k])
                          have hx := UInt8.toNat_lt a[k]
                          have HAL := Lib.hid hall
                          have HS3 := Lib.hid (HST.out hlt)
                          clear hall
                          by_cases hd : 48 ≤ a[k].toNat ∧ a[k].toNat ≤ 57
                          · have HY : Hid (isDigit a[k] = true) := Lib.hid (by rw [HI.out]; simp [hd])
                            obtain ⟨hd1, hd2⟩ := hd
                            go_wp2
                            go_round
                            case rel => exact ⟨k + 1, by omega, by go_num, by rw [HS3.out]; go_num, by rw [HT.out, HAL.out, HY.out]; rfl⟩
                            case measure => simp [intOf]; omega
                          · have HN : Hid (framV R = .tuple #[.int .i64 0, .int .i64 0, .int .i64 240]) := Lib.hid (by
                              rw [HE.out, HL2.out, if_neg (show ¬ a.data.toList.all isDigit = true from fun e => by rw [all_take_no hlt (by rw [HI.out]; simp; omega)] at e; cases e)]
                              rfl)
                            by_cases hd1 : a[k].toNat < 48
                            · go_wp2
                              go_ret3
                              exact ⟨by rw [HN.out]; rfl, HBF.out.trans (HBI.out.mono HBF.out.size)⟩
                            · have hd2 : 57 < a[k].toNat := by omega
                              clear hd
                              go_wp2
                              go_ret3
                              exact ⟨by rw [HN.out]; rfl, HBF.out.trans (HBI.out.mono HBF.out.size)⟩
                        · have HP : Hid (a.data.toList.all isDigit = true) := Lib.hid (by rw [← hall, List.take_of_length_le (by rw [size_data]; omega)])
                          have HNV := Lib.hid (HFU.out (by omega))
                          have HN : Hid (framV R = .tuple #[.int .i64 1, .int .i64 (N : Int), .int .i64 0]) := Lib.hid (by
                            rw [HE.out, HL2.out, if_pos HP.out, HNV.out]
                            rfl)
                          clear hall
                          go_wp2
                          go_ret3
                          exact ⟨by rw [HN.out]; rfl, HBF.out.trans (HBI.out.mono HBF.out.size)⟩
          | cons x r =>
            have HE := Lib.hid (HRC.out (by simp))
            have hl0 : 0 < (x :: r).length := by simp
            obtain ⟨nC, hnC⟩ : ∃ nC, nC = (x :: r).length := ⟨_, rfl⟩
            rw [← hnC] at hCl hl0 HDC5 ⊢
            clear HRC HRL HRN hnC HLL q0z q5z
            go_upto_region 15 with (first
              | (go_at_call 103; (refine (HLC.out A4 nC c4 _ HDC5.out (by omega)).mono ?_; rintro _ w6 ⟨v6, rfl, hrow6, hb6⟩; obtain ⟨A6, c6, rfl, _, _, _, rd6⟩ := hrow6.form; have HD6 := Lib.hid rd6; have HB6 := Lib.hid hb6; clear hrow6 hb6 rd6))
              | fail)
            have HBF := Lib.hid (HBW.out.trans (HB6.out.mono HBW.out.size))
            have q5z := (HVZ.out.below_all HB6.out).cell (j := 5) rfl
            clear HLC
            by_cases h1 : mn = 1
            · subst h1
              cases L with
              | nil =>
                cases LC with
                | nil =>
                  have HE2 : Hid (R = (0, 0, 240)) := Lib.hid (by rw [HE.out, HCD.out]; rfl)
                  clear HE HCD
                  go_wp2
                  go_ret3
                  exact ⟨by rw [HE2.out]; rfl, HBF.out⟩
                | cons y s =>
                  cases s with
                  | nil =>
                    obtain ⟨g, o, rfl, hg, hc⟩ := HD6.out.2 (by simp)
                    have c0 := hc 0 (.string y) rfl
                    rw [Nat.add_zero] at c0
                    have HFO := Lib.hid (fun W => rFold_any y W (HZC.out y (by simp)))
                    obtain ⟨F, hF⟩ : ∃ F : ByteArray, F = ⟨(fold y.data.toList).toArray⟩ := ⟨_, rfl⟩
                    rw [← hF] at HFO
                    have hCE : CD = (F.data.toList == bChunked) := by rw [HCD.out, hF]; simp [fd]
                    by_cases hf : F = ⟨#[99, 104, 117, 110, 107, 101, 100]⟩
                    · have HE2 : Hid (R = (2, 0, 0)) := Lib.hid (by rw [HE.out, hCE, hf]; rfl)
                      clear HE HCD hCE hF hc
                      subst hf
                      go_wp2_with (first
                        | (go_at_call 104; refine (HFO.out _).mono ?_; rintro _ w7 ⟨rfl, hb7⟩)
                        | fail)
                      go_ret3
                      exact ⟨by rw [HE2.out]; rfl, HBF.out.trans (hb7.mono HBF.out.size)⟩
                    · have HE2 : Hid (R = (0, 0, 240)) := Lib.hid (by rw [HE.out, hCE, show (F.data.toList == bChunked) = false from by rw [beq_eq_false_iff_ne]; exact fun e => hf (byte_ext.2 e)]; rfl)
                      have b4 := toList_ne hf
                      clear HE HCD hCE hF hf hc
                      go_wp2_with (first
                        | (go_at_call 104; refine (HFO.out _).mono ?_; rintro _ w7 ⟨rfl, hb7⟩)
                        | fail)
                      go_ret3
                      exact ⟨by rw [HE2.out]; rfl, HBF.out.trans (hb7.mono HBF.out.size)⟩
                  | cons z s =>
                    have HE2 : Hid (R = (0, 0, 240)) := Lib.hid (by rw [HE.out, HCD.out]; simp)
                    obtain ⟨nY, hnY⟩ : ∃ nY, nY = (y :: z :: s).length := ⟨_, rfl⟩
                    have hl2 : ((nY : Int) == 1) = false := by rw [beq_eq_false_iff_ne, hnY]; simp; omega
                    rw [← hnY]
                    clear HE HCD hnY
                    go_wp2
                    go_ret3
                    exact ⟨by rw [HE2.out]; rfl, HBF.out⟩
              | cons y s =>
                have HE2 : Hid (R = (0, 0, 240)) := Lib.hid (by rw [HE.out, HCD.out]; rfl)
                obtain ⟨nY, hnY⟩ : ∃ nY, nY = (y :: s).length := ⟨_, rfl⟩
                have hl1 : ((nY : Int) == 0) = false := by rw [beq_eq_false_iff_ne, hnY]; simp; omega
                rw [← hnY] at hLl ⊢
                clear HE HCD hnY
                go_wp2
                go_ret3
                exact ⟨by rw [HE2.out]; rfl, HBF.out⟩
            · have HE2 : Hid (R = (0, 0, 240)) := Lib.hid (by rw [HE.out, HCD.out, decide_eq_false h1]; rfl)
              have q1 : (mn == 1) = false := by simpa using h1
              clear HE HCD h1
              go_wp2
              go_ret3
              exact ⟨by rw [HE2.out]; rfl, HBF.out⟩
      | cons v2 r => cases hho
end Go.Proofs.YtklmpadcfioefaaGreatDoor
