/- stream.hosted, number, Framing. Conditions: sizes, the world's shape. -/
import Derived.Test.YtklmpadcfioefaaGreatDoorSAuth
import Derived.Test.YtklmpadcfioefaaGreatDoorMA
import Derived.Test.YtklmpadcfioefaaGreatDoorMB
namespace Go.Proofs.YtklmpadcfioefaaGreatDoor
open Go.RowKit

theorem strs_at {w : World} {B n : Nat} {A : Option Addr} {V : List ByteArray} (h : Rd w B 1 A n (strsV V)) : V.length = n := by
  have := h.1; rw [strsV_len] at this; omega
/-- the first text of a list -/
theorem strs_first {w : World} {B n : Nat} {A : Option Addr} {x : ByteArray} {V : List ByteArray} (h : Rd w B 1 A n (strsV (x :: V))) : ∃ g o, A = some ⟨g, o, none⟩ ∧ g < B ∧ w.cell? ⟨g, o, none⟩ = some (.string x) := by
  have hl := strs_at h
  simp only [List.length_cons] at hl
  obtain ⟨g, o, e, hg, hc⟩ := h.2 (by omega)
  exact ⟨g, o, e, hg, hc 0 _ rfl⟩
theorem strsV_get2 {l : List ByteArray} {j : Nat} (h : j < l.length) : (strsV l)[j]? = some (.string l[j]) := by simp [strsV, h]
theorem vals_mem {fs : List Fl} {name v : ByteArray} (h : v ∈ vals fs name) : v.size ≤ flSize fs := by
  unfold vals at h
  obtain ⟨f, hf, rfl⟩ := List.mem_map.1 h
  have hm := (List.mem_filter.1 hf).1
  clear h hf
  induction fs with
  | nil => cases hm
  | cons g fs ih =>
    unfold flSize at ih ⊢
    rw [List.map_cons, List.sum_cons]
    rcases List.mem_cons.1 hm with rfl | hm
    · omega
    · have := ih hm; omega
set_option maxHeartbeats 4000000 in
set_option maxRecDepth 100000 in
theorem shosted_any (rq : Bool) (m t : ByteArray) (st : Int) (rs : ByteArray) (mn : Int) (A : Option Addr) (n c : Nat) (fs : List Fl) (w : World) (hsh : w.ShapedOpen Tryz.prog) (hrd : Rd w w.heap.size 2 A n (fieldsV fs))
    (hn : n ≤ 16777216) (hfs : ∀ f ∈ fs, f.1.size ≤ 16777216) (hfz : flSize fs ≤ 16777216) :
    Calls Tryz.prog 66 #[headV rq m t st rs mn (.slice A n c)] w fun e w' => e = .returned (.bool (hostedP mn fs)) ∧ Below w.heap.size w w' := by
  have B1 : Below w.heap.size w (w.alloc (.cells #[.bool rq, .string m, .string t, .int .i64 st, .string rs, .int .i64 mn, .slice A n c] 52)) := (Below.refl _ _).alloc (Nat.le_refl _) _
  have r1 := (hrd.below B1).more B1.size
  have HV1 := Lib.hid (Var.new w 52 [.bool rq, .string m, .string t, .int .i64 st, .string rs, .int .i64 mn, .slice A n c])
  have HB1 := Lib.hid B1
  have HS := Lib.hid hsh
  have hmem := fun v (h : v ∈ vals fs sHost) => vals_mem (name := sHost) h
  have HVA := Lib.hid (hValues_any rq m t st rs mn A n c fs ⟨#[72, 111, 115, 116]⟩ _ r1 hn (by decide) hfs)
  obtain ⟨V, hV⟩ : ∃ V, V = vals fs sHost := ⟨_, rfl⟩
  rw [show vals fs ⟨#[72, 111, 115, 116]⟩ = V from hV.symm] at HVA
  have hP : hostedP mn fs = hostedL mn V := by unfold hostedP; rw [← hV]
  rw [← hV] at hmem
  rw [hP]
  obtain ⟨R, hR⟩ : ∃ R, R = hostedL mn V := ⟨_, rfl⟩
  rw [← hR]
  have HR := Lib.hid hR
  unfold headV at HVA ⊢
  clear hP hV hR hrd B1 r1 hsh hfs
  go_enter Tryz.func66, Tryz.ntmps66
  go_upto_region 2 with (first
    | (refine wpList_load_mid rfl 52 (.tmp 1) rfl w.heap.size 0 rfl [.bool rq, .string m, .string t, .int .i64 st, .string rs, .int .i64 mn, .slice A n c] _ HV1.out.range Tryz.underlying52 rfl (by kernel_rfl) ?_)
    | (go_at_call 27; (refine HVA.out.mono ?_; rintro _ w2 ⟨v2, rfl, hrow2, hb2⟩))
    | fail)
  obtain ⟨A2, c2, rfl, _, _, hA2, rd2⟩ := hrow2.form
  have HB2 := Lib.hid (HB1.out.trans (hb2.mono HB1.out.size))
  have HV2 := Lib.hid (HV1.out.below_all hb2)
  have HS2 := Lib.hid (shaped_below HS.out HB2.out)
  clear hrow2 hb2 hA2
  match V, hmem, rd2, HR with
  | [], _, _, HR =>
    have a5 := HV2.out.cell (j := 5) rfl
    by_cases h1 : mn = 1
    · subst h1
      go_wp2
      go_ret
      exact ⟨by rw [HR.out, show hostedL 1 [] = false from by decide]; rfl, HB2.out⟩
    · have HL : Hid (hostedL mn [] = true) := Lib.hid (by unfold hostedL; simp [h1])
      have q1 : (mn == 1) = false := by simpa using h1
      go_wp2
      go_ret
      exact ⟨by rw [HR.out, HL.out]; rfl, HB2.out⟩
  | [v], hmem, rd2, HR =>
    obtain ⟨g, o, rfl, _, c0⟩ := strs_first rd2
    have hvz : v.size ≤ 16777216 := by have := hmem v (by simp); omega
    have HAU := Lib.hid (fun W h => sauth_any v W h hvz)
    unfold authV at HAU
    obtain ⟨U, hU⟩ : ∃ U, U = authP v.data.toList := ⟨_, rfl⟩
    obtain ⟨b, hb⟩ : ∃ b, b = U.isSome := ⟨_, rfl⟩
    obtain ⟨x, hx⟩ : ∃ x : ByteArray, x = ⟨(U.getD []).toArray⟩ := ⟨_, rfl⟩
    rw [← hU, ← hb, ← hx] at HAU
    have hL : hostedL mn [v] = (v.data.toList.isEmpty || b) := by rw [hb, hU]; rfl
    have HL := Lib.hid hL
    clear hU hb hx hL rd2 hmem
    by_cases h0 : v = ⟨#[]⟩
    · subst h0
      go_wp2
      go_ret
      exact ⟨by rw [HR.out, HL.out]; rfl, HB2.out⟩
    · have b0 := toList_ne (l := []) h0
      have e0 : v.data.toList.isEmpty = false := by
        cases hv : v.data.toList with
        | nil => exact absurd (byte_ext.2 hv) h0
        | cons _ _ => rfl
      have HE0 := Lib.hid e0
      clear h0 e0
      go_wp2_with (first
        | (go_at_call 110; (refine (HAU.out _ HS2.out).mono ?_; rintro _ w3 ⟨rfl, hb3⟩))
        | fail)
      go_ret
      exact ⟨by rw [HR.out, HL.out, HE0.out]; rfl, HB2.out.trans (hb3.mono HB2.out.size)⟩
  | v :: u :: r, hmem, rd2, HR =>
    have hl : 1 < (v :: u :: r).length := by simp
    obtain ⟨L, hL⟩ : ∃ L, L = (v :: u :: r).length := ⟨_, rfl⟩
    rw [← hL] at hl ⊢
    have HL : Hid (hostedL mn (v :: u :: r) = false) := Lib.hid rfl
    clear hL rd2 hmem
    go_wp2
    go_ret
    exact ⟨by rw [HR.out, HL.out]; rfl, HB2.out⟩

theorem numF_take {s : ByteArray} {k : Nat} (h : k < s.size) : numP (s.data.toList.take (k + 1)) = 10 * numP (s.data.toList.take k) + (s[k].toNat - 48) := by
  rw [take_succ_data s k h, numF_snoc]
theorem numP_lt (s : ByteArray) : ∀ k : Nat, k ≤ s.size → (s.data.toList.take k).all isDigit = true → numP (s.data.toList.take k) < 10 ^ k
  | 0, _, _ => by rw [List.take_zero]; decide
  | k + 1, hk, h => by
    rw [all_take_step (by omega), Bool.and_eq_true] at h
    have ih := numP_lt s k (by omega) h.1
    have hd := h.2
    rw [dig_eq, decide_eq_true_eq] at hd
    rw [numF_take (by omega), Nat.pow_succ]
    omega
def numV (vs : List ByteArray) : Value := .tuple #[.int .i64 (((lengthP vs).getD 0 : Nat) : Int), .bool (lengthP vs).isSome]
theorem numV_no {vs : List ByteArray} (h : lengthP vs = none) : numV vs = .tuple #[.int .i64 0, .bool false] := by unfold numV; rw [h]; rfl
set_option maxHeartbeats 4000000 in
set_option maxRecDepth 100000 in
theorem snumber_any (A : Option Addr) (n c : Nat) (vs : List ByteArray) (w : World) (hrd : Rd w w.heap.size 1 A n (strsV vs)) (hn : n ≤ 16777216) (hvs : ∀ s ∈ vs, s.size ≤ 16777216) :
    Calls Tryz.prog 67 #[.slice A n c] w fun e w' => e = .returned (numV vs) ∧ w = w' := by
  have hlen : vs.length = n := strs_at hrd
  match vs, hrd, hvs, hlen with
  | [], _, _, hlen =>
    obtain rfl : n = 0 := hlen.symm
    go_enter Tryz.func67, Tryz.ntmps67
    go_wp2
    go_ret2
    exact ⟨rfl, rfl⟩
  | a :: r, hrd, hvs, hlen =>
    have HRD := Lib.hid hrd
    have HLEN := Lib.hid hlen
    have haz := hvs a (by simp)
    obtain ⟨g, o, rfl, hg, c0⟩ := strs_first hrd
    have hn0 : 0 < n := by simp at hlen; omega
    have hn0b : ((n : Int) == 0) = false := by simp; omega
    clear hrd hvs hlen
    by_cases h15 : 15 < a.size
    · have HN := Lib.hid (numV_no (vs := a :: r) (by rw [lengthP_cons, if_pos h15]))
      go_enter Tryz.func67, Tryz.ntmps67
      go_wp2
      go_ret2
      exact ⟨by rw [HN.out]; rfl, rfl⟩
    have HL : Hid (lengthP (a :: r) = if a.data.toList.all isDigit = true ∧ (∀ b ∈ r, b = a) then some (numP a.data.toList) else none) := Lib.hid (by rw [lengthP_cons, if_neg h15])
    go_enter Tryz.func67, Tryz.ntmps67
    go_wp2
    go_loop [4, 22] (fun x i => ∃ k : Nat, k ≤ a.size ∧ i = .int .i64 k ∧ x = .int .i64 (numP (a.data.toList.take k) : Nat) ∧ (a.data.toList.take k).all isDigit = true) (fun _ i => a.size - (intOf i).toNat)
    case atStart => exact ⟨0, Nat.zero_le _, rfl, rfl, rfl⟩
    case round =>
      obtain ⟨k, hk, rfl, hx, hall⟩ := hrel
      have hlt0 := numP_lt a k hk hall
      have hpw : 10 ^ k ≤ 10 ^ 15 := Nat.pow_le_pow_right (by omega) (by omega)
      have hNb : numP (a.data.toList.take k) < 1000000000000000 := by omega
      clear hlt0 hpw
      have HST := Lib.hid (fun h => numF_take (s := a) (k := k) h)
      have HFU : Hid (k = a.size → numP a.data.toList = numP (a.data.toList.take k)) := Lib.hid (fun e => by rw [List.take_of_length_le (by rw [size_data]; omega)])
      obtain ⟨N, hN⟩ : ∃ N, N = numP (a.data.toList.take k) := ⟨_, rfl⟩
      rw [← hN] at hx hNb HST HFU
      subst hx
      clear hN
      by_cases hlt : k < a.size
      · have HT := Lib.hid (all_take_step (p := isDigit) hlt)
        have HI := Lib.hid (dig_eq a[k])
        have hx := UInt8.toNat_lt a[k]
        have HAL := Lib.hid hall
        have HS2 := Lib.hid (HST.out hlt)
        clear hall
        by_cases hd : 48 ≤ a[k].toNat ∧ a[k].toNat ≤ 57
        · have HY : Hid (isDigit a[k] = true) := Lib.hid (by rw [HI.out]; simp [hd])
          obtain ⟨hd1, hd2⟩ := hd
          go_wp2
          go_round
          case rel => exact ⟨k + 1, by omega, by go_num, by rw [HS2.out]; go_num, by rw [HT.out, HAL.out, HY.out]; rfl⟩
          case measure => simp [intOf]; omega
        · have HN := Lib.hid (numV_no (vs := a :: r) (by rw [HL.out, if_neg]; rintro ⟨e, _⟩; rw [all_take_no hlt (by rw [HI.out]; simp; omega)] at e; cases e))
          by_cases hd1 : a[k].toNat < 48
          · go_wp2
            go_ret2
            exact ⟨by rw [HN.out]; rfl, rfl⟩
          · have hd2 : 57 < a[k].toNat := by omega
            clear hd
            go_wp2
            go_ret2
            exact ⟨by rw [HN.out]; rfl, rfl⟩
      · have HP : Hid (a.data.toList.all isDigit = true) := Lib.hid (by rw [← hall, List.take_of_length_le (by rw [size_data]; omega)])
        have HNV := Lib.hid (HFU.out (by omega))
        clear hall
        go_wp2
        go_loop [52] (fun i => ∃ k : Nat, k ≤ n ∧ i = .int .i64 k ∧ ∀ b ∈ (a :: r).take k, b = a) (fun i => n - (intOf i).toNat)
        case atStart => exact ⟨0, Nat.zero_le _, rfl, by simp⟩
        case round =>
          obtain ⟨j, hj, rfl, hsame⟩ := hrel
          have HSA := Lib.hid hsame
          clear hsame
          by_cases hjt : j < n
          · obtain ⟨g2, o2, e2, _, hcell⟩ := HRD.out.2 hn0
            injection e2 with e2
            injection e2 with e2 e3 _
            subst e2 e3
            have hjl : j < (a :: r).length := by rw [HLEN.out]; exact hjt
            have cj := hcell j _ (strsV_get2 hjl)
            have HTJ := Lib.hid (List.take_succ_eq_append_getElem hjl)
            obtain ⟨x, hx⟩ : ∃ x, x = (a :: r)[j] := ⟨_, rfl⟩
            have HXM : Hid (x ∈ a :: r) := Lib.hid (by rw [hx]; exact List.getElem_mem _)
            rw [← hx] at cj HTJ
            clear hcell hx hjl
            by_cases hxa : x = a
            · subst hxa
              go_wp2
              go_round
              case rel => exact ⟨j + 1, by omega, by go_num, by rw [HTJ.out]; intro b hb; rcases List.mem_append.1 hb with hb | hb; exact HSA.out b hb; exact List.mem_singleton.1 hb⟩
              case measure => simp [intOf]; omega
            · have HN := Lib.hid (numV_no (vs := a :: r) (by rw [HL.out, if_neg]; rintro ⟨_, e⟩; rcases List.mem_cons.1 HXM.out with h | h; exact hxa h; exact hxa (e x h)))
              have q1 : (x.toList == a.toList) = false := by
                rw [ByteArray.toList_eq, ByteArray.toList_eq, beq_eq_false_iff_ne]; intro e; exact hxa (by cases x; cases a; simp_all)
              clear hxa
              go_wp2
              go_ret2
              exact ⟨by rw [HN.out]; rfl, rfl⟩
          · have HE : Hid (numV (a :: r) = .tuple #[.int .i64 (N : Int), .bool true]) := Lib.hid (by
              unfold numV
              rw [HL.out, if_pos ⟨HP.out, fun b hb => HSA.out b (by rw [List.take_of_length_le (by rw [HLEN.out]; omega)]; exact List.mem_cons_of_mem _ hb)⟩]
              rw [← HNV.out]; rfl)
            go_wp2
            go_ret2
            exact ⟨by rw [HE.out]; rfl, rfl⟩
end Go.Proofs.YtklmpadcfioefaaGreatDoor
