/- the law HeadSmuggles. Conditions: the size, the library's variable. -/
import Derived.Test.YthipgmnfokfaiaaDoorAwake
namespace Go.Proofs.YthipgmnfokfaiaaDoor
open Go.RowKit

theorem pairs_drop (l : Bs) (k : Nat) (h : k + 1 < l.length) : pairs (l.drop k) = (if l[k] = 13 ∧ l[k + 1] = 10 then 1 else 0) + pairs (l.drop (k + 1)) := by
  rw [List.drop_eq_getElem_cons (show k < l.length by omega), List.drop_eq_getElem_cons h, pairs]
theorem pairs_end (l : Bs) (k : Nat) (h : l.length ≤ k + 1) : pairs (l.drop k) = 0 := by
  by_cases e : k < l.length
  · rw [List.drop_eq_getElem_cons e, show l.drop (k + 1) = [] from List.drop_of_length_le (by omega), pairs]
  · rw [List.drop_of_length_le (by omega), pairs]
theorem pairs_le : ∀ l : Bs, pairs l ≤ l.length
  | [] => Nat.le_refl _
  | [_] => Nat.zero_le _
  | c :: d :: t => by
    have := pairs_le (d :: t)
    rw [pairs]
    split <;> simp at this ⊢ <;> omega
theorem infoU8 : (Tryd.prog.info? 5).map (fun i => (i.zero, i.size, i.bytes)) = some (some (.int .u8 0), 1, 1) := by kernel_rfl
theorem good_append {a b : ByteArray} (h1 : allGood a.data.toList = true) (h2 : allGood b.data.toList = true) : allGood (a ++ b).data.toList = true := by
  have e : (a ++ b).data.toList = a.data.toList ++ b.data.toList := by simp
  unfold allGood at *
  rw [e, List.all_append, h1, h2]; rfl

set_option maxHeartbeats 1000000 in
set_option maxRecDepth 100000 in
theorem smug_any (A : Option Addr) (n c : Nat) (l : Bs) (rq : Bool) (w : World) (hsh : w.ShapedOpen Tryd.prog) (_ : n ≤ c) (hA : A = none → n = 0) (hrd : Rd w w.heap.size 1 A n (bytesV l)) (hn : n ≤ 16777216) :
    Calls Tryd.prog 7 #[.slice A n c, .bool rq] w fun e w' => e = .returned (.bool true) ∧ Below w.heap.size w w' := by
  have hlen : l.length = n := by have := hrd.1; rw [bytesV_len] at this; omega
  obtain ⟨j0, hj0, jz0, jz1, jz2⟩ := info_parts infoU8
  obtain ⟨h, e0, hp⟩ : ∃ h e0, parseP l rq = (h, e0) := ⟨_, _, rfl⟩
  have HP := Lib.hid hp
  have HS := Lib.hid hsh
  clear hp hsh
  go_enter Tryd.func7, Tryd.ntmps7
  go_upto_region 3 with (go_at_call 43; go_must (refine (awake_any _ HS.out).mono ?_; rintro _ w1 ⟨rfl, hb1⟩))
  have hsz1 := hb1.size
  have hrd1 := (hrd.below hb1).more hsz1
  have HS1 : Hid (w1.ShapedOpen Tryd.prog) := Lib.hid (shaped_below HS.out hb1)
  go_upto_region 4 with (first
    | (at_builtin; go_must (refine wpList_app _ rfl (.tmp 15) (.tmp 16) 35 35 rfl w1.heap.size 5 j0 (.int .u8 0) 1 1 Tryd.underlying35 hj0 jz0 jz1 jz2 rfl (.slice (some ⟨w1.heap.size, 0, none⟩) 0 0) 0 [] rfl (empty_row w1 _ 1) _ n (bytesV l) rfl (Src.slice Tryd.underlying35 (hrd1.alloc (Nat.le_refl _) _) hA (bytesV_one l)) (by omega) (by omega) (by omega) (by simp <;> omega) ?_); go_must (intro v2 w2 hrow2 hg2 _; rw [List.nil_append, Nat.zero_add] at hrow2; obtain ⟨A2, c2, rfl, _, _, hA2, hrd2⟩ := hrow2.form; have hb2 : Below w1.heap.size w1 w2 := Below.app ((Below.refl _ _).alloc (Nat.le_refl _) _) (empty_row w1 5 1) hg2 (by omega) (by simp <;> omega); have HS2 : Hid (w2.ShapedOpen Tryd.prog) := Lib.hid (shaped_below HS1.out hb2)))
    | (go_at_call 39; go_must (refine (hParse_lit A2 n c2 l rq _ HS2.out (fun e => (hA2 e).1) hrd2 hn HP.out).mono ?_; rintro _ w3 ⟨A3, c3, rfl, hrow3, hb3⟩))
    | (refine wpList_put rfl 24 (.tmp 5) (.tmp 20) rfl w3.heap.size rfl (Var.new w3 24 [.bool false, .string ⟨#[]⟩, .string ⟨#[]⟩, .int .i64 0, .string ⟨#[]⟩, .int .i64 0, .slice none 0 0]) [.bool h.rq, .string ⟨h.m.toArray⟩, .string ⟨h.t.toArray⟩, .int .i64 (h.st : Int), .string ⟨h.rs.toArray⟩, .int .i64 (h.mn : Int), .slice A3 h.fs.length c3] rfl rfl (by kernel_rfl) (by simp [Value.oneCell']) ?_; intro w4 hv4 hg4 hs4)
    | fail)
  have hsz2 := hb2.size
  have hsz3 := hb3.size
  have B03 : Below w.heap.size w w3 := (hb1.trans (hb2.mono hsz1)).trans (hb3.mono (by omega))
  have B34 : Below w3.heap.size w3 w4 := Below.grown ((Below.refl _ _).alloc (Nat.le_refl _) _) hg4 (by simp) (by intro k hk; simp at hk; omega)
  have B04 := B03.trans (B34.mono B03.size)
  obtain ⟨A3', c3', e3, _, _, _, hrd3⟩ := hrow3.form
  injection e3 with e3 _ e4
  subst e3 e4
  have HRF := Lib.hid (hrd3.below B34)
  have HV4 := Lib.hid hv4
  have HB04 := Lib.hid B04
  have HRL := Lib.hid (hrd.below B04)
  have hs4' : w4.heap.size = w3.heap.size + 1 := by simpa using hs4
  have HSZ : Hid (w3.heap.size < w4.heap.size) := Lib.hid (by omega)
  clear hrd hrd1 hrow2 hg2 hrd2 hb2 hb3 hrow3 hrd3 hv4 hg4 hs4 hs4' B03 B34 B04 hb1 hsz1 hsz2 hsz3 hA2
  by_cases he : e0 = 0
  rotate_left
  · have he' : ¬ (e0 : Int) = 0 := by omega
    go_wp2
    go_ret
    exact ⟨rfl, HB04.out⟩
  · subst he
    have HL := Lib.hid (smuggle HP.out)
    have hpl : pairs l ≤ n := by have := pairs_le l; omega
    go_wp2
    go_loop [7, 8] (fun ci ki => ∃ cnt k : Nat, k ≤ n ∧ cnt ≤ n ∧ ci = .int .i64 cnt ∧ ki = .int .i64 k ∧ cnt + pairs (l.drop k) = pairs l) (fun _ ki => n - (intOf ki).toNat)
    case atStart => exact ⟨0, 0, Nat.zero_le _, Nat.zero_le _, rfl, rfl, by simp⟩
    case round =>
      obtain ⟨cnt, k, hk, hcn, rfl, rfl, hcnt⟩ := hrel
      have HC := Lib.hid hcnt
      clear hcnt
      by_cases hlt : k + 1 < n
      · obtain ⟨g, o, rfl, hg, hcell⟩ := HRL.out.2 (by omega)
        have c1 := hcell _ _ (bytesV_get (l := l) (j := k) (by omega))
        have c2 := hcell _ _ (bytesV_get (l := l) (j := k + 1) (by omega))
        clear hcell
        have HD := Lib.hid (pairs_drop l k (by omega))
        have x1 : (l[k]'(by omega)).toNat < 256 := UInt8.toNat_lt _
        have x2 : (l[k + 1]'(by omega)).toNat < 256 := UInt8.toNat_lt _
        by_cases hh : l[k]'(by omega) = 13 ∧ l[k + 1]'(by omega) = 10
        · have hcn' : cnt + 1 ≤ n := by have h1 := HC.out; have h2 := HD.out; rw [if_pos hh] at h2; omega
          have HE : Hid (cnt + 1 + pairs (l.drop (k + 1)) = pairs l) := Lib.hid (by have h1 := HC.out; have h2 := HD.out; rw [if_pos hh] at h2; omega)
          rw [hh.1] at c1
          rw [hh.2] at c2
          have e13 : ((13 : UInt8).toNat : Int) = 13 := rfl
          have e10 : ((10 : UInt8).toNat : Int) = 10 := rfl
          rw [e13] at c1
          rw [e10] at c2
          clear hh x1 x2
          go_wp2
          go_round
          case rel => exact ⟨cnt + 1, k + 1, by omega, hcn', by go_num, by go_num, HE.out⟩
          case measure => simp [intOf]; omega
        · have HE : Hid (cnt + pairs (l.drop (k + 1)) = pairs l) := Lib.hid (by have h1 := HC.out; have h2 := HD.out; rw [if_neg hh] at h2; omega)
          by_cases h13 : (l[k]'(by omega)).toNat = 13
          · have h10 : ¬ (l[k + 1]'(by omega)).toNat = 10 := fun e => hh ⟨UInt8.toNat_inj.mp (by rw [h13]; rfl), UInt8.toNat_inj.mp (by rw [e]; rfl)⟩
            clear hh
            go_wp2
            go_round
            case rel => exact ⟨cnt, k + 1, by omega, hcn, by go_num, by go_num, HE.out⟩
            case measure => simp [intOf]; omega
          · clear hh
            go_wp2
            go_round
            case rel => exact ⟨cnt, k + 1, by omega, hcn, by go_num, by go_num, HE.out⟩
            case measure => simp [intOf]; omega
      · have hcp : cnt = pairs l := by have h1 := HC.out; rw [pairs_end l k (by omega)] at h1; omega
        have hcl : cnt = h.fs.length + 2 := by rw [hcp]; exact HL.out.1
        have v1 := HV4.out.cell (j := 1) rfl
        have v2 := HV4.out.cell (j := 2) rfl
        have v4 := HV4.out.cell (j := 4) rfl
        obtain ⟨L1, L2, L3, L4, L5, L6, L7, L8, L9⟩ := HL.out
        obtain ⟨sm, hsm⟩ : ∃ s : ByteArray, s = ⟨h.m.toArray⟩ := ⟨_, rfl⟩
        obtain ⟨st, hst⟩ : ∃ s : ByteArray, s = ⟨h.t.toArray⟩ := ⟨_, rfl⟩
        obtain ⟨sr, hsr⟩ : ∃ s : ByteArray, s = ⟨h.rs.toArray⟩ := ⟨_, rfl⟩
        have m1 : sm.size ≤ 16777216 := by rw [hsm]; show h.m.length ≤ _; omega
        have m2 : st.size ≤ 16777216 := by rw [hst]; show h.t.length ≤ _; omega
        have m3 : sr.size ≤ 16777216 := by rw [hsr]; show h.rs.length ≤ _; omega
        have HG : Hid (allGood (sm ++ st ++ sr).data.toList = true) := Lib.hid (good_append (good_append (by rw [hsm]; exact L3) (by rw [hst]; exact L4)) (by rw [hsr]; exact L5))
        rw [← hsm] at v1
        rw [← hst] at v2
        rw [← hsr] at v4
        have HF9 := Lib.hid L9
        clear hcp L1 L3 L4 L5 L6 L7 L8 L9 hsm hst hsr
        subst hcl
        have hfn : h.fs.length ≤ 64 := L2
        go_upto_region 13 with (fail)
        generalize hsa0 : sm ++ st ++ sr = sa0 at HG
        have m4 : sa0.size ≤ 50331648 := by rw [← hsa0]; simp only [ByteArray.size_append]; omega
        clear hsa0 m1 m2 m3 v1 v2 v4
        have v6 := HV4.out.cell (j := 6) rfl
        have f6 : ∀ q, (w4.drewN q).cell? ⟨w3.heap.size, 6, none⟩ = some (.slice A3 h.fs.length c3) := fun q => v6
        go_wp2
        go_loopw [9, 10] (fun ai ki wr => ∃ (sa : ByteArray) (k : Nat), k ≤ h.fs.length ∧ ai = .string sa ∧ ki = .int .i64 k ∧ allGood sa.data.toList = true ∧ sa.size ≤ 50331648 + k * 33554432 ∧ Below w4.heap.size w4 wr) (fun _ ki _ => h.fs.length - (intOf ki).toNat)
        case atStart => exact ⟨sa0, 0, Nat.zero_le _, rfl, rfl, HG.out, by omega, Below.refl _ _⟩
        case round =>
          obtain ⟨sa, k2, hk2, rfl, rfl, hgood, hsa, hb⟩ := hrel
          have HGA := Lib.hid hgood
          have HB := Lib.hid hb
          clear hgood hb
          have u6 : ∀ q, (wr.drewN q).cell? ⟨w3.heap.size, 6, none⟩ = some (.slice A3 h.fs.length c3) := fun q => (HB.out.cell (p := ⟨w3.heap.size, 6, none⟩) HSZ.out).trans v6
          have u60 : wr.cell? ⟨w3.heap.size, 6, none⟩ = some (.slice A3 h.fs.length c3) := u6 0
          by_cases hlt : k2 < h.fs.length
          · obtain ⟨g, o, rfl, hg, hcell⟩ := HRF.out.2 (by omega)
            have hfl : k2 < (flB h.fs).length := by rw [flB_len]; exact hlt
            obtain ⟨G1, G2⟩ := fieldsV_get (flB h.fs) k2 hfl
            have old : ∀ (p : Addr), p.block < w3.heap.size → ∀ q, (wr.drewN q).cell? p = w4.cell? p := fun p hp q => HB.out.cell (p := p) (Nat.lt_trans hp HSZ.out)
            have c1 : ∀ q, (wr.drewN q).cell? ⟨g, o + k2 * 2, none⟩ = some (.string (flB h.fs)[k2].1) := fun q => (old _ hg q).trans (hcell _ _ G1)
            have c2 : ∀ q, (wr.drewN q).cell? ⟨g, o + k2 * 2 + 1, none⟩ = some (.string (flB h.fs)[k2].2) := fun q => (old _ hg q).trans (by rw [Nat.add_assoc]; exact hcell _ _ G2)
            have hx := HF9.out _ (List.getElem_mem hlt)
            have e1 : (flB h.fs)[k2].1.data.toList = h.fs[k2].1 := by simp [flB]
            have e2 : (flB h.fs)[k2].2.data.toList = h.fs[k2].2 := by simp [flB]
            have hT : token (flB h.fs)[k2].1.data.toList = true := by rw [e1]; exact hx.1
            have hG1 : allGood (flB h.fs)[k2].1.data.toList = true := by rw [e1]; exact hx.2.1
            have hG2 : allGood (flB h.fs)[k2].2.data.toList = true := by rw [e2]; exact hx.2.2.1
            have hS1 : (flB h.fs)[k2].1.size ≤ 16777216 := by rw [← size_data, e1]; have := hx.2.2.2.1; omega
            have hS2 : (flB h.fs)[k2].2.size ≤ 16777216 := by rw [← size_data, e2]; have := hx.2.2.2.2; omega
            clear hx e1 e2 hcell G1 G2 old
            generalize (flB h.fs)[k2].1 = nm at *
            generalize (flB h.fs)[k2].2 = vl at *
            have HT := Lib.hid hT
            have HG2 : Hid (allGood (sa ++ nm ++ vl).data.toList = true) := Lib.hid (good_append (good_append HGA.out hG1) hG2)
            have hsn : (sa ++ nm).size = sa.size + nm.size := by simp only [ByteArray.size_append]
            have hsv : (sa ++ nm ++ vl).size = sa.size + nm.size + vl.size := by simp only [ByteArray.size_append]
            have d1 : wr.cell? ⟨g, o + k2 * 2, none⟩ = some (.string nm) := c1 0
            have d2 : wr.cell? ⟨g, o + k2 * 2 + 1, none⟩ = some (.string vl) := c2 0
            clear hT hG1 hG2
            go_wp2
            go_quiet (fail)
            go_wp2_with (go_at_call 23; go_must (refine (hToken_any nm _ (by omega)).mono ?_; rintro _ _ ⟨rfl, rfl⟩; rw [HT.out]))
            go_roundw
            case rel => exact ⟨_, k2 + 1, by omega, rfl, by go_num, HG2.out, by rw [hsv]; omega, below_drewN HB.out _⟩
            case measure => simp [intOf]; omega
          · have hsab : sa.size ≤ 4294967296 := by omega
            go_wp2
            go_loop [11] (fun i => ∃ j : Nat, j ≤ sa.size ∧ i = .int .i64 j) (fun i => sa.size - (intOf i).toNat)
            case atStart => exact ⟨0, Nat.zero_le _, rfl⟩
            case round =>
              obtain ⟨j, hj, rfl⟩ := hrel
              by_cases hlj : j < sa.size
              · have hgj : sa[j].toNat ≠ 13 ∧ sa[j].toNat ≠ 10 ∧ sa[j].toNat ≠ 0 := by
                  have h1 := HGA.out
                  unfold allGood at h1
                  rw [List.all_eq_true] at h1
                  have h2 := h1 sa[j] (by rw [← byte_at sa j hlj]; exact List.getElem_mem _)
                  unfold isGood at h2
                  rw [decide_eq_true_eq] at h2
                  exact h2
                obtain ⟨g1, g2, g3⟩ := hgj
                have hx : sa[j].toNat < 256 := UInt8.toNat_lt _
                go_wp2
                all_goals try (exfalso; simp only [beq_iff_eq, beq_eq_false_iff_ne] at *; omega)
                all_goals
                  go_round
                  case rel => exact ⟨j + 1, by omega, by go_num⟩
                  case measure => simp [intOf]; omega
              · go_wp2
                go_ret
                exact ⟨rfl, HB04.out.trans (HB.out.mono HB04.out.size)⟩
end Go.Proofs.YthipgmnfokfaiaaDoor
