/- rewrite.Own and the reference's Own. Conditions: sizes, the library's variables. -/
import Derived.Test.YtabecgdaiakgiaaDoorROwn
namespace Go.Proofs.YtabecgdaiakgiaaDoor
open Go.RowKit

set_option maxHeartbeats 1000000 in
set_option maxRecDepth 100000 in
theorem pin_any (A : Option Addr) (n c : Nat) (vs : List ByteArray) (s : ByteArray) (w : World) (hrd : Rd w w.heap.size 1 A n (strsV vs)) (hn : n ≤ 16777216) (hvs : ∀ s ∈ vs, s.size ≤ 16777216) (hs : s.size ≤ 16777216) :
    Calls Tryd.prog 60 #[.slice A n c, .string s] w fun e w' => e = .returned (.bool (inP vs (fd s))) ∧ Below w.heap.size w w' := by
  have hlen : vs.length = n := by have := hrd.1; rw [strsV_len] at this; omega
  go_enter Tryd.func60, Tryd.ntmps60
  go_wp2
  go_loopw [5] (fun i wr => ∃ k : Nat, k ≤ n ∧ i = .int .i64 k ∧ inP (vs.take k) (fd s) = false ∧ Below w.heap.size w wr) (fun i _ => n - (intOf i).toNat)
  case atStart => exact ⟨0, Nat.zero_le _, rfl, by simp [inP], Below.refl _ _⟩
  case round =>
    obtain ⟨k, hk, rfl, hno, hb⟩ := hrel
    have HN := Lib.hid hno
    clear hno
    by_cases hlt : k < n
    · obtain ⟨g, o, rfl, hg, hcell⟩ := hrd.2 (by omega)
      have c1 : wr.cell? ⟨g, o + k, none⟩ = some (.string vs[k]) := (hb.cell (p := ⟨g, o + k, none⟩) hg).trans (hcell k _ (strs_get (l := vs) (j := k) (by omega)))
      have hs1 : vs[k].size ≤ 16777216 := hvs _ (List.getElem_mem _)
      have HT := Lib.hid (inP_take vs k (by omega) (fd s))
      have HA : Hid (vs[k] ∈ vs) := Lib.hid (List.getElem_mem _)
      generalize vs[k] = a at c1 hs1 HT HA
      clear hcell
      by_cases he : fold a.data.toList = fold s.data.toList
      · have HY : Hid (inP vs (fd s) = true) := Lib.hid (List.any_eq_true.2 ⟨a, HA.out, by unfold fd; rw [he]; exact beq_self_eq_true _⟩)
        go_wp2_with (first
          | (go_at_call 58; have c3' := hb1; go_must (refine (rFold_any s _ hs).mono ?_; rintro _ w2 ⟨rfl, hb2⟩))
          | (go_at_call 58; refine (rFold_any a _ hs1).mono ?_; rintro _ w1 ⟨rfl, hb1⟩; rw [he]))
        go_ret
        exact ⟨by rw [HY.out]; rfl, (hb.trans (hb1.mono hb.size)).trans (hb2.mono (by have := hb.size; have := hb1.size; omega))⟩
      · have hne : (fold a.data.toList == fold s.data.toList) = false := by simpa using he
        have HZ : Hid (inP (vs.take (k + 1)) (fd s) = false) := Lib.hid (by rw [HT.out, HN.out]; exact hne)
        go_wp2_with (first
          | (go_at_call 58; have c3' := hb1; go_must (refine (rFold_any s _ hs).mono ?_; rintro _ w2 ⟨rfl, hb2⟩))
          | (go_at_call 58; refine (rFold_any a _ hs1).mono ?_; rintro _ w1 ⟨rfl, hb1⟩; skip))
        go_roundw
        case rel => exact ⟨k + 1, by omega, by go_num, HZ.out, (hb.trans (hb1.mono hb.size)).trans (hb2.mono (by have := hb.size; have := hb1.size; omega))⟩
        case measure => simp [intOf]; omega
    · have HE : Hid (inP vs (fd s) = false) := Lib.hid (by rw [← HN.out, List.take_of_length_le (by omega)])
      go_wp2
      go_ret
      exact ⟨by rw [HE.out]; rfl, hb⟩

set_option maxHeartbeats 1000000 in
set_option maxRecDepth 100000 in
theorem ppieces_any (rq : Bool) (mt t : ByteArray) (st : Int) (rs : ByteArray) (mn : Int) (A : Option Addr) (n c : Nat) (fs : List Fl) (w : World) (hrd : Rd w w.heap.size 2 A n (fieldsV fs))
    (hn : n ≤ 1048576) (hfs : ∀ f ∈ fs, f.1.size ≤ 16777216) (hvs : total (vals fs sConn) ≤ 8388608) :
    Calls Tryd.prog 61 #[headV rq mt t st rs mn (.slice A n c)] w fun e w' => ∃ v, e = .returned v ∧ Row w' w.heap.size 1 v (connP fs).length (strsV (connP fs)) ∧ Below w.heap.size w w' := by
  have B1 : Below w.heap.size w (w.alloc (.cells #[.bool rq, .string mt, .string t, .int .i64 st, .string rs, .int .i64 mn, .slice A n c] 24)) := (Below.refl _ _).alloc (Nat.le_refl _) _
  have r1 := (hrd.below B1).more B1.size
  have V1 := Var.new w 24 [.bool rq, .string mt, .string t, .int .i64 st, .string rs, .int .i64 mn, .slice A n c]
  have hvl : (vals fs sConn).length ≤ 1048576 := Nat.le_trans (vals_le _ _) (by have := hrd.1; rw [fieldsV_len] at this; omega)
  have hvz : ∀ s ∈ vals fs sConn, s.size ≤ 16777216 := fun s hs => by have := total_mem hs; omega
  have HVA := Lib.hid (fun W hr => rValues_any rq mt t st rs mn A n c fs sConnC W hr (by omega) (by decide) hfs)
  rw [vals_conn] at HVA
  have HLI := Lib.hid (fun A n c W h1 h2 => rList_any A n c (vals fs sConn) W h1 h2 hvz (by omega))
  have HP : Hid (connP fs = listed (vals fs sConn)) := Lib.hid rfl
  have HB1 := Lib.hid B1
  generalize listed (vals fs sConn) = L at HP HLI
  unfold headV at HVA
  generalize vals fs sConn = VS at hvs hvl hvz HVA HLI
  unfold headV
  clear hrd B1
  go_enter Tryd.func61, Tryd.ntmps61
  go_wp2_with (first
    | (refine wpList_load_mid rfl 24 (.tmp 1) rfl w.heap.size 0 rfl [.bool rq, .string mt, .string t, .int .i64 st, .string rs, .int .i64 mn, .slice A n c] _ V1.range Tryd.underlying24 rfl (by kernel_rfl) ?_)
    | (go_at_call 39; (refine (HVA.out _ r1).mono ?_; rintro _ w2 ⟨v2, rfl, hrow2, hb2⟩; obtain ⟨A2, c2, rfl, _, _, _, rd2⟩ := hrow2.form))
    | (go_at_call 38; (refine (HLI.out A2 VS.length c2 w2 rd2 (by omega)).mono ?_; rintro _ w3 ⟨v3, rfl, hrow3, hb3⟩))
    | fail)
  have z2 := hb2.size
  have z1 := HB1.out.size
  have R3 := Lib.hid hrow3
  clear hrow3 hrow2 rd2
  go_ret
  refine ⟨v3, rfl, ?_, (HB1.out.trans (hb2.mono z1)).trans (hb3.mono (by omega))⟩
  rw [HP.out]
  exact R3.out.mono (by omega)

set_option maxHeartbeats 1000000 in
set_option maxRecDepth 100000 in
theorem wOwn_any (rq : Bool) (mt t : ByteArray) (st : Int) (rs : ByteArray) (mn : Int) (A : Option Addr) (n c : Nat) (fs : List Fl) (name : ByteArray) (w : World) (hsh : w.ShapedOpen Tryd.prog) (hrd : Rd w w.heap.size 2 A n (fieldsV fs))
    (hn : n ≤ 1048576) (hfs : ∀ f ∈ fs, f.1.size ≤ 16777216) (hvs : total (vals fs sConn) ≤ 8388608) (hs : name.size ≤ 16777216) :
    Calls Tryd.prog 16 #[headV rq mt t st rs mn (.slice A n c), .string name] w fun e w' => e = .returned (.bool (ownP fs name)) ∧ Below w.heap.size w w' := by
  have B1 : Below w.heap.size w (w.alloc (.cells #[.bool rq, .string mt, .string t, .int .i64 st, .string rs, .int .i64 mn, .slice A n c] 24)) := (Below.refl _ _).alloc (Nat.le_refl _) _
  have r1 := (hrd.below B1).more B1.size
  have V1 := Var.new w 24 [.bool rq, .string mt, .string t, .int .i64 st, .string rs, .int .i64 mn, .slice A n c]
  have HO := Lib.hid (wown_any rq mt t st rs mn A n c fs _ (shaped_below hsh B1) r1 hn hfs hvs)
  have HP : Hid (ownP fs name = ownK fs (fd name)) := Lib.hid rfl
  have HB1 := Lib.hid B1
  unfold OwnPost headV at HO
  generalize ownK fs = S at HO HP
  unfold headV
  clear hrd B1 r1 hsh hvs
  go_enter Tryd.func16, Tryd.ntmps16
  go_wp2_with (first
    | (refine wpList_load_mid rfl 24 (.tmp 2) rfl w.heap.size 0 rfl [.bool rq, .string mt, .string t, .int .i64 st, .string rs, .int .i64 mn, .slice A n c] _ V1.range Tryd.underlying24 rfl (by kernel_rfl) ?_)
    | (go_at_call 59; (refine HO.out.mono ?_; rintro _ w2 ⟨b, k, rfl, hb, hk, hm, hb2⟩))
    | (go_at_call 56; (refine (hFold_any name _ hs).mono ?_; rintro _ w3 ⟨rfl, hb3⟩; have hg := (hm.below_all hb3).run_get ⟨(fold name.data.toList).toArray⟩ (by show (fold name.data.toList).length ≤ _; rw [fold_len, size_data]; unfold maxLen; omega)))
    | fail)
  have z2 := hb2.size
  have z1 := HB1.out.size
  clear hg hm
  go_ret
  exact ⟨by rw [HP.out]; rfl, (HB1.out.trans (hb2.mono z1)).trans (hb3.mono (by omega))⟩

def alwC : List ByteArray := [sConnC, ⟨#[67, 108, 111, 115, 101]⟩, ⟨#[75, 101, 101, 112, 45, 65, 108, 105, 118, 101]⟩, ⟨#[80, 114, 111, 120, 121, 45, 67, 111, 110, 110, 101, 99, 116, 105, 111, 110]⟩, ⟨#[84, 69]⟩, ⟨#[84, 114, 97, 105, 108, 101, 114]⟩, sCod, ⟨#[85, 112, 103, 114, 97, 100, 101]⟩, ⟨#[69, 120, 112, 101, 99, 116]⟩, sLen]
theorem alwC_fd : alwC.map fd = always := by decide +kernel
theorem inP_map (vs : List ByteArray) (k : Bs) : inP vs k = (vs.map fd).contains k := by
  unfold inP
  induction vs with
  | nil => rfl
  | cons v vs ih =>
    rw [List.any_cons, List.map_cons, List.contains_cons, ih]
    congr 1
    rw [Bool.eq_iff_iff, beq_iff_eq, beq_iff_eq]; exact eq_comm
theorem alwC_small : ∀ s ∈ alwC, s.size ≤ 16777216 := by decide +kernel
theorem alwC_cells : (#[.string ⟨#[67, 111, 110, 110, 101, 99, 116, 105, 111, 110]⟩, .string ⟨#[67, 108, 111, 115, 101]⟩, .string ⟨#[75, 101, 101, 112, 45, 65, 108, 105, 118, 101]⟩, .string ⟨#[80, 114, 111, 120, 121, 45, 67, 111, 110, 110, 101, 99, 116, 105, 111, 110]⟩, .string ⟨#[84, 69]⟩, .string ⟨#[84, 114, 97, 105, 108, 101, 114]⟩, .string ⟨#[84, 114, 97, 110, 115, 102, 101, 114, 45, 69, 110, 99, 111, 100, 105, 110, 103]⟩, .string ⟨#[85, 112, 103, 114, 97, 100, 101]⟩, .string ⟨#[69, 120, 112, 101, 99, 116]⟩, .string ⟨#[67, 111, 110, 116, 101, 110, 116, 45, 76, 101, 110, 103, 116, 104]⟩] : Array Value) = (strsV alwC).toArray := by kernel_rfl
set_option maxHeartbeats 1000000 in
set_option maxRecDepth 100000 in
theorem pOwn_any (rq : Bool) (mt t : ByteArray) (st : Int) (rs : ByteArray) (mn : Int) (A : Option Addr) (n c : Nat) (fs : List Fl) (name : ByteArray) (w : World) (hrd : Rd w w.heap.size 2 A n (fieldsV fs))
    (hn : n ≤ 1048576) (hfs : ∀ f ∈ fs, f.1.size ≤ 16777216) (hvs : total (vals fs sConn) ≤ 8388608) (hs : name.size ≤ 16777216) :
    Calls Tryd.prog 17 #[headV rq mt t st rs mn (.slice A n c), .string name] w fun e w' => e = .returned (.bool (ownP fs name)) ∧ Below w.heap.size w w' := by
  have B1 : Below w.heap.size w (w.alloc (.cells #[.bool rq, .string mt, .string t, .int .i64 st, .string rs, .int .i64 mn, .slice A n c] 24)) := (Below.refl _ _).alloc (Nat.le_refl _) _
  have B2 : Below w.heap.size w ((w.alloc (.cells #[.bool rq, .string mt, .string t, .int .i64 st, .string rs, .int .i64 mn, .slice A n c] 24)).alloc (.cells (strsV alwC).toArray 9)) := B1.alloc (by simp) _
  have r2 := (hrd.below B2).more B2.size
  have V2 := (Var.new w 24 [.bool rq, .string mt, .string t, .int .i64 st, .string rs, .int .i64 mn, .slice A n c]).alloc (.cells (strsV alwC).toArray 9)
  have z1 : (w.alloc (.cells #[.bool rq, .string mt, .string t, .int .i64 st, .string rs, .int .i64 mn, .slice A n c] 24)).heap.size = w.heap.size + 1 := by simp
  have hr := Rd.built (w.alloc (.cells #[.bool rq, .string mt, .string t, .int .i64 st, .string rs, .int .i64 mn, .slice A n c] 24)) (strsV alwC) 9 (0, 0) 10 rfl
  rw [z1] at hr
  have HI := pin_any (some ⟨w.heap.size + 1, 0, none⟩) 10 10 alwC name _ hr (by omega) alwC_small hs
  rw [inP_map, alwC_fd, ← alwC_cells] at HI
  rw [← alwC_cells] at B2 r2 V2
  have HI := Lib.hid HI
  have HB2 := Lib.hid B2
  have HR2 := Lib.hid r2
  have HV2 := Lib.hid V2
  have hll := listed_len (vals fs sConn)
  have hlz : ∀ s ∈ connP fs, s.size ≤ 16777216 := fun s hs => by have := listed_size hs; omega
  have hln : (connP fs).length ≤ 16777216 := by unfold connP; omega
  have HPC := Lib.hid (fun W hr => ppieces_any rq mt t st rs mn A n c fs W hr hn hfs hvs)
  have HP : Hid (ownP fs name = (always.contains (fd name) || inP (connP fs) (fd name))) := Lib.hid rfl
  unfold headV at HPC
  generalize connP fs = L at hlz hln HPC HP
  unfold headV
  clear hrd B1 B2 r2 V2 hr z1 hll hvs
  by_cases hA : always.contains (fd name) = true
  · rw [hA] at HI HP
    clear hA
    go_enter Tryd.func17, Tryd.ntmps17
    go_wp2_with (first
      | (go_at_call 60; (refine HI.out.mono ?_; rintro _ w3 ⟨rfl, hb3⟩))
      | fail)
    have z2 := HB2.out.size
    go_ret
    exact ⟨by rw [HP.out]; rfl, HB2.out.trans (hb3.mono z2)⟩
  · have hA' : always.contains (fd name) = false := by simpa using hA
    rw [hA'] at HI HP
    clear hA hA'
    go_enter Tryd.func17, Tryd.ntmps17
    go_wp2_with (first
      | (go_at_call 60; (refine (pin_any A4 L.length c4 L name w4 rd4 hln hlz hs).mono ?_; rintro _ w5 ⟨rfl, hb5⟩))
      | (go_at_call 60; (refine HI.out.mono ?_; rintro _ w3 ⟨rfl, hb3⟩; have V3 := HV2.out.below_all hb3; have r3 := HR2.out.keeps hb3))
      | (go_at_call 61; (refine (HPC.out w3 r3).mono ?_; rintro _ w4 ⟨v4, rfl, hrow4, hb4⟩; obtain ⟨A4, c4, rfl, _, _, _, rd4⟩ := hrow4.form))
      | (refine wpList_load_mid_g (by rfl) 24 (.tmp 2) rfl w.heap.size 0 rfl [.bool rq, .string mt, .string t, .int .i64 st, .string rs, .int .i64 mn, .slice A n c] _ V3.range Tryd.underlying24 rfl (by kernel_rfl) ?_)
      | fail)
    have z2 := HB2.out.size
    have z3 := hb3.size
    have z4 := hb4.size
    go_ret
    exact ⟨by rw [HP.out]; rfl, ((HB2.out.trans (hb3.mono z2)).trans (hb4.mono (by omega))).trans (hb5.mono (by omega))⟩
end Go.Proofs.YtabecgdaiakgiaaDoor
