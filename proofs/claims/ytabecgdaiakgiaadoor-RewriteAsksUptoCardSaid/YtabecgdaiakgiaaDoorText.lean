/- the reference's Text: a head's text. Conditions: sizes, and that the numbers are ints. -/
import Derived.Test.YtabecgdaiakgiaaDoorHeadLaw
import Derived.Test.YtabecgdaiakgiaaDoorDigits
import Derived.Test.YtabecgdaiakgiaaDoorBytes
import Derived.Test.YtabecgdaiakgiaaDoorFields
namespace Go.Proofs.YtabecgdaiakgiaaDoor
open Go.RowKit

/-- a head in memory, as the plain law has it -/
def hiOf (rq : Bool) (m t : ByteArray) (st : Int) (rs : ByteArray) (mn : Int) (fs : List Fl) : HI :=
  { rq := rq, m := m.data.toList, t := t.data.toList, st := st, rs := rs.data.toList, mn := mn, fs := fs.map fun f => (f.1.data.toList, f.2.data.toList) }
def flT (fs : List Fl) : Bs := fieldsT (fs.map fun f => (f.1.data.toList, f.2.data.toList))
theorem flT_take (fs : List Fl) (k : Nat) (h : k < fs.length) : flT (fs.take (k + 1)) = flT (fs.take k) ++ (((fs[k].1.data.toList ++ [58, 32]) ++ fs[k].2.data.toList) ++ [13, 10]) := by
  unfold flT fieldsT
  rw [List.take_succ_eq_append_getElem h, List.map_append, List.flatMap_append]
  simp [fieldT]
/-- how long fields are -/
def flSize (fs : List Fl) : Nat := (fs.map fun f => f.1.size + f.2.size + 4).sum
theorem flT_len (fs : List Fl) : (flT fs).length = flSize fs := by
  unfold flT fieldsT flSize
  induction fs with
  | nil => rfl
  | cons f fs ih =>
    have h1 := size_data f.1
    have h2 := size_data f.2
    rw [List.map_cons, List.flatMap_cons, List.length_append, ih]
    simp only [fieldT, List.map_cons, List.sum_cons, List.length_append, List.length_cons, List.length_nil]
    omega
theorem flSize_take (fs : List Fl) (k : Nat) : flSize (fs.take k) ≤ flSize fs := by
  have e : flSize fs = flSize (fs.take k) + flSize (fs.drop k) := by
    unfold flSize
    rw [← List.sum_append, ← List.map_append, List.take_append_drop]
  omega
theorem flSize_get (fs : List Fl) (k : Nat) (h : k < fs.length) : flSize (fs.take k) + (fs[k].1.size + fs[k].2.size + 4) ≤ flSize fs := by
  have := flSize_take fs (k + 1)
  have e : flSize (fs.take (k + 1)) = flSize (fs.take k) + (fs[k].1.size + fs[k].2.size + 4) := by
    unfold flSize
    rw [List.take_succ_eq_append_getElem h, List.map_append, List.sum_append]; simp
  omega

set_option maxHeartbeats 2000000 in
set_option maxRecDepth 100000 in
theorem rText_any (rq : Bool) (m t : ByteArray) (st : Int) (rs : ByteArray) (mn : Int) (A : Option Addr) (n c : Nat) (fs : List Fl) (w : World) (hrd : Rd w w.heap.size 2 A n (fieldsV fs))
    (hn : n ≤ 16777216) (hst : isInt st) (hmn : isInt mn) (hm : m.size + t.size + rs.size ≤ 16777216) (hf : flSize fs ≤ 67108864) :
    Calls Tryd.prog 41 #[headV rq m t st rs mn (.slice A n c)] w fun e w' => ∃ v, e = .returned v ∧ RowB w' w.heap.size v (textP (hiOf rq m t st rs mn fs)) ∧ Below w.heap.size w w' := by
  have hlen : fs.length = n := by have := hrd.1; rw [fieldsV_len] at this; omega
  have hls := itoa_len hst
  have hlm := itoa_len hmn
  have HST := Lib.hid hst
  have HMN := Lib.hid hmn
  clear hst hmn
  unfold headV
  go_enter Tryd.func41, Tryd.ntmps41
  have B1 : Below (w.heap.size + 1) (w.alloc (.cells #[.bool rq, .string m, .string t, .int .i64 st, .string rs, .int .i64 mn, .slice A n c] 24)) (w.alloc (.cells #[.bool rq, .string m, .string t, .int .i64 st, .string rs, .int .i64 mn, .slice A n c] 24)) := Below.refl _ _
  cases rq
  · go_wp2_with (first
      | (at_builtin; (refine wpList_appB rfl (.tmp 25) (.const (.string ⟨#[72, 84, 84, 80, 47, 49, 46]⟩)) 9 rfl (w.heap.size + 1) rfl (RowB.nil _ _) rfl (SrcB.str _ _) (by (try simp only [List.length_append, List.length_cons, List.length_nil, size_data]); omega) (by first | omega | (simp; done) | (simp; omega)) ?_; intro v2 w2 hrow2 hb _ _; have B2 := (B1).trans hb; have z2 : w.heap.size + 1 ≤ w2.heap.size := (by have := B2.size; simpa using this); have c2 := (fun o : Nat => B2.cell (p := ⟨w.heap.size, o, none⟩) (by show w.heap.size < _; omega)); clear hb))
      | (go_at_call_of 81 (Value.int .i64 mn); (refine (rdigits_any mn _ HMN.out).mono ?_; rintro _ w3 ⟨rfl, hb⟩; have hrow3 := hrow2.below_all hb; have B3 := B2.trans (hb.mono z2); clear hb; have z3 : w.heap.size + 1 ≤ w3.heap.size := (by have := B3.size; simpa using this); have c3 := (fun o : Nat => B3.cell (p := ⟨w.heap.size, o, none⟩) (by show w.heap.size < _; omega))))
      | (at_builtin; (refine wpList_appB rfl (.tmp 27) (.tmp 30) 9 rfl (w.heap.size + 1) rfl hrow3 rfl (SrcB.str _ _) (by (try simp only [List.length_append, List.length_cons, List.length_nil, size_data]); omega) (by first | omega | (simp; done) | (simp; omega)) ?_; intro v4 w4 hrow4 hb _ _; have B4 := (B3).trans hb; have z4 : w.heap.size + 1 ≤ w4.heap.size := (by have := B4.size; simpa using this); have c4 := (fun o : Nat => B4.cell (p := ⟨w.heap.size, o, none⟩) (by show w.heap.size < _; omega)); clear hb))
      | (at_builtin; (refine wpList_appB rfl (.tmp 32) (.tmp 33) 32 rfl (w.heap.size + 1) rfl (hrow4.alloc _) rfl (SrcB.built [32] [.int .u8 32] rfl) (by (try simp only [List.length_append, List.length_cons, List.length_nil, size_data]); omega) (by first | omega | (simp; done) | (simp; omega)) ?_; intro v5 w5 hrow5 hb _ _; have B5 := ((B4.alloc (by simpa using z4) _)).trans hb; have z5 : w.heap.size + 1 ≤ w5.heap.size := (by have := B5.size; simpa using this); have c5 := (fun o : Nat => B5.cell (p := ⟨w.heap.size, o, none⟩) (by show w.heap.size < _; omega)); clear hb))
      | (go_at_call_of 81 (Value.int .i64 st); (refine (rdigits_any st _ HST.out).mono ?_; rintro _ w6 ⟨rfl, hb⟩; have hrow6 := hrow5.below_all hb; have B6 := B5.trans (hb.mono z5); clear hb; have z6 : w.heap.size + 1 ≤ w6.heap.size := (by have := B6.size; simpa using this); have c6 := (fun o : Nat => B6.cell (p := ⟨w.heap.size, o, none⟩) (by show w.heap.size < _; omega))))
      | (at_builtin; (refine wpList_appB rfl (.tmp 35) (.tmp 38) 9 rfl (w.heap.size + 1) rfl hrow6 rfl (SrcB.str _ _) (by (try simp only [List.length_append, List.length_cons, List.length_nil, size_data]); omega) (by first | omega | (simp; done) | (simp; omega)) ?_; intro v7 w7 hrow7 hb _ _; have B7 := (B6).trans hb; have z7 : w.heap.size + 1 ≤ w7.heap.size := (by have := B7.size; simpa using this); have c7 := (fun o : Nat => B7.cell (p := ⟨w.heap.size, o, none⟩) (by show w.heap.size < _; omega)); clear hb))
      | (at_builtin; (refine wpList_appB rfl (.tmp 40) (.tmp 41) 32 rfl (w.heap.size + 1) rfl (hrow7.alloc _) rfl (SrcB.built [32] [.int .u8 32] rfl) (by (try simp only [List.length_append, List.length_cons, List.length_nil, size_data]); omega) (by first | omega | (simp; done) | (simp; omega)) ?_; intro v8 w8 hrow8 hb _ _; have B8 := ((B7.alloc (by simpa using z7) _)).trans hb; have z8 : w.heap.size + 1 ≤ w8.heap.size := (by have := B8.size; simpa using this); have c8 := (fun o : Nat => B8.cell (p := ⟨w.heap.size, o, none⟩) (by show w.heap.size < _; omega)); clear hb))
      | (at_builtin; (refine wpList_appB rfl (.tmp 43) (.tmp 45) 9 rfl (w.heap.size + 1) rfl hrow8 rfl (SrcB.str _ _) (by (try simp only [List.length_append, List.length_cons, List.length_nil, size_data]); omega) (by first | omega | (simp; done) | (simp; omega)) ?_; intro v9 w9 hrow9 hb _ _; have B9 := (B8).trans hb; have z9 : w.heap.size + 1 ≤ w9.heap.size := (by have := B9.size; simpa using this); have c9 := (fun o : Nat => B9.cell (p := ⟨w.heap.size, o, none⟩) (by show w.heap.size < _; omega)); clear hb))
      | (at_builtin; (refine wpList_appB rfl (.tmp 47) (.tmp 48) 32 rfl (w.heap.size + 1) rfl (hrow9.alloc _) rfl (SrcB.built [13, 10] [.int .u8 13, .int .u8 10] rfl) (by (try simp only [List.length_append, List.length_cons, List.length_nil, size_data]); omega) (by first | omega | (simp; done) | (simp; omega)) ?_; intro v10 w10 hrow10 hb _ _; have B10 := ((B9.alloc (by simpa using z9) _)).trans hb; have z10 : w.heap.size + 1 ≤ w10.heap.size := (by have := B10.size; simpa using this); have c10 := (fun o : Nat => B10.cell (p := ⟨w.heap.size, o, none⟩) (by show w.heap.size < _; omega)); clear hb))
      | fail)
    have HL : Hid (((((([] ++ [72, 84, 84, 80, 47, 49, 46]) ++ Lib.itoa mn) ++ [32]) ++ Lib.itoa st) ++ [32]) ++ rs.data.toList ++ [13, 10] = lineT (hiOf false m t st rs mn fs) ++ [13, 10]) := Lib.hid (by simp [lineT, hiOf, ver])
    replace hrow10 : RowB w10 (w.heap.size + 1) v10 (lineT (hiOf false m t st rs mn fs) ++ [13, 10]) := by
      have := hrow10
      rw [← HL.out]
      exact this
    have hll : (lineT (hiOf false m t st rs mn fs) ++ [13, 10]).length ≤ 33554432 := by
      rw [← HL.out]
      simp only [List.length_append, List.length_cons, List.length_nil, size_data]
      omega
    have HT : Hid (textP (hiOf false m t st rs mn fs) = (lineT (hiOf false m t st rs mn fs) ++ [13, 10] ++ flT fs) ++ [13, 10]) := Lib.hid (by unfold textP flT; simp [hiOf])
    generalize (lineT (hiOf false m t st rs mn fs) ++ [13, 10]) = LH at hrow10 hll HT
    have h6 : (w.alloc (.cells #[.bool false, .string m, .string t, .int .i64 st, .string rs, .int .i64 mn, .slice A n c] 24)).cell? ⟨w.heap.size, 6, none⟩ = some (.slice A n c) := World.cell?_alloc_new _ _ _ _
    have hold : ∀ g o, g < w.heap.size → (w.alloc (.cells #[.bool false, .string m, .string t, .int .i64 st, .string rs, .int .i64 mn, .slice A n c] 24)).cell? ⟨g, o, none⟩ = w.cell? ⟨g, o, none⟩ := fun g o h => World.cell?_alloc_lt _ _ _ h
    have hbw : Below w.heap.size w (w.alloc (.cells #[.bool false, .string m, .string t, .int .i64 st, .string rs, .int .i64 mn, .slice A n c] 24)) := (Below.refl _ _).alloc (Nat.le_refl _) _
    have BL := B10
    generalize (w.alloc (.cells #[.bool false, .string m, .string t, .int .i64 st, .string rs, .int .i64 mn, .slice A n c] 24)) = W0 at h6 hold hbw BL
    have HO := Lib.hid hold
    have HBW := Lib.hid hbw
    clear hold hbw
    go_loopw [3, 4] (fun v i wr => ∃ k : Nat, k ≤ n ∧ i = .int .i64 k ∧ RowB wr (w.heap.size + 1) v (LH ++ flT (fs.take k)) ∧ Below (w.heap.size + 1) W0 wr ∧ w.heap.size + 1 ≤ wr.heap.size) (fun _ i _ => n - (intOf i).toNat)
    case atStart => exact ⟨0, Nat.zero_le _, rfl, by simpa [flT, fieldsT] using hrow10, BL, by assumption⟩
    case round =>
      obtain ⟨k, hk, rfl, hrow, hb, hzr⟩ := hrel
      have HR := Lib.hid hrow
      have HB := Lib.hid hb
      have k6 := (hb.cell (p := ⟨w.heap.size, 6, none⟩) (by show w.heap.size < _; omega)).trans h6
      have hsk := flSize_take fs k
      have hkl := flT_len (fs.take k)
      clear hrow hb
      by_cases hlt : k < n
      · obtain ⟨g, o, rfl, hg, hcell⟩ := hrd.2 (by omega)
        obtain ⟨G1, G2⟩ := fieldsV_get fs k (by omega)
        have c1 := (HO.out g (o + k * 2) hg).trans (hcell _ _ G1)
        have c2 := (HO.out g (o + (k * 2 + 1)) hg).trans (hcell _ _ G2)
        rw [← Nat.add_assoc] at c2
        have hsg := flSize_get fs k (by omega)
        have HTK := Lib.hid (flT_take fs k (by omega))
        clear hcell G1 G2
        generalize fs[k].1 = f1 at *
        generalize fs[k].2 = f2 at *
        generalize flT (fs.take k) = pk at *
        have k1 := (HB.out.cell (p := ⟨g, o + k * 2, none⟩) (by show g < _; omega)).trans c1
        have k2 := (HB.out.cell (p := ⟨g, o + k * 2 + 1, none⟩) (by show g < _; omega)).trans c2
        have HKL := Lib.hid hkl
        have hpk : pk.length + (f1.size + f2.size + 4) ≤ 67108864 := by omega
        clear hkl
        go_wp2_with (first
          | (at_builtin; (refine wpList_appB rfl (.tmp 57) (.tmp 63) 9 rfl (w.heap.size + 1) rfl HR.out rfl (SrcB.str _ _) (by (try simp only [List.length_append, List.length_cons, List.length_nil, size_data]); omega) (by first | omega | (simp; done) | (simp; omega)) ?_; intro v21 w21 hrow21 hb _ _; have B21 := (HB.out).trans hb; have z21 : w.heap.size + 1 ≤ w21.heap.size := (by have h0 := hb.size; (try simp at h0); omega); have k621 := (B21.cell (p := ⟨w.heap.size, 6, none⟩) (by show w.heap.size < _; omega)).trans h6; have k121 := (B21.cell (p := ⟨g, o + k * 2, none⟩) (by show g < _; omega)).trans c1; have k221 := (B21.cell (p := ⟨g, o + k * 2 + 1, none⟩) (by show g < _; omega)).trans c2; clear hb))
          | (at_builtin; (refine wpList_appB rfl (.tmp 65) (.tmp 66) 32 rfl (w.heap.size + 1) rfl (hrow21.alloc _) rfl (SrcB.built [58, 32] [.int .u8 58, .int .u8 32] rfl) (by (try simp only [List.length_append, List.length_cons, List.length_nil, size_data]); omega) (by first | omega | (simp; done) | (simp; omega)) ?_; intro v22 w22 hrow22 hb _ _; have B22 := ((B21.alloc (by omega) _)).trans hb; have z22 : w.heap.size + 1 ≤ w22.heap.size := (by have h0 := hb.size; (try simp at h0); omega); have k622 := (B22.cell (p := ⟨w.heap.size, 6, none⟩) (by show w.heap.size < _; omega)).trans h6; have k122 := (B22.cell (p := ⟨g, o + k * 2, none⟩) (by show g < _; omega)).trans c1; have k222 := (B22.cell (p := ⟨g, o + k * 2 + 1, none⟩) (by show g < _; omega)).trans c2; clear hb))
          | (at_builtin; (refine wpList_appB rfl (.tmp 68) (.tmp 74) 9 rfl (w.heap.size + 1) rfl hrow22 rfl (SrcB.str _ _) (by (try simp only [List.length_append, List.length_cons, List.length_nil, size_data]); omega) (by first | omega | (simp; done) | (simp; omega)) ?_; intro v23 w23 hrow23 hb _ _; have B23 := (B22).trans hb; have z23 : w.heap.size + 1 ≤ w23.heap.size := (by have h0 := hb.size; (try simp at h0); omega); have k623 := (B23.cell (p := ⟨w.heap.size, 6, none⟩) (by show w.heap.size < _; omega)).trans h6; have k123 := (B23.cell (p := ⟨g, o + k * 2, none⟩) (by show g < _; omega)).trans c1; have k223 := (B23.cell (p := ⟨g, o + k * 2 + 1, none⟩) (by show g < _; omega)).trans c2; clear hb))
          | (at_builtin; (refine wpList_appB rfl (.tmp 76) (.tmp 77) 32 rfl (w.heap.size + 1) rfl (hrow23.alloc _) rfl (SrcB.built [13, 10] [.int .u8 13, .int .u8 10] rfl) (by (try simp only [List.length_append, List.length_cons, List.length_nil, size_data]); omega) (by first | omega | (simp; done) | (simp; omega)) ?_; intro v24 w24 hrow24 hb _ _; have B24 := ((B23.alloc (by omega) _)).trans hb; have z24 : w.heap.size + 1 ≤ w24.heap.size := (by have h0 := hb.size; (try simp at h0); omega); have k624 := (B24.cell (p := ⟨w.heap.size, 6, none⟩) (by show w.heap.size < _; omega)).trans h6; have k124 := (B24.cell (p := ⟨g, o + k * 2, none⟩) (by show g < _; omega)).trans c1; have k224 := (B24.cell (p := ⟨g, o + k * 2 + 1, none⟩) (by show g < _; omega)).trans c2; clear hb))
          | fail)
        go_roundw
        case rel => exact ⟨k + 1, by omega, by go_num, by rw [HTK.out]; simpa only [List.append_assoc] using hrow24, B24, z24⟩
        case measure => simp [intOf]; omega
      · have e1 : fs.take k = fs := List.take_of_length_le (by omega)
        rw [e1] at HR hkl hsk
        go_wp2_with (first
          | (at_builtin; (refine wpList_appB rfl (.tmp 79) (.tmp 80) 32 rfl (w.heap.size + 1) rfl (RowB.alloc HR.out _) rfl (SrcB.built [13, 10] [.int .u8 13, .int .u8 10] rfl) (by (try simp only [List.length_append, List.length_cons, List.length_nil, size_data]); omega) (by first | omega | (simp; done) | (simp; omega)) ?_; intro v30 w30 hrow30 hb _ _; have B30 := (HB.out.alloc (by omega) _).trans hb; clear hb))
          | fail)
        go_ret
        refine ⟨_, rfl, ?_, HBW.out.trans (B30.mono (by omega))⟩
        rw [HT.out]
        exact Row.mono hrow30 (by omega)
  · go_wp2_with (first
      | (at_builtin; (refine wpList_appB rfl (.tmp 7) (.tmp 9) 9 rfl (w.heap.size + 1) rfl (RowB.nil _ _) rfl (SrcB.str _ _) (by (try simp only [List.length_append, List.length_cons, List.length_nil, size_data]); omega) (by first | omega | (simp; done) | (simp; omega)) ?_; intro v2 w2 hrow2 hb _ _; have B2 := (B1).trans hb; have z2 : w.heap.size + 1 ≤ w2.heap.size := (by have := B2.size; simpa using this); have c2 := (fun o : Nat => B2.cell (p := ⟨w.heap.size, o, none⟩) (by show w.heap.size < _; omega)); clear hb))
      | (at_builtin; (refine wpList_appB rfl (.tmp 11) (.tmp 12) 32 rfl (w.heap.size + 1) rfl (hrow2.alloc _) rfl (SrcB.built [32] [.int .u8 32] rfl) (by (try simp only [List.length_append, List.length_cons, List.length_nil, size_data]); omega) (by first | omega | (simp; done) | (simp; omega)) ?_; intro v3 w3 hrow3 hb _ _; have B3 := ((B2.alloc (by simpa using z2) _)).trans hb; have z3 : w.heap.size + 1 ≤ w3.heap.size := (by have := B3.size; simpa using this); have c3 := (fun o : Nat => B3.cell (p := ⟨w.heap.size, o, none⟩) (by show w.heap.size < _; omega)); clear hb))
      | (at_builtin; (refine wpList_appB rfl (.tmp 14) (.tmp 16) 9 rfl (w.heap.size + 1) rfl hrow3 rfl (SrcB.str _ _) (by (try simp only [List.length_append, List.length_cons, List.length_nil, size_data]); omega) (by first | omega | (simp; done) | (simp; omega)) ?_; intro v4 w4 hrow4 hb _ _; have B4 := (B3).trans hb; have z4 : w.heap.size + 1 ≤ w4.heap.size := (by have := B4.size; simpa using this); have c4 := (fun o : Nat => B4.cell (p := ⟨w.heap.size, o, none⟩) (by show w.heap.size < _; omega)); clear hb))
      | (at_builtin; (refine wpList_appB rfl (.tmp 18) (.const (.string ⟨#[32, 72, 84, 84, 80, 47, 49, 46]⟩)) 9 rfl (w.heap.size + 1) rfl hrow4 rfl (SrcB.str _ _) (by (try simp only [List.length_append, List.length_cons, List.length_nil, size_data]); omega) (by first | omega | (simp; done) | (simp; omega)) ?_; intro v5 w5 hrow5 hb _ _; have B5 := (B4).trans hb; have z5 : w.heap.size + 1 ≤ w5.heap.size := (by have := B5.size; simpa using this); have c5 := (fun o : Nat => B5.cell (p := ⟨w.heap.size, o, none⟩) (by show w.heap.size < _; omega)); clear hb))
      | (go_at_call 81; (refine (rdigits_any mn _ HMN.out).mono ?_; rintro _ w6 ⟨rfl, hb⟩; have hrow6 := hrow5.below_all hb; have B6 := B5.trans (hb.mono z5); clear hb; have z6 : w.heap.size + 1 ≤ w6.heap.size := (by have := B6.size; simpa using this)))
      | (at_builtin; (refine wpList_appB rfl (.tmp 20) (.tmp 23) 9 rfl (w.heap.size + 1) rfl hrow6 rfl (SrcB.str _ _) (by (try simp only [List.length_append, List.length_cons, List.length_nil, size_data]); omega) (by first | omega | (simp; done) | (simp; omega)) ?_; intro v9 w9 hrow9 hb _ _; have B9 := (B6).trans hb; have z9 : w.heap.size + 1 ≤ w9.heap.size := (by have := B9.size; simpa using this); have c9 := (fun o : Nat => B9.cell (p := ⟨w.heap.size, o, none⟩) (by show w.heap.size < _; omega)); clear hb))
      | (at_builtin; (refine wpList_appB rfl (.tmp 47) (.tmp 48) 32 rfl (w.heap.size + 1) rfl (hrow9.alloc _) rfl (SrcB.built [13, 10] [.int .u8 13, .int .u8 10] rfl) (by (try simp only [List.length_append, List.length_cons, List.length_nil, size_data]); omega) (by first | omega | (simp; done) | (simp; omega)) ?_; intro v10 w10 hrow10 hb _ _; have B10 := ((B9.alloc (by simpa using z9) _)).trans hb; have z10 : w.heap.size + 1 ≤ w10.heap.size := (by have := B10.size; simpa using this); have c10 := (fun o : Nat => B10.cell (p := ⟨w.heap.size, o, none⟩) (by show w.heap.size < _; omega)); clear hb))
      | fail)
    have HL : Hid ((((([] ++ m.data.toList) ++ [32]) ++ t.data.toList) ++ [32, 72, 84, 84, 80, 47, 49, 46]) ++ Lib.itoa mn ++ [13, 10] = lineT (hiOf true m t st rs mn fs) ++ [13, 10]) := Lib.hid (by simp [lineT, hiOf, ver])
    replace hrow10 : RowB w10 (w.heap.size + 1) v10 (lineT (hiOf true m t st rs mn fs) ++ [13, 10]) := by
      have := hrow10
      rw [← HL.out]
      exact this
    have hll : (lineT (hiOf true m t st rs mn fs) ++ [13, 10]).length ≤ 33554432 := by
      rw [← HL.out]
      simp only [List.length_append, List.length_cons, List.length_nil, size_data]
      omega
    have HT : Hid (textP (hiOf true m t st rs mn fs) = (lineT (hiOf true m t st rs mn fs) ++ [13, 10] ++ flT fs) ++ [13, 10]) := Lib.hid (by unfold textP flT; simp [hiOf])
    generalize (lineT (hiOf true m t st rs mn fs) ++ [13, 10]) = LH at hrow10 hll HT
    have h6 : (w.alloc (.cells #[.bool true, .string m, .string t, .int .i64 st, .string rs, .int .i64 mn, .slice A n c] 24)).cell? ⟨w.heap.size, 6, none⟩ = some (.slice A n c) := World.cell?_alloc_new _ _ _ _
    have hold : ∀ g o, g < w.heap.size → (w.alloc (.cells #[.bool true, .string m, .string t, .int .i64 st, .string rs, .int .i64 mn, .slice A n c] 24)).cell? ⟨g, o, none⟩ = w.cell? ⟨g, o, none⟩ := fun g o h => World.cell?_alloc_lt _ _ _ h
    have hbw : Below w.heap.size w (w.alloc (.cells #[.bool true, .string m, .string t, .int .i64 st, .string rs, .int .i64 mn, .slice A n c] 24)) := (Below.refl _ _).alloc (Nat.le_refl _) _
    have BL := B10
    generalize (w.alloc (.cells #[.bool true, .string m, .string t, .int .i64 st, .string rs, .int .i64 mn, .slice A n c] 24)) = W0 at h6 hold hbw BL
    have HO := Lib.hid hold
    have HBW := Lib.hid hbw
    clear hold hbw
    go_loopw [3, 4] (fun v i wr => ∃ k : Nat, k ≤ n ∧ i = .int .i64 k ∧ RowB wr (w.heap.size + 1) v (LH ++ flT (fs.take k)) ∧ Below (w.heap.size + 1) W0 wr ∧ w.heap.size + 1 ≤ wr.heap.size) (fun _ i _ => n - (intOf i).toNat)
    case atStart => exact ⟨0, Nat.zero_le _, rfl, by simpa [flT, fieldsT] using hrow10, BL, by assumption⟩
    case round =>
      obtain ⟨k, hk, rfl, hrow, hb, hzr⟩ := hrel
      have HR := Lib.hid hrow
      have HB := Lib.hid hb
      have k6 := (hb.cell (p := ⟨w.heap.size, 6, none⟩) (by show w.heap.size < _; omega)).trans h6
      have hsk := flSize_take fs k
      have hkl := flT_len (fs.take k)
      clear hrow hb
      by_cases hlt : k < n
      · obtain ⟨g, o, rfl, hg, hcell⟩ := hrd.2 (by omega)
        obtain ⟨G1, G2⟩ := fieldsV_get fs k (by omega)
        have c1 := (HO.out g (o + k * 2) hg).trans (hcell _ _ G1)
        have c2 := (HO.out g (o + (k * 2 + 1)) hg).trans (hcell _ _ G2)
        rw [← Nat.add_assoc] at c2
        have hsg := flSize_get fs k (by omega)
        have HTK := Lib.hid (flT_take fs k (by omega))
        clear hcell G1 G2
        generalize fs[k].1 = f1 at *
        generalize fs[k].2 = f2 at *
        generalize flT (fs.take k) = pk at *
        have k1 := (HB.out.cell (p := ⟨g, o + k * 2, none⟩) (by show g < _; omega)).trans c1
        have k2 := (HB.out.cell (p := ⟨g, o + k * 2 + 1, none⟩) (by show g < _; omega)).trans c2
        have HKL := Lib.hid hkl
        have hpk : pk.length + (f1.size + f2.size + 4) ≤ 67108864 := by omega
        clear hkl
        go_wp2_with (first
          | (at_builtin; (refine wpList_appB rfl (.tmp 57) (.tmp 63) 9 rfl (w.heap.size + 1) rfl HR.out rfl (SrcB.str _ _) (by (try simp only [List.length_append, List.length_cons, List.length_nil, size_data]); omega) (by first | omega | (simp; done) | (simp; omega)) ?_; intro v21 w21 hrow21 hb _ _; have B21 := (HB.out).trans hb; have z21 : w.heap.size + 1 ≤ w21.heap.size := (by have h0 := hb.size; (try simp at h0); omega); have k621 := (B21.cell (p := ⟨w.heap.size, 6, none⟩) (by show w.heap.size < _; omega)).trans h6; have k121 := (B21.cell (p := ⟨g, o + k * 2, none⟩) (by show g < _; omega)).trans c1; have k221 := (B21.cell (p := ⟨g, o + k * 2 + 1, none⟩) (by show g < _; omega)).trans c2; clear hb))
          | (at_builtin; (refine wpList_appB rfl (.tmp 65) (.tmp 66) 32 rfl (w.heap.size + 1) rfl (hrow21.alloc _) rfl (SrcB.built [58, 32] [.int .u8 58, .int .u8 32] rfl) (by (try simp only [List.length_append, List.length_cons, List.length_nil, size_data]); omega) (by first | omega | (simp; done) | (simp; omega)) ?_; intro v22 w22 hrow22 hb _ _; have B22 := ((B21.alloc (by omega) _)).trans hb; have z22 : w.heap.size + 1 ≤ w22.heap.size := (by have h0 := hb.size; (try simp at h0); omega); have k622 := (B22.cell (p := ⟨w.heap.size, 6, none⟩) (by show w.heap.size < _; omega)).trans h6; have k122 := (B22.cell (p := ⟨g, o + k * 2, none⟩) (by show g < _; omega)).trans c1; have k222 := (B22.cell (p := ⟨g, o + k * 2 + 1, none⟩) (by show g < _; omega)).trans c2; clear hb))
          | (at_builtin; (refine wpList_appB rfl (.tmp 68) (.tmp 74) 9 rfl (w.heap.size + 1) rfl hrow22 rfl (SrcB.str _ _) (by (try simp only [List.length_append, List.length_cons, List.length_nil, size_data]); omega) (by first | omega | (simp; done) | (simp; omega)) ?_; intro v23 w23 hrow23 hb _ _; have B23 := (B22).trans hb; have z23 : w.heap.size + 1 ≤ w23.heap.size := (by have h0 := hb.size; (try simp at h0); omega); have k623 := (B23.cell (p := ⟨w.heap.size, 6, none⟩) (by show w.heap.size < _; omega)).trans h6; have k123 := (B23.cell (p := ⟨g, o + k * 2, none⟩) (by show g < _; omega)).trans c1; have k223 := (B23.cell (p := ⟨g, o + k * 2 + 1, none⟩) (by show g < _; omega)).trans c2; clear hb))
          | (at_builtin; (refine wpList_appB rfl (.tmp 76) (.tmp 77) 32 rfl (w.heap.size + 1) rfl (hrow23.alloc _) rfl (SrcB.built [13, 10] [.int .u8 13, .int .u8 10] rfl) (by (try simp only [List.length_append, List.length_cons, List.length_nil, size_data]); omega) (by first | omega | (simp; done) | (simp; omega)) ?_; intro v24 w24 hrow24 hb _ _; have B24 := ((B23.alloc (by omega) _)).trans hb; have z24 : w.heap.size + 1 ≤ w24.heap.size := (by have h0 := hb.size; (try simp at h0); omega); have k624 := (B24.cell (p := ⟨w.heap.size, 6, none⟩) (by show w.heap.size < _; omega)).trans h6; have k124 := (B24.cell (p := ⟨g, o + k * 2, none⟩) (by show g < _; omega)).trans c1; have k224 := (B24.cell (p := ⟨g, o + k * 2 + 1, none⟩) (by show g < _; omega)).trans c2; clear hb))
          | fail)
        go_roundw
        case rel => exact ⟨k + 1, by omega, by go_num, by rw [HTK.out]; simpa only [List.append_assoc] using hrow24, B24, z24⟩
        case measure => simp [intOf]; omega
      · have e1 : fs.take k = fs := List.take_of_length_le (by omega)
        rw [e1] at HR hkl hsk
        go_wp2_with (first
          | (at_builtin; (refine wpList_appB rfl (.tmp 79) (.tmp 80) 32 rfl (w.heap.size + 1) rfl (RowB.alloc HR.out _) rfl (SrcB.built [13, 10] [.int .u8 13, .int .u8 10] rfl) (by (try simp only [List.length_append, List.length_cons, List.length_nil, size_data]); omega) (by first | omega | (simp; done) | (simp; omega)) ?_; intro v30 w30 hrow30 hb _ _; have B30 := (HB.out.alloc (by omega) _).trans hb; clear hb))
          | fail)
        go_ret
        refine ⟨_, rfl, ?_, HBW.out.trans (B30.mono (by omega))⟩
        rw [HT.out]
        exact Row.mono hrow30 (by omega)
end Go.Proofs.YtabecgdaiakgiaaDoor
