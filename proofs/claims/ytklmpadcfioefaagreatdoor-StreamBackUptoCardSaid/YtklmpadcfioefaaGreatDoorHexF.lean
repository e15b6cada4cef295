/- strconv.FormatInt at base 16. Conditions: the size, the library's table. -/
import Derived.Test.YtklmpadcfioefaaGreatDoorMB
import Derived.Test.YtklmpadcfioefaaGreatDoorMA
import Derived.Lib.SlBytesConst
import Derived.Test.YtklmpadcfioefaaGreatDoorMX0
import Derived.Laws.MathBits
namespace Go.Proofs.YtklmpadcfioefaaGreatDoor
open Go.RowKit

theorem and_low4 (z : Int) (h0 : 0 ≤ z) (h1 : z < 18446744073709551616) : bits .and .u64 z 15 = z % 16 := by go_bits2
theorem isPow2_16 (w : World) : Calls Tryz.prog 162 #[.int .i64 16] w fun e w' => e = .returned (.bool true) ∧ w = w' := by
  go_enter Tryz.func162, Tryz.ntmps162
  go_wp2
  go_ret
  exact ⟨rfl, rfl⟩
/-- the library's table, at the place that 16 asks for -/
def Tz (w : World) : Prop := w.cell? ⟨5, 15, none⟩ = some (.int .u8 4)
theorem tz64_16 (w : World) (ht : Tz w) : Calls Tryz.prog 170 #[.int .u64 16] w fun e w' => e = .returned (.int .i64 4) ∧ w = w' := by
  unfold Tz at ht
  have hx : IntKind.u64.wrap (bits BinOp.and IntKind.u64 16 (IntKind.u64.wrap (-16)) * 285870213051353865) / 288230376151711744 = 15 := by decide
  go_enter Tryz.func170, Tryz.ntmps170
  go_wp2
  go_ret
  exact ⟨rfl, rfl⟩
theorem tz_16 (w : World) (ht : Tz w) : Calls Tryz.prog 163 #[.int .u64 16] w fun e w' => e = .returned (.int .i64 4) ∧ w = w' := by
  go_enter Tryz.func163, Tryz.ntmps163
  go_wp2_with (go_at_call 170; (refine (tz64_16 _ ht).mono ?_; rintro _ _ ⟨rfl, rfl⟩))
  go_ret
  exact ⟨rfl, rfl⟩

/-- digits in a block: what stands from i on -/
def hexAt (i : Nat) (ds : Bs) : List Value := List.replicate i (.int .u8 0) ++ bytesV ds
theorem hexAt_get (i : Nat) (ds : Bs) : (hexAt (i + 1) ds)[i]? = some (.int .u8 0) := by
  unfold hexAt
  rw [List.getElem?_append_left (by simp)]; simp
theorem hexAt_set (i : Nat) (ds : Bs) (c : UInt8) : (hexAt (i + 1) ds).set i (.int .u8 (c.toNat : Int)) = hexAt i (c :: ds) := by
  unfold hexAt
  rw [List.replicate_succ', List.append_assoc, List.set_append_right _ _ (by simp)]
  simp [bytesV]
def digits36 : ByteArray := ⟨#[48, 49, 50, 51, 52, 53, 54, 55, 56, 57, 97, 98, 99, 100, 101, 102, 103, 104, 105, 106, 107, 108, 109, 110, 111, 112, 113, 114, 115, 116, 117, 118, 119, 120, 121, 122]⟩
theorem digits36_at (d : Nat) (h : d < 16) : digits36.data.toList[d]? = some (Chunk.hexDig d) := by
  have : ∀ d : Fin 16, digits36.data.toList[d.val]? = some (Chunk.hexDig d.val) := by decide
  exact this ⟨d, h⟩
theorem digits36_get (d : Nat) (h : d < 16) (hh : d < digits36.size) : digits36[d]'hh = Chunk.hexDig d := by
  have := digits36_at d h
  rw [List.getElem?_eq_some_iff] at this
  obtain ⟨h1, h2⟩ := this
  rw [← h2]; rfl
theorem hexAt_rd {w : World} {b k : Nat} {ds : Bs} (h : Var w b 184 (hexAt k ds)) : Rd w w.heap.size 1 (some ⟨b, k, none⟩) ds.length (bytesV ds) :=
  ⟨by rw [bytesV_len]; omega, fun _ => ⟨b, k, rfl, h.lt, fun j u hu => h.cell (by
    unfold hexAt
    rw [List.getElem?_append_right (by simp)]
    simpa using hu)⟩⟩
set_option maxHeartbeats 1000000 in
set_option maxRecDepth 100000 in
theorem fBits_any (n : Nat) (hn : n ≤ 2147483647) (w : World) (ht : Tz w) (h5 : 5 < w.heap.size) : Calls Tryz.prog 141 #[.slice none 0 0, .int .u64 n, .int .i64 16, .bool false, .bool false] w fun e w' => e = .returned (.tuple #[.slice none 0 0, .string ⟨(Chunk.hexD n).toArray⟩]) ∧ Below w.heap.size w w' := by
  go_enter Tryz.func141, Tryz.ntmps141
  go_upto_region 11 with (first
    | (go_at_call 162; (refine (isPow2_16 _).mono ?_; rintro _ _ ⟨rfl, rfl⟩))
    | (go_at_call 163; (refine (tz_16 _ (by unfold Tz at ht ⊢; rw [World.cell?_alloc_lt _ _ _ h5]; exact ht)).mono ?_; rintro _ _ ⟨rfl, rfl⟩))
    | fail)
  have hz : Tryz.zeroCells184 = (hexAt 65 []).toArray := by kernel_rfl
  rw [hz]
  clear hz
  have hl8 := Chunk.hexD_len8 (n := n) hn
  go_loopw [1, 13] (fun u i wr => ∃ (v k : Nat) (ds : Bs), u = .int .u64 v ∧ i = .int .i64 k ∧ Var wr w.heap.size 184 (hexAt k ds) ∧ Below w.heap.size w wr ∧ Chunk.hexD n = Chunk.hexD v ++ ds ∧ k + ds.length = 65 ∧ v ≤ n) (fun u _ _ => (intOf u).toNat)
  case atStart => exact ⟨n, 65, [], rfl, rfl, Var.new w 184 (hexAt 65 []), (Below.refl _ _).alloc (Nat.le_refl _) _, by simp, rfl, Nat.le_refl _⟩
  case round =>
    obtain ⟨v, k, ds, rfl, rfl, hv, hb, heq, hk, hvn⟩ := hrel
    have hl : (Chunk.hexD v).length + ds.length ≤ 8 := by rw [heq, List.length_append] at hl8; exact hl8
    have hpos := Chunk.hexD_pos v
    have HV := Lib.hid hv
    have HB := Lib.hid hb
    have HE := Lib.hid heq
    clear heq hl8 hv hb
    obtain ⟨k', rfl⟩ : ∃ k', k = k' + 1 := ⟨k - 1, by omega⟩
    have hsub : ((k' + 1 : Nat) : Int) - 1 = (k' : Int) := by omega
    have hk65 : (k' : Int) < 65 := by omega
    have hc := HV.out.cell (j := k') (hexAt_get k' ds)
    have hf := HV.out.frozen k'
    by_cases h16 : v < 16
    · have hng : ¬ (16 : Int) ≤ (v : Int) := by omega
      have hdg : ∀ h, (⟨#[48, 49, 50, 51, 52, 53, 54, 55, 56, 57, 97, 98, 99, 100, 101, 102, 103, 104, 105, 106, 107, 108, 109, 110, 111, 112, 113, 114, 115, 116, 117, 118, 119, 120, 121, 122]⟩ : ByteArray)[v]'h = Chunk.hexDig v := fun h => digits36_get v h16 h
      have hal : Tryz.prog.arrayLen 184 = 65 := by kernel_rfl
      have hsl : ∀ W, (Instr.sliceAt 184 (.pointer (some ⟨w.heap.size, 0, none⟩)) (some (.int .i64 (k' : Int))) none none).run Tryz.prog W = .ok (.slice (some ⟨w.heap.size, k', none⟩) (ds.length + 1) (ds.length + 1)) W := fun W => by
        rw [run_sliceAt_array_l W 184 ⟨w.heap.size, 0, none⟩ (by kernel_rfl) .i64 (k' : Int) (by omega) (by rw [hal]; omega), hal]
        have e1 : 65 - k' = ds.length + 1 := by omega
        have e2 : ¬ 65 = k' := by omega
        go_simp
      have VS := HV.out.set k' (.int .u8 ((Chunk.hexDig v).toNat : Int))
      rw [hexAt_set] at VS
      have hcv := conv_str (P := Tryz.prog) 26 9 5 Tryz.underlying26 Tryz.underlying5 Tryz.underlying9 (c := ds.length + 1) (hexAt_rd VS) (fun e => by cases e)
      rw [List.length_cons] at hcv
      have HF : Hid (Chunk.hexD n = Chunk.hexDig v :: ds) := Lib.hid (by rw [HE.out, Chunk.hexD_small h16]; rfl)
      clear hal VS
      go_wp2
      refine bodyPost_ret (results_tmp2 rfl _ _ _) rfl ?_
      rw [HF.out]
      exact ⟨rfl, HB.out.setCell (Nat.le_refl _) _⟩
    · have hge : (16 : Int) ≤ (v : Int) := by omega
      have hand : bits .and .u64 (v : Int) 15 = ((v % 16 : Nat) : Int) := by rw [and_low4 _ (by omega) (by omega)]; omega
      have hdg : ∀ h, (⟨#[48, 49, 50, 51, 52, 53, 54, 55, 56, 57, 97, 98, 99, 100, 101, 102, 103, 104, 105, 106, 107, 108, 109, 110, 111, 112, 113, 114, 115, 116, 117, 118, 119, 120, 121, 122]⟩ : ByteArray)[v % 16]'h = Chunk.hexDig (v % 16) := fun h => digits36_get (v % 16) (by omega) h
      go_wp2
      refine ⟨⟨v / 16, k', Chunk.hexDig (v % 16) :: ds, by simp, rfl, ?_, HB.out.setCell (Nat.le_refl _) _, ?_, by simp; omega, by omega⟩, by simp [intOf]; omega⟩
      · have := HV.out.set k' (.int .u8 ((Chunk.hexDig (v % 16)).toNat : Int))
        rw [hexAt_set] at this
        exact this
      · rw [HE.out, Chunk.hexD_big h16]; simp
theorem iFormat_any (n : Nat) (hn : n ≤ 2147483647) (w : World) (ht : Tz w) (h5 : 5 < w.heap.size) : Calls Tryz.prog 111 #[.int .i64 n, .int .i64 16] w fun e w' => e = .returned (.string ⟨(Chunk.hexD n).toArray⟩) ∧ Below w.heap.size w w' := by
  have hw : IntKind.u64.wrap (n : Int) = n := by rw [IntKind.wrap_u64]; omega
  go_enter Tryz.func111, Tryz.ntmps111
  go_wp2_with (first
    | (go_at_call 141; (refine (fBits_any n hn _ ht h5).mono ?_; rintro _ w1 ⟨rfl, hb1⟩))
    | fail)
  go_ret
  exact ⟨rfl, hb1⟩
theorem sFormat_any (n : Nat) (hn : n ≤ 2147483647) (w : World) (ht : Tz w) (h5 : 5 < w.heap.size) : Calls Tryz.prog 68 #[.int .i64 n, .int .i64 16] w fun e w' => e = .returned (.string ⟨(Chunk.hexD n).toArray⟩) ∧ Below w.heap.size w w' := by
  go_enter Tryz.func68, Tryz.ntmps68
  go_wp2_with (first
    | (go_at_call 111; (refine (iFormat_any n hn _ ht h5).mono ?_; rintro _ w1 ⟨rfl, hb1⟩))
    | fail)
  go_ret
  exact ⟨rfl, hb1⟩
theorem Tz.lt {w : World} (h : Tz w) : 5 < w.heap.size := World.block_lt_of_cell? w _ h
theorem Tz.below {w w' : World} {B : Nat} (h : Tz w) (hb : Below B w w') (h5 : 5 < B) : Tz w' := (hb.cell (p := ⟨5, 15, none⟩) h5).trans h

/-- []byte(s), s a text that is made at run time -/
theorem conv_sb (w : World) (s : ByteArray) (hs : s.size ≤ maxLen) : ∃ v w', (convert 9 26 (.string s)).run Tryz.prog w = .ok v w' ∧ RowB w' w.heap.size v s.data.toList ∧ Below w.heap.size w w' := by
  refine ⟨_, _, Lib.run_convert_string_bytes (P := Tryz.prog) w 9 26 5 s Tryz.underlying9 Tryz.underlying26 Tryz.underlying5, ?_, Lib.bytesWorld_below w 5 s⟩
  have := bytes_row w 5 s hs
  unfold RowB
  rw [← size_data]
  exact this
set_option maxHeartbeats 1000000 in
set_option maxRecDepth 100000 in
theorem cwrite_any (A : Option Addr) (n c : Nat) (l : Bs) (w : World) (ht : Tz w) (hA : A = none → n = 0) (hrd : Rd w w.heap.size 1 A n (bytesV l)) (hn : n ≤ 100000000) :
    Calls Tryz.prog 34 #[.slice A n c] w fun e w' => ∃ v, e = .returned v ∧ RowB w' w.heap.size v (Chunk.writeC l) ∧ Below w.heap.size w w' := by
  have hlen : l.length = n := by have := hrd.1; rw [bytesV_len] at this; omega
  by_cases h0 : n = 0
  · subst h0
    have hl0 : l = [] := List.eq_nil_of_length_eq_zero hlen
    subst hl0
    go_enter Tryz.func34, Tryz.ntmps34
    go_wp2
    go_ret
    exact ⟨_, rfl, RowB.nil _ _, Below.refl _ _⟩
  · have hne : l ≠ [] := fun e => by subst e; simp at hlen; omega
    have HW : Hid (Chunk.writeC l = Chunk.hexD n ++ [13, 10] ++ l ++ [13, 10]) := Lib.hid (by rw [Chunk.writeC_cons hne, hlen])
    have HLN := Lib.hid hlen
    have e0 : ((n : Int) == 0) = false := by simp; omega
    have hx8 := Chunk.hexD_len8 (n := n) (by unfold Chunk.most; omega)
    have HF := Lib.hid (sFormat_any n (by omega) w ht ht.lt)
    generalize Chunk.hexD n = D at HW hx8 HF
    clear h0 hne hlen
    go_enter Tryz.func34, Tryz.ntmps34
    go_upto_region 4 with (first
      | (go_at_call 68; go_must (refine HF.out.mono ?_; rintro _ w1 ⟨rfl, hb1⟩; obtain ⟨v2, w2, hcv, hrow2, hb2⟩ := conv_sb w1 ⟨D.toArray⟩ (by simp [ByteArray.size, maxLen]; omega)))
      | (at_builtin; go_must (refine wpList_appB (L := D) (M := [13, 10]) rfl (.tmp 10) (.tmp 11) 26 rfl w.heap.size rfl ((Row.mono hrow2 hb1.size).alloc _) rfl (SrcB.built [13, 10] [.int .u8 13, .int .u8 10] rfl) (by simp; omega) (by have := hb1.size; have := hb2.size; simp; omega) ?_); go_must (intro v3 w3 hrow3 hbb3 hg3 _))
      | fail)
    have hz1 := hb1.size
    have hb3 : Below w.heap.size w w3 := ((hb1.trans (hb2.mono hz1)).alloc (by have := hb2.size; omega) _).trans hbb3
    clear hcv hrow2 hbb3 hg3
    go_wp2_with (first
      | (at_builtin; (refine wpList_appB (L := D ++ [13, 10]) (M := l) rfl (.tmp 13) (.tmp 14) 26 rfl w.heap.size rfl hrow3 rfl (SrcB.slice (hrd.keeps hb3) hA) (by have := HLN.out; simp; omega) hb3.size ?_); go_must (intro v4 w4 hrow4 hbb4 hg4 _; have hb4 := hb3.trans hbb4))
      | (at_builtin; (refine wpList_appB (L := D ++ [13, 10] ++ l) (M := [13, 10]) rfl (.tmp 15) (.tmp 16) 26 rfl w.heap.size rfl (hrow4.alloc _) rfl (SrcB.built [13, 10] [.int .u8 13, .int .u8 10] rfl) (by have := HLN.out; simp; omega) (by have := hb4.size; simp; omega) ?_); go_must (intro v5 w5 hrow5 hbb5 hg5 _))
      | fail)
    go_ret
    refine ⟨_, rfl, ?_, (hb4.alloc hb4.size _).trans hbb5⟩
    rw [HW.out]
    exact hrow5
/-- []byte("..") of a constant -/
theorem conv_lit (w : World) (L : Bs) (us : List Value) (n : Nat) (hu : us = bytesV L := by rfl) (hn : L.length = n := by rfl) (hm : n ≤ 1048576 := by omega) : ∃ w', (convert 26 26 (.slice (some ⟨w.heap.size, 0, none⟩) n n)).run Tryz.prog (w.alloc (.cells us.toArray 5)) = .ok (.slice (some ⟨w.heap.size, 0, none⟩) n n) w' ∧ RowB w' w.heap.size (.slice (some ⟨w.heap.size, 0, none⟩) n n) L ∧ Below w.heap.size w w' := by
  subst hu hn
  refine ⟨_, Lib.run_convert_bytes_const w 26 5 (bytesV L).toArray L.length L.length Tryz.underlying26 Tryz.underlying5, ?_, (Below.refl _ _).alloc (Nat.le_refl _) _⟩
  refine ⟨by rw [bytesV_len]; omega, .inr ⟨w.heap.size, 0, L.length, _, _, _, rfl, Nat.le_refl _, heap_alloc_new w _, Nat.le_refl _, by unfold maxLen; omega, by simp [bytesV_len], ?_, by simp [← bytesV_len]⟩⟩
  intro j _ hj
  simp [bytesV_len]; omega
theorem cend_any (w : World) : Calls Tryz.prog 35 #[] w fun e w' => ∃ v, e = .returned v ∧ RowB w' w.heap.size v [48, 13, 10, 13, 10] ∧ Below w.heap.size w w' := by
  obtain ⟨w1, hcv, hrow, hb⟩ := conv_lit w [48, 13, 10, 13, 10] [.int .u8 48, .int .u8 13, .int .u8 10, .int .u8 13, .int .u8 10] 5
  go_enter Tryz.func35, Tryz.ntmps35
  go_wp2
  go_ret
  exact ⟨_, rfl, hrow, hb⟩
end Go.Proofs.YtklmpadcfioefaaGreatDoor
