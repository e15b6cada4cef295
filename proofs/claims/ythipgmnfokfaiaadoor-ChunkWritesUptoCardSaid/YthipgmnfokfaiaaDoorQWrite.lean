/- the document's Write. Conditions: sizes. -/
import Derived.Test.YthipgmnfokfaiaaDoorHexF
namespace Go.Proofs.YthipgmnfokfaiaaDoor
open Go.RowKit

theorem SrcB.of_row {w : World} {base c : Nat} {A : Option Addr} {L : Bs} (h : RowB w base (.slice A L.length c) L) : SrcB w 35 (.slice A L.length c) L := by
  obtain ⟨A', c', e, _, _, h0, hr⟩ := h.form
  injection e with e1 _ e3
  subst e1 e3
  exact SrcB.slice hr (fun e => (h0 e).1)
theorem built_rowB (w : World) (L : Bs) (us : List Value) (n : Nat) (hu : us = bytesV L) (hn : L.length = n) (hm : n ≤ 1048576) : RowB (w.alloc (.cells us.toArray 5)) w.heap.size (.slice (some ⟨w.heap.size, 0, none⟩) n n) L := by
  subst hu hn
  exact built_row w (bytesV L) 5 1 L.length (by rw [bytesV_len]; omega) hm
def digits16 : ByteArray := ⟨#[48, 49, 50, 51, 52, 53, 54, 55, 56, 57, 97, 98, 99, 100, 101, 102]⟩
theorem digits16_get (d : Nat) (h : d < 16) (hh : d < digits16.size) : digits16[d]'hh = Chunk.hexDig d := by
  have key : ∀ d : Fin 16, digits16.data.toList[d.val]? = some (Chunk.hexDig d.val) := by decide
  have := key ⟨d, h⟩
  simp only [List.getElem?_eq_some_iff] at this
  obtain ⟨h1, h2⟩ := this
  rw [← h2]; rfl
set_option maxHeartbeats 1000000 in
set_option maxRecDepth 100000 in
theorem qwrite_any (A : Option Addr) (n c : Nat) (l : Bs) (w : World) (hA : A = none → n = 0) (hrd : Rd w w.heap.size 1 A n (bytesV l)) (hn : n ≤ 100000000) :
    Calls Tryd.prog 51 #[.slice A n c] w fun e w' => ∃ v, e = .returned v ∧ RowB w' w.heap.size v (Chunk.writeC l) ∧ Below w.heap.size w w' := by
  have hlen : l.length = n := by have := hrd.1; rw [bytesV_len] at this; omega
  by_cases h0 : n = 0
  · subst h0
    have hl0 : l = [] := List.eq_nil_of_length_eq_zero hlen
    subst hl0
    go_enter Tryd.func51, Tryd.ntmps51
    go_wp2
    go_ret
    exact ⟨_, rfl, RowB.nil _ _, Below.refl _ _⟩
  · have hne : l ≠ [] := fun e => by subst e; simp at hlen; omega
    have HW : Hid (Chunk.writeC l = Chunk.hexD n ++ [13, 10] ++ l ++ [13, 10]) := Lib.hid (by rw [Chunk.writeC_cons hne, hlen])
    have HLN := Lib.hid hlen
    have e0 : ((n : Int) == 0) = false := by simp; omega
    have hx8 := Chunk.hexD_len8 (n := n) (by unfold Chunk.most; omega)
    have HX : Hid (n ≠ 0) := Lib.hid h0
    clear h0 hne hlen
    go_enter Tryd.func51, Tryd.ntmps51
    go_wp2
    go_loopw [3, 4] (fun vb u wr => ∃ (v : Nat) (ds : Bs), u = .int .i64 v ∧ RowB wr w.heap.size vb ds ∧ v ≤ n ∧ Below w.heap.size w wr ∧ (if v = 0 then Chunk.hexD n = ds else Chunk.hexD n = Chunk.hexD v ++ ds)) (fun _ u _ => (intOf u).toNat)
    case atStart => exact ⟨n, [], rfl, RowB.nil _ _, Nat.le_refl _, Below.refl _ _, by rw [if_neg HX.out]; simp⟩
    case round =>
      obtain ⟨v, ds, rfl, hrow, hvn, hb, heq⟩ := hrel
      obtain ⟨Ad, cd, rfl, _, _, _, _⟩ := hrow.form
      have HR := Lib.hid hrow
      have HB := Lib.hid hb
      have HE := Lib.hid heq
      clear hrow hb heq
      by_cases hv : v = 0
      · subst hv
        have HD : Hid (Chunk.hexD n = ds) := Lib.hid (by have := HE.out; rwa [if_pos rfl] at this)
        clear HE
        have HDL : Hid (ds.length ≤ 8) := Lib.hid (by rw [← HD.out]; exact hx8)
        have hzw := HB.out.size
        go_upto_region 9 with (first
          | (at_builtin; go_must (refine wpList_appB (L := ds) (M := [13, 10]) rfl (.tmp 20) (.tmp 21) 35 rfl w.heap.size rfl (HR.out.alloc _) rfl (SrcB.built [13, 10] [.int .u8 13, .int .u8 10] rfl) (by have := HDL.out; simp; omega) (by simp; omega) ?_); go_must (intro v3 w3 hrow3 hbb3 hg3 _))
          | fail)
        have hb3 : Below w.heap.size w w3 := (HB.out.alloc hzw _).trans hbb3
        go_wp2_with (first
          | (at_builtin; (refine wpList_appB (L := ds ++ [13, 10]) (M := l) rfl (.tmp 23) (.tmp 24) 35 rfl w.heap.size rfl hrow3 rfl (SrcB.slice (hrd.keeps hb3) hA) (by have := HLN.out; have := HDL.out; simp; omega) hb3.size ?_); go_must (intro v4 w4 hrow4 hbb4 hg4 _; have hb4 := hb3.trans hbb4))
          | (at_builtin; (refine wpList_appB (L := ds ++ [13, 10] ++ l) (M := [13, 10]) rfl (.tmp 26) (.tmp 27) 35 rfl w.heap.size rfl (hrow4.alloc _) rfl (SrcB.built [13, 10] [.int .u8 13, .int .u8 10] rfl) (by have := HLN.out; have := HDL.out; simp; omega) (by have := hb4.size; simp; omega) ?_); go_must (intro v5 w5 hrow5 hbb5 hg5 _))
          | fail)
        go_ret
        refine ⟨_, rfl, ?_, (hb4.alloc hb4.size _).trans hbb5⟩
        rw [HW.out, HD.out]
        exact hrow5
      · have hv' : (0 : Int) < (v : Int) := by omega
        have HD : Hid (Chunk.hexD n = Chunk.hexD v ++ ds) := Lib.hid (by have := HE.out; rwa [if_neg hv] at this)
        clear HE
        have hdg : ∀ h, (⟨#[48, 49, 50, 51, 52, 53, 54, 55, 56, 57, 97, 98, 99, 100, 101, 102]⟩ : ByteArray)[v % 16]'h = Chunk.hexDig (v % 16) := fun h => digits16_get (v % 16) (by omega) h
        have hq : wrap64 ((v : Int) / 16) = ((v / 16 : Nat) : Int) := by unfold wrap64; omega
        have hzw := HB.out.size
        have hdl : ds.length ≤ 8 := by rw [HD.out, List.length_append] at hx8; omega
        have HN : Hid (if v / 16 = 0 then Chunk.hexD n = Chunk.hexDig (v % 16) :: ds else Chunk.hexD n = Chunk.hexD (v / 16) ++ Chunk.hexDig (v % 16) :: ds) := Lib.hid (by
          by_cases h16 : v < 16
          · rw [if_pos (by omega), HD.out, Chunk.hexD_small h16, Nat.mod_eq_of_lt h16]; rfl
          · rw [if_neg (by omega), HD.out, Chunk.hexD_big h16]; simp)
        have hbr := built_rowB wr [Chunk.hexDig (v % 16)] [.int .u8 ((Chunk.hexDig (v % 16)).toNat : Int)] 1 rfl rfl (by omega)
        have HBR := Lib.hid hbr
        clear hbr HD
        go_wp2_with (first
          | (at_builtin; go_must (refine wpList_appB (L := [Chunk.hexDig (v % 16)]) (M := ds) rfl (.tmp 17) (.tmp 18) 35 rfl w.heap.size rfl (Row.mono HBR.out hzw) rfl (SrcB.of_row (HR.out.alloc _)) (by simp; omega) (by simp; omega) ?_); go_must (intro v3 w3 hrow3 hbb3 hg3 _))
          | fail)
        go_roundw
        case rel => exact ⟨v / 16, _, by first | rfl | (rw [hq]) | simp, hrow3, by omega, (HB.out.alloc hzw _).trans hbb3, HN.out⟩
        case measure => simp [intOf]; omega
end Go.Proofs.YthipgmnfokfaiaaDoor
