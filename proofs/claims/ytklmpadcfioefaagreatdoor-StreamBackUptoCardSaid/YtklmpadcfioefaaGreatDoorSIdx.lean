/- bytes.Index, and which error a head that is too long has. Conditions: sizes, the world's shape. -/
import Derived.Test.YtklmpadcfioefaaGreatDoorSCall
import Derived.Test.YtklmpadcfioefaaGreatDoorShelf
import Derived.Lib.SlBytesConst
import Derived.Outline
namespace Go.Proofs.YtklmpadcfioefaaGreatDoor
open Go.RowKit

theorem bytesOf_nat (l : Bs) : Lib.bytesOf (l.map fun b => (b.toNat : Int)) = l := by
  unfold Lib.bytesOf
  rw [List.map_map]
  conv => rhs; rw [← List.map_id l]
  apply List.map_congr_left
  intro b _
  simp
theorem cells_at {w : World} {B n : Nat} {a : Addr} {l : Bs} (hrd : Rd w B 1 (some a) n (bytesV l)) : ∀ i, i < n → w.cell? (a.add i) = some (.int .u8 ((l.map fun b => (b.toNat : Int)).getD i 0)) := by
  intro i hi
  obtain ⟨g, o, e, _, hc⟩ := hrd.2 (by omega)
  injection e with e
  subst e
  have hlen : l.length = n := by have := hrd.1; rw [bytesV_len] at this; omega
  rw [Addr.add_lit]
  have := hc i _ (bytesV_get (l := l) (j := i) (by omega))
  rw [this]
  congr 2
  rw [List.getD_eq_getElem?_getD, List.getElem?_map, List.getElem?_eq_getElem (by omega)]
  rfl
theorem bIndex_any (A : Option Addr) (n c : Nat) (l : Bs) (a2 : Addr) (k c2 : Nat) (y : Bs) (w : World) (hsh : w.ShapedOpen Tryz.prog) (hnc : n ≤ c) (hA : A = none → n = 0 ∧ c = 0) (hrd : Rd w w.heap.size 1 A n (bytesV l)) (hrd2 : Rd w w.heap.size 1 (some a2) k (bytesV y)) (h2 : 2 ≤ k) (hk : k ≤ 1000) (hn : n ≤ 1000000000) :
    Calls Tryz.prog 53 #[.slice A n c, .slice (some a2) k c2] w fun e w' => e = .returned (.int .i64 (Lib.index l y)) ∧ ∃ q, w' = w.drewN q := by
  have hlen : l.length = n := by have := hrd.1; rw [bytesV_len] at this; omega
  have hlen2 : y.length = k := by have := hrd2.1; rw [bytesV_len] at this; omega
  cases A with
  | none =>
    obtain ⟨rfl, rfl⟩ := hA rfl
    have hl : l = [] := List.eq_nil_of_length_eq_zero hlen
    subst hl
    refine (Tryz.bytes_Index_nil (some a2) k c2 w (by omega) (fun e => by omega)).mono fun e w' ⟨he, hw⟩ => ⟨?_, 0, hw⟩
    rw [he, if_neg (by omega), Lib.index_past (i := 0) (fun e => by rw [e] at hlen2; simp at hlen2; omega) (Lib.NoOcc.zero _ _) (by simp; omega)]
  | some a =>
    have h := Tryz.bytes_Index_at_shaped a a2 n c k c2 (l.map fun b => (b.toNat : Int)) (y.map fun b => (b.toNat : Int)) w (by simpa using hlen) (by simpa using hlen2)
      (by intro x hx; obtain ⟨b, _, rfl⟩ := List.mem_map.1 hx; have := b.toNat_lt; omega) (by intro x hx; obtain ⟨b, _, rfl⟩ := List.mem_map.1 hx; have := b.toNat_lt; omega)
      (cells_at hrd) (cells_at hrd2) hnc (by omega) (by omega) hsh
    rw [bytesOf_nat, bytesOf_nat] at h
    exact h
theorem rd_const (w : World) (t : TypeId) (fr : Nat × Nat) (y : Bs) : Rd (w.alloc (.cells (bytesV y).toArray t fr)) (w.alloc (.cells (bytesV y).toArray t fr)).heap.size 1 (some ⟨w.heap.size, 0, none⟩) y.length (bytesV y) :=
  ⟨by rw [bytesV_len, Nat.mul_one], fun _ => ⟨_, 0, rfl, by simp, fun j u hu => by rw [Nat.zero_add, cell_of_row _ w.heap.size j _ t fr (heap_alloc_new w _)]; simpa using hu⟩⟩
set_option maxHeartbeats 1000000 in
set_option maxRecDepth 100000 in
theorem srefuse_any (A : Option Addr) (n c : Nat) (l : Bs) (w : World) (hsh : w.ShapedOpen Tryz.prog) (hnc : n ≤ c) (hA : A = none → n = 0 ∧ c = 0) (hrd : Rd w w.heap.size 1 A n (bytesV l)) (hn : n ≤ 1000000000) :
    Calls Tryz.prog 54 #[.slice A n c] w fun e w' => e = .returned (.int .i64 (Strm.refuseP l : Nat)) ∧ Below w.heap.size w w' := by
  have hB : Below w.heap.size w (w.alloc (.cells #[.int .u8 13, .int .u8 10] 5 (2, 3))) := (Below.refl _ _).alloc (Nat.le_refl _) _
  have hr2 : Rd (w.alloc (.cells #[.int .u8 13, .int .u8 10] 5 (2, 3))) (w.alloc (.cells #[.int .u8 13, .int .u8 10] 5 (2, 3))).heap.size 1 (some ⟨w.heap.size, 0, none⟩) 2 (bytesV [13, 10]) := rd_const w 5 (2, 3) [13, 10]
  have kc := fun (W : World) (C : Array Value) (n c : Nat) => Lib.run_convert_bytes_const (P := Tryz.prog) W 26 5 C n c Tryz.underlying26 Tryz.underlying5
  have HI := Lib.hid (bIndex_any A n c l ⟨w.heap.size, 0, none⟩ 2 2 [13, 10] _ (shaped_below hsh hB) hnc hA ((hrd.below hB).more hB.size) hr2 (by decide) (by decide) hn)
  have hR : Strm.refuseP l = if Lib.index l [13, 10] < 0 ∨ 4096 < Lib.index l [13, 10] then 221 else 222 := rfl
  have hge := Lib.index_ge l [13, 10]
  have hle := Lib.index_le l [13, 10]
  obtain ⟨I, hI⟩ : ∃ I, I = Lib.index l [13, 10] := ⟨_, rfl⟩
  rw [← hI] at HI hR hge
  have HB := Lib.hid hB
  clear hsh hrd hB hr2 hI hA hle
  by_cases h0 : I < 0
  · rw [if_pos (.inl h0)] at hR
    rw [hR]
    clear hR
    have q0 : decide (I < 0) = true := by simpa using h0
    go_enter Tryz.func54, Tryz.ntmps54
    go_wp2_with (first
      | (go_at_call 53; go_must (refine HI.out.mono ?_; rintro _ _ ⟨rfl, q, rfl⟩))
      | fail)
    go_ret
    exact ⟨rfl, below_drewN HB.out _⟩
  · by_cases h1 : 4096 < I
    · rw [if_pos (.inr h1)] at hR
      rw [hR]
      clear hR
      have q0 : decide (I < 0) = false := by simpa using h0
      go_enter Tryz.func54, Tryz.ntmps54
      go_wp2_with (first
        | (go_at_call 53; go_must (refine HI.out.mono ?_; rintro _ _ ⟨rfl, q, rfl⟩))
        | fail)
      go_ret
      exact ⟨rfl, below_drewN HB.out _⟩
    · rw [if_neg (by omega)] at hR
      rw [hR]
      clear hR
      have q0 : decide (I < 0) = false := by simpa using h0
      have q1 : decide (4096 < I) = false := by simpa using h1
      go_enter Tryz.func54, Tryz.ntmps54
      go_wp2_with (first
        | (go_at_call 53; go_must (refine HI.out.mono ?_; rintro _ _ ⟨rfl, q, rfl⟩))
        | fail)
      go_ret
      exact ⟨rfl, below_drewN HB.out _⟩
end Go.Proofs.YtklmpadcfioefaaGreatDoor
