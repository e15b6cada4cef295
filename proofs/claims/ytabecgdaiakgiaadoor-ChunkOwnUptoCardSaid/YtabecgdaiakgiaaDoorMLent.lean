/- law 23's lent, kept, fields; the reference's Decode. Conditions: sizes. -/
import Derived.Test.YtabecgdaiakgiaaDoorQRead2
import Derived.Test.YtabecgdaiakgiaaDoorSameG
namespace Go.Proofs.YtabecgdaiakgiaaDoor
open Go.RowKit

theorem RowB.laid {w w' : World} {base : Nat} {v : Value} {L : Bs} {o : Obj} (h : RowB w base v L) (hg : (w.alloc o).grownBy w' (some w.heap.size)) : RowB w' base v L :=
  Row.kept (Row.alloc h o) hg (by
    cases hv : v.ownBlock with
    | none => exact Or.inl rfl
    | some k => exact Or.inr (fun e => by have := (Row.lt h k hv).2; injection e with e; omega))
theorem Row.laid {w w' : World} {base sz n : Nat} {v : Value} {xs : List Value} {o : Obj} (h : Row w base sz v n xs) (hg : (w.alloc o).grownBy w' (some w.heap.size)) : Row w' base sz v n xs :=
  (h.alloc o).kept hg (by
    cases hv : v.ownBlock with
    | none => exact Or.inl rfl
    | some k => exact Or.inr (fun e => by have := (h.lt k hv).2; injection e with e; omega))
theorem Below.laid {B : Nat} {a w w' : World} {o : Obj} (h : Below B a w) (hB : B ≤ w.heap.size) (hg : (w.alloc o).grownBy w' (some w.heap.size)) : Below B a w' :=
  (h.alloc hB o).grown hg (by simp; omega) (fun k e => by injection e with e; omega)

set_option maxHeartbeats 1000000 in
set_option maxRecDepth 100000 in
theorem mlent_any (A : Option Addr) (n c : Nat) (l : Bs) (w : World) (hA : A = none → n = 0) (hrd : Rd w w.heap.size 1 A n (bytesV l)) (hn : n ≤ 100000000) :
    Calls Tryd.prog 29 #[.slice A n c] w fun e w' => ∃ g o c', e = .returned (.slice (some ⟨g, o, none⟩) n c') ∧ n + 2 ≤ c' ∧ c' ≤ maxLen ∧ Row w' w.heap.size 1 (.slice (some ⟨g, o, none⟩) (n + 2) c') (n + 2) (bytesV (l ++ [201, 202])) ∧ Below w.heap.size w w' := by
  obtain ⟨j0, hj0, jz0, jz1, jz2⟩ := info_parts infoByte
  go_enter Tryd.func29, Tryd.ntmps29
  go_wp2_with (first
    | (at_builtin; (refine wpList_app _ rfl (.tmp 4) (.tmp 5) 32 32 rfl w.heap.size 5 j0 (.int .u8 0) 1 1 Tryd.underlying32 hj0 jz0 jz1 jz2 rfl (.slice none 0 0) 0 [] rfl (Row.nil _ _ _) _ n (bytesV l) rfl (Src.slice Tryd.underlying32 hrd hA (bytesV_one l)) (by omega) (by omega) (by omega) (by omega) ?_); intro v2 w2 hrow2 hg2 _; rw [List.nil_append, Nat.zero_add] at hrow2; have hb2 : Below w.heap.size w w2 := Below.app (Below.refl _ _) (Row.nil w w.heap.size 1) hg2 (Nat.le_refl _) (Nat.le_refl _); have hsz2 := hb2.size)
    | (at_builtin; (refine wpList_app _ rfl (.tmp 6) (.tmp 7) 32 32 rfl w.heap.size 5 j0 (.int .u8 0) 1 1 Tryd.underlying32 hj0 jz0 jz1 jz2 rfl v2 n (bytesV l) rfl (hrow2.alloc _) _ 2 [.int .u8 201, .int .u8 202] rfl (Src.built [.int .u8 201, .int .u8 202] 5 Tryd.underlying32 rfl (by intro u hu; simp at hu; rcases hu with rfl | rfl <;> rfl)) (by omega) (by omega) (by omega) (by simp <;> omega) ?_); intro v3 w3 hrow3 hg3 _; obtain ⟨A3, c3, rfl, hc3, hm3, _, hf3⟩ := hrow3.form; obtain ⟨g3, o3, rfl, _, _⟩ := hrow3.own (by omega); have hb3 : Below w.heap.size w w3 := Below.app (hb2.alloc hsz2 _) (hrow2.alloc _) hg3 (Nat.le_refl _) (by simp <;> omega)))
  go_ret
  refine ⟨g3, o3, c3, rfl, hc3, hm3, ?_, hb3⟩
  rw [bytesV_append]
  exact hrow3

set_option maxHeartbeats 2000000 in
set_option maxRecDepth 100000 in
theorem mfields_any (A A' : Option Addr) (n c c' : Nat) (fs : List Fl) (w : World) (h1 : Rd w w.heap.size 2 A n (fieldsV fs)) (h2 : Rd w w.heap.size 2 A' n (fieldsV fs)) (hn : n ≤ 16777216) :
    Calls Tryd.prog 30 #[.slice A n c, .slice A' n c'] w fun e w' => e = .returned (.bool true) ∧ Below w.heap.size w w' := by
  have hlen : fs.length = n := by have := h1.1; rw [fieldsV_len] at this; omega
  go_enter Tryd.func30, Tryd.ntmps30
  go_wp2
  go_loopw [5] (fun i wr => ∃ k : Nat, k ≤ n ∧ i = .int .i64 k ∧ Below w.heap.size w wr) (fun i _ => n - (intOf i).toNat)
  case atStart => exact ⟨0, Nat.zero_le _, rfl, Below.refl _ _⟩
  case round =>
    obtain ⟨k, hk, rfl, hb⟩ := hrel
    have HB := Lib.hid hb
    by_cases hlt : k < n
    · obtain ⟨g, o, rfl, hg, hcell⟩ := h1.2 (by omega)
      obtain ⟨g', o', rfl, hg', hcell'⟩ := h2.2 (by omega)
      obtain ⟨G1, G2⟩ := fieldsV_get fs k (by omega)
      have old : ∀ (p : Addr), p.block < w.heap.size → ∀ q, (wr.drewN q).cell? p = w.cell? p := fun p hp q => hb.cell (p := p) hp
      have r1 : ∀ q, World.rangeAt (wr.drewN q) g (o + k * 2) [.string fs[k].1, .string fs[k].2] := by
        intro q j v hj
        match j, hj with
        | 0, hj => cases hj; exact (old _ hg q).trans (hcell _ _ G1)
        | 1, hj => cases hj; rw [Nat.add_assoc]; exact (old _ hg q).trans (hcell _ _ G2)
      have r2 : ∀ q, World.rangeAt (wr.drewN q) g' (o' + k * 2) [.string fs[k].1, .string fs[k].2] := by
        intro q j v hj
        match j, hj with
        | 0, hj => cases hj; exact (old _ hg' q).trans (hcell' _ _ G1)
        | 1, hj => cases hj; rw [Nat.add_assoc]; exact (old _ hg' q).trans (hcell' _ _ G2)
      clear hcell hcell' G1 G2 old
      generalize fs[k].1 = xa at *
      generalize fs[k].2 = xb at *
      go_wp2
      refine wp_region_quiet_lit (by kernel_rfl) (by kernel_rfl) ?_
      repeat (first
        | (refine wpQuiet_load_mid rfl 48 (.tmp 19) rfl g (o + k * 2) rfl _ _ (by rintro _ ⟨q, rfl⟩; exact r1 q) Tryd.underlying48 rfl (by kernel_rfl) ?_)
        | (refine wpQuiet_load_mid rfl 48 (.tmp 23) rfl g' (o' + k * 2) rfl _ _ (by rintro _ ⟨q, rfl⟩; exact r2 q) Tryd.underlying48 rfl (by kernel_rfl) ?_)
        | go_big_quiet_step (fail)
        | quiet_step (fail))
      refine wpQuiet_nil ?_
      rintro _ ⟨nq, rfl⟩
      go_wp2
      go_roundw
      case rel => exact ⟨k + 1, by omega, by go_num, below_drewN HB.out _⟩
      case measure => simp [intOf]; omega
    · go_wp2
      go_ret
      exact ⟨rfl, HB.out⟩

theorem decP_read (l : Bs) : decP l = if (Chunk.readOf l).wrong = true then ([], [], 0, 230) else if (Chunk.readOf l).done = true then ((Chunk.readOf l).body, (Chunk.readOf l).trailers, (Chunk.readOf l).read, 0) else ([], [], 0, 10) := by
  rw [Chunk.readOf_feed]
  unfold decP
  simp only [decide_eq_true_eq]
  by_cases h2 : (Chunk.feed {} l 0 []).2.2.2 = 2
  · rw [if_pos h2, if_pos h2]
  · rw [if_neg h2, if_neg h2]
    by_cases h1 : (Chunk.feed {} l 0 []).2.2.2 = 1
    · rw [if_pos h1, if_pos h1, if_pos h1]
    · rw [if_neg h1, if_neg h1]

theorem Row.one {w : World} {base sz n : Nat} {v : Value} {xs : List Value} (h : Row w base sz v n xs) : v.oneCell' = true := by
  obtain ⟨A, c, rfl, _⟩ := h.form; rfl
theorem RowB.one {w : World} {base : Nat} {v : Value} {L : Bs} (h : RowB w base v L) : v.oneCell' = true := Row.one h
end Go.Proofs.YtabecgdaiakgiaaDoor
