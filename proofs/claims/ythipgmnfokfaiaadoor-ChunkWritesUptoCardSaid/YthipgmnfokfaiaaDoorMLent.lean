/- law 23's lent, kept, fields; the reference's Decode. Conditions: sizes. -/
import Derived.Test.YthipgmnfokfaiaaDoorQRead2
import Derived.Test.YthipgmnfokfaiaaDoorSameG
namespace Go.Proofs.YthipgmnfokfaiaaDoor
open Go.RowKit

theorem RowB.laid {w w' : World} {base : Nat} {v : Value} {L : Bs} {o : Obj} (h : RowB w base v L) (hg : (w.alloc o).grownBy w' (some w.heap.size)) : RowB w' base v L :=
  Row.kept (Row.alloc h o) hg (by
    cases hv : v.ownBlock with
    | none => exact Or.inl rfl
    | some k => exact Or.inr (fun e => by have := (Row.lt h k hv).2; injection e with e; omega))
theorem Row.laid {w w' : World} {base sz n : Nat} {v : Value} {xs : List Value} {o : Obj} (h : Row w base sz v n xs) (hg : (w.alloc o).grownBy w' (some w.heap.size)) : Row w' base sz v n xs :=
  (h.alloc o).kept hg (by
    cases hv : v.ownBlock with
    | none => exact Or.inl rfl
    | some k => exact Or.inr (fun e => by have := (h.lt k hv).2; injection e with e; omega))
theorem Below.laid {B : Nat} {a w w' : World} {o : Obj} (h : Below B a w) (hB : B ≤ w.heap.size) (hg : (w.alloc o).grownBy w' (some w.heap.size)) : Below B a w' :=
  (h.alloc hB o).grown hg (by simp; omega) (fun k e => by injection e with e; omega)

set_option maxHeartbeats 1000000 in
set_option maxRecDepth 100000 in
theorem mlent_any (A : Option Addr) (n c : Nat) (l : Bs) (w : World) (hA : A = none → n = 0) (hrd : Rd w w.heap.size 1 A n (bytesV l)) (hn : n ≤ 100000000) :
    Calls Tryd.prog 27 #[.slice A n c] w fun e w' => ∃ g o c', e = .returned (.slice (some ⟨g, o, none⟩) n c') ∧ n + 2 ≤ c' ∧ c' ≤ maxLen ∧ Row w' w.heap.size 1 (.slice (some ⟨g, o, none⟩) (n + 2) c') (n + 2) (bytesV (l ++ [201, 202])) ∧ Below w.heap.size w w' := by
  obtain ⟨j0, hj0, jz0, jz1, jz2⟩ := info_parts infoByte
  go_enter Tryd.func27, Tryd.ntmps27
  go_wp2_with (first
    | (at_builtin; (refine wpList_app _ rfl (.tmp 4) (.tmp 5) 35 35 rfl w.heap.size 5 j0 (.int .u8 0) 1 1 Tryd.underlying35 hj0 jz0 jz1 jz2 rfl (.slice none 0 0) 0 [] rfl (Row.nil _ _ _) _ n (bytesV l) rfl (Src.slice Tryd.underlying35 hrd hA (bytesV_one l)) (by omega) (by omega) (by omega) (by omega) ?_); intro v2 w2 hrow2 hg2 _; rw [List.nil_append, Nat.zero_add] at hrow2; have hb2 : Below w.heap.size w w2 := Below.app (Below.refl _ _) (Row.nil w w.heap.size 1) hg2 (Nat.le_refl _) (Nat.le_refl _); have hsz2 := hb2.size)
    | (at_builtin; (refine wpList_app _ rfl (.tmp 6) (.tmp 7) 35 35 rfl w.heap.size 5 j0 (.int .u8 0) 1 1 Tryd.underlying35 hj0 jz0 jz1 jz2 rfl v2 n (bytesV l) rfl (hrow2.alloc _) _ 2 [.int .u8 201, .int .u8 202] rfl (Src.built [.int .u8 201, .int .u8 202] 5 Tryd.underlying35 rfl (by intro u hu; simp at hu; rcases hu with rfl | rfl <;> rfl)) (by omega) (by omega) (by omega) (by simp <;> omega) ?_); intro v3 w3 hrow3 hg3 _; obtain ⟨A3, c3, rfl, hc3, hm3, _, hf3⟩ := hrow3.form; obtain ⟨g3, o3, rfl, _, _⟩ := hrow3.own (by omega); have hb3 : Below w.heap.size w w3 := Below.app (hb2.alloc hsz2 _) (hrow2.alloc _) hg3 (Nat.le_refl _) (by simp <;> omega)))
  go_ret
  refine ⟨g3, o3, c3, rfl, hc3, hm3, ?_, hb3⟩
  rw [bytesV_append]
  exact hrow3

set_option maxHeartbeats 1000000 in
set_option maxRecDepth 100000 in
theorem mkept_any (g o n c : Nat) (A : Option Addr) (c' : Nat) (l : Bs) (w : World) (hnc : n + 2 ≤ c) (h1 : Rd w w.heap.size 1 (some ⟨g, o, none⟩) (n + 2) (bytesV (l ++ [201, 202]))) (h2 : Rd w w.heap.size 1 A n (bytesV l)) (hA : A = none → n = 0) (hn : n ≤ 100000000) :
    Calls Tryd.prog 30 #[.slice (some ⟨g, o, none⟩) n c, .slice A n c'] w fun e w' => e = .returned (.bool true) ∧ w = w' := by
  have hlen : l.length = n := by have := h2.1; rw [bytesV_len] at this; omega
  have h3 := h1.pre (k := n) (by omega)
  have e0 : (l ++ [201, 202]).take n = l := by rw [← hlen]; exact List.take_left
  rw [Nat.mul_one, bytesV_take, e0] at h3
  obtain ⟨g', o', e, hg, hcell⟩ := h1.2 (by omega)
  injection e with e
  injection e with e1 e2 _
  subst e1 e2
  have k1 := hcell n (.int .u8 201) (by rw [bytesV_append, List.getElem?_append_right (by rw [bytesV_len]; omega), bytesV_len, hlen, Nat.sub_self]; rfl)
  have k2 := hcell (n + 1) (.int .u8 202) (by rw [bytesV_append, List.getElem?_append_right (by rw [bytesV_len]; omega), bytesV_len, hlen, show n + 1 - n = 1 by omega]; rfl)
  have v1 := conv_str (P := Tryd.prog) 35 9 5 Tryd.underlying35 Tryd.underlying5 Tryd.underlying9 (c := c) h3 (fun e => by cases e)
  have v2 := conv_str (P := Tryd.prog) 35 9 5 Tryd.underlying35 Tryd.underlying5 Tryd.underlying9 (c := c') h2 hA
  clear hcell h1 e0
  go_enter Tryd.func30, Tryd.ntmps30
  go_wp2
  go_ret
  exact ⟨rfl, rfl⟩

set_option maxHeartbeats 2000000 in
set_option maxRecDepth 100000 in
theorem mfields_any (A A' : Option Addr) (n c c' : Nat) (fs : List Fl) (w : World) (h1 : Rd w w.heap.size 2 A n (fieldsV fs)) (h2 : Rd w w.heap.size 2 A' n (fieldsV fs)) (hn : n ≤ 16777216) :
    Calls Tryd.prog 31 #[.slice A n c, .slice A' n c'] w fun e w' => e = .returned (.bool true) ∧ Below w.heap.size w w' := by
  have hlen : fs.length = n := by have := h1.1; rw [fieldsV_len] at this; omega
  go_enter Tryd.func31, Tryd.ntmps31
  go_wp2
  go_loopw [5] (fun i wr => ∃ k : Nat, k ≤ n ∧ i = .int .i64 k ∧ Below w.heap.size w wr) (fun i _ => n - (intOf i).toNat)
  case atStart => exact ⟨0, Nat.zero_le _, rfl, Below.refl _ _⟩
  case round =>
    obtain ⟨k, hk, rfl, hb⟩ := hrel
    have HB := Lib.hid hb
    by_cases hlt : k < n
    · obtain ⟨g, o, rfl, hg, hcell⟩ := h1.2 (by omega)
      obtain ⟨g', o', rfl, hg', hcell'⟩ := h2.2 (by omega)
      obtain ⟨G1, G2⟩ := fieldsV_get fs k (by omega)
      have old : ∀ (p : Addr), p.block < w.heap.size → ∀ q, (wr.drewN q).cell? p = w.cell? p := fun p hp q => hb.cell (p := p) hp
      have r1 : ∀ q, World.rangeAt (wr.drewN q) g (o + k * 2) [.string fs[k].1, .string fs[k].2] := by
        intro q j v hj
        match j, hj with
        | 0, hj => cases hj; exact (old _ hg q).trans (hcell _ _ G1)
        | 1, hj => cases hj; rw [Nat.add_assoc]; exact (old _ hg q).trans (hcell _ _ G2)
      have r2 : ∀ q, World.rangeAt (wr.drewN q) g' (o' + k * 2) [.string fs[k].1, .string fs[k].2] := by
        intro q j v hj
        match j, hj with
        | 0, hj => cases hj; exact (old _ hg' q).trans (hcell' _ _ G1)
        | 1, hj => cases hj; rw [Nat.add_assoc]; exact (old _ hg' q).trans (hcell' _ _ G2)
      clear hcell hcell' G1 G2 old
      generalize fs[k].1 = xa at *
      generalize fs[k].2 = xb at *
      go_wp2
      refine wp_region_quiet_lit (by kernel_rfl) (by kernel_rfl) ?_
      repeat (first
        | (refine wpQuiet_load_mid rfl 53 (.tmp 19) rfl g (o + k * 2) rfl _ _ (by rintro _ ⟨q, rfl⟩; exact r1 q) Tryd.underlying53 rfl (by kernel_rfl) ?_)
        | (refine wpQuiet_load_mid rfl 53 (.tmp 23) rfl g' (o' + k * 2) rfl _ _ (by rintro _ ⟨q, rfl⟩; exact r2 q) Tryd.underlying53 rfl (by kernel_rfl) ?_)
        | go_big_quiet_step (fail)
        | quiet_step (fail))
      refine wpQuiet_nil ?_
      rintro _ ⟨nq, rfl⟩
      go_wp2
      go_roundw
      case rel => exact ⟨k + 1, by omega, by go_num, below_drewN HB.out _⟩
      case measure => simp [intOf]; omega
    · go_wp2
      go_ret
      exact ⟨rfl, HB.out⟩

theorem decP_read (l : Bs) : decP l = if (Chunk.readOf l).wrong = true then ([], [], 0, 230) else if (Chunk.readOf l).done = true then ((Chunk.readOf l).body, (Chunk.readOf l).trailers, (Chunk.readOf l).read, 0) else ([], [], 0, 10) := by
  rw [Chunk.readOf_feed]
  unfold decP
  simp only [decide_eq_true_eq]
  by_cases h2 : (Chunk.feed {} l 0 []).2.2.2 = 2
  · rw [if_pos h2, if_pos h2]
  · rw [if_neg h2, if_neg h2]
    by_cases h1 : (Chunk.feed {} l 0 []).2.2.2 = 1
    · rw [if_pos h1, if_pos h1, if_pos h1]
    · rw [if_neg h1, if_neg h1]

theorem Row.one {w : World} {base sz n : Nat} {v : Value} {xs : List Value} (h : Row w base sz v n xs) : v.oneCell' = true := by
  obtain ⟨A, c, rfl, _⟩ := h.form; rfl
theorem RowB.one {w : World} {base : Nat} {v : Value} {L : Bs} (h : RowB w base v L) : v.oneCell' = true := Row.one h
set_option maxHeartbeats 2000000 in
set_option maxRecDepth 100000 in
theorem qdecode_any (A : Option Addr) (n c : Nat) (l : Bs) (w : World) (hnc : n ≤ c) (hrd : Rd w w.heap.size 1 A n (bytesV l)) (hn : n ≤ 100000000) :
    Calls Tryd.prog 37 #[.slice A n c] w (DecPost w (decP l)) := by
  have HR := Lib.hid (rread_any A n c l w hnc hrd hn)
  have HD := Lib.hid (decP_read l)
  generalize Chunk.readOf l = r at HR HD
  generalize decP l = d at HD
  clear hrd
  go_enter Tryd.func37, Tryd.ntmps37
  go_upto_region 2 with (first
    | (go_at_call 64; go_must (refine HR.out.mono ?_; rintro _ w1 ⟨vo, vt, tr, rfl, hrow1, hrow2, htr, hap, hb1⟩; obtain ⟨Ao, co, rfl, _, _, _, _⟩ := RowB.form hrow1; obtain ⟨At, ct, rfl, _, _, _, _⟩ := hrow2.form))
    | (refine wpList_put rfl 97 (.tmp 6) (.tmp 8) rfl w1.heap.size rfl (Var.new w1 97 zf) [.slice Ao r.body.length co, .int .i64 r.read, .bool r.done, .bool r.wrong, .slice At tr.length ct] rfl rfl (by kernel_rfl) (by simp [Value.oneCell']) ?_; intro w2 hv2 hg2 hs2)
    | fail)
  have hsz := hb1.size
  have hsz2 : w1.heap.size < w2.heap.size := by simp at hs2; omega
  have hb2 : Below w.heap.size w w2 := Below.laid hb1 hsz hg2
  have R1 := Lib.hid (show RowB w2 w.heap.size (.slice Ao r.body.length co) r.body from RowB.laid hrow1 hg2)
  have R2 := Lib.hid (hrow2.laid hg2)
  have d0 := hv2.cell (j := 0) rfl
  have d1 := hv2.cell (j := 1) rfl
  have d2 := hv2.cell (j := 2) rfl
  have d3 := hv2.cell (j := 3) rfl
  have d4 := hv2.cell (j := 4) rfl
  have HB := Lib.hid hb2
  have HAP := Lib.hid hap
  clear hrow1 hrow2 hb1 hg2 hs2 hb2 hap
  cases hw : r.wrong
  · cases hdn : r.done
    · have HE : Hid (d = ([], [], 0, 10)) := Lib.hid (by rw [HD.out, hw, hdn]; rfl)
      rw [hw] at d3
      rw [hdn] at d2
      clear HD htr
      go_wp2
      refine bodyPost_ret (results_tmp4 rfl _ _ _) rfl ?_
      rw [HE.out]
      exact dec_none HB.out
    · have HE : Hid (d = (r.body, r.trailers, r.read, 0)) := Lib.hid (by rw [HD.out, hw, hdn]; rfl)
      have ht := htr hdn
      subst ht
      rw [hw] at d3
      rw [hdn] at d2
      clear HD htr
      go_wp2
      go_region
      all_goals
        go_wp2
        refine bodyPost_ret (results_tmp4 rfl _ _ _) rfl ?_
        rw [HE.out]
        exact ⟨_, _, rfl, R1.out.drew, R2.out.drew, HAP.out, HB.out.drew⟩
  · have HE : Hid (d = ([], [], 0, 230)) := Lib.hid (by rw [HD.out, hw]; rfl)
    rw [hw] at d3
    clear HD htr
    go_wp2
    refine bodyPost_ret (results_tmp4 rfl _ _ _) rfl ?_
    rw [HE.out]
    exact dec_none HB.out
end Go.Proofs.YthipgmnfokfaiaaDoor
