/- the reference's Lines: what stands between pairs of 13, 10. Conditions: the size, and that the bytes can be read. -/
import Derived.Test.YtklmpadcfioefaaGreatDoorMB
import Derived.Test.YtklmpadcfioefaaGreatDoorMA
namespace Go.Proofs.YtklmpadcfioefaaGreatDoor
open Go.RowKit

theorem lines_end (l : Bs) (f q : Nat) (hf : f ≤ q) (hq : q ≤ l.length) (h : l.length ≤ q + 1) : lines (cur l f q) (l.drop q) = [l.drop f] := by
  by_cases e : q = l.length
  · subst e
    rw [List.drop_length, lines, cur, List.take_of_length_le (by rw [List.length_drop]; omega)]
  · have hlt : q < l.length := by omega
    rw [List.drop_eq_getElem_cons hlt, show l.drop (q + 1) = [] from List.drop_of_length_le (by omega), lines, ← cur_next l f q hf hlt, cur, List.take_of_length_le (by rw [List.length_drop]; omega)]
theorem lines_hit (l : Bs) (f q : Nat) (hq : q + 1 < l.length) (h1 : l[q] = 13) (h2 : l[q + 1] = 10) : lines (cur l f q) (l.drop q) = cur l f q :: lines (cur l (q + 2) (q + 2)) (l.drop (q + 2)) := by
  rw [List.drop_eq_getElem_cons (show q < l.length by omega), List.drop_eq_getElem_cons hq, lines, if_pos ⟨h1, h2⟩]
  simp [cur]
theorem lines_no (l : Bs) (f q : Nat) (hf : f ≤ q) (hq : q + 1 < l.length) (h : ¬ (l[q] = 13 ∧ l[q + 1] = 10)) : lines (cur l f q) (l.drop q) = lines (cur l f (q + 1)) (l.drop (q + 1)) := by
  rw [List.drop_eq_getElem_cons (show q < l.length by omega), List.drop_eq_getElem_cons hq, lines, if_neg h, cur_next l f q hf (by omega)]
theorem linesLen (l : Bs) (f q : Nat) (x : List Bs) (h : x ++ lines (cur l f q) (l.drop q) = lines [] l) : x.length ≤ l.length + 1 := by
  have := congrArg List.length h
  rw [List.length_append] at this
  have h2 := lines_len l []
  omega

/-- a part of bytes, as a string -/
theorem part_str {w : World} {B : Nat} {g o n c : Nat} {l : Bs} (hr : Rd w B 1 (some ⟨g, o, none⟩) n (bytesV l)) (f q : Nat) (hfq : f ≤ q) (hq : q ≤ n) (hfc : f < c) (hnc : n ≤ c) :
    (convert 26 9 (.slice (some ⟨g, o + f, none⟩) (q - f) (c - f))).run Tryz.prog w = .ok (.string ⟨(cur l f q).toArray⟩) w := by
  have h := hr.pre (k := q) hq
  have h2 := h.shift (k := f) (cap := c) hfq (by omega)
  rw [if_neg (by omega)] at h2
  simp only [Nat.mul_one, Option.map_some, Addr.add_lit, bytesV_take, bytesV_drop] at h2
  have e : (l.take q).drop f = cur l f q := by rw [cur, List.drop_take]
  rw [e] at h2
  exact conv_str (P := Tryz.prog) 26 9 5 Tryz.underlying26 Tryz.underlying5 Tryz.underlying9 h2 (fun e => by cases e)

set_option maxHeartbeats 4000000 in
set_option maxRecDepth 100000 in
theorem rLines_any (A : Option Addr) (n c : Nat) (l : Bs) (w : World) (hnc : n ≤ c) (hcm : c ≤ maxLen) (hA : A = none → n = 0 ∧ c = 0) (hrd : Rd w w.heap.size 1 A n (bytesV l)) (hn : n ≤ 16777216) :
    Calls Tryz.prog 60 #[.slice A n c] w fun e w' => ∃ (v : Value) (ps : List ByteArray), e = .returned v ∧ ps.map (·.data.toList) = lines [] l ∧ Row w' w.heap.size 1 v ps.length (strsV ps) ∧ Below w.heap.size w w' := by
  have hlen : l.length = n := by have := hrd.1; rw [bytesV_len] at this; omega
  obtain ⟨i0, hi, hz0, hz1, hz2⟩ := info_parts info9
  go_enter Tryz.func60, Tryz.ntmps60
  go_wp2
  go_loopw [3, 4, 5] (fun v3 fi qi wr => ∃ (f q : Nat) (out : List ByteArray), f ≤ q ∧ q ≤ n ∧ fi = .int .i64 f ∧ qi = .int .i64 q ∧ out.map (·.data.toList) ++ lines (cur l f q) (l.drop q) = lines [] l ∧ Row wr w.heap.size 1 v3 out.length (strsV out) ∧ Below w.heap.size w wr) (fun _ _ i _ => n - (intOf i).toNat)
  case atStart => exact ⟨0, 0, [], Nat.le_refl _, Nat.zero_le _, rfl, rfl, by simp [cur], Row.nil _ _ _, Below.refl _ _⟩
  case round =>
    obtain ⟨f, q, out, hfq, hqn, rfl, rfl, hl, hrow, hb⟩ := hrel
    have HL := Lib.hid hl
    have hol : out.length ≤ n + 1 := by have := linesLen l f q _ hl; rw [List.length_map] at this; omega
    clear hl
    have hrd1 := hrd.below hb
    have hsz := hb.size
    by_cases hlt : q + 1 < n
    · obtain ⟨g, o, rfl, hg, hcell⟩ := hrd1.2 (by omega)
      have c1 := hcell _ _ (bytesV_get (l := l) (j := q) (by omega))
      have c2 := hcell _ _ (bytesV_get (l := l) (j := q + 1) (by omega))
      have HC := Lib.hid hcell
      clear hcell
      have x1 : (l[q]'(by omega)).toNat < 256 := UInt8.toNat_lt _
      have x2 : (l[q + 1]'(by omega)).toNat < 256 := UInt8.toNat_lt _
      by_cases hh : l[q]'(by omega) = 13 ∧ l[q + 1]'(by omega) = 10
      · have HH := Lib.hid (lines_hit l f q (by omega) hh.1 hh.2)
        rw [hh.1] at c1
        rw [hh.2] at c2
        have e13 : ((13 : UInt8).toNat : Int) = 13 := rfl
        have e10 : ((10 : UInt8).toNat : Int) = 10 := rfl
        rw [e13] at c1
        rw [e10] at c2
        clear hh x1 x2
        have hcv0 := part_str hrd1 f q hfq hqn (by omega) hnc
        go_wp2_with (at_builtin; go_must (refine wpList_app _ rfl (.tmp 26) (.tmp 32) 27 27 rfl w.heap.size 9 i0 (.string ⟨#[]⟩) 1 16 Tryz.underlying27 hi hz0 hz1 hz2 rfl u3 out.length (strsV out) rfl (hrow.alloc _) _ 1 [.string ⟨(cur l f q).toArray⟩] rfl (Src.built [.string ⟨(cur l f q).toArray⟩] 9 Tryz.underlying27 rfl (by intro u hu; simp at hu; subst hu; rfl)) (by omega) (by omega) (by omega) (by simp; omega) ?_); intro v1 w3 hrow3 hg3 _; have hB3 : Below w.heap.size w w3 := Below.app (hb.alloc (by omega) _) (hrow.alloc _) hg3 (Nat.le_refl _) (by simp; omega))
        refine ⟨⟨q + 2, q + 2, out ++ [⟨(cur l f q).toArray⟩], Nat.le_refl _, by omega, by go_num, by go_num, ?_, ?_, hB3⟩, by simp [intOf]; omega⟩
        · rw [List.map_append, ← HL.out, HH.out]
          simp
        · rw [strsV, List.map_append, List.length_append]
          exact hrow3
      · have HH := Lib.hid (lines_no l f q hfq (by omega) hh)
        by_cases h13 : (l[q]'(by omega)).toNat = 13
        · have h10 : ¬ (l[q + 1]'(by omega)).toNat = 10 := fun e => hh ⟨UInt8.toNat_inj.mp (by rw [h13]; rfl), UInt8.toNat_inj.mp (by rw [e]; rfl)⟩
          clear hh
          go_wp2
          refine ⟨⟨f, q + 1, out, by omega, by omega, by go_num, by go_num, ?_, hrow, hb⟩, by simp [intOf]; omega⟩
          rw [← HH.out]; exact HL.out
        · clear hh
          go_wp2
          refine ⟨⟨f, q + 1, out, by omega, by omega, by go_num, by go_num, ?_, hrow, hb⟩, by simp [intOf]; omega⟩
          rw [← HH.out]; exact HL.out
    · have HE : Hid (lines (cur l f q) (l.drop q) = [l.drop f]) := Lib.hid (lines_end l f q hfq (by omega) (by omega))
      have ecur : cur l f n = l.drop f := by rw [cur, List.take_of_length_le (by rw [List.length_drop]; omega)]
      cases A with
      | none =>
        obtain ⟨rfl, rfl⟩ := hA rfl
        obtain rfl : f = 0 := by omega
        obtain rfl : q = 0 := by omega
        have hl0 : l = [] := List.eq_nil_of_length_eq_zero hlen
        subst hl0
        have hcv0 : (convert 26 9 (.slice none 0 0)).run Tryz.prog wr = .ok (.string ⟨#[]⟩) wr :=
          conv_str (P := Tryz.prog) (c := 0) (n := 0) (l := []) 26 9 5 Tryz.underlying26 Tryz.underlying5 Tryz.underlying9 (Rd.nil wr w.heap.size 1 none) (fun _ => rfl)
        go_wp2_with (at_builtin; go_must (refine wpList_app _ rfl (.tmp 38) (.tmp 43) 27 27 rfl w.heap.size 9 i0 (.string ⟨#[]⟩) 1 16 Tryz.underlying27 hi hz0 hz1 hz2 rfl u3 out.length (strsV out) rfl (hrow.alloc _) _ 1 [.string ⟨#[]⟩] rfl (Src.built [.string ⟨#[]⟩] 9 Tryz.underlying27 rfl (by intro u hu; simp at hu; subst hu; rfl)) (by omega) (by omega) (by omega) (by simp; omega) ?_); intro v1 w3 hrow3 hg3 _; have hB3 : Below w.heap.size w w3 := Below.app (hb.alloc (by omega) _) (hrow.alloc _) hg3 (Nat.le_refl _) (by simp; omega))
        go_ret
        refine ⟨_, rfl, out ++ [⟨#[]⟩], ?_, ?_, hB3⟩
        · rw [List.map_append, ← HL.out, HE.out]; simp
        · rw [strsV, List.map_append, List.length_append]; exact hrow3
      | some ad =>
        by_cases hfc : f = c
        · obtain rfl : f = n := by omega
          subst hfc
          have hcv0 : (convert 26 9 (.slice (some ad) 0 0)).run Tryz.prog wr = .ok (.string ⟨(l.drop f).toArray⟩) wr := by
            rw [List.drop_of_length_le (by omega)]
            exact conv_str (P := Tryz.prog) (c := 0) (n := 0) 26 9 5 Tryz.underlying26 Tryz.underlying5 Tryz.underlying9 (Rd.nil wr w.heap.size 1 (some ad)) (fun e => by cases e)
          go_wp2_with (at_builtin; go_must (refine wpList_app _ rfl (.tmp 38) (.tmp 43) 27 27 rfl w.heap.size 9 i0 (.string ⟨#[]⟩) 1 16 Tryz.underlying27 hi hz0 hz1 hz2 rfl u3 out.length (strsV out) rfl (hrow.alloc _) _ 1 [.string ⟨(l.drop f).toArray⟩] rfl (Src.built [.string ⟨(l.drop f).toArray⟩] 9 Tryz.underlying27 rfl (by intro u hu; simp at hu; subst hu; rfl)) (by omega) (by omega) (by omega) (by simp; omega) ?_); intro v1 w3 hrow3 hg3 _; have hB3 : Below w.heap.size w w3 := Below.app (hb.alloc (by omega) _) (hrow.alloc _) hg3 (Nat.le_refl _) (by simp; omega))
          go_ret
          refine ⟨_, out ++ [⟨(l.drop f).toArray⟩], rfl, ?_, ?_, hB3⟩
          · rw [List.map_append, ← HL.out, HE.out]; simp
          · rw [strsV, List.map_append, List.length_append]; exact hrow3
        · by_cases hn0 : n = 0
          · subst hn0
            obtain rfl : f = 0 := by omega
            have hl0 : l = [] := List.eq_nil_of_length_eq_zero hlen
            subst hl0
            have hcv0 : (convert 26 9 (.slice (some ad) 0 c)).run Tryz.prog wr = .ok (.string ⟨#[]⟩) wr :=
              conv_str (P := Tryz.prog) (c := c) (n := 0) (l := []) 26 9 5 Tryz.underlying26 Tryz.underlying5 Tryz.underlying9 (Rd.nil wr w.heap.size 1 (some ad)) (fun _ => rfl)
            go_wp2_with (at_builtin; go_must (refine wpList_app _ rfl (.tmp 38) (.tmp 43) 27 27 rfl w.heap.size 9 i0 (.string ⟨#[]⟩) 1 16 Tryz.underlying27 hi hz0 hz1 hz2 rfl u3 out.length (strsV out) rfl (hrow.alloc _) _ 1 [.string ⟨#[]⟩] rfl (Src.built [.string ⟨#[]⟩] 9 Tryz.underlying27 rfl (by intro u hu; simp at hu; subst hu; rfl)) (by omega) (by omega) (by omega) (by simp; omega) ?_); intro v1 w3 hrow3 hg3 _; have hB3 : Below w.heap.size w w3 := Below.app (hb.alloc (by omega) _) (hrow.alloc _) hg3 (Nat.le_refl _) (by simp; omega))
            go_ret
            refine ⟨_, rfl, out ++ [⟨#[]⟩], ?_, ?_, hB3⟩
            · rw [List.map_append, ← HL.out, HE.out]; simp
            · rw [strsV, List.map_append, List.length_append]; exact hrow3
          · obtain ⟨g, o, e2, hg, hcell⟩ := hrd1.2 (by omega)
            injection e2 with e2
            subst e2
            clear hcell
            have hcv0 := part_str hrd1 f n (by omega) (Nat.le_refl _) (by omega) hnc
            rw [ecur] at hcv0
            go_wp2_with (at_builtin; go_must (refine wpList_app _ rfl (.tmp 38) (.tmp 43) 27 27 rfl w.heap.size 9 i0 (.string ⟨#[]⟩) 1 16 Tryz.underlying27 hi hz0 hz1 hz2 rfl u3 out.length (strsV out) rfl (hrow.alloc _) _ 1 [.string ⟨(l.drop f).toArray⟩] rfl (Src.built [.string ⟨(l.drop f).toArray⟩] 9 Tryz.underlying27 rfl (by intro u hu; simp at hu; subst hu; rfl)) (by omega) (by omega) (by omega) (by simp; omega) ?_); intro v1 w3 hrow3 hg3 _; have hB3 : Below w.heap.size w w3 := Below.app (hb.alloc (by omega) _) (hrow.alloc _) hg3 (Nat.le_refl _) (by simp; omega))
            go_ret
            refine ⟨_, out ++ [⟨(l.drop f).toArray⟩], rfl, ?_, ?_, hB3⟩
            · rw [List.map_append, ← HL.out, HE.out]; simp
            · rw [strsV, List.map_append, List.length_append]; exact hrow3
end Go.Proofs.YtklmpadcfioefaaGreatDoor
