/- the document's reader: Trailers, Total; the program's Feed wherever it stands. Conditions: sizes, the world's shape. -/
import Derived.Test.YthipgmnfokfaiaaDoorQFeed
namespace Go.Proofs.YthipgmnfokfaiaaDoor
open Go.RowKit

theorem field_found0 (w : World) (a b c d e : Value) : (Instr.field 97 (.agg #[a, b, c, d, e]) 0).run Tryd.prog w = .ok a w := by
  have u := Tryd.underlying97
  have z := Tryd.isAgg35
  simp [Instr.field, run_underlying u, asAgg, part, z]
theorem field_found4 (w : World) (a b c d e : Value) : (Instr.field 97 (.agg #[a, b, c, d, e]) 4).run Tryd.prog w = .ok e w := by
  have u := Tryd.underlying97
  have z := Tryd.isAgg22
  simp [Instr.field, run_underlying u, asAgg, part, z]

set_option maxHeartbeats 1000000 in
set_option maxRecDepth 100000 in
theorem qtotal_any {d : Chunk.Doc} {w : World} {base b : Nat} {va : Value} (h : QR w base b d va) (hn : d.all.length ≤ 100000000) :
    Calls Tryd.prog 35 #[.pointer (some ⟨b, 0, none⟩)] w fun e w' => e = .returned (.int .i64 ((Chunk.readOf d.all).body.length : Int)) ∧ Below w.heap.size w w' := by
  obtain ⟨Aa, ca, hva, hca, hcm, hA0, hra⟩ := h.row.form
  subst hva
  have d0 := h.var.cell (j := 0) rfl
  have HR := Lib.hid (rread_any Aa d.all.length ca d.all w hca hra hn)
  clear h hra
  have hf0 := field_found0
  go_enter Tryd.func35, Tryd.ntmps35
  go_wp2_with (first
    | (go_at_call 64; go_must (refine HR.out.mono ?_; rintro _ w1 ⟨vo1, vt1, tr1, rfl, hrow1, hrt1, _, _, hb1⟩; obtain ⟨A1, c1, rfl, _, _, _, _⟩ := RowB.form hrow1))
    | fail)
  go_ret
  exact ⟨rfl, hb1⟩

set_option maxHeartbeats 1000000 in
set_option maxRecDepth 100000 in
theorem qtrail_no {d : Chunk.Doc} {w : World} {base b : Nat} {va : Value} (h : QR w base b d va) (hd : d.done = false) :
    Calls Tryd.prog 33 #[.pointer (some ⟨b, 0, none⟩)] w fun e w' => e = .returned (.slice none 0 0) ∧ w = w' := by
  have d1 := h.var.cell (j := 1) rfl
  rw [hd] at d1
  clear h
  go_enter Tryd.func33, Tryd.ntmps33
  go_wp2
  go_ret
  exact ⟨rfl, rfl⟩
set_option maxHeartbeats 1000000 in
set_option maxRecDepth 100000 in
theorem qtrail_yes {d : Chunk.Doc} {w : World} {base b : Nat} {va : Value} (h : QR w base b d va) (hd : d.done = true) (hn : d.all.length ≤ 100000000) (hr : (Chunk.readOf d.all).done = true) :
    Calls Tryd.prog 33 #[.pointer (some ⟨b, 0, none⟩)] w fun e w' => ∃ v, e = .returned v ∧ Row w' w.heap.size 2 v (Chunk.readOf d.all).trailers.length (fieldsV (flB (Chunk.readOf d.all).trailers)) ∧ Below w.heap.size w w' := by
  obtain ⟨Aa, ca, hva, hca, hcm, hA0, hra⟩ := h.row.form
  subst hva
  have d0 := h.var.cell (j := 0) rfl
  have d1 := h.var.cell (j := 1) rfl
  rw [hd] at d1
  have HR := Lib.hid (rread_any Aa d.all.length ca d.all w hca hra hn)
  have HD := Lib.hid hr
  clear h hra hr
  have hf4 := field_found4
  go_enter Tryd.func33, Tryd.ntmps33
  go_wp2_with (first
    | (go_at_call 64; go_must (refine HR.out.mono ?_; rintro _ w1 ⟨vo1, vt1, tr1, rfl, hrow1, hrt1, htr, _, hb1⟩))
    | fail)
  go_ret
  have ht := htr HD.out
  subst ht
  exact ⟨vt1, rfl, hrt1, hb1⟩

/-- Feed, wherever the reader stands -/
theorem feedA_any {s : Chunk.St} {T : Nat} (A : Option Addr) (n c : Nat) (l : Bs) {w : World} {base b : Nat} {vl vt : Value} (hsh : Shp base w) (h : Rdr w base b s vl vt) (hok : Chunk.Good s T) (hT : T + n ≤ 1000000000000)
    (hn : n ≤ 100000000) (hnc : n ≤ c) (hA : A = none → n = 0) (hrd : Rd w w.heap.size 1 A n (bytesV l)) (hsep : 0 < n → ∀ g o, A = some ⟨g, o, none⟩ → ¬ foot b vl vt g) :
    Calls Tryd.prog 28 #[.pointer (some ⟨b, 0, none⟩), .slice A n c] w (FeedPost w base b vl vt (Chunk.feedA s l)) := by
  have same : ∀ (dn : Bool) (q : Nat) (er : Int), dn = decide (q = 1) → er = (if q = 2 then 230 else 0) → FeedPost w base b vl vt (s, [], 0, q) (.returned (.tuple #[.slice none 0 0, .int .i64 0, .bool dn, .int .i64 er])) w := by
    intro dn q er e1 e2
    subst e1 e2
    exact ⟨_, rfl, RowB.nil _ _, vl, vt, h, Chg.refl _ _, fun k hk => Or.inl hk, fun k hk => Or.inl hk, fun k hk => by simp [Value.ownBlock] at hk⟩
  by_cases h11 : s.at_ = 11
  · rw [Chunk.feedA, if_pos h11]
    refine (feed_over A n c h h11).mono ?_
    rintro _ _ ⟨rfl, rfl⟩
    exact same true 1 0 rfl rfl
  · by_cases h12 : s.at_ = 12
    · rw [Chunk.feedA, if_neg h11, if_pos h12]
      refine (feed_dead h h12).mono ?_
      rintro _ _ ⟨rfl, rfl⟩
      exact same false 2 230 rfl rfl
    · rw [Chunk.feedA, if_neg h11, if_neg h12]
      rcases hok with hok | hok
      · exact absurd hok h12
      · exact feed_any A n c l hsh h hok h11 hT hn hnc hA hrd hsep
end Go.Proofs.YthipgmnfokfaiaaDoor
