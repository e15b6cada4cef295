/- stream's Expect: one more method. Condition: sizes. -/
import Derived.Test.YtklmpadcfioefaaGreatDoorSRest
namespace Go.Proofs.YtklmpadcfioefaaGreatDoor
open Go.RowKit
set_option maxRecDepth 100000 in
theorem sexpect_any {w : World} {base rb q : Nat} {s : Strm.S} {V : SV} (h : SMem w base rb s V q) (m : ByteArray) (hn : s.ms.length ≤ 100000000) :
    Calls Tryz.prog 7 #[.pointer (some ⟨rb, 0, none⟩), .string m] w fun e w' => e = .returned (.tuple #[]) ∧ ∃ V', SMem w' base rb { s with ms := s.ms ++ [m] } V' q ∧ Chg (footS rb V) w w' ∧ (∀ k, footS rb V' k → footS rb V k ∨ w.heap.size ≤ k) := by
  have d1 := h.cell (j := 1) rfl
  have f1 := h.var.frozen 1
  have hrl := h.var.lt
  have HH := Lib.hid h
  have hbw : base ≤ w.heap.size := by have := h.le; omega
  clear h
  obtain ⟨j0, hj0, jz0, jz1, jz2⟩ := info_parts info9
  go_enter Tryz.func7, Tryz.ntmps7
  go_wp2_with (first
    | (at_builtin; go_must (refine wpList_app _ rfl (.tmp 10) (.tmp 12) 27 27 rfl base 9 j0 (.string ⟨#[]⟩) 1 16 Tryz.underlying27 hj0 jz0 jz1 jz2 rfl V.mv s.ms.length (strsV s.ms) rfl (HH.out.ms.alloc _) _ 1 [.string m] rfl (Src.built [.string m] 9 Tryz.underlying27 rfl (by intro u hu; simp at hu; subst hu; rfl)) (by omega) (by omega) (by omega) (by simp; omega) ?_; intro v2 w2 hrow2 hg2 ho2; obtain ⟨A2, c2, rfl, _, _, _, _⟩ := hrow2.form; have hb2 : w.heap.size + 1 ≤ w2.heap.size := (by have := hg2.size; simp at this; exact this); have hc2 : Chg (fun k => V.mv.ownBlock = some k) w w2 := ((Chg.refl _ _).alloc _).grown hg2 (fun k _ hk => hk); have hv2 := ((HH.out.var.alloc (.cells #[.string m] 9)).grown hg2 (fun e => (HH.out.a1 _ e).1 rfl)); have f1b := hv2.frozen 1; have d1b := hv2.cell (j := 1) rfl; have HV2 := Lib.hid hv2; have HG2 := Lib.hid hg2; have HO2 := Lib.hid ho2; have HR2 := Lib.hid hrow2; have HC2 := Lib.hid hc2; clear hrow2 hg2 ho2 hc2 hv2))
    | fail)
  go_end0
  have hcm := (HC2.out.more (S' := fun k => V.mv.ownBlock = some k ∨ k = rb) (fun k _ h => .inl h)).setCell (p := ⟨rb, 1, none⟩) (fun _ => .inr rfl) (.slice A2 (s.ms.length + 1) c2)
  have hnew : ∀ k, (Value.slice A2 (s.ms.length + 1) c2).ownBlock = some k → V.mv.ownBlock = some k ∨ w.heap.size < k := fun k hk => by
    rcases HO2.out with e | e
    · rw [e] at hk; exact .inl hk
    · rw [e] at hk; injection hk with hk; simp at hk; exact .inr (by omega)
  have hms := HR2.out.setCell (p := ⟨rb, 1, none⟩) (fun e => by
    rcases hnew _ e with x | x
    · exact (HH.out.a1 _ x).1 rfl
    · dsimp only at x; omega) (.slice A2 (s.ms.length + 1) c2)
  have est : strsV s.ms ++ [.string m] = strsV (s.ms ++ [m]) := by simp [strsV]
  rw [est] at hms
  refine ⟨rfl, { V with mv := .slice A2 (s.ms.length + 1) c2 }, ⟨HH.out.le, HV2.out.set 1 _, by rw [List.length_append]; exact hms, Row.chg HH.out.blk hcm (fun k hk h => ?_), HH.out.nil, fun h3 => ⟨(HH.out.on h3).1, (HH.out.on h3).2.chgd hcm (fun k hk h => ?_)⟩, HH.out.off, fun k hk => ?_, HH.out.a2, HH.out.a3⟩, ?_, fun k hk => ?_⟩
  · rcases h with x | x
    · exact (HH.out.a1 k x).2.1 hk
    · exact (HH.out.a2 k hk).1 x
  · rcases h with x | x
    · exact (HH.out.a1 k x).2.2 hk
    · subst x; exact HH.out.a3 h3 hk
  · rcases hnew k hk with x | x
    · exact HH.out.a1 k x
    · refine ⟨fun e => by omega, fun e => ?_, fun e => ?_⟩
      · have := (HH.out.lt k (.inr (.inr (.inl e)))).2; omega
      · have := (HH.out.lt k (.inr (.inr (.inr e)))).2; omega
  · exact hcm.more (fun k _ h => by
      rcases h with x | x
      · exact .inr (.inl x)
      · exact .inl x)
  · rcases hk with x | x | x
    · exact .inl (.inl x)
    · rcases hnew k x with y | y
      · exact .inl (.inr (.inl y))
      · exact .inr (by omega)
    · exact .inl (.inr (.inr x))
end Go.Proofs.YtklmpadcfioefaaGreatDoor
