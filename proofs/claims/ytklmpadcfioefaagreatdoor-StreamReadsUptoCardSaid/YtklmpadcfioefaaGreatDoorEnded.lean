/- chunk's ended: a field line is whole. Condition: the world's shape. -/
import Derived.Test.YtklmpadcfioefaaGreatDoorLined
import Derived.Deep.RegionHeld3
import Derived.Deep.AppendLies
import Derived.Deep.RegionLaw
namespace Go.Proofs.YtklmpadcfioefaaGreatDoor
open Go.RowKit

theorem trimS_trim2 (l : Bs) : Lib.trimS l [9, 32] = trim l := by
  have e : (fun c : UInt8 => ([9, 32] : Bs).contains c) = isBlank := by
    funext c
    rw [Bool.eq_iff_iff]
    simp [isBlank, or_comm]
  simp only [Lib.trimS, Lib.trimLeftS, Lib.trimRightS, trim, e]
theorem sTrim2_any (s : ByteArray) (w : World) (hs : s.size ≤ 9223372036854775807) :
    Calls Tryz.prog 46 #[.string s, .string ⟨#[9, 32]⟩] w fun e w' => e = .returned (.string ⟨(trim s.data.toList).toArray⟩) ∧ Below w.heap.size w w' :=
  (Any.strings_Trim_laid Tryz.lays160 trim116 s ⟨#[9, 32]⟩ w hs (by decide) (ascii_of_all (by decide))).mono fun e w' ⟨he, hb⟩ => ⟨by rw [he]; exact congrArg (fun l : Bs => Ending.returned (.string ⟨l.toArray⟩)) (trimS_trim2 s.data.toList), hb⟩
theorem colonCut_eq (l : Bs) : Chunk.colonCut l = match cutAt 58 l with | none => (l, []) | some p => p := by
  induction l with
  | nil => rfl
  | cons c l ih =>
    rw [Chunk.colonCut, cutAt]
    by_cases h : c = 58
    · simp [h]
    · simp only [if_neg h, ih]
      cases cutAt 58 l <;> rfl
/-- strings.Cut at a colon, as the reader wants it -/
theorem cut_colon (l : Bs) (w : World) (h : w.ShapedOpen Tryz.prog) (hs : l.length ≤ 16777216) :
    Calls Tryz.prog 45 #[.string ⟨l.toArray⟩, .string ⟨#[58]⟩] w fun e w' => (∃ f : Bool, e = .returned (.tuple #[.string ⟨(Chunk.colonCut l).1.toArray⟩, .string ⟨(Chunk.colonCut l).2.toArray⟩, .bool f])) ∧ ∃ q, w' = w.drewN q :=
  (cut_any ⟨l.toArray⟩ 58 w h hs).mono fun e w' ⟨h1, h2⟩ => by
    refine ⟨?_, h2⟩
    have e0 : (⟨l.toArray⟩ : ByteArray).data.toList = l := rfl
    rw [e0] at h1
    rw [colonCut_eq]
    cases hc : cutAt 58 l with
    | none => rw [hc] at h1; exact ⟨false, h1⟩
    | some p => rw [hc] at h1; exact ⟨true, h1⟩

/-- what 'ended' leaves -/
def EndPost (w : World) (base b : Nat) (vl vt : Value) (s' : Chunk.St) (e : Ending) (w' : World) : Prop :=
  e = .returned (.tuple #[]) ∧ ∃ vl' vt', Rdr w' base b s' vl' vt' ∧ Chg (foot b vl vt) w w' ∧ (∀ k, vl'.ownBlock = some k → vl.ownBlock = some k ∨ w.heap.size ≤ k) ∧ (∀ k, vt'.ownBlock = some k → vt.ownBlock = some k ∨ w.heap.size ≤ k)
theorem end_post {w w' : World} {base b : Nat} {cs : List Value} {vl vt vl' vt' : Value} {L : Bs} {tr : List (Bs × Bs)} {s' : Chunk.St} (h : Mid (foot b vl vt) w w' base b cs vl' L vt' tr) (hc : cs = rcs s' vl' vt') (hL : L = s'.line) (ht : tr = s'.trailers)
    (k1 : ∀ k, vl'.ownBlock = some k → vl.ownBlock = some k ∨ w.heap.size ≤ k) (k2 : ∀ k, vt'.ownBlock = some k → vt.ownBlock = some k ∨ w.heap.size ≤ k) : EndPost w base b vl vt s' (.returned (.tuple #[])) w' := by
  subst hc hL ht
  exact ⟨rfl, vl', vt', ⟨h.var, h.line, h.tr, Chg.refl _ _, Or.inl rfl, h.nl, h.nt, h.lt, h.le⟩, h.chg, k1, k2⟩

set_option maxHeartbeats 4000000 in
set_option maxRecDepth 100000 in
theorem ended_any {s : Chunk.St} {w : World} {base b : Nat} {vl vt : Value} (hsh : w.ShapedOpen Tryz.prog) (h : Rdr w base b s vl vt) (b2 : s.line.length ≤ 4096) (b3 : s.trailers.length < 64) :
    Calls Tryz.prog 157 #[.pointer (some ⟨b, 0, none⟩)] w (EndPost w base b vl vt (Chunk.ended s)) := by
  have HM := Lib.hid h.mid
  have hbs := HM.out.le
  have hlt := HM.out.var.lt
  clear h
  obtain ⟨j0, hj0, jz0, jz1, jz2⟩ := info_parts infoField
  obtain ⟨Av, cv, hvt, _, _, _, _⟩ := HM.out.tr.form
  obtain ⟨Al, cl, hvl, _, _, hA, hrl⟩ := HM.out.line.form
  obtain ⟨at_, left, line, long, digits, read, total, trailers⟩ := s
  simp only at b2 b3 hvt hvl hA hrl
  subst hvt hvl
  have hcv : (convert 26 9 (.slice Al line.length cl)).run Tryz.prog w = .ok (.string ⟨line.toArray⟩) w :=
    conv_str (P := Tryz.prog) 26 9 5 Tryz.underlying26 Tryz.underlying5 Tryz.underlying9 hrl (fun e => (hA e).1)
  have HC := Lib.hid (cut_colon line w hsh (by omega))
  have hle := Chunk.colonCut_le line
  have HE : Hid (Chunk.ended ⟨at_, left, line, long, digits, read, total, trailers⟩ = ⟨at_, left, [], long, digits, read, total, trailers ++ [((Chunk.colonCut line).1, trim (Chunk.colonCut line).2)]⟩) := Lib.hid rfl
  generalize hcc : Chunk.colonCut line = cc at HC HE hle
  obtain ⟨nm, vv⟩ := cc
  have HT := Lib.hid (fun W : World => sTrim2_any ⟨vv.toArray⟩ W (show vv.length ≤ _ by simp only at hle; omega))
  have c2 := HM.out.var.cell (j := 2) rfl
  clear hA hrl hcc
  go_enter Tryz.func157, Tryz.ntmps157
  go_upto_region 1 with (go_at_call 45; (refine HC.out.mono ?_; rintro _ _ ⟨⟨fb, rfl⟩, q, rfl⟩))
  have HQ := Lib.hid (HM.out.drewN q)
  have c7 := HM.out.var.cell (j := 7) rfl
  have q7 := HM.out.var.frozen 7
  go_region_law (first
    | (refine step_app _ (by rfl) (.tmp 19) (.tmp 24) 50 50 (by rfl) base 89 j0 (.agg #[.string ⟨#[]⟩, .string ⟨#[]⟩]) 2 32 Tryz.underlying50 hj0 jz0 jz1 jz2 rfl (.slice Av trailers.length cv) trailers.length (fieldsV (flB trailers)) (by rfl) (HA1.out.tr.alloc _) _ 1 [.string ⟨nm.toArray⟩, .string ⟨(trim vv).toArray⟩] (by rfl) (Src.built [.string ⟨nm.toArray⟩, .string ⟨(trim vv).toArray⟩] 89 Tryz.underlying50 rfl (by intro u hu; simp at hu; rcases hu with rfl | rfl <;> rfl)) (by omega) (by omega) (by omega) (by have := HA1.out.size; simp; omega) ?_; intro v2 w2 hrow2 hg2 hv2; obtain ⟨A2, k2, rfl, _, _, _, _⟩ := hrow2.form; have HM2 := Lib.hid ((HA1.out.alloc (.cells #[.string ⟨nm.toArray⟩, .string ⟨(trim vv).toArray⟩] 89)).tr_grow (tr' := trailers ++ [(nm, trim vv)]) hg2 (by rw [flB_snoc, List.length_append]; exact hrow2) hv2 (fun k hk => Or.inl (Or.inr (Or.inr hk)))); have y7 := HM2.out.var.cell (j := 7) rfl; have z7 := HM2.out.var.frozen 7; have y2 := HM2.out.var.cell (j := 2) rfl; have z2 := HM2.out.var.frozen 2)
    | (go_simp; go_at_call 46; refine (HT.out _).mono ?_; rintro _ w1 ⟨rfl, hb1⟩; have HA1 := Lib.hid (HQ.out.drew.below hb1); have d7 := HA1.out.var.cell (j := 7) rfl; have e7 := HA1.out.var.frozen 7; have hl1 := HA1.out.var.lt)
    | fail)
  all_goals
    have HM3 := Lib.hid (HM2.out.set 7 (.slice A2 (trailers.length + 1) k2))
    go_wp2
    go_end0
    exact end_post (HM3.out.set 2 (.slice none 0 0)).line_nil (by rw [HE.out]; simp [rcs]) (by rw [HE.out]) (by rw [HE.out]) (fun k hk => by simp [Value.ownBlock] at hk) (fun k hk => by rcases hv2 with x | x; exact Or.inl (x ▸ hk); rw [x] at hk; injection hk with hk; have := HA1.out.size; simp at hk; right; omega)
end Go.Proofs.YtklmpadcfioefaaGreatDoor
