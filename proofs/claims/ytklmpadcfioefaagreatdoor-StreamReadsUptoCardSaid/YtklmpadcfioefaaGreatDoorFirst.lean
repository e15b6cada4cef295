/- head.first: a first line is read as just the head that the plain word 'firstP' says. Conditions: the size, the library's variable. -/
import Derived.Test.YtklmpadcfioefaaGreatDoorMB
import Derived.Test.YtklmpadcfioefaaGreatDoorMA
namespace Go.Proofs.YtklmpadcfioefaaGreatDoor
open Go.RowKit

def hdV (h : Hd) (f : Value) : Value := headV h.rq ⟨h.m.toArray⟩ ⟨h.t.toArray⟩ h.st ⟨h.rs.toArray⟩ h.mn f
def FirstPost (w : World) (rq : Bool) (l : Bs) (e : Ending) (w' : World) : Prop :=
  e = .returned (.tuple #[hdV ((firstP rq l).getD {}) (.slice none 0 0), .bool (firstP rq l).isSome]) ∧ Below w.heap.size w w'

theorem cut_sizes {c : UInt8} {l a b : Bs} (h : cutAt c l = some (a, b)) : a.length + 1 + b.length = l.length ∧ c ∉ a := by
  obtain ⟨e, hn⟩ := cutAt_some.1 h
  subst e
  exact ⟨by simp; omega, hn⟩
theorem cut_none_l (l : Bs) (c : UInt8) (w : World) (h : w.ShapedOpen Tryz.prog) (hs : l.length ≤ 16777216) (hc : cutAt c l = none) :
    Calls Tryz.prog 45 #[.string ⟨l.toArray⟩, .string ⟨#[c]⟩] w fun e w' => e = .returned (.tuple #[.string ⟨l.toArray⟩, .string ⟨#[]⟩, .bool false]) ∧ ∃ q, w' = w.drewN q :=
  cut_none ⟨l.toArray⟩ c w h hs hc
theorem hToken_l (l : Bs) (w : World) (hs : l.length ≤ 16777216) : Calls Tryz.prog 47 #[.string ⟨l.toArray⟩] w fun e w' => e = .returned (.bool (token l)) ∧ w = w' := hToken_any ⟨l.toArray⟩ w (by show l.length ≤ _; omega)
theorem byte_eta (s : ByteArray) : (⟨s.data.toList.toArray⟩ : ByteArray) = s := by
  cases s; simp
theorem cut_some_s (s : ByteArray) (c : UInt8) (w : World) (h : w.ShapedOpen Tryz.prog) (hs : s.size ≤ 16777216) {a b : ByteArray} (hc : cutAt c s.data.toList = some (a.data.toList, b.data.toList)) :
    Calls Tryz.prog 45 #[.string s, .string ⟨#[c]⟩] w fun e w' => e = .returned (.tuple #[.string a, .string b, .bool true]) ∧ ∃ q, w' = w.drewN q :=
  (cut_some s c w h hs hc).mono fun e w' ⟨h1, h2⟩ => by rw [byte_eta, byte_eta] at h1; exact ⟨h1, h2⟩
theorem isSeen_eq (c : UInt8) : isSeen c = decide (33 ≤ c.toNat ∧ c.toNat ≤ 126) := by
  simp only [isSeen, UInt8.le_iff_toNat_le]
  have e1 : (33 : UInt8).toNat = 33 := rfl
  have e2 : (126 : UInt8).toNat = 126 := rfl
  rw [e1, e2, Bool.eq_iff_iff]
  simp only [Bool.and_eq_true, decide_eq_true_eq]
theorem seen_reason {l : Bs} (h : l.all isSeen = true) : allReason l = true := by
  unfold allReason
  rw [List.all_eq_true] at h ⊢
  intro c hc
  have := h c hc
  rw [isSeen_eq, decide_eq_true_eq] at this
  rw [isReason_eq, decide_eq_true_eq]
  omega
theorem seen_all {l : Bs} (h1 : allReason l = true) (h2 : (32 : UInt8) ∉ l) (h3 : ∀ c ∈ l, c.toNat ≤ 126) : l.all isSeen = true := by
  unfold allReason at h1
  rw [List.all_eq_true] at h1 ⊢
  intro c hc
  have h := h1 c hc
  rw [isReason_eq, decide_eq_true_eq] at h
  have h32 : c.toNat ≠ 32 := fun e => h2 (by
    have : c = 32 := UInt8.toNat_inj.mp (by rw [e]; rfl)
    rwa [this] at hc)
  have := h3 c hc
  rw [isSeen_eq, decide_eq_true_eq]
  omega
theorem seen_not {l : Bs} {c : UInt8} (hc : c ∈ l) (h : 126 < c.toNat) : l.all isSeen = false := by
  rw [List.all_eq_false]
  exact ⟨c, hc, by rw [isSeen_eq]; simp; omega⟩


set_option maxHeartbeats 400000 in
set_option maxRecDepth 100000 in
theorem hfirst_cut (s : ByteArray) (rq : Bool) (w : World) (hsh : w.ShapedOpen Tryz.prog) (hs : s.size ≤ 16777216) (h : cutAt 32 s.data.toList = none) :
    Calls Tryz.prog 44 #[.string s, .bool rq] w (FirstPost w rq s.data.toList) := by
  have HF : Hid (firstP rq s.data.toList = none) := Lib.hid (by rw [firstP, h])
  have H1 := Lib.hid h
  clear h
  have HSH := Lib.hid hsh
  have s0 : Hid (∀ o, (w.alloc o).ShapedOpen Tryz.prog) := Lib.hid (fun o => shaped_below HSH.out ((Below.refl _ _).alloc (Nat.le_refl _) o))
  have s1 : Hid (∀ o q, ((w.alloc o).drewN q).ShapedOpen Tryz.prog) := Lib.hid (fun o q => shaped_below HSH.out (below_drewN ((Below.refl _ _).alloc (Nat.le_refl _) o) q))
  clear hsh
  unfold FirstPost
  go_enter Tryz.func44, Tryz.ntmps44
  go_wp2
  refine wp_scope_to 0 rfl ?_
  intro J hJ
  go_upto_region 2 with (go_at_call 45; go_must (refine (cut_none s 32 _ (s0.out _) hs H1.out).mono ?_; rintro _ _ ⟨rfl, q, rfl⟩))
  go_upto_region 3 with (go_at_call 45; go_must (refine (cut_none ⟨#[]⟩ 32 _ (s1.out _ _) (Nat.zero_le _) rfl).mono ?_; rintro _ _ ⟨rfl, q2, rfl⟩))
  go_wp2_with (first
    | (go_step3; (try simp only [Exit.then, jump_goto]); refine hJ _ _ ?_)
    | (refine wpList_put rfl 52 (.tmp 4) (.tmp 126) rfl w.heap.size rfl ((Var.new w 52 [.bool false, .string ⟨#[]⟩, .string ⟨#[]⟩, .int .i64 0, .string ⟨#[]⟩, .int .i64 0, .slice none 0 0]).drewN _) [.bool false, .string ⟨#[]⟩, .string ⟨#[]⟩, .int .i64 0, .string ⟨#[]⟩, .int .i64 0, .slice none 0 0] rfl rfl (by kernel_rfl) (by simp [Value.oneCell']) ?_; intro w9 hv9 hg9 hs9))
  all_goals (try simp only [jump_ret])
  all_goals refine bodyPost_ret (results_var rfl _ _ rfl hv9 Tryz.underlying52 rfl (by kernel_rfl)) rfl ⟨by rw [HF.out]; rfl, ?_⟩
  all_goals refine Below.grown ?_ hg9 (by simp) (by intro k hk; simp at hk; omega)
  all_goals repeat' (first | refine Below.setCell ?_ (by simp) _ | refine below_drewN ?_ _ | refine Below.alloc ?_ (by simp <;> omega) _ | exact Below.refl _ _)

set_option maxHeartbeats 400000 in
set_option maxRecDepth 100000 in
theorem hfirst_cut2 (s : ByteArray) (rq : Bool) (w : World) (hsh : w.ShapedOpen Tryz.prog) (hs : s.size ≤ 16777216) {a r : Bs} (h : cutAt 32 s.data.toList = some (a, r)) (h2 : cutAt 32 r = none) :
    Calls Tryz.prog 44 #[.string s, .bool rq] w (FirstPost w rq s.data.toList) := by
  have HF : Hid (firstP rq s.data.toList = none) := Lib.hid (by rw [firstP, h]; simp only [h2])
  have hr : r.length ≤ 16777216 := by have := (cut_sizes h).1; rw [size_data] at this; omega
  have H1 := Lib.hid h
  have H2 := Lib.hid h2
  have HR := Lib.hid hr
  clear h h2 hr
  have HSH := Lib.hid hsh
  have s0 : Hid (∀ o, (w.alloc o).ShapedOpen Tryz.prog) := Lib.hid (fun o => shaped_below HSH.out ((Below.refl _ _).alloc (Nat.le_refl _) o))
  have s1 : Hid (∀ o q, ((w.alloc o).drewN q).ShapedOpen Tryz.prog) := Lib.hid (fun o q => shaped_below HSH.out (below_drewN ((Below.refl _ _).alloc (Nat.le_refl _) o) q))
  clear hsh
  unfold FirstPost
  go_enter Tryz.func44, Tryz.ntmps44
  go_wp2
  refine wp_scope_to 0 rfl ?_
  intro J hJ
  go_upto_region 2 with (go_at_call 45; go_must (refine (cut_some s 32 _ (s0.out _) hs H1.out).mono ?_; rintro _ _ ⟨rfl, q, rfl⟩))
  go_upto_region 3 with (go_at_call 45; go_must (refine (cut_none_l r 32 _ (s1.out _ _) HR.out H2.out).mono ?_; rintro _ _ ⟨rfl, q2, rfl⟩))
  go_wp2_with (first
    | (go_step3; (try simp only [Exit.then, jump_goto]); refine hJ _ _ ?_)
    | (refine wpList_put rfl 52 (.tmp 4) (.tmp 126) rfl w.heap.size rfl ((Var.new w 52 [.bool false, .string ⟨#[]⟩, .string ⟨#[]⟩, .int .i64 0, .string ⟨#[]⟩, .int .i64 0, .slice none 0 0]).drewN _) [.bool false, .string ⟨#[]⟩, .string ⟨#[]⟩, .int .i64 0, .string ⟨#[]⟩, .int .i64 0, .slice none 0 0] rfl rfl (by kernel_rfl) (by simp [Value.oneCell']) ?_; intro w9 hv9 hg9 hs9))
  all_goals (try simp only [jump_ret])
  all_goals refine bodyPost_ret (results_var rfl _ _ rfl hv9 Tryz.underlying52 rfl (by kernel_rfl)) rfl ⟨by rw [HF.out]; rfl, ?_⟩
  all_goals refine Below.grown ?_ hg9 (by simp) (by intro k hk; simp at hk; omega)
  all_goals repeat' (first | refine Below.setCell ?_ (by simp) _ | refine below_drewN ?_ _ | refine Below.alloc ?_ (by simp <;> omega) _ | exact Below.refl _ _)

theorem firstP_rq {l : Bs} {a r b c : Bs} (h1 : cutAt 32 l = some (a, r)) (h2 : cutAt 32 r = some (b, c)) : firstP true l = match minorP c with
    | none => none
    | some k => if token a = true ∧ b ≠ [] ∧ b.all isSeen = true then some { rq := true, m := a, t := b, mn := k } else none := by
  rw [firstP, h1]; simp only [h2, if_true]; cases minorP c <;> rfl
theorem empty_b {s : ByteArray} : (s.toList == []) = decide (s.data.toList = []) := by
  rw [ByteArray.toList_eq]; cases s.data.toList <;> simp

set_option maxHeartbeats 1000000 in
set_option maxRecDepth 100000 in
theorem hfirst_ok (s sa sr sb sc : ByteArray) (k : Nat) (w : World) (hsh : w.ShapedOpen Tryz.prog) (hs : s.size ≤ 16777216) (H1 : Hid (cutAt 32 s.data.toList = some (sa.data.toList, sr.data.toList))) (H2 : Hid (cutAt 32 sr.data.toList = some (sb.data.toList, sc.data.toList)))
    (HR : Hid (sr.size ≤ 16777216)) (hsa : sa.size ≤ 16777216) (hsb : sb.size ≤ 16777216) (HM : Hid (minorP sc.data.toList = some k)) (HT : Hid (token sa.data.toList = true)) (HW : Hid (allReason sb.data.toList = true)) (hbe : (sb.toList == []) = false)
    (HY : Hid ((∀ j (h : j < sb.data.toList.length), sb.data.toList[j].toNat ≤ 126) → firstP true s.data.toList = some { rq := true, m := sa.data.toList, t := sb.data.toList, mn := k }))
    (HX : Hid (∀ j (h : j < sb.data.toList.length), ¬ sb.data.toList[j].toNat ≤ 126 → firstP true s.data.toList = none)) :
    Calls Tryz.prog 44 #[.string s, .bool true] w (FirstPost w true s.data.toList) := by
  have hsd' := size_data sb
  have HSH := Lib.hid hsh
  have s0 : Hid (∀ o, (w.alloc o).ShapedOpen Tryz.prog) := Lib.hid (fun o => shaped_below HSH.out ((Below.refl _ _).alloc (Nat.le_refl _) o))
  have s1 : Hid (∀ o q, ((w.alloc o).drewN q).ShapedOpen Tryz.prog) := Lib.hid (fun o q => shaped_below HSH.out (below_drewN ((Below.refl _ _).alloc (Nat.le_refl _) o) q))
  clear hsh
  unfold FirstPost
  go_enter Tryz.func44, Tryz.ntmps44
  go_wp2
  refine wp_scope_to 0 rfl ?_
  intro J hJ
  go_upto_region 2 with (go_at_call 45; go_must (refine (cut_some_s s 32 _ (s0.out _) hs H1.out).mono ?_; rintro _ _ ⟨rfl, q, rfl⟩))
  go_upto_region 3 with (go_at_call 45; go_must (refine (cut_some_s sr 32 _ (s1.out _ _) HR.out H2.out).mono ?_; rintro _ _ ⟨rfl, q2, rfl⟩))
  go_wp2_with (first
    | (go_step3; (try simp only [Exit.then, Exit.inBlock, jump_goto]); refine hJ _ _ ?_)
    | (go_at_call 78; go_must (refine (hminor_any sc _).mono ?_; rintro _ _ ⟨rfl, rfl⟩; rw [HM.out]))
    | (go_at_call 47; go_must (refine (hToken_any sa _ (by omega)).mono ?_; rintro _ _ ⟨rfl, rfl⟩; rw [HT.out]))
    | (go_at_call 48; go_must (refine (hwritten_plain sb _ (by omega)).mono ?_; rintro _ _ ⟨rfl, rfl⟩; rw [HW.out])))
  go_loop [57] (fun i => ∃ j : Nat, j ≤ sb.size ∧ i = .int .i64 j ∧ (∀ m (h : m < sb.data.toList.length), m < j → sb.data.toList[m].toNat ≤ 126)) (fun i => sb.size - (intOf i).toNat)
  case atStart => exact ⟨0, Nat.zero_le _, rfl, fun m h hm => absurd hm (by omega)⟩
  case round =>
    obtain ⟨j, hj, rfl, hall⟩ := hrel
    have HA := Lib.hid hall
    clear hall
    by_cases hlt : j < sb.size
    · have hsd := size_data sb
      have hx : sb[j].toNat < 256 := UInt8.toNat_lt _
      have HBA := Lib.hid (byte_at sb j hlt)
      by_cases h126 : sb[j].toNat ≤ 126
      · have HN : Hid (∀ m (h : m < sb.data.toList.length), m < j + 1 → sb.data.toList[m].toNat ≤ 126) := Lib.hid (fun m h hm => by
          by_cases e : m = j
          · subst e; rw [HBA.out]; exact h126
          · exact HA.out m h (by omega))
        go_wp2
        go_round
        case rel => exact ⟨j + 1, by omega, by go_num, HN.out⟩
        case measure => simp [intOf]; omega
      · have HF : Hid (firstP true s.data.toList = none) := Lib.hid (HX.out j (by omega) (by rw [HBA.out]; exact h126))
        go_wp2_with (first
          | (go_step3; refine (show 0 = 0 ∧ J _ _ from ⟨rfl, hJ _ _ ?_⟩))
          | (refine wpList_put rfl 52 (.tmp 4) (.tmp 126) rfl w.heap.size rfl (((Var.new w 52 [.bool false, .string ⟨#[]⟩, .string ⟨#[]⟩, .int .i64 0, .string ⟨#[]⟩, .int .i64 0, .slice none 0 0]).drewN _).set 5 _) [.bool false, .string ⟨#[]⟩, .string ⟨#[]⟩, .int .i64 0, .string ⟨#[]⟩, .int .i64 0, .slice none 0 0] rfl rfl (by kernel_rfl) (by simp [Value.oneCell']) ?_; intro w9 hv9 hg9 hs9))
        all_goals (try simp only [jump_ret])
        all_goals refine bodyPost_ret (results_var rfl _ _ rfl hv9 Tryz.underlying52 rfl (by kernel_rfl)) rfl ⟨by rw [HF.out]; rfl, ?_⟩
        all_goals refine Below.grown ?_ hg9 (by simp) (by intro k hk; simp at hk; omega)
        all_goals repeat' (first | refine Below.setCell ?_ (by simp) _ | refine below_drewN ?_ _ | refine Below.alloc ?_ (by simp <;> omega) _ | exact Below.refl _ _)
    · have HF := Lib.hid (HY.out (fun m h => HA.out m h (by rw [hsd'] at h; omega)))
      go_wp2
      have hv9 : Var _ w.heap.size 52 [.bool true, .string sa, .string sb, .int .i64 0, .string ⟨#[]⟩, .int .i64 k, .slice none 0 0] := ((((((((((((Var.new w 52 [.bool false, .string ⟨#[]⟩, .string ⟨#[]⟩, .int .i64 0, .string ⟨#[]⟩, .int .i64 0, .slice none 0 0]).drewN (q + q2)).set 5 (.int .i64 k)).set 0 (.bool true)).set 1 (.string sa)).set 2 (.string sb)).set 0 (.bool true)).set 1 (.string sa)).set 2 (.string sb)).set 3 (.int .i64 0)).set 4 (.string ⟨#[]⟩)).set 5 (.int .i64 k)).set 6 (.slice none 0 0)
      refine bodyPost_ret (results_var rfl _ _ rfl hv9 Tryz.underlying52 rfl (by kernel_rfl)) rfl ⟨?_, ?_⟩
      · rw [HF.out]
        simp only [Option.getD_some, Option.isSome_some, hdV, headV, byte_eta]
        rfl
      repeat' (first | refine Below.setCell ?_ (by simp) _ | refine below_drewN ?_ _ | refine Below.alloc ?_ (by simp <;> omega) _ | exact Below.refl _ _)

set_option maxHeartbeats 1000000 in
set_option maxRecDepth 100000 in
theorem hfirst_rq (s sa sr sb sc : ByteArray) (w : World) (hsh : w.ShapedOpen Tryz.prog) (hs : s.size ≤ 16777216) (h : cutAt 32 s.data.toList = some (sa.data.toList, sr.data.toList)) (h2 : cutAt 32 sr.data.toList = some (sb.data.toList, sc.data.toList)) :
    Calls Tryz.prog 44 #[.string s, .bool true] w (FirstPost w true s.data.toList) := by
  obtain ⟨z1, z2⟩ := cut_sizes h
  obtain ⟨z3, z4⟩ := cut_sizes h2
  simp only [size_data] at z1 z3
  have hP := firstP_rq h h2
  have H1 := Lib.hid h
  have H2 := Lib.hid h2
  have HR : Hid (sr.size ≤ 16777216) := Lib.hid (by omega)
  have HN := Lib.hid z4
  clear h h2 z4
  cases hm : minorP sc.data.toList with
  | none =>
    have HF : Hid (firstP true s.data.toList = none) := Lib.hid (by rw [hP, hm])
    have HM := Lib.hid hm
    have HT : Hid (token sa.data.toList = token sa.data.toList) := Lib.hid rfl
    have HW : Hid (allReason sb.data.toList = allReason sb.data.toList) := Lib.hid rfl
    clear hm hP
    have HSH := Lib.hid hsh
    have s0 : Hid (∀ o, (w.alloc o).ShapedOpen Tryz.prog) := Lib.hid (fun o => shaped_below HSH.out ((Below.refl _ _).alloc (Nat.le_refl _) o))
    have s1 : Hid (∀ o q, ((w.alloc o).drewN q).ShapedOpen Tryz.prog) := Lib.hid (fun o q => shaped_below HSH.out (below_drewN ((Below.refl _ _).alloc (Nat.le_refl _) o) q))
    clear hsh
    unfold FirstPost
    go_enter Tryz.func44, Tryz.ntmps44
    go_wp2
    refine wp_scope_to 0 rfl ?_
    intro J hJ
    go_upto_region 2 with (go_at_call 45; go_must (refine (cut_some_s s 32 _ (s0.out _) hs H1.out).mono ?_; rintro _ _ ⟨rfl, q, rfl⟩))
    go_upto_region 3 with (go_at_call 45; go_must (refine (cut_some_s sr 32 _ (s1.out _ _) HR.out H2.out).mono ?_; rintro _ _ ⟨rfl, q2, rfl⟩))
    go_wp2_with (first
      | (go_step3; (try simp only [Exit.then, jump_goto]); refine hJ _ _ ?_)
      | (go_at_call 78; go_must (refine (hminor_any sc _).mono ?_; rintro _ _ ⟨rfl, rfl⟩; rw [HM.out]))
      | (go_at_call 47; go_must (refine (hToken_any sa _ (by omega)).mono ?_; rintro _ _ ⟨rfl, rfl⟩; rw [HT.out]))
      | (go_at_call 48; go_must (refine (hwritten_plain sb _ (by omega)).mono ?_; rintro _ _ ⟨rfl, rfl⟩; rw [HW.out]))
      | (refine wpList_put rfl 52 (.tmp 4) (.tmp 126) rfl w.heap.size rfl (((Var.new w 52 [.bool false, .string ⟨#[]⟩, .string ⟨#[]⟩, .int .i64 0, .string ⟨#[]⟩, .int .i64 0, .slice none 0 0]).drewN _).set 5 _) [.bool false, .string ⟨#[]⟩, .string ⟨#[]⟩, .int .i64 0, .string ⟨#[]⟩, .int .i64 0, .slice none 0 0] rfl rfl (by kernel_rfl) (by simp [Value.oneCell']) ?_; intro w9 hv9 hg9 hs9))
    all_goals (try simp only [jump_ret])
    all_goals refine bodyPost_ret (results_var rfl _ _ rfl hv9 Tryz.underlying52 rfl (by kernel_rfl)) rfl ⟨by rw [HF.out]; rfl, ?_⟩
    all_goals refine Below.grown ?_ hg9 (by simp) (by intro k hk; simp at hk; omega)
    all_goals repeat' (first | refine Below.setCell ?_ (by simp) _ | refine below_drewN ?_ _ | refine Below.alloc ?_ (by simp <;> omega) _ | exact Below.refl _ _)
  | some k =>
    rw [hm] at hP
    have HM := Lib.hid hm
    clear hm
    by_cases ht : token sa.data.toList = true
    · by_cases hb : sb.data.toList = []
      · have HF : Hid (firstP true s.data.toList = none) := Lib.hid (by rw [hP]; simp [hb])
        have HT := Lib.hid ht
        have HW : Hid (allReason sb.data.toList = allReason sb.data.toList) := Lib.hid rfl
        have hbe : (sb.toList == []) = true := by rw [empty_b]; simpa using hb
        clear hP ht hb
        have HSH := Lib.hid hsh
        have s0 : Hid (∀ o, (w.alloc o).ShapedOpen Tryz.prog) := Lib.hid (fun o => shaped_below HSH.out ((Below.refl _ _).alloc (Nat.le_refl _) o))
        have s1 : Hid (∀ o q, ((w.alloc o).drewN q).ShapedOpen Tryz.prog) := Lib.hid (fun o q => shaped_below HSH.out (below_drewN ((Below.refl _ _).alloc (Nat.le_refl _) o) q))
        clear hsh
        unfold FirstPost
        go_enter Tryz.func44, Tryz.ntmps44
        go_wp2
        refine wp_scope_to 0 rfl ?_
        intro J hJ
        go_upto_region 2 with (go_at_call 45; go_must (refine (cut_some_s s 32 _ (s0.out _) hs H1.out).mono ?_; rintro _ _ ⟨rfl, q, rfl⟩))
        go_upto_region 3 with (go_at_call 45; go_must (refine (cut_some_s sr 32 _ (s1.out _ _) HR.out H2.out).mono ?_; rintro _ _ ⟨rfl, q2, rfl⟩))
        go_wp2_with (first
          | (go_step3; (try simp only [Exit.then, jump_goto]); refine hJ _ _ ?_)
          | (go_at_call 78; go_must (refine (hminor_any sc _).mono ?_; rintro _ _ ⟨rfl, rfl⟩; rw [HM.out]))
          | (go_at_call 47; go_must (refine (hToken_any sa _ (by omega)).mono ?_; rintro _ _ ⟨rfl, rfl⟩; rw [HT.out]))
          | (go_at_call 48; go_must (refine (hwritten_plain sb _ (by omega)).mono ?_; rintro _ _ ⟨rfl, rfl⟩; rw [HW.out]))
          | (refine wpList_put rfl 52 (.tmp 4) (.tmp 126) rfl w.heap.size rfl (((Var.new w 52 [.bool false, .string ⟨#[]⟩, .string ⟨#[]⟩, .int .i64 0, .string ⟨#[]⟩, .int .i64 0, .slice none 0 0]).drewN _).set 5 _) [.bool false, .string ⟨#[]⟩, .string ⟨#[]⟩, .int .i64 0, .string ⟨#[]⟩, .int .i64 0, .slice none 0 0] rfl rfl (by kernel_rfl) (by simp [Value.oneCell']) ?_; intro w9 hv9 hg9 hs9))
        all_goals (try simp only [jump_ret])
        all_goals refine bodyPost_ret (results_var rfl _ _ rfl hv9 Tryz.underlying52 rfl (by kernel_rfl)) rfl ⟨by rw [HF.out]; rfl, ?_⟩
        all_goals refine Below.grown ?_ hg9 (by simp) (by intro k hk; simp at hk; omega)
        all_goals repeat' (first | refine Below.setCell ?_ (by simp) _ | refine below_drewN ?_ _ | refine Below.alloc ?_ (by simp <;> omega) _ | exact Below.refl _ _)
      · have hbe : (sb.toList == []) = false := by rw [empty_b]; simpa using hb
        by_cases hw : allReason sb.data.toList = true
        · refine hfirst_ok s sa sr sb sc k w hsh hs H1 H2 HR (by omega) (by omega) HM (Lib.hid ht) (Lib.hid hw) hbe (Lib.hid fun h => ?_) (Lib.hid fun j hj h => ?_)
          · rw [hP]
            exact if_pos ⟨ht, hb, seen_all hw HN.out (fun c hc => by obtain ⟨j, hj, rfl⟩ := List.getElem_of_mem hc; exact h j hj)⟩
          · rw [hP]
            refine if_neg fun x => ?_
            have := seen_not (List.getElem_mem hj) (by omega)
            rw [x.2.2] at this
            cases this
        · have HF : Hid (firstP true s.data.toList = none) := Lib.hid (by
            rw [hP]
            have : sb.data.toList.all isSeen = false := by
              cases hx : sb.data.toList.all isSeen with
              | false => rfl
              | true => exact absurd (seen_reason hx) hw
            simp [this])
          have HT := Lib.hid ht
          have HW : Hid (allReason sb.data.toList = false) := Lib.hid (by simpa using hw)
          clear hP ht hb hw
          have HSH := Lib.hid hsh
          have s0 : Hid (∀ o, (w.alloc o).ShapedOpen Tryz.prog) := Lib.hid (fun o => shaped_below HSH.out ((Below.refl _ _).alloc (Nat.le_refl _) o))
          have s1 : Hid (∀ o q, ((w.alloc o).drewN q).ShapedOpen Tryz.prog) := Lib.hid (fun o q => shaped_below HSH.out (below_drewN ((Below.refl _ _).alloc (Nat.le_refl _) o) q))
          clear hsh
          unfold FirstPost
          go_enter Tryz.func44, Tryz.ntmps44
          go_wp2
          refine wp_scope_to 0 rfl ?_
          intro J hJ
          go_upto_region 2 with (go_at_call 45; go_must (refine (cut_some_s s 32 _ (s0.out _) hs H1.out).mono ?_; rintro _ _ ⟨rfl, q, rfl⟩))
          go_upto_region 3 with (go_at_call 45; go_must (refine (cut_some_s sr 32 _ (s1.out _ _) HR.out H2.out).mono ?_; rintro _ _ ⟨rfl, q2, rfl⟩))
          go_wp2_with (first
            | (go_step3; (try simp only [Exit.then, jump_goto]); refine hJ _ _ ?_)
            | (go_at_call 78; go_must (refine (hminor_any sc _).mono ?_; rintro _ _ ⟨rfl, rfl⟩; rw [HM.out]))
            | (go_at_call 47; go_must (refine (hToken_any sa _ (by omega)).mono ?_; rintro _ _ ⟨rfl, rfl⟩; rw [HT.out]))
            | (go_at_call 48; go_must (refine (hwritten_plain sb _ (by omega)).mono ?_; rintro _ _ ⟨rfl, rfl⟩; rw [HW.out]))
            | (refine wpList_put rfl 52 (.tmp 4) (.tmp 126) rfl w.heap.size rfl (((Var.new w 52 [.bool false, .string ⟨#[]⟩, .string ⟨#[]⟩, .int .i64 0, .string ⟨#[]⟩, .int .i64 0, .slice none 0 0]).drewN _).set 5 _) [.bool false, .string ⟨#[]⟩, .string ⟨#[]⟩, .int .i64 0, .string ⟨#[]⟩, .int .i64 0, .slice none 0 0] rfl rfl (by kernel_rfl) (by simp [Value.oneCell']) ?_; intro w9 hv9 hg9 hs9))
          all_goals (try simp only [jump_ret])
          all_goals refine bodyPost_ret (results_var rfl _ _ rfl hv9 Tryz.underlying52 rfl (by kernel_rfl)) rfl ⟨by rw [HF.out]; rfl, ?_⟩
          all_goals refine Below.grown ?_ hg9 (by simp) (by intro k hk; simp at hk; omega)
          all_goals repeat' (first | refine Below.setCell ?_ (by simp) _ | refine below_drewN ?_ _ | refine Below.alloc ?_ (by simp <;> omega) _ | exact Below.refl _ _)
    · have ht' : token sa.data.toList = false := by simpa using ht
      have HF : Hid (firstP true s.data.toList = none) := Lib.hid (by rw [hP]; simp [ht'])
      have HT := Lib.hid ht'
      have HW : Hid (allReason sb.data.toList = allReason sb.data.toList) := Lib.hid rfl
      clear hP ht ht'
      have HSH := Lib.hid hsh
      have s0 : Hid (∀ o, (w.alloc o).ShapedOpen Tryz.prog) := Lib.hid (fun o => shaped_below HSH.out ((Below.refl _ _).alloc (Nat.le_refl _) o))
      have s1 : Hid (∀ o q, ((w.alloc o).drewN q).ShapedOpen Tryz.prog) := Lib.hid (fun o q => shaped_below HSH.out (below_drewN ((Below.refl _ _).alloc (Nat.le_refl _) o) q))
      clear hsh
      unfold FirstPost
      go_enter Tryz.func44, Tryz.ntmps44
      go_wp2
      refine wp_scope_to 0 rfl ?_
      intro J hJ
      go_upto_region 2 with (go_at_call 45; go_must (refine (cut_some_s s 32 _ (s0.out _) hs H1.out).mono ?_; rintro _ _ ⟨rfl, q, rfl⟩))
      go_upto_region 3 with (go_at_call 45; go_must (refine (cut_some_s sr 32 _ (s1.out _ _) HR.out H2.out).mono ?_; rintro _ _ ⟨rfl, q2, rfl⟩))
      go_wp2_with (first
        | (go_step3; (try simp only [Exit.then, jump_goto]); refine hJ _ _ ?_)
        | (go_at_call 78; go_must (refine (hminor_any sc _).mono ?_; rintro _ _ ⟨rfl, rfl⟩; rw [HM.out]))
        | (go_at_call 47; go_must (refine (hToken_any sa _ (by omega)).mono ?_; rintro _ _ ⟨rfl, rfl⟩; rw [HT.out]))
        | (go_at_call 48; go_must (refine (hwritten_plain sb _ (by omega)).mono ?_; rintro _ _ ⟨rfl, rfl⟩; rw [HW.out]))
        | (refine wpList_put rfl 52 (.tmp 4) (.tmp 126) rfl w.heap.size rfl (((Var.new w 52 [.bool false, .string ⟨#[]⟩, .string ⟨#[]⟩, .int .i64 0, .string ⟨#[]⟩, .int .i64 0, .slice none 0 0]).drewN _).set 5 _) [.bool false, .string ⟨#[]⟩, .string ⟨#[]⟩, .int .i64 0, .string ⟨#[]⟩, .int .i64 0, .slice none 0 0] rfl rfl (by kernel_rfl) (by simp [Value.oneCell']) ?_; intro w9 hv9 hg9 hs9))
      all_goals (try simp only [jump_ret])
      all_goals refine bodyPost_ret (results_var rfl _ _ rfl hv9 Tryz.underlying52 rfl (by kernel_rfl)) rfl ⟨by rw [HF.out]; rfl, ?_⟩
      all_goals refine Below.grown ?_ hg9 (by simp) (by intro k hk; simp at hk; omega)
      all_goals repeat' (first | refine Below.setCell ?_ (by simp) _ | refine below_drewN ?_ _ | refine Below.alloc ?_ (by simp <;> omega) _ | exact Below.refl _ _)
end Go.Proofs.YtklmpadcfioefaaGreatDoor
