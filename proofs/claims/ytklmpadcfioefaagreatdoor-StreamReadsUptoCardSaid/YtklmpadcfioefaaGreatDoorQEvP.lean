/- Plain words on what the document tells of a stream: the events that are new, what stands between two messages, what an end says (chapter 24). No program in sight. No condition. -/
import Derived.Test.YtklmpadcfioefaaGreatDoorMX3
import Derived.Test.YtklmpadcfioefaaGreatDoorSRest
namespace Go.Proofs.YtklmpadcfioefaaGreatDoor
namespace Strm
def evHd (o : Option RM) (m : RM) : List E1 := match o with | none => [.head m.hd m.fr (if m.fr = 1 then m.ln else 0)] | some _ => []
def evHad (o : Option RM) : Nat := match o with | none => 0 | some w => w.body.length
/-- the events of a message, of which o was told -/
def evOne (o : Option RM) (m : RM) : List E1 :=
  evHd o m ++ (data (m.body.drop (evHad o)) ++ (if m.wh = true ∧ o.map (·.wh) ≠ some true then [.fin] else []))
def evP : List RM → List RM → List E1
  | _, [] => []
  | [], m :: l => evOne none m ++ evP [] l
  | w :: k, m :: l => evOne (some w) m ++ evP k l
theorem evP_nil (k : List RM) : evP k [] = [] := by cases k <;> rfl
theorem evP_step (k l : List RM) (i : Nat) (m : RM) (h : l[i]? = some m) : evP (k.drop i) (l.drop i) = evOne k[i]? m ++ evP (k.drop (i + 1)) (l.drop (i + 1)) := by
  obtain ⟨hi, hm⟩ := List.getElem?_eq_some_iff.1 h
  rw [List.drop_eq_getElem_cons hi, hm]
  by_cases hk : i < k.length
  · rw [List.drop_eq_getElem_cons hk, List.getElem?_eq_getElem hk]; rfl
  · rw [List.drop_of_length_le (l := k) (i := i) (by omega), List.drop_of_length_le (l := k) (i := i + 1) (by omega), List.getElem?_eq_none (by omega)]; rfl
theorem evP_skip : ∀ (pre k l : List RM), (∀ m ∈ pre, m.wh = true) → evP (pre ++ k) (pre ++ l) = evP k l
  | [], _, _, _ => rfl
  | m :: pre, k, l, h => by
    have e : evOne (some m) m = [] := by
      unfold evOne evHd evHad
      simp [h m List.mem_cons_self, data]
    show evOne (some m) m ++ evP (pre ++ k) (pre ++ l) = _
    rw [e, List.nil_append]
    exact evP_skip pre k l (fun x hx => h x (List.mem_cons_of_mem _ hx))
def LnOk (m : RM) : Prop := m.fr ≠ 1 → m.ln = 0
theorem evOne_new {m : RM} (h : LnOk m) : evOne none m = evM m := by
  unfold evOne evM evHd evHad
  have e : (if m.fr = 1 then m.ln else 0) = m.ln := by
    split
    · rfl
    · exact (h (by assumption)).symm
  rw [e]
  cases m.wh <;> simp
theorem evP_new : ∀ l : List RM, (∀ m ∈ l, LnOk m) → evP [] l = l.flatMap evM
  | [], _ => rfl
  | m :: l, h => by
    show evOne none m ++ evP [] l = _
    rw [evOne_new (h m List.mem_cons_self), evP_new l (fun x hx => h x (List.mem_cons_of_mem _ hx)), List.flatMap_cons]
theorem evP_R {pre l : List RM} {o : Option RM} {ph : Nat} (hp : ∀ m ∈ pre, m.wh = true) (ho : ∀ m, o = some m → m.wh = false) (hs : Shp1 o ph l) (hl : ∀ m ∈ l, LnOk m) : evP (pre ++ o.toList) (pre ++ l) = evR o l := by
  rw [evP_skip pre _ _ hp]
  cases o with
  | none => exact evP_new l hl
  | some m =>
    obtain ⟨b, w, rest, e, _⟩ := hs m rfl
    subst e
    show evOne (some m) { m with body := m.body ++ b, wh := w } ++ evP [] rest = _
    rw [evP_new rest (fun x hx => hl x (List.mem_cons_of_mem _ hx))]
    unfold evR evOne evHd evHad
    have hw := ho m rfl
    simp [hw]
theorem framing_ln (rq hd : Bool) (st mn : Int) (fs : List Fl) (h : (framingP rq hd st mn fs).1 ≠ 1) : (framingP rq hd st mn fs).2.1 = 0 := by
  obtain ⟨F, hF⟩ : ∃ F, F = framingP rq hd st mn fs := ⟨_, rfl⟩
  rw [← hF] at h ⊢
  unfold framingP at hF
  split at hF
  · rw [hF]
  · split at hF
    · rw [hF]
    · split at hF
      · split at hF <;> rw [hF]
      · split at hF
        · split at hF
          · rw [hF]
          · rw [hF] at h; exact absurd rfl h
        · split at hF <;> rw [hF]
theorem contB_ln {K : Bs → RR} {m : RM} (hm : LnOk m) (hK : ∀ q, ∀ x ∈ (K q).1, LnOk x) (ph left : Nat) (bd : Chunk.St) (p : Bs) : ∀ x ∈ (contB K m ph left bd p).1, LnOk x := by
  have one : ∀ (y : RM), LnOk y → ∀ x ∈ [y], LnOk x := fun y hy x hx => by rw [List.mem_singleton] at hx; rw [hx]; exact hy
  have con : ∀ (y : RM) (q : Bs), LnOk y → ∀ x ∈ (RR.cons y (K q)).1, LnOk x := fun y q hy x hx => by
    rcases List.mem_cons.1 hx with e | e
    · rw [e]; exact hy
    · exact hK q x e
  unfold contB
  split
  · exact con _ _ hm
  · split
    · dsimp only
      split
      · exact con _ _ hm
      · exact one _ hm
    · split
      · dsimp only
        split
        · exact con _ _ hm
        · exact one _ hm
      · exact one _ hm
theorem readL_ln (rq : Bool) : ∀ (f : Nat) (b : Bs) (ms : List ByteArray), ∀ x ∈ (readL rq f b ms).1, LnOk x
  | 0, _, _, _, h => by cases h
  | f + 1, b, ms, x, h => by
    unfold readL at h
    split at h
    · cases h
    · split at h
      · split at h <;> cases h
      · dsimp only at h
        split at h
        · cases h
        · split at h
          · cases h
          · exact contB_ln (fun hq => framing_ln _ _ _ _ _ hq) (fun q y hy => readL_ln rq f q _ y hy) _ _ _ _ x h
theorem readF_ln (rq : Bool) (b : Bs) (ms : List ByteArray) : ∀ x ∈ (readF rq b ms).1, LnOk x := readL_ln rq _ b ms
/-- what a reader hands out is what the document tells -/
theorem RelR.evs {rq : Bool} {All : Bs} {M : List ByteArray} {s u : S} {pre : List RM} {o : Option RM} (h : RelR rq All M s pre o) {p : Bs} {es : List E1} {r : Nat} (k : Feeds s p u es r) :
    es = evP (readF rq All M).1 (readF rq (All ++ p) M).1 ∧ r = (readF rq (All ++ p) M).2.1 := by
  obtain ⟨l, w, e1, e2, e3, _⟩ := h.feed k
  have hl := readF_ln rq (All ++ p) M
  rw [h.read, e1]
  rw [e1] at hl
  refine ⟨?_, rfl⟩
  rw [e2]
  refine (evP_R h.wh (fun m hm => ?_) e3 (fun m hm => hl m (List.mem_append_right _ hm))).symm
  by_cases p0 : s.ph = 0
  · rw [h.opn.1 p0] at hm; cases hm
  · obtain ⟨m', e, hw, _⟩ := h.opn.2 p0
    rw [hm] at e
    injection e with e
    rw [e]; exact hw
/-! ### between two messages -/
def Win2 (s : S) : Prop := s.win = true → ¬ (s.ph = 0 ∧ s.blk = [])
theorem headS_ph {t : S} {b : Bs} (h : (headS t b).2.2 = 0) : (headS t b).2.1.ph ≠ 0 := by
  unfold headS at h ⊢
  split
  · rename_i h1; rw [if_pos h1] at h; exact absurd h h1
  · rename_i h1
    rw [if_neg h1] at h
    dsimp only at h ⊢
    split
    · rename_i h2; rw [if_pos h2] at h; exact absurd h h2
    · dsimp only; omega
theorem call_win {s : S} {T : Nat} (hi : Inv s T) (p : Bs) (hgo : ¬ (p = [] ∧ s.due = false)) (h0 : (callS s p).2.2.2 = 0) : Win2 (callS s p).2.2.1 := by
  intro hw hc
  by_cases p0 : s.ph = 0
  · have hd : s.due = false := by
      cases hd : s.due
      · rfl
      · rcases hi.due hd with e | e
        · omega
        · omega
    have hp : p ≠ [] := fun e => hgo ⟨e, hd⟩
    have hlb := (hi.blk p0).2
    unfold callS at h0 hc
    rw [if_pos p0] at h0 hc
    dsimp only at h0 hc
    cases he : headEnd (s.blk ++ p.take (16384 - s.blk.length)) with
    | none =>
      rw [he] at h0 hc
      dsimp only at h0 hc
      split at hc
      · have h1 := List.append_eq_nil_iff.1 hc.2
        rw [h1.1, List.length_nil, Nat.sub_zero] at h1
        cases p with
        | nil => exact hp rfl
        | cons a r => exact absurd h1.2 (by simp)
      · rename_i hx
        rw [if_neg hx] at h0
        exact absurd h0 (refuse_pos _)
    | some n =>
      rw [he] at h0 hc
      dsimp only at h0 hc
      exact headS_ph h0 hc.1
  · unfold callS at hw hc
    rw [if_neg p0] at hw hc
    split at hw
    · cases hw
    · rename_i p1
      rw [if_neg p1] at hc
      split at hc
      · dsimp only at hc
        split at hc
        · exact absurd hc.1 (show ¬ ((1 : Nat) = 0) by decide)
        · exact p0 hc.1
      · split at hc
        · dsimp only at hc
          split at hc
          · exact absurd hc.1 (show ¬ ((1 : Nat) = 0) by decide)
          · exact p0 hc.1
        · exact p0 hc.1
theorem feeds_win {s u : S} {p : Bs} {es : List E1} {r : Nat} (h : Feeds s p u es r) : ∀ {T : Nat}, Inv s T → Win2 s → r = 0 → Win2 u := by
  induction h with
  | stop s hd => intro T hi hw _; exact hw
  | err s p hgo h0 => intro T hi hw hr; exact absurd hr h0
  | go s p u es r hgo h0 _ ih => intro T hi hw hr; exact ih (call_inv hi h0).1 (call_win hi p hgo h0) hr
def lastW (l : List RM) : Bool := match l.getLast? with | none => true | some m => m.wh
def betQ (r : RR) : Bool := !r.2.2 && lastW r.1
def endQ (r : RR) : List E1 × Nat := if r.2.2 = true then ([], 42) else if lastW r.1 = true then ([], 0) else if (match r.1.getLast? with | none => 0 | some m => m.fr) = 3 then ([.fin], 0) else ([], 42)
theorem lastW_none {pre : List RM} (h : ∀ m ∈ pre, m.wh = true) : lastW pre = true := by
  unfold lastW
  cases e : pre.getLast? with
  | none => rfl
  | some m => exact h m (List.mem_of_getLast? e)
theorem RelR.bet {rq : Bool} {All : Bs} {M : List ByteArray} {s : S} {pre : List RM} {o : Option RM} (h : RelR rq All M s pre o) (hw : Win2 s) : betQ (readF rq All M) = !s.win ∧ endQ (readF rq All M) = endsP s := by
  obtain ⟨T, hi⟩ := h.inv
  rw [h.read]
  unfold betQ endQ endsP
  dsimp only
  by_cases p0 : s.ph = 0
  · rw [h.opn.1 p0]
    have e : lastW (pre ++ (none : Option RM).toList) = true := by rw [Option.toList_none, List.append_nil]; exact lastW_none h.wh
    rw [e]
    by_cases hb : s.blk = []
    · have hwf : s.win = false := by
        cases hx : s.win
        · rfl
        · exact absurd ⟨p0, hb⟩ (hw hx)
      simp [hb, hwf]
    · have hwt : s.win = true := by
        cases hx : s.win
        · exact absurd (hi.win hx).2 hb
        · rfl
      have hf : s.fr ≠ 3 := fun e => by have := hi.fr.1 e; omega
      simp [p0, hb, hwt, hf]
  · obtain ⟨m, e, hm, hf⟩ := h.opn.2 p0
    rw [e]
    have el : (pre ++ (some m).toList).getLast? = some m := by simp
    have ew : lastW (pre ++ (some m).toList) = false := by unfold lastW; rw [el]; exact hm
    rw [ew, el]
    have hwt : s.win = true := by
      cases hx : s.win
      · exact absurd (hi.win hx).1 p0
      · rfl
    simp [p0, hwt, hf]
end Strm
end Go.Proofs.YtklmpadcfioefaaGreatDoor
