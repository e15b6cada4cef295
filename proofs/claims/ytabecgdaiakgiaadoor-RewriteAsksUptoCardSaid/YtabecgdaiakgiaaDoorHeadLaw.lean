/- Plain laws on writing heads: what is written is read back; what is read is written in one form. No program in sight. No condition. -/
import Derived.Test.YtabecgdaiakgiaaDoorSmugP
import Derived.Lib.ItoaNum
namespace Go.Proofs.YtabecgdaiakgiaaDoor

/-- a head of whatever numbers -/
structure HI where
  rq : Bool := false
  m : Bs := []
  t : Bs := []
  st : Int := 0
  rs : Bs := []
  mn : Int := 0
  fs : List (Bs × Bs) := []
deriving DecidableEq
def Hd.up (h : Hd) : HI := { rq := h.rq, m := h.m, t := h.t, st := h.st, rs := h.rs, mn := h.mn, fs := h.fs }
def ver : Bs := [72, 84, 84, 80, 47, 49, 46]
def lineT (h : HI) : Bs := if h.rq = true then h.m ++ 32 :: (h.t ++ 32 :: (ver ++ Lib.itoa h.mn)) else ver ++ (Lib.itoa h.mn ++ 32 :: (Lib.itoa h.st ++ 32 :: h.rs))
def fieldT (f : Bs × Bs) : Bs := f.1 ++ 58 :: 32 :: f.2
def fieldsT (fs : List (Bs × Bs)) : Bs := fs.flatMap fun f => fieldT f ++ [13, 10]
def textP (h : HI) : Bs := lineT h ++ 13 :: 10 :: (fieldsT h.fs ++ [13, 10])
def writeP (h : HI) : Option Bs × Nat :=
  if (parseP (textP h) h.rq).2 ≠ 0 then (none, (parseP (textP h) h.rq).2) else if (parseP (textP h) h.rq).1.up = h then (some (textP h), 0) else (none, 220)

theorem Hd.up_inj {a b : Hd} (h : a.up = b.up) : a = b := by
  cases a; cases b
  simp only [Hd.up, HI.mk.injEq] at h
  obtain ⟨rfl, rfl, rfl, h1, rfl, h2, rfl⟩ := h
  have e1 := Int.ofNat.inj h1
  have e2 := Int.ofNat.inj h2
  subst e1 e2
  rfl

/-- what parses has a first line that does, and is not long -/
theorem parse_yes {l : Bs} {rq : Bool} (h : (parseP l rq).2 = 0) : l.length ≤ 16384 ∧ (firstP rq ((lines [] l).headD [])).isSome = true := by
  unfold parseP at h
  split at h
  · cases h
  · split at h
    · cases h
    · rename_i c1
      split at h
      · cases h
      · refine ⟨by omega, ?_⟩
        cases hf : firstP rq ((lines [] l).headD []) with
        | none => rw [hf] at h; cases h
        | some g => rfl
theorem minor_shape {a : Bs} {k : Nat} (h : minorP a = some k) : (k = 0 ∧ a = ver ++ [48]) ∨ (k = 1 ∧ a = ver ++ [49]) := by
  unfold minorP at h
  split at h
  · rename_i e; injection h with h; exact .inl ⟨h.symm, e⟩
  · split at h
    · rename_i e; injection h with h; exact .inr ⟨h.symm, e⟩
    · cases h
theorem minor_no_token {a : Bs} {k : Nat} (h : minorP a = some k) : token a = false := by
  rcases minor_shape h with ⟨_, rfl⟩ | ⟨_, rfl⟩ <;> decide
theorem first_both {l : Bs} (h1 : (firstP true l).isSome = true) (h2 : (firstP false l).isSome = true) : False := by
  unfold firstP at h1 h2
  cases c1 : cutAt 32 l with
  | none => rw [c1] at h1; cases h1
  | some p =>
    obtain ⟨a, r⟩ := p
    rw [c1] at h1 h2
    simp only at h1 h2
    cases c2 : cutAt 32 r with
    | none => rw [c2] at h1; cases h1
    | some p =>
      obtain ⟨b, c⟩ := p
      rw [c2] at h1 h2
      simp only [if_true, Bool.false_eq_true, if_false] at h1 h2
      cases m1 : minorP c with
      | none => rw [m1] at h1; cases h1
      | some k =>
        rw [m1] at h1
        simp only at h1
        cases m2 : minorP a with
        | none => rw [m2] at h2; cases h2
        | some k2 =>
          have := minor_no_token m2
          rw [this] at h1
          simp at h1

/-- HeadBack -/
theorem write_back {h : HI} {t : Bs} (hw : writeP h = (some t, 0)) : t = textP h ∧ (∃ g, parseP t h.rq = (g, 0) ∧ g.up = h) ∧ (parseP t (!h.rq)).2 ≠ 0 ∧ t.length ≤ 16384 := by
  unfold writeP at hw
  split at hw
  · cases hw
  · rename_i c0
    split at hw
    · rename_i c1
      injection hw with hw _
      injection hw with hw
      subst hw
      have z : (parseP (textP h) h.rq).2 = 0 := by omega
      obtain ⟨z1, z2⟩ := parse_yes z
      refine ⟨rfl, ⟨_, Prod.ext rfl z, c1⟩, fun z3 => ?_, z1⟩
      obtain ⟨_, z4⟩ := parse_yes z3
      cases hr : h.rq
      · rw [hr] at z2 z4; exact first_both z4 z2
      · rw [hr] at z2 z4; exact first_both z2 z4
    · cases hw
theorem write_err {h : HI} (hw : (writeP h).2 ≠ 0) : (writeP h).1 = none := by
  unfold writeP at hw ⊢
  split
  · rfl
  · rename_i c0
    rw [if_neg c0] at hw
    split
    · rename_i c1; rw [if_pos c1] at hw; exact absurd rfl hw
    · rfl
theorem write_ok {h : HI} (hw : (writeP h).2 = 0) : writeP h = (some (textP h), 0) := by
  unfold writeP at hw ⊢
  split
  · rename_i c0; rw [if_pos c0] at hw; exact absurd hw c0
  · rename_i c0
    rw [if_neg c0] at hw
    split
    · rfl
    · rename_i c1; rw [if_neg c1] at hw; cases hw

/-! ### what is read is written in one form -/
theorem good_13 {l : Bs} (h : allGood l = true) : (13 : UInt8) ∉ l := fun hm => by
  unfold allGood at h
  have := List.all_eq_true.1 h _ hm
  simp [isGood] at this
theorem lines_none : ∀ (l cur : Bs), (13 : UInt8) ∉ l → lines cur l = [cur ++ l]
  | [], cur, _ => by simp [lines]
  | [c], cur, _ => by simp [lines]
  | c :: d :: t, cur, h => by
    have h1 : c ≠ 13 := fun e => h (by simp [e])
    rw [lines, if_neg (fun x => h1 x.1), lines_none (d :: t) _ (fun x => h (List.mem_cons_of_mem _ x))]
    simp
theorem lines_fields : ∀ (fs : List (Bs × Bs)), (∀ f ∈ fs, (13 : UInt8) ∉ fieldT f) → lines [] (fieldsT fs ++ [13, 10]) = fs.map fieldT ++ [[], []]
  | [], _ => rfl
  | f :: fs, h => by
    have e : fieldsT (f :: fs) ++ [13, 10] = fieldT f ++ 13 :: 10 :: (fieldsT fs ++ [13, 10]) := by simp [fieldsT]
    rw [e, lines_append, lines_none _ _ (h f (by simp)), lines_fields fs (fun g hg => h g (by simp [hg]))]
    rfl
theorem lines_text (p : Bs) (fs : List (Bs × Bs)) (hp : (13 : UInt8) ∉ p) (hf : ∀ f ∈ fs, (13 : UInt8) ∉ fieldT f) : lines [] (p ++ 13 :: 10 :: (fieldsT fs ++ [13, 10])) = p :: (fs.map fieldT ++ [[], []]) := by
  rw [lines_append, lines_none _ _ hp, lines_fields fs hf]; rfl

theorem itoa_nat (k : Nat) : Lib.itoa (k : Int) = Lib.decDigits k := by
  unfold Lib.itoa; rw [if_neg (by omega)]; simp
theorem ofNat_toNat (c : UInt8) (n : Nat) (h : n = c.toNat) : UInt8.ofNat n = c := by subst h; simp
theorem digits_three {b : Bs} (h3 : b.length = 3) (hd : b.all isDigit = true) (h100 : 100 ≤ numP b) : Lib.itoa ((numP b : Nat) : Int) = b := by
  match b, h3 with
  | [x, y, z], _ =>
    simp only [List.all_cons, List.all_nil, Bool.and_true, Bool.and_eq_true, isDigit, UInt8.le_iff_toNat_le, decide_eq_true_eq] at hd
    have e1 : (48 : UInt8).toNat = 48 := rfl
    have e2 : (57 : UInt8).toNat = 57 := rfl
    have hn : numP [x, y, z] = 10 * (10 * (10 * 0 + (x.toNat - 48)) + (y.toNat - 48)) + (z.toNat - 48) := rfl
    rw [e1, e2] at hd
    rw [itoa_nat]
    generalize numP [x, y, z] = n at *
    rw [Lib.decDigits, dif_neg (by omega), Lib.decDigits_two (by omega) (by omega), ofNat_toNat x _ (by omega), ofNat_toNat y _ (by omega), ofNat_toNat z _ (by omega)]
    rfl

theorem first_line {rq : Bool} {p : Bs} {h : Hd} (hf : firstP rq p = some h) : lineT h.up = p ∧ h.rq = rq ∧ (13 : UInt8) ∉ p := by
  unfold firstP at hf
  cases h1 : cutAt 32 p with
  | none => rw [h1] at hf; cases hf
  | some q =>
    obtain ⟨a, r⟩ := q
    obtain ⟨e1, _⟩ := cutAt_some.1 h1
    rw [h1] at hf
    simp only at hf
    cases h2 : cutAt 32 r with
    | none => rw [h2] at hf; cases hf
    | some q =>
      obtain ⟨b, c⟩ := q
      obtain ⟨e2, _⟩ := cutAt_some.1 h2
      rw [h2] at hf
      simp only at hf
      have e3 : p = a ++ 32 :: (b ++ 32 :: c) := by rw [e1, e2]
      cases rq with
      | true =>
        simp only [if_true] at hf
        cases h3 : minorP c with
        | none => rw [h3] at hf; cases hf
        | some k =>
          rw [h3] at hf
          simp only at hf
          by_cases h4 : token a = true ∧ b ≠ [] ∧ b.all isSeen = true
          · rw [if_pos h4] at hf
            cases hf
            have hc : c = ver ++ Lib.itoa ((k : Nat) : Int) ∧ (13 : UInt8) ∉ c := by
              rw [itoa_nat]
              rcases minor_shape h3 with ⟨rfl, rfl⟩ | ⟨rfl, rfl⟩
              · exact ⟨by rw [Lib.decDigits_one (by omega)]; rfl, by decide⟩
              · exact ⟨by rw [Lib.decDigits_one (by omega)]; rfl, by decide⟩
            refine ⟨?_, rfl, ?_⟩
            · rw [e3]
              unfold lineT Hd.up
              simp only [if_true]
              rw [← hc.1]
            · rw [e3]
              have g1 := good_13 (token_good h4.1)
              have g2 := good_13 (good_of isSeen h4.2.2 seen_good)
              simp [g1, g2, hc.2]
          · rw [if_neg h4] at hf; cases hf
      | false =>
        simp only [Bool.false_eq_true, if_false] at hf
        cases h3 : minorP a with
        | none => rw [h3] at hf; cases hf
        | some k =>
          rw [h3] at hf
          simp only at hf
          by_cases h4 : b.length = 3 ∧ c.all isReason = true ∧ b.all isDigit = true ∧ 100 ≤ numP b ∧ numP b ≤ 599
          · rw [if_pos h4] at hf
            cases hf
            have hc : a = ver ++ Lib.itoa ((k : Nat) : Int) ∧ (13 : UInt8) ∉ a := by
              rw [itoa_nat]
              rcases minor_shape h3 with ⟨rfl, rfl⟩ | ⟨rfl, rfl⟩
              · exact ⟨by rw [Lib.decDigits_one (by omega)]; rfl, by decide⟩
              · exact ⟨by rw [Lib.decDigits_one (by omega)]; rfl, by decide⟩
            refine ⟨?_, rfl, ?_⟩
            · rw [e3]
              unfold lineT Hd.up
              simp only [Bool.false_eq_true, if_false]
              rw [digits_three h4.1 h4.2.2.1 h4.2.2.2.1, ← List.append_assoc, ← hc.1]
            · rw [e3]
              have g1 := good_13 (good_of isReason h4.2.1 reason_good)
              have g2 : (13 : UInt8) ∉ b := fun hm => by
                have := List.all_eq_true.1 h4.2.2.1 _ hm
                simp [isDigit] at this
              simp [g1, g2, hc.2]
          · rw [if_neg h4] at hf; cases hf

theorem trimL_idem : ∀ l : Bs, trimL (trimL l) = trimL l
  | [] => rfl
  | c :: t => by
    cases h : isBlank c with
    | true => rw [trimL_step c t h, trimL_idem t]
    | false => rw [trimL_stop c t h, trimL_stop c t h]
theorem trimR_idem (l : Bs) : trimR (trimR l) = trimR l := by
  have h := trimL_idem l.reverse
  unfold trimL at h
  unfold trimR
  rw [List.reverse_reverse, h]
theorem trim_idem (l : Bs) : trim (trim l) = trim l := by
  rw [trim_eq (trim l), trim_eq l, trim_comm, trimR_idem, trimL_idem]
theorem trim_blank (v : Bs) : trim (32 :: v) = trim v := by
  rw [trim_eq, ← trim_comm, trimL_step 32 v rfl, trim_comm, ← trim_eq]
theorem field_back {s n v : Bs} (hf : fieldP s = some (n, v)) : fieldP (fieldT (n, v)) = some (n, v) ∧ (13 : UInt8) ∉ fieldT (n, v) := by
  obtain ⟨g1, g2, g3, _, _⟩ := field_good hf
  unfold fieldP at hf
  cases h1 : cutAt 58 s with
  | none => rw [h1] at hf; cases hf
  | some p =>
    obtain ⟨a, b⟩ := p
    rw [h1] at hf
    simp only at hf
    by_cases h2 : token a = true ∧ (trim b).all isText = true
    · rw [if_pos h2] at hf
      injection hf with hf
      injection hf with e1 e2
      subst e1 e2
      have h58 : (58 : UInt8) ∉ a := fun hm => by
        unfold token at g1
        rw [Bool.and_eq_true] at g1
        have := List.all_eq_true.1 g1.2 _ hm
        revert this
        decide
      have hc : cutAt 58 (fieldT (a, trim b)) = some (a, 32 :: trim b) := cutAt_some.2 ⟨rfl, h58⟩
      refine ⟨?_, ?_⟩
      · unfold fieldP
        rw [hc]
        simp only
        rw [trim_blank, trim_idem, if_pos h2]
      · have q1 := good_13 g2
        have q2 := good_13 g3
        simp [fieldT, q1, q2]
    · rw [if_neg h2] at hf; cases hf

theorem parse_inv {l : Bs} {rq : Bool} {h : Hd} (hp : parseP l rq = (h, 0)) :
    ∃ h0 : Hd, firstP rq ((lines [] l).headD []) = some h0 ∧ h = { h0 with fs := h.fs } ∧ (∀ f ∈ h.fs, ∃ s, fieldP s = some f) ∧ ((lines [] l).headD []).length ≤ 4096 := by
  unfold parseP at hp
  split at hp
  · cases hp
  · rename_i c0
    split at hp
    · cases hp
    · split at hp
      · cases hp
      · cases h1 : firstP rq ((lines [] l).headD []) with
        | none => rw [h1] at hp; cases hp
        | some g =>
          rw [h1] at hp
          simp only at hp
          split at hp
          · cases hp
            exact ⟨g, rfl, rfl, fun f hf => by obtain ⟨s, _, e⟩ := List.mem_filterMap.1 hf; exact ⟨s, e⟩, by omega⟩
          · cases hp
theorem body_two (x : List Bs) : bodyP (x ++ [[], []]) = x := by
  have h : two (x ++ [[], []]) := (two_iff _).2 ⟨x, rfl⟩
  unfold bodyP
  unfold two at h
  rw [if_pos h]
  simp
theorem filter_fields : ∀ (fs : List (Bs × Bs)), (∀ f ∈ fs, fieldP (fieldT f) = some f) → (fs.map fieldT).filterMap fieldP = fs
  | [], _ => rfl
  | f :: fs, h => by
    rw [List.map_cons, List.filterMap_cons, h f (by simp)]
    simp only
    rw [filter_fields fs (fun g hg => h g (by simp [hg]))]
theorem one_form {l : Bs} {rq : Bool} {h : Hd} (hp : parseP l rq = (h, 0)) : h.rq = rq ∧ (parseP (textP h.up) rq = (h, 0) ∨ parseP (textP h.up) rq = ({}, 222)) := by
  obtain ⟨h0, hf, hh, hfs, hlen⟩ := parse_inv hp
  obtain ⟨k1, k2, k3⟩ := first_line hf
  have e1 : lineT h.up = lineT h0.up := by rw [hh]; rfl
  have hb : ∀ f ∈ h.fs, fieldP (fieldT f) = some f ∧ (13 : UInt8) ∉ fieldT f := fun f hf => by
    obtain ⟨s, hs⟩ := hfs f hf
    obtain ⟨n, v⟩ := f
    exact field_back hs
  have hl : lines [] (textP h.up) = (lines [] l).headD [] :: (h.fs.map fieldT ++ [[], []]) := by
    unfold textP
    rw [e1, k1]
    exact lines_text _ _ k3 fun f hf => (hb f hf).2
  have hrq : h.rq = rq := by rw [hh]; exact k2
  refine ⟨hrq, ?_⟩
  have hen : endedP (textP h.up) = true := (ended_iff _).2 (by rw [hl]; exact (two_iff _).2 ⟨_, rfl⟩)
  unfold parseP
  rw [hl, List.headD_cons, List.tail_cons, body_two, if_neg (by omega)]
  split
  · exact .inr rfl
  · refine .inl ?_
    rw [hen, if_neg (by simp), hf]
    simp only
    rw [if_pos (fun s hs => by
      obtain ⟨f, hf, rfl⟩ := List.mem_map.1 hs
      rw [(hb f hf).1]; rfl), filter_fields _ (fun f hf => (hb f hf).1), ← hh]

/-- HeadOne -/
theorem write_one {l : Bs} {rq : Bool} {h : Hd} (hp : parseP l rq = (h, 0)) : h.rq = rq ∧ ((writeP h.up).2 = 222 ∨ (writeP h.up = (some (textP h.up), 0) ∧ parseP (textP h.up) rq = (h, 0))) := by
  obtain ⟨k1, k2⟩ := one_form hp
  refine ⟨k1, ?_⟩
  have e : h.up.rq = rq := k1
  rcases k2 with k2 | k2
  · refine .inr ⟨?_, k2⟩
    unfold writeP
    rw [e, k2]
    simp
  · refine .inl ?_
    unfold writeP
    rw [e, k2]
    simp
end Go.Proofs.YtabecgdaiakgiaaDoor
