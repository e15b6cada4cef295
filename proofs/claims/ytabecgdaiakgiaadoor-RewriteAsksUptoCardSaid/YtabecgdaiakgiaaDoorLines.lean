/- Plain words on heads: lines, the first line, fields; what is parsed. No program in sight. No condition. -/
import Derived.Test.YtabecgdaiakgiaaDoorPieces
namespace Go.Proofs.YtabecgdaiakgiaaDoor

/-- what stands between pairs 13 10 -/
def lines (cur : Bs) : Bs → List Bs
  | [] => [cur]
  | [c] => [cur ++ [c]]
  | c :: d :: t => if c = 13 ∧ d = 10 then cur :: lines [] t else lines (cur ++ [c]) (d :: t)

theorem index_pair (c d : UInt8) (t : Bs) : ([13, 10] : Bs).isPrefixOf (c :: d :: t) = decide (c = 13 ∧ d = 10) := by
  by_cases h : c = 13 <;> by_cases h' : d = 10 <;> simp [List.isPrefixOf, h, h'] <;> first | (intro e; exact absurd e.symm h) | (intro e; exact absurd e.symm h') | skip

theorem lines_index : ∀ (s cur : Bs), lines cur s = if Lib.index s [13, 10] = -1 then [cur ++ s] else (cur ++ s.take (Lib.index s [13, 10]).toNat) :: lines [] (s.drop ((Lib.index s [13, 10]).toNat + 2))
  | [], cur => by simp [lines, Lib.index]
  | [c], cur => by simp [lines, Lib.index, List.isPrefixOf]
  | c :: d :: t, cur => by
    by_cases h : c = 13 ∧ d = 10
    · have e : Lib.index (c :: d :: t) [13, 10] = 0 := by rw [Lib.index, index_pair, if_pos (by simpa using h)]
      rw [lines, if_pos h, e]; simp
    · have hp : ([13, 10] : Bs).isPrefixOf (c :: d :: t) = false := by rw [index_pair]; simpa using h
      have e : Lib.index (c :: d :: t) [13, 10] = if Lib.index (d :: t) [13, 10] == -1 then -1 else Lib.index (d :: t) [13, 10] + 1 := by rw [Lib.index, hp]; rfl
      rw [lines, if_neg h, lines_index (d :: t) (cur ++ [c]), e]
      have hge := Lib.index_ge (d :: t) [13, 10]
      generalize Lib.index (d :: t) [13, 10] = k at hge
      by_cases hk : k = -1
      · subst hk; simp
      · have hb : ¬ (k == -1) = true := by simpa using hk
        rw [if_neg hk, if_neg hb, if_neg (by omega), show (k + 1).toNat = k.toNat + 1 by omega]
        simp [show k.toNat + 1 + 2 = k.toNat + 2 + 1 by omega]

theorem splitK_lines : ∀ (k : Nat) (s : Bs), Lib.count s [13, 10] ≤ k → Lib.splitK [13, 10] 0 k s = lines [] s
  | 0, s, h => by
    have hi : Lib.index s [13, 10] = -1 := by
      by_cases e : Lib.index s [13, 10] = -1
      · exact e
      · have hge := Lib.index_ge s [13, 10]
        obtain ⟨j, hj⟩ : ∃ j : Nat, Lib.index s [13, 10] = j := ⟨(Lib.index s [13, 10]).toNat, by omega⟩
        have := Lib.count_hit (sub := [13, 10]) (by simp) hj
        omega
    rw [lines_index, if_pos hi]; rfl
  | k + 1, s, h => by
    rw [Lib.splitK, lines_index]
    by_cases hi : Lib.index s [13, 10] = -1
    · rw [if_pos (by rw [hi]; rfl), if_pos hi]; rfl
    · rw [if_neg (by simpa using hi), if_neg hi]
      have hge := Lib.index_ge s [13, 10]
      obtain ⟨j, hj⟩ : ∃ j : Nat, Lib.index s [13, 10] = j := ⟨(Lib.index s [13, 10]).toNat, by omega⟩
      have hc := Lib.count_hit (sub := [13, 10]) (by simp) hj
      rw [hj]
      simp only [Int.toNat_natCast, Nat.add_zero, List.length_cons, List.length_nil, Nat.zero_add, List.nil_append] at hc ⊢
      rw [splitK_lines k _ (by omega)]

theorem lines_len : ∀ (s cur : Bs), (lines cur s).length ≤ s.length + 1
  | [], cur => by simp [lines]
  | [c], cur => by simp [lines]
  | c :: d :: t, cur => by
    rw [lines]
    split
    · have := lines_len t []; simp; omega
    · have := lines_len (d :: t) (cur ++ [c]); simp at this ⊢; omega
theorem lines_le : ∀ (s cur p : Bs), p ∈ lines cur s → p.length ≤ cur.length + s.length
  | [], cur, p, h => by simp [lines] at h; simp [h]
  | [c], cur, p, h => by simp [lines] at h; simp [h]
  | c :: d :: t, cur, p, h => by
    rw [lines] at h
    split at h
    · rcases List.mem_cons.1 h with rfl | h
      · omega
      · have := lines_le t [] p h; simp at this ⊢; omega
    · have := lines_le (d :: t) (cur ++ [c]) p h; simp at this ⊢; omega
theorem lines_ne : ∀ (s cur : Bs), lines cur s ≠ []
  | [], cur => by simp [lines]
  | [c], cur => by simp [lines]
  | c :: d :: t, cur => by
    rw [lines]
    split
    · simp
    · exact lines_ne (d :: t) _

/-- all behind the first of these ends at a byte: before it, behind it -/
def cutAt (c : UInt8) : Bs → Option (Bs × Bs)
  | [] => none
  | x :: l => if x = c then some ([], l) else (cutAt c l).map fun p => (x :: p.1, p.2)

theorem cutAt_none {c : UInt8} : ∀ {l : Bs}, cutAt c l = none ↔ c ∉ l
  | [] => by simp [cutAt]
  | x :: l => by
    rw [cutAt]
    by_cases h : x = c
    · simp [h]
    · have h' : ¬ c = x := fun e => h e.symm
      simp [h, h', cutAt_none (l := l)]
theorem cutAt_some {c : UInt8} : ∀ {l a b : Bs}, cutAt c l = some (a, b) ↔ l = a ++ c :: b ∧ c ∉ a
  | [], a, b => by simp [cutAt]
  | x :: l, a, b => by
    rw [cutAt]
    by_cases h : x = c
    · subst h
      cases a with
      | nil => simp
      | cons y a => simp; intro e _ h; exact absurd e h
    · rw [if_neg h, Option.map_eq_some_iff]
      constructor
      · rintro ⟨⟨p, q⟩, hp, e⟩
        cases e
        obtain ⟨e1, e2⟩ := cutAt_some.1 hp
        exact ⟨by simp [e1], by simp [e2]; exact fun e => h e.symm⟩
      · rintro ⟨e1, e2⟩
        cases a with
        | nil => simp at e1; exact absurd e1.1 h
        | cons y a =>
          simp only [List.cons_append, List.cons.injEq] at e1
          obtain ⟨rfl, e1⟩ := e1
          exact ⟨(a, b), cutAt_some.2 ⟨e1, fun e => e2 (by simp [e])⟩, rfl⟩
theorem cutAt_at {c : UInt8} {l : Bs} {k : Nat} (hk : k < l.length) (hc : l[k] = c) (hn : ∀ j (h : j < k), l[j] ≠ c) : cutAt c l = some (l.take k, l.drop (k + 1)) := by
  refine cutAt_some.2 ⟨?_, fun h => ?_⟩
  · conv => lhs; rw [← List.take_append_drop k l, List.drop_eq_getElem_cons hk, hc]
  · obtain ⟨j, hj, e⟩ := List.getElem_of_mem h
    rw [List.getElem_take] at e
    simp at hj
    exact hn j (by omega) e

def isDigit (c : UInt8) : Bool := 48 ≤ c && c ≤ 57
def isText (c : UInt8) : Bool := c == 9 || (32 ≤ c && c != 127)
def isReason (c : UInt8) : Bool := 32 ≤ c && c != 127
def isSeen (c : UInt8) : Bool := 33 ≤ c && c ≤ 126
def minorP (l : Bs) : Option Nat := if l = [72, 84, 84, 80, 47, 49, 46, 48] then some 0 else if l = [72, 84, 84, 80, 47, 49, 46, 49] then some 1 else none
def numP (l : Bs) : Nat := l.foldl (fun n c => 10 * n + (c.toNat - 48)) 0

/-- a head -/
structure Hd where
  rq : Bool := false
  m : Bs := []
  t : Bs := []
  st : Nat := 0
  rs : Bs := []
  mn : Nat := 0
  fs : List (Bs × Bs) := []
deriving DecidableEq

def firstP (rq : Bool) (l : Bs) : Option Hd :=
  match cutAt 32 l with
  | none => none
  | some (a, r) => match cutAt 32 r with
    | none => none
    | some (b, c) =>
      if rq then match minorP c with
        | none => none
        | some k => if token a = true ∧ b ≠ [] ∧ b.all isSeen = true then some { rq := true, m := a, t := b, mn := k } else none
      else match minorP a with
        | none => none
        | some k => if b.length = 3 ∧ c.all isReason = true ∧ b.all isDigit = true ∧ 100 ≤ numP b ∧ numP b ≤ 599 then some { st := numP b, rs := c, mn := k } else none

def fieldP (l : Bs) : Option (Bs × Bs) :=
  match cutAt 58 l with
  | none => none
  | some (n, v) => if token n = true ∧ (trim v).all isText = true then some (n, trim v) else none

/-- the lines of fields: without the two empty ones at the end, or the one -/
def bodyP (r : List Bs) : List Bs :=
  if 2 ≤ r.length ∧ r[r.length - 1]? = some [] ∧ r[r.length - 2]? = some [] then r.take (r.length - 2)
  else if 1 ≤ r.length ∧ r[r.length - 1]? = some [] then r.take (r.length - 1) else r

def endedP (l : Bs) : Bool := Lib.hasSuffix l [13, 10, 13, 10]

/-- what a block is read as: a head and 0, or a number of a refusal -/
def parseP (l : Bs) (rq : Bool) : Hd × Nat :=
  if 4096 < ((lines [] l).headD []).length then ({}, 221)
  else if 16384 < l.length ∨ 64 < (bodyP (lines [] l).tail).length ∨ (∃ s ∈ bodyP (lines [] l).tail, 4096 < s.length) then ({}, 222)
  else if endedP l = false then ({}, 220)
  else match firstP rq ((lines [] l).headD []) with
    | none => ({}, 220)
    | some h => if ∀ s ∈ bodyP (lines [] l).tail, (fieldP s).isSome = true then ({ h with fs := (bodyP (lines [] l).tail).filterMap fieldP }, 0) else ({}, 220)

def joined : List Bs → Bs
  | [] => []
  | [p] => p
  | p :: q :: l => p ++ 13 :: 10 :: joined (q :: l)
theorem joined_cons (p : Bs) {l : List Bs} (h : l ≠ []) : joined (p :: l) = p ++ 13 :: 10 :: joined l := by
  cases l with
  | nil => exact absurd rfl h
  | cons q l => rfl
theorem joined_lines : ∀ (s cur : Bs), joined (lines cur s) = cur ++ s
  | [], cur => by simp [lines, joined]
  | [c], cur => by simp [lines, joined]
  | c :: d :: t, cur => by
    rw [lines]
    by_cases h : c = 13 ∧ d = 10
    · rw [if_pos h, joined_cons _ (lines_ne _ _), joined_lines t [], h.1, h.2]; rfl
    · rw [if_neg h, joined_lines (d :: t) _]; simp
theorem joined_two : ∀ (x : List Bs), x ≠ [] → joined (x ++ [[], []]) = joined x ++ [13, 10, 13, 10]
  | [], h => absurd rfl h
  | [p], _ => by simp [joined]
  | p :: q :: l, _ => by
    have := joined_two (q :: l) (by simp)
    rw [List.cons_append, joined_cons p (l := (q :: l) ++ [[], []]) (by simp), this, joined_cons p (l := q :: l) (by simp)]; simp
theorem lines_append : ∀ (a b cur : Bs), lines cur (a ++ 13 :: 10 :: b) = lines cur a ++ lines [] b
  | [], b, cur => by simp [lines]
  | [c], b, cur => by simp [lines]
  | c :: d :: t, b, cur => by
    simp only [List.cons_append, lines]
    by_cases h : c = 13 ∧ d = 10
    · rw [if_pos h, if_pos h, lines_append t b []]; rfl
    · rw [if_neg h, if_neg h]
      exact lines_append (d :: t) b (cur ++ [c])

/-- two empty ones at the end -/
def two (r : List Bs) : Prop := 2 ≤ r.length ∧ r[r.length - 1]? = some [] ∧ r[r.length - 2]? = some []
theorem two_iff (r : List Bs) : two r ↔ ∃ x, r = x ++ [[], []] := by
  constructor
  · rintro ⟨h2, h3, h4⟩
    refine ⟨r.take (r.length - 2), ?_⟩
    apply List.ext_getElem?
    intro i
    rw [List.getElem?_append, List.getElem?_take, List.length_take, Nat.min_eq_left (by omega)]
    by_cases hi : i < r.length - 2
    · simp [hi]
    · rw [if_neg hi]
      by_cases e1 : i = r.length - 2
      · subst e1; rw [h4]; simp
      · by_cases e2 : i = r.length - 1
        · subst e2; rw [h3, show r.length - 1 - (r.length - 2) = 1 by omega]; rfl
        · rw [List.getElem?_eq_none (by omega), List.getElem?_eq_none (by simp; omega)]
  · rintro ⟨x, rfl⟩
    refine ⟨by simp, ?_, ?_⟩
    · rw [List.getElem?_append_right (by simp)]; simp
    · rw [List.getElem?_append_right (by simp)]; simp
theorem ended_iff (l : Bs) : endedP l = true ↔ two (lines [] l).tail := by
  have hj := joined_lines l []
  rw [List.nil_append] at hj
  rw [endedP, Lib.hasSuffix, List.isSuffixOf_iff_suffix, two_iff]
  constructor
  · rintro ⟨a, rfl⟩
    have e : lines [] (a ++ [13, 10, 13, 10]) = lines [] a ++ [[], []] := by
      have := lines_append a [13, 10] []
      rw [this, show lines [] [13, 10] = [[], []] by rfl]
    rw [e]
    cases h : lines [] a with
    | nil => exact absurd h (lines_ne _ _)
    | cons p x => exact ⟨x, rfl⟩
  · rintro ⟨x, hx⟩
    cases h : lines [] l with
    | nil => exact absurd h (lines_ne _ _)
    | cons p y =>
      rw [h, List.tail_cons] at hx
      subst hx
      rw [h] at hj
      rw [← hj, ← List.cons_append, joined_two _ (by simp)]
      exact List.suffix_append _ _
end Go.Proofs.YtabecgdaiakgiaaDoor
