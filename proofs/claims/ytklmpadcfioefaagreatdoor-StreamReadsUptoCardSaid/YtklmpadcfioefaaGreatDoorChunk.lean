/- Plain words on chunked bodies: the reader as an automaton, byte by byte, and the document's reading: they say the same. No program in sight. No condition. -/
import Derived.Test.YtklmpadcfioefaaGreatDoorMA
namespace Go.Proofs.YtklmpadcfioefaaGreatDoor
namespace Chunk

def hexI (c : UInt8) : Int :=
  if 48 ≤ c && c ≤ 57 then (c.toNat : Int) - 48
  else if 97 ≤ c && c ≤ 102 then (c.toNat : Int) - 97 + 10
  else if 65 ≤ c && c ≤ 70 then (c.toNat : Int) - 65 + 10
  else -1
def plain (c : UInt8) : Bool := c == 9 || (32 ≤ c && c != 127)
def most : Nat := 2147483647

structure St where
  at_ : Nat := 0
  left : Nat := 0
  line : Bs := []
  long : Nat := 0
  digits : Nat := 0
  read : Nat := 0
  total : Nat := 0
  trailers : List (Bs × Bs) := []

def colonCut : Bs → Bs × Bs
  | [] => ([], [])
  | c :: l => if c = 58 then ([], l) else let (a, b) := colonCut l; (c :: a, b)

def sized (r : St) (c : UInt8) : St × Bool :=
  let d := hexI c
  if 0 ≤ d ∧ r.digits < 8 ∧ r.left * 16 + d.toNat ≤ most then ({ r with left := r.left * 16 + d.toNat, digits := r.digits + 1, long := r.long + 1 }, true)
  else if 0 ≤ d ∨ r.digits = 0 then (r, false)
  else if c = 59 then ({ r with at_ := 1, long := r.long + 1 }, true)
  else ({ r with at_ := 2 }, c == 13)

def lined2 (r : St) (c : UInt8) : St × Bool :=
  if r.read = 16384 ∨ (c ≠ 13 ∧ r.line.length = 4096) then (r, false)
  else
    let r := { r with read := r.read + 1 }
    if c = 13 then ({ r with at_ := 9 }, r.at_ == 8)
    else if r.at_ = 7 ∧ c = 58 then
      if r.line = [] then ({ r with at_ := 8 }, false) else ({ r with at_ := 8, line := r.line ++ [c] }, true)
    else if (r.at_ = 7 ∧ isTok c = false) ∨ (r.at_ = 8 ∧ plain c = false) then (r, false)
    else ({ r with line := r.line ++ [c] }, true)

def lined (r : St) (c : UInt8) : St × Bool :=
  if r.at_ = 6 then
    if c = 13 then ({ r with at_ := 10 }, true)
    else if r.trailers.length = 64 then (r, false)
    else lined2 { r with at_ := 7, line := [] } c
  else lined2 r c

def ended (r : St) : St :=
  { r with trailers := r.trailers ++ [((colonCut r.line).1, trim (colonCut r.line).2)], line := [] }

def step (r : St) (c : UInt8) : St × Bool :=
  if r.at_ = 0 then sized r c
  else if r.at_ = 1 then
    if c = 13 then ({ r with at_ := 2 }, true) else ({ r with long := r.long + 1 }, plain c && decide (r.long + 1 ≤ 4096))
  else if r.at_ = 6 ∨ r.at_ = 7 ∨ r.at_ = 8 then lined r c
  else if r.at_ = 4 then ({ r with at_ := 5 }, c == 13)
  else if r.at_ = 2 then ({ r with at_ := if r.left = 0 then 6 else 3, digits := 0, long := 0 }, c == 10)
  else if r.at_ = 5 then ({ r with at_ := 0 }, c == 10)
  else if r.at_ = 9 then
    if r.read = 16384 then ({ r with at_ := 6 }, false)
    else (ended { r with at_ := 6, read := r.read + 1 }, c == 10)
  else if r.at_ = 10 then ({ r with at_ := 11 }, c == 10)
  else (r, c == 10)

structure Out where
  body : Bs
  read : Nat
  done : Bool
  wrong : Bool
  trailers : List (Bs × Bs)

/-- what bytes come to, from a state on; i bytes were read, body is what came out -/
def run : St → Bs → Nat → Bs → Out
  | _, [], i, body => ⟨body, i, false, false, []⟩
  | s, c :: l, i, body =>
    if s.at_ = 3 then run { s with at_ := if s.left - 1 = 0 then 4 else 3, left := s.left - 1, total := s.total + 1 } l (i + 1) (body ++ [c])
    else if (step s c).2 = false then ⟨body, i, false, true, []⟩
    else if (step s c).1.at_ = 11 then ⟨body, i + 1, true, false, (step s c).1.trailers⟩
    else run (step s c).1 l (i + 1) body

/- THE REFERENCE, function by function -/
def endedR (l : Bs) (i : Nat) : Nat × Int :=
  match l with
  | [] => (i, 0)
  | c :: r => if c ≠ 13 then (i, -1) else match r with
    | [] => (i + 1, 0)
    | d :: _ => if d ≠ 10 then (i + 1, -1) else (i + 2, 1)

def sizeB : Bs → Nat → Nat → Nat → Nat × Nat × Int
  | [], i, _, n => (n, endedR [] i)
  | c :: l, i, k, n =>
    if c = 13 then (n, endedR (c :: l) i)
    else if plain c = false ∨ 4096 ≤ k then (0, i, -1)
    else sizeB l (i + 1) (k + 1) n

def sizeA : Bs → Nat → Nat → Nat → Nat × Nat × Int
  | [], i, _, _ => (0, i, 0)
  | c :: l, i, k, n =>
    if 0 ≤ hexI c then
      if k = 8 ∨ most < 16 * n + (hexI c).toNat then (0, i, -1) else sizeA l (i + 1) (k + 1) (16 * n + (hexI c).toNat)
    else if k = 0 ∨ (c ≠ 59 ∧ c ≠ 13) then (0, i, -1)
    else sizeB (c :: l) i k n

/-- a field line: k bytes of it are read, in 'nm' (up to the colon), 'val' (behind it, if there was one) -/
def fieldA : Bs → Nat → Nat → Nat → Bs → Option Bs → (Bs × Bs) × Nat × Int
  | [], i, _, _, _, _ => (([], []), i, 0)
  | c :: l, i, ahead, k, nm, val =>
    if 16384 ≤ ahead + k then (([], []), i, -1)
    else if c = 13 ∧ val.isSome then
      match l with
      | [] => (([], []), i + 1, 0)
      | d :: _ => if d ≠ 10 ∨ 16384 ≤ ahead + k + 1 then (([], []), i + 1, -1) else ((nm, trim (val.getD [])), i + 2, 1)
    else if 4096 ≤ k then (([], []), i, -1)
    else match val with
      | none => if c = 58 ∧ 0 < k then fieldA l (i + 1) ahead (k + 1) nm (some [])
          else if isTok c = false then (([], []), i, -1) else fieldA l (i + 1) ahead (k + 1) (nm ++ [c]) none
      | some v => if plain c = false then (([], []), i, -1) else fieldA l (i + 1) ahead (k + 1) nm (some (v ++ [c]))

def lastR (l : Bs) (i : Nat) (body : Bs) (tr : List (Bs × Bs)) : Out :=
  ⟨body, (endedR l i).1, decide (0 < (endedR l i).2), decide ((endedR l i).2 < 0), if 0 < (endedR l i).2 then tr else []⟩

def trailR : Nat → Bs → Nat → Nat → Bs → List (Bs × Bs) → Out
  | 0, l, i, _, body, tr => lastR l i body tr
  | _ + 1, [], i, _, body, tr => lastR [] i body tr
  | f + 1, c :: l, i, ahead, body, tr =>
    if c = 13 then lastR (c :: l) i body tr
    else if tr.length = 64 then ⟨body, i, false, true, []⟩
    else
      let x := fieldA (c :: l) i ahead 0 [] none
      if x.2.2 < 1 then ⟨body, x.2.1, false, decide (x.2.2 < 0), []⟩
      else trailR f ((c :: l).drop (x.2.1 - i)) x.2.1 (ahead + (x.2.1 - i)) body (tr ++ [x.1])

def readR : Nat → Bs → Nat → Bs → Out
  | 0, _, i, body => ⟨body, i, false, false, []⟩
  | f + 1, l, i, body =>
    let x := sizeA l i 0 0
    if x.2.2 < 1 then ⟨body, x.2.1, false, decide (x.2.2 < 0), []⟩
    else
      let l' := l.drop (x.2.1 - i)
      if x.1 = 0 then trailR (l'.length) l' x.2.1 0 body []
      else if l'.length < x.1 then ⟨body ++ l', x.2.1 + l'.length, false, false, []⟩
      else
        let y := endedR (l'.drop x.1) (x.2.1 + x.1)
        if y.2 < 1 then ⟨body ++ l'.take x.1, y.1, false, decide (y.2 < 0), []⟩
        else readR f ((l'.drop x.1).drop 2) y.1 (body ++ l'.take x.1)



theorem run_nil (s : St) (i : Nat) (body : Bs) : run s [] i body = ⟨body, i, false, false, []⟩ := by cases s; rfl

theorem run_ok {s s' : St} {c : UInt8} (l : Bs) (i : Nat) (body : Bs) (h3 : s.at_ ≠ 3) (hs : step s c = (s', true)) (h11 : s'.at_ ≠ 11) : run s (c :: l) i body = run s' l (i + 1) body := by
  rw [run, if_neg h3, hs, if_neg (by simp), if_neg h11]
theorem run_no {s : St} {c : UInt8} (l : Bs) (i : Nat) (body : Bs) (h3 : s.at_ ≠ 3) (hs : (step s c).2 = false) : run s (c :: l) i body = ⟨body, i, false, true, []⟩ := by
  rw [run, if_neg h3, if_pos hs]

theorem run_data (l : Bs) : ∀ (s : St) (i : Nat) (body : Bs), s.at_ = 3 → 0 < s.left →
    run s l i body = if l.length < s.left then ⟨body ++ l, i + l.length, false, false, []⟩
      else run { s with at_ := 4, left := 0, total := s.total + s.left } (l.drop s.left) (i + s.left) (body ++ l.take s.left) := by
  induction l with
  | nil => intro s i body h3 h0; rw [run_nil, if_pos (by simpa using h0)]; simp
  | cons c l ih =>
    intro s i body h3 h0
    rw [run, if_pos h3]
    obtain ⟨m, hm⟩ : ∃ m, s.left = m + 1 := ⟨s.left - 1, by omega⟩
    simp only [hm, Nat.add_sub_cancel]
    by_cases h1 : m = 0
    · subst h1
      rw [if_neg (show ¬ (c :: l).length < 0 + 1 by simp)]
      simp
    · rw [if_neg h1, ih _ _ _ rfl (by simp; omega)]
      by_cases hl : l.length < m
      · rw [if_pos hl, if_pos (show (c :: l).length < m + 1 by simp; omega)]; simp; omega
      · rw [if_neg hl, if_neg (show ¬ (c :: l).length < m + 1 by simp; omega)]
        simp [Nat.add_assoc, Nat.add_comm 1 m]

theorem endedR_lt {l : Bs} {i : Nat} (h : 0 < (endedR l i).2) : ∃ r, l = 13 :: 10 :: r ∧ endedR l i = (i + 2, 1) := by
  match l with
  | [] => simp [endedR] at h
  | [c] => by_cases hc : c = 13 <;> simp [endedR, hc] at h
  | c :: d :: r =>
    by_cases hc : c = 13
    · by_cases hd : d = 10
      · subst hc hd; exact ⟨r, rfl, by simp [endedR]⟩
      · simp [endedR, hc, hd] at h
    · simp [endedR, hc] at h

theorem run_out (l : Bs) (s : St) (i : Nat) (body : Bs) (h : s.at_ = 4) :
    run s l i body = if (endedR l i).2 < 1 then ⟨body, (endedR l i).1, false, decide ((endedR l i).2 < 0), []⟩ else run { s with at_ := 0 } (l.drop 2) (endedR l i).1 body := by
  match l with
  | [] => rw [run_nil]; simp [endedR]
  | [c] => by_cases hc : c = 13 <;> simp [run, step, h, endedR, hc]
  | c :: d :: r => by_cases hc : c = 13 <;> by_cases hd : d = 10 <;> simp [run, step, h, endedR, hc, hd]

theorem run_last (l : Bs) (s : St) (i : Nat) (body : Bs) (h : s.at_ = 6) (hc : ∀ c r, l = c :: r → c = 13) :
    run s l i body = lastR l i body s.trailers := by
  match l with
  | [] => rw [run_nil]; simp [lastR, endedR]
  | [c] => have := hc c [] rfl; subst this; simp [run, step, lined, h, lastR, endedR]
  | c :: d :: r =>
    have := hc c _ rfl; subst this
    by_cases hd : d = 10 <;> simp [run, step, lined, h, lastR, endedR, hd]

/-- behind a size: what comes next -/
def sizedTo (s : St) : St := { s with at_ := if s.left = 0 then 6 else 3, digits := 0, long := 0 }

/-- a size line from its 13 on -/
theorem run_lineEnd (l : Bs) (s : St) (i : Nat) (body : Bs) (h : s.at_ = 1) :
    run s (13 :: l) i body = if (endedR (13 :: l) i).2 < 1 then ⟨body, (endedR (13 :: l) i).1, false, decide ((endedR (13 :: l) i).2 < 0), []⟩ else run (sizedTo s) (l.drop 1) (endedR (13 :: l) i).1 body := by
  match l with
  | [] => simp [run, step, endedR, h]
  | d :: r => by_cases hd : d = 10 <;> by_cases hl : s.left = 0 <;> simp [run, step, endedR, hd, sizedTo, hl, h]

/-- what the automaton does where a reader of a part said x: stopped, or behind it -/
def after (x : Nat × Int) (l : Bs) (i : Nat) (body : Bs) (s : St) : Out :=
  if x.2 < 1 then ⟨body, x.1, false, decide (x.2 < 0), []⟩ else run s (l.drop (x.1 - i)) x.1 body

theorem sizeB_ge (l : Bs) : ∀ (i k n : Nat), i ≤ (sizeB l i k n).2.1 := by
  induction l with
  | nil => intro i k n; simp [sizeB, endedR]
  | cons c l ih =>
    intro i k n
    rw [sizeB]
    split
    · match l with
      | [] => simp [endedR]; split <;> simp
      | d :: r => by_cases hc : c = 13 <;> by_cases hd : d = 10 <;> simp [endedR, hc, hd]
    · split
      · simp
      · have := ih (i + 1) (k + 1) n; omega

theorem run_sizeB (l : Bs) : ∀ (s : St) (i : Nat) (body : Bs), s.at_ = 1 →
    run s l i body = after (sizeB l i s.long s.left).2 l i body (sizedTo s) := by
  induction l with
  | nil => intro s i body h; rw [run_nil]; simp [sizeB, after, endedR]
  | cons c l ih =>
    intro s i body h
    by_cases hc : c = 13
    · subst hc
      rw [run_lineEnd l s i body h, sizeB, if_pos rfl]
      unfold after
      by_cases h1 : (endedR (13 :: l) i).2 < 1
      · rw [if_pos h1, if_pos h1]
      · rw [if_neg h1, if_neg h1]
        obtain ⟨r, hr, he⟩ := endedR_lt (l := 13 :: l) (i := i) (by omega)
        rw [he]; simp
    · rw [sizeB, if_neg hc]
      by_cases hp : plain c = false ∨ 4096 ≤ s.long
      · rw [if_pos hp]
        have : (step s c).2 = false := by
          simp [step, h, hc]
          intro h2
          rcases hp with hp | hp
          · rw [hp] at h2; cases h2
          · omega
        rw [run, if_neg (by omega), if_pos this]; simp [after]
      · rw [if_neg hp]
        have hp1 : plain c = true := by revert hp; cases plain c <;> simp
        have hp2 : s.long < 4096 := by
          rcases Nat.lt_or_ge s.long 4096 with hh | hh
          · exact hh
          · exact absurd (Or.inr hh) hp
        have hs : step s c = ({ s with long := s.long + 1 }, true) := by
          simp [step, h, hc, hp1]; omega
        rw [run, if_neg (by omega), hs, if_neg (by simp), if_neg (by simp [h])]
        rw [ih { s with long := s.long + 1 } (i + 1) body h]
        have hge := sizeB_ge l (i + 1) (s.long + 1) s.left
        simp only [after, sizedTo]
        split
        · rfl
        · obtain ⟨m, hm⟩ : ∃ m, (sizeB l (i + 1) (s.long + 1) s.left).2.1 = i + 1 + m := ⟨_, (Nat.add_sub_cancel' hge).symm⟩
          rw [hm, show i + 1 + m - (i + 1) = m by omega, show i + 1 + m - i = m + 1 by omega]; simp

theorem sizeB_fst (l : Bs) : ∀ (i k n : Nat), 0 < (sizeB l i k n).2.2 → (sizeB l i k n).1 = n := by
  induction l with
  | nil => intro i k n h; simp [sizeB, endedR] at h
  | cons c l ih =>
    intro i k n h
    rw [sizeB] at h ⊢
    split at h
    · rename_i hc; rw [if_pos hc]
    · rename_i hc; rw [if_neg hc]
      split at h
      · simp at h
      · rename_i hp; rw [if_neg hp]; exact ih _ _ _ h

theorem sizeA_ge (l : Bs) : ∀ (i k n : Nat), i ≤ (sizeA l i k n).2.1 := by
  induction l with
  | nil => intro i k n; simp [sizeA]
  | cons c l ih =>
    intro i k n
    rw [sizeA]
    split
    · split
      · simp
      · have := ih (i + 1) (k + 1) (16 * n + (hexI c).toNat); omega
    · split
      · simp
      · exact sizeB_ge _ _ _ _

theorem hexI_13 : hexI 13 = -1 := by decide
theorem hexI_59 : hexI 59 = -1 := by decide
theorem plain_59 : plain 59 = true := by decide

/-- the size line: the automaton and the reference -/
theorem run_sizeA (l : Bs) : ∀ (s : St) (i : Nat) (body : Bs), s.at_ = 0 → s.long = s.digits → s.digits ≤ 8 →
    run s l i body = after (sizeA l i s.digits s.left).2 l i body (sizedTo { s with left := (sizeA l i s.digits s.left).1 }) := by
  induction l with
  | nil => intro s i body h _ _; rw [run_nil]; simp [sizeA, after]
  | cons c l ih =>
    intro s i body h hk h8
    rw [sizeA]
    by_cases hd : 0 ≤ hexI c
    · rw [if_pos hd]
      by_cases hw : s.digits = 8 ∨ most < 16 * s.left + (hexI c).toNat
      · rw [if_pos hw]
        have : (step s c).2 = false := by
          simp only [step, h, if_true, sized]
          rw [if_neg (by rintro ⟨_, h1, h2⟩; rcases hw with hw | hw <;> omega), if_pos (Or.inl hd)]
        rw [run, if_neg (by omega), if_pos this]; simp [after]
      · rw [if_neg hw]
        have hs : step s c = ({ s with left := s.left * 16 + (hexI c).toNat, digits := s.digits + 1, long := s.long + 1 }, true) := by
          simp only [step, h, if_true, sized]
          rw [if_pos ⟨hd, by omega, by omega⟩]
        rw [run_ok l i body (by omega) hs (by simp [h]), ih { s with left := s.left * 16 + (hexI c).toNat, digits := s.digits + 1, long := s.long + 1 } (i + 1) body h (by simp [hk]) (by simp; omega)]
        have hge := sizeA_ge l (i + 1) (s.digits + 1) (16 * s.left + (hexI c).toNat)
        simp only [after, sizedTo, Nat.mul_comm s.left 16]
        split
        · rfl
        · obtain ⟨m, hm⟩ : ∃ m, (sizeA l (i + 1) (s.digits + 1) (16 * s.left + (hexI c).toNat)).2.1 = i + 1 + m := ⟨_, (Nat.add_sub_cancel' hge).symm⟩
          rw [hm, show i + 1 + m - (i + 1) = m by omega, show i + 1 + m - i = m + 1 by omega]; simp
    · rw [if_neg hd]
      by_cases hw : s.digits = 0 ∨ (c ≠ 59 ∧ c ≠ 13)
      · rw [if_pos hw]
        have : (step s c).2 = false := by
          simp only [step, h, if_true, sized]
          rw [if_neg (by rintro ⟨h1, _⟩; exact hd h1)]
          by_cases h0 : s.digits = 0
          · rw [if_pos (Or.inr h0)]
          · obtain ⟨h1, h2⟩ : c ≠ 59 ∧ c ≠ 13 := by rcases hw with hw | hw; exact absurd hw h0; exact hw
            rw [if_neg (by rintro (h1 | h1); exact hd h1; exact h0 h1), if_neg h1]
            simpa using h2
        rw [run, if_neg (by omega), if_pos this]; simp [after]
      · rw [if_neg hw]
        have h0 : s.digits ≠ 0 := fun e => hw (Or.inl e)
        have hcc : c = 59 ∨ c = 13 := by
          by_cases h1 : c = 59
          · exact Or.inl h1
          · by_cases h2 : c = 13
            · exact Or.inr h2
            · exact absurd (Or.inr ⟨h1, h2⟩) hw
        have e1 : run s (c :: l) i body = run { s with at_ := 1 } (c :: l) i body := by
          rcases hcc with rfl | rfl
          · have a1 : step s 59 = ({ s with at_ := 1, long := s.long + 1 }, true) := by
              simp only [step, h, if_true, sized, hexI_59]
              rw [if_neg (by omega), if_neg (by omega)]
            have a2 : step { s with at_ := 1 } 59 = ({ s with at_ := 1, long := s.long + 1 }, true) := by
              simp [step, plain_59]; omega
            rw [run_ok l i body (by omega) a1 (by simp), run_ok l i body (by simp) a2 (by simp)]
          · have a1 : step s 13 = ({ s with at_ := 2 }, true) := by
              simp only [step, h, if_true, sized, hexI_13]
              rw [if_neg (by omega), if_neg (by omega), if_neg (by decide)]; rfl
            have a2 : step { s with at_ := 1 } 13 = ({ s with at_ := 2 }, true) := by
              simp [step]
            rw [run_ok l i body (by omega) a1 (by simp), run_ok l i body (by simp) a2 (by simp)]
        rw [e1, run_sizeB (c :: l) { s with at_ := 1 } i body rfl]
        simp only [hk]
        by_cases h2 : (sizeB (c :: l) i s.digits s.left).2.2 < 1
        · simp only [after, if_pos h2]
        · rw [sizeB_fst _ _ _ _ (by omega)]; simp [sizedTo]

theorem fieldA_ge (l : Bs) : ∀ (i ahead k : Nat) (nm : Bs) (val : Option Bs), i ≤ (fieldA l i ahead k nm val).2.1 := by
  induction l with
  | nil => intro i ahead k nm val; simp [fieldA]
  | cons c l ih =>
    intro i ahead k nm val
    unfold fieldA
    split
    · simp
    · split
      · split
        · simp
        · split <;> simp
      · split
        · simp
        · split
          · split
            · exact Nat.le_trans (Nat.le_succ i) (ih _ _ _ _ _)
            · split
              · simp
              · exact Nat.le_trans (Nat.le_succ i) (ih _ _ _ _ _)
          · split
            · simp
            · exact Nat.le_trans (Nat.le_succ i) (ih _ _ _ _ _)

theorem colonCut_mk (nm v : Bs) (h : 58 ∉ nm) : colonCut (nm ++ 58 :: v) = (nm, v) := by
  induction nm with
  | nil => simp [colonCut]
  | cons c l ih =>
    have hc : c ≠ 58 := fun e => h (by simp [e])
    have ih := ih (fun e => h (by simp [e]))
    simp [colonCut, hc, ih]

theorem fieldA_cons (c : UInt8) (l : Bs) (i ahead k : Nat) (nm : Bs) (val : Option Bs) (h1 : ¬ 16384 ≤ ahead + k) (h2 : ¬ (c = 13 ∧ val.isSome = true)) (h3 : ¬ 4096 ≤ k) :
    fieldA (c :: l) i ahead k nm val = match val with
      | none => if c = 58 ∧ 0 < k then fieldA l (i + 1) ahead (k + 1) nm (some [])
          else if isTok c = false then (([], []), i, -1) else fieldA l (i + 1) ahead (k + 1) (nm ++ [c]) none
      | some v => if plain c = false then (([], []), i, -1) else fieldA l (i + 1) ahead (k + 1) nm (some (v ++ [c])) := by
  rw [fieldA.eq_def]
  simp only [if_neg h1, if_neg h2, if_neg h3]
  cases val <;> rfl

/-- behind a field line -/
def fieldTo (s : St) (x : (Bs × Bs) × Nat × Int) (i : Nat) : St := { s with at_ := 6, line := [], read := s.read + (x.2.1 - i), trailers := s.trailers ++ [x.1] }

/-- where the automaton is in a field line -/
def InField (s : St) (nm : Bs) : Option Bs → Prop
  | none => s.at_ = 7 ∧ s.line = nm
  | some v => s.at_ = 8 ∧ s.line = nm ++ 58 :: v

theorem isTok_58 : isTok 58 = false := by decide
theorem isTok_13 : isTok 13 = false := by decide

theorem InField.ne {s : St} {nm : Bs} {val : Option Bs} (h : InField s nm val) : s.at_ ≠ 3 ∧ s.at_ ≠ 6 ∧ (s.at_ = 7 ∨ s.at_ = 8) ∧ s.at_ ≠ 0 ∧ s.at_ ≠ 1 := by
  cases val <;> simp only [InField] at h <;> omega

theorem step_field {s : St} {nm : Bs} {val : Option Bs} (h : InField s nm val) (c : UInt8) : step s c = lined2 s c := by
  obtain ⟨h3, h6, h78, h0, h1⟩ := h.ne
  simp only [step, lined, if_neg h0, if_neg h1, if_neg h6]
  rw [if_pos (by omega)]

theorem run_fieldA (l : Bs) : ∀ (s : St) (i : Nat) (body : Bs) (ahead : Nat) (nm : Bs) (val : Option Bs), InField s nm val → 58 ∉ nm → s.read = ahead + s.line.length → s.read ≤ 16384 → s.line.length ≤ 4096 →
    run s l i body = after (fieldA l i ahead s.line.length nm val).2 l i body (fieldTo s (fieldA l i ahead s.line.length nm val) i) := by
  induction l with
  | nil => intro s i body ahead nm val _ _ _ _ _; rw [run_nil]; simp [fieldA, after]
  | cons c l ih =>
    intro s i body ahead nm val hin hnm hr hr2 h40
    obtain ⟨h3, h6, h78, _, _⟩ := hin.ne
    have hst := step_field hin c
    have lift : ∀ (s' : St) (nm' : Bs) (val' : Option Bs), step s c = (s', true) → InField s' nm' val' → 58 ∉ nm' → s'.line.length = s.line.length + 1 → s.line.length < 4096 → s'.read = s.read + 1 → s.read < 16384 →
        s'.left = s.left → s'.long = s.long → s'.digits = s.digits → s'.total = s.total → s'.trailers = s.trailers →
        fieldA (c :: l) i ahead s.line.length nm val = fieldA l (i + 1) ahead (s.line.length + 1) nm' val' →
        run s (c :: l) i body = after (fieldA (c :: l) i ahead s.line.length nm val).2 (c :: l) i body (fieldTo s (fieldA (c :: l) i ahead s.line.length nm val) i) := by
      intro s' nm' val' hs' hin' hnm' hl' h4 hrd hlt e1 e2 e3 e4 e5 hf
      rw [run_ok l i body h3 hs' (by have := hin'.ne; omega), ih s' (i + 1) body ahead nm' val' hin' hnm' (by omega) (by omega) (by omega), hf, hl']
      have hge := fieldA_ge l (i + 1) ahead (s.line.length + 1) nm' val'
      generalize fieldA l (i + 1) ahead (s.line.length + 1) nm' val' = x at hge ⊢
      obtain ⟨m, hm⟩ : ∃ m, x.2.1 = i + 1 + m := ⟨_, (Nat.add_sub_cancel' hge).symm⟩
      unfold after fieldTo
      split
      · rfl
      · rw [hm, show i + 1 + m - (i + 1) = m by omega, show i + 1 + m - i = m + 1 by omega, e1, e2, e3, e4, e5, hrd]
        simp [Nat.add_assoc, Nat.add_comm 1 m]
    have stop : (step s c).2 = false → (fieldA (c :: l) i ahead s.line.length nm val) = (([], []), i, -1) →
        run s (c :: l) i body = after (fieldA (c :: l) i ahead s.line.length nm val).2 (c :: l) i body (fieldTo s (fieldA (c :: l) i ahead s.line.length nm val) i) := by
      intro hs hf
      rw [run_no l i body h3 hs, hf]; simp [after]
    by_cases hbig : 16384 ≤ ahead + s.line.length
    · refine stop ?_ ?_
      · rw [hst]; unfold lined2; rw [if_pos (Or.inl (by omega))]
      · unfold fieldA; rw [if_pos hbig]
    by_cases hc13 : c = 13
    · subst hc13
      cases val with
      | none =>
        obtain ⟨h7, hl⟩ := hin
        refine stop ?_ ?_
        · rw [hst]; unfold lined2; rw [if_neg (by simp; omega)]; simp [h7]
        · unfold fieldA; rw [if_neg hbig, if_neg (by simp)]
          split
          · rfl
          · simp [isTok_13]
      | some v =>
        obtain ⟨h8, hl⟩ := hin
        have hs : step s 13 = ({ s with read := s.read + 1, at_ := 9 }, true) := by
          rw [hst]; unfold lined2; rw [if_neg (by simp; omega)]; simp [h8]
        rw [run_ok l i body h3 hs (by simp)]
        match l with
        | [] => rw [run_nil]; unfold fieldA; rw [if_neg hbig, if_pos (by simp)]; simp [after]
        | d :: r =>
          unfold fieldA; rw [if_neg hbig, if_pos (by simp)]
          simp only []
          by_cases hd : d ≠ 10 ∨ 16384 ≤ ahead + s.line.length + 1
          · rw [if_pos hd, run_no r (i + 1) body (by simp)]
            · simp [after]
            · simp only [step]
              by_cases hq : s.read + 1 = 16384
              · simp [hq]
              · have : d ≠ 10 := by rcases hd with hd | hd; exact hd; omega
                simp [hq, this]
          · rw [if_neg hd]
            have hd10 : d = 10 := by
              by_cases e : d = 10
              · exact e
              · exact absurd (Or.inl e) hd
            have hq : s.read + 1 ≠ 16384 := fun e => hd (Or.inr (by omega))
            subst hd10
            rw [run_ok (s' := ended { s with read := s.read + 1 + 1, at_ := 6 }) r (i + 1) body (by simp) (by simp [step, hq]) (by simp [ended])]
            simp only [after, fieldTo, ended, hl, colonCut_mk nm v hnm]
            simp
    · have hnot13 : ¬ (c = 13 ∧ val.isSome = true) := fun h => hc13 h.1
      by_cases hlong : 4096 ≤ s.line.length
      · by_cases h4096 : s.line.length = 4096
        · refine stop ?_ ?_
          · rw [hst]; unfold lined2; rw [if_pos (Or.inr ⟨hc13, h4096⟩)]
          · unfold fieldA; rw [if_neg hbig, if_neg hnot13, if_pos hlong]
        · omega
      · cases val with
        | none =>
          obtain ⟨h7, hl⟩ := hin
          by_cases hcolon : c = 58
          · subst hcolon
            by_cases hemp : s.line = []
            · refine stop ?_ ?_
              · rw [hst]; unfold lined2; rw [if_neg (by simp; omega)]; simp [h7, hemp]
              · unfold fieldA; rw [if_neg hbig, if_neg hnot13, if_neg hlong]; simp [hemp, isTok_58]
            · refine lift { s with read := s.read + 1, at_ := 8, line := s.line ++ [58] } nm (some []) ?_ ⟨rfl, by simp [hl]⟩ hnm (by simp) (by omega) rfl (by omega) rfl rfl rfl rfl rfl ?_
              · rw [hst]; unfold lined2; rw [if_neg (by simp; omega)]; simp [h7, hemp]
              · have : 0 < s.line.length := by cases hh : s.line with
                  | nil => exact absurd hh hemp
                  | cons _ _ => simp
                rw [fieldA_cons _ _ _ _ _ _ _ hbig hnot13 hlong]; simp [this]
          · by_cases htok : isTok c = true
            · refine lift { s with read := s.read + 1, line := s.line ++ [c] } (nm ++ [c]) none ?_ ⟨h7, by simp [hl]⟩ (by simp [hnm]; exact fun e => hcolon e.symm) (by simp) (by omega) rfl (by omega) rfl rfl rfl rfl rfl ?_
              · rw [hst]; unfold lined2; rw [if_neg (by simp [hc13]; omega)]; simp [h7, hc13, hcolon, htok]
              · rw [fieldA_cons _ _ _ _ _ _ _ hbig hnot13 hlong]; simp [hcolon, htok]
            · refine stop ?_ ?_
              · rw [hst]; unfold lined2; rw [if_neg (by simp [hc13]; omega)]; simp [h7, hc13, hcolon, htok]
              · rw [fieldA_cons _ _ _ _ _ _ _ hbig hnot13 hlong]; simp [hcolon, htok]
        | some v =>
          obtain ⟨h8, hl⟩ := hin
          by_cases hp : plain c = true
          · refine lift { s with read := s.read + 1, line := s.line ++ [c] } nm (some (v ++ [c])) ?_ ⟨h8, by simp [hl]⟩ hnm (by simp) (by omega) rfl (by omega) rfl rfl rfl rfl rfl ?_
            · rw [hst]; unfold lined2; rw [if_neg (by simp [hc13]; omega)]; simp [h8, hc13, hp]
            · rw [fieldA_cons _ _ _ _ _ _ _ hbig hnot13 hlong]; simp [hp]
          · refine stop ?_ ?_
            · rw [hst]; unfold lined2; rw [if_neg (by simp [hc13]; omega)]; simp [h8, hc13, hp]
            · rw [fieldA_cons _ _ _ _ _ _ _ hbig hnot13 hlong]; simp [hp]

theorem fieldA_gt (c : UInt8) (l : Bs) (i ahead : Nat) (h : 0 < (fieldA (c :: l) i ahead 0 [] none).2.2) : i < (fieldA (c :: l) i ahead 0 [] none).2.1 ∧ (fieldA (c :: l) i ahead 0 [] none).2.1 ≤ i + (l.length + 1) := by
  have up : ∀ (l : Bs) (i ahead k : Nat) (nm : Bs) (val : Option Bs), (fieldA l i ahead k nm val).2.1 ≤ i + l.length := by
    intro l
    induction l with
    | nil => intro i ahead k nm val; simp [fieldA]
    | cons c l ih =>
      intro i ahead k nm val
      unfold fieldA
      split
      · simp
      · split
        · split
          · simp
          · split <;> simp
        · split
          · simp
          · split
            · split
              · have := ih (i + 1) ahead (k + 1) nm (some []); simp; omega
              · split
                · simp
                · have := ih (i + 1) ahead (k + 1) (nm ++ [c]) none; simp; omega
            · split
              · simp
              · rename_i v _ _; have := ih (i + 1) ahead (k + 1) nm (some (v ++ [c])); simp; omega
  refine ⟨?_, by have := up (c :: l) i ahead 0 [] none; simpa using this⟩
  by_cases hb : 16384 ≤ ahead + 0
  · unfold fieldA at h; rw [if_pos hb] at h; simp at h
  · rw [fieldA_cons _ _ _ _ _ _ _ hb (by simp) (by omega)] at h ⊢
    simp only [Nat.lt_irrefl, and_false, if_false] at h ⊢
    split at h
    · simp at h
    · rename_i ht; rw [if_neg ht]; have := fieldA_ge l (i + 1) ahead (0 + 1) ([] ++ [c]) none; omega

theorem fieldA_room (l : Bs) : ∀ (i ahead k : Nat) (nm : Bs) (val : Option Bs), 0 < (fieldA l i ahead k nm val).2.2 → ahead + k + ((fieldA l i ahead k nm val).2.1 - i) ≤ 16384 := by
  induction l with
  | nil => intro i ahead k nm val h; simp [fieldA] at h
  | cons c l ih =>
    intro i ahead k nm val h
    have hge : ∀ (i ahead k : Nat) (nm : Bs) (val : Option Bs), i ≤ (fieldA l i ahead k nm val).2.1 := fieldA_ge l
    by_cases hb : 16384 ≤ ahead + k
    · unfold fieldA at h; rw [if_pos hb] at h; simp at h
    by_cases h13 : c = 13 ∧ val.isSome = true
    · unfold fieldA at h ⊢
      rw [if_neg hb, if_pos h13] at h ⊢
      match l with
      | [] => simp at h
      | d :: r =>
        simp only [] at h ⊢
        by_cases hd : d ≠ 10 ∨ 16384 ≤ ahead + k + 1
        · rw [if_pos hd] at h; simp at h
        · rw [if_neg hd]; simp; first | done | omega
    by_cases h4 : 4096 ≤ k
    · rw [fieldA.eq_def] at h; simp only [if_neg hb, if_neg h13, if_pos h4] at h; simp at h
    rw [fieldA_cons _ _ _ _ _ _ _ hb h13 h4] at h ⊢
    cases val with
    | none =>
      simp only [] at h ⊢
      by_cases hc : c = 58 ∧ 0 < k
      · rw [if_pos hc] at h ⊢; have h1 := ih _ _ _ _ _ h; have h2 := hge (i + 1) ahead (k + 1) nm (some []); omega
      · rw [if_neg hc] at h ⊢
        by_cases ht : isTok c = false
        · rw [if_pos ht] at h; simp at h
        · rw [if_neg ht] at h ⊢; have h1 := ih _ _ _ _ _ h; have h2 := hge (i + 1) ahead (k + 1) (nm ++ [c]) none; omega
    | some v =>
      simp only [] at h ⊢
      by_cases ht : plain c = false
      · rw [if_pos ht] at h; simp at h
      · rw [if_neg ht] at h ⊢; have h1 := ih _ _ _ _ _ h; have h2 := hge (i + 1) ahead (k + 1) nm (some (v ++ [c])); omega

theorem run_trail (f : Nat) : ∀ (l : Bs) (s : St) (i : Nat) (body : Bs), s.at_ = 6 → l.length ≤ f → s.read ≤ 16384 →
    run s l i body = trailR f l i s.read body s.trailers := by
  induction f with
  | zero =>
    intro l s i body h6 hl _
    have : l = [] := List.eq_nil_of_length_eq_zero (by omega)
    subst this
    rw [trailR, run_last [] s i body h6 (by intro c r h; cases h)]
  | succ f ih =>
    intro l s i body h6 hl hr
    match l with
    | [] => rw [trailR, run_last [] s i body h6 (by intro c r h; cases h)]
    | c :: l =>
      by_cases hc : c = 13
      · rw [run_last (c :: l) s i body h6 (by intro c' r h; cases h; exact hc)]; simp [trailR, hc]
      · by_cases h64 : s.trailers.length = 64
        · rw [run_no l i body (by omega) (by simp [step, lined, h6, hc, h64])]; simp [trailR, hc, h64]
        · have e1 : run s (c :: l) i body = run { s with at_ := 7, line := [] } (c :: l) i body := by
            have : step s c = step { s with at_ := 7, line := [] } c := by
              simp [step, lined, h6, hc, h64]
            simp only [run, this]; simp [h6]
          rw [e1, run_fieldA (c :: l) { s with at_ := 7, line := [] } i body s.read [] none ⟨rfl, rfl⟩ (by simp) (by simp) hr (by simp)]
          simp only [trailR, if_neg hc, if_neg h64, List.length_nil, after]
          by_cases hx : (fieldA (c :: l) i s.read 0 [] none).2.2 < 1
          · rw [if_pos hx, if_pos hx]
          · rw [if_neg hx, if_neg hx]
            obtain ⟨hgt, hle⟩ := fieldA_gt c l i s.read (by omega)
            rw [ih _ _ _ _ rfl (by simp at hl ⊢; omega) (by have := fieldA_room (c :: l) i s.read 0 [] none (by omega); simp [fieldTo]; omega)]
            simp [fieldTo]

theorem sizeA_le (l : Bs) : ∀ (i k n : Nat), 0 < (sizeA l i k n).2.2 → (sizeA l i k n).2.1 ≤ i + l.length ∧ i + 2 ≤ (sizeA l i k n).2.1 := by
  have hB : ∀ (l : Bs) (i k n : Nat), 0 < (sizeB l i k n).2.2 → (sizeB l i k n).2.1 ≤ i + l.length ∧ i + 2 ≤ (sizeB l i k n).2.1 := by
    intro l
    induction l with
    | nil => intro i k n h; simp [sizeB, endedR] at h
    | cons c l ih =>
      intro i k n h
      rw [sizeB] at h ⊢
      by_cases hc : c = 13
      · rw [if_pos hc] at h ⊢
        obtain ⟨r, hr, he⟩ := endedR_lt h
        simp only [he]; rw [hr]; simp
      · rw [if_neg hc] at h ⊢
        split at h
        · simp at h
        · rename_i hp; rw [if_neg hp]; have := ih _ _ _ h; simp; omega
  induction l with
  | nil => intro i k n h; simp [sizeA] at h
  | cons c l ih =>
    intro i k n h
    rw [sizeA] at h ⊢
    by_cases hd : 0 ≤ hexI c
    · rw [if_pos hd] at h ⊢
      split at h
      · simp at h
      · rename_i hp; rw [if_neg hp]; have := ih _ _ _ h; simp; omega
    · rw [if_neg hd] at h ⊢
      split at h
      · simp at h
      · rename_i hp; rw [if_neg hp]; exact hB _ _ _ _ h

/-- THE CHUNKED BODY: the automaton and the reference. -/
theorem run_read (f : Nat) : ∀ (l : Bs) (s : St) (i : Nat) (body : Bs), s.at_ = 0 → s.long = 0 → s.digits = 0 → s.left = 0 → s.read = 0 → s.trailers = [] → l.length < f →
    run s l i body = readR f l i body := by
  induction f with
  | zero => intro l s i body _ _ _ _ _ _ h; omega
  | succ f ih =>
    intro l s i body h0 hlo hdi hle hre htr hf
    rw [run_sizeA l s i body h0 (by omega) (by omega), hdi, hle]
    simp only [readR, after]
    by_cases hx : (sizeA l i 0 0).2.2 < 1
    · rw [if_pos hx, if_pos hx]
    · rw [if_neg hx, if_neg hx]
      obtain ⟨hle2, hgt⟩ := sizeA_le l i 0 0 (by omega)
      generalize sizeA l i 0 0 = x at hx hle2 hgt ⊢
      obtain ⟨n, b, st⟩ := x
      simp only at hx hle2 hgt ⊢
      by_cases hn : n = 0
      · subst hn
        rw [if_pos rfl, run_trail _ (l.drop (b - i)) _ _ _ rfl (Nat.le_refl _) (by simp [sizedTo, hre])]
        simp [sizedTo, hre, htr]
      · rw [if_neg hn]
        have key : ∀ S : St, S.at_ = 3 → S.left = n → S.long = 0 → S.digits = 0 → S.read = 0 → S.trailers = [] →
            run S (l.drop (b - i)) b body = if (l.drop (b - i)).length < n then ⟨body ++ l.drop (b - i), b + (l.drop (b - i)).length, false, false, []⟩
              else if (endedR ((l.drop (b - i)).drop n) (b + n)).2 < 1 then ⟨body ++ (l.drop (b - i)).take n, (endedR ((l.drop (b - i)).drop n) (b + n)).1, false, decide ((endedR ((l.drop (b - i)).drop n) (b + n)).2 < 0), []⟩
              else readR f (((l.drop (b - i)).drop n).drop 2) (endedR ((l.drop (b - i)).drop n) (b + n)).1 (body ++ (l.drop (b - i)).take n) := by
          intro S h3 hl hlo' hdi' hre' htr'
          rw [run_data _ S _ _ h3 (by omega), hl]
          by_cases hs : (l.drop (b - i)).length < n
          · rw [if_pos hs, if_pos hs]
          · rw [if_neg hs, if_neg hs, run_out _ _ _ _ rfl]
            split
            · rfl
            · exact ih _ _ _ _ rfl hlo' hdi' rfl hre' htr' (by simp at hs ⊢; omega)
        exact key _ (by simp [sizedTo, hn]) rfl rfl rfl hre htr





/-- what a piece does to a reader: the state behind it, the body that came, how far it was read, 0: more is to come, 1: the end, 2: a wrong byte -/
def feed : St → Bs → Nat → Bs → St × Bs × Nat × Nat
  | s, [], i, b => (s, b, i, 0)
  | s, c :: l, i, b =>
    if s.at_ = 3 then feed { s with at_ := if s.left - 1 = 0 then 4 else 3, left := s.left - 1, total := s.total + 1 } l (i + 1) (b ++ [c])
    else if (step s c).2 = false then ({ (step s c).1 with at_ := 12 }, b, i, 2)
    else if (step s c).1.at_ = 11 then ((step s c).1, b, i + 1, 1)
    else feed (step s c).1 l (i + 1) b

theorem run_feed (l : Bs) : ∀ (s : St) (i : Nat) (b : Bs), run s l i b = ⟨(feed s l i b).2.1, (feed s l i b).2.2.1, decide ((feed s l i b).2.2.2 = 1), decide ((feed s l i b).2.2.2 = 2), if (feed s l i b).2.2.2 = 1 then (feed s l i b).1.trailers else []⟩ := by
  induction l with
  | nil => intro s i b; rw [run_nil]; simp [feed]
  | cons c l ih =>
    intro s i b
    rw [run, feed]
    split
    · exact ih _ _ _
    · split
      · simp
      · split
        · simp
        · exact ih _ _ _

theorem feed_acc (l : Bs) : ∀ (s : St) (i : Nat) (b : Bs), feed s l i b = ((feed s l 0 []).1, b ++ (feed s l 0 []).2.1, i + (feed s l 0 []).2.2.1, (feed s l 0 []).2.2.2) := by
  induction l with
  | nil => intro s i b; simp [feed]
  | cons c l ih =>
    intro s i b
    rw [feed, feed]
    split
    · rw [ih _ (i + 1) (b ++ [c]), ih _ (0 + 1) ([] ++ [c])]
      simp [Nat.add_assoc]
    · split
      · simp
      · split
        · simp
        · rw [ih _ (i + 1) b, ih _ (0 + 1) []]
          simp [Nat.add_assoc]

theorem feed_read_le (l : Bs) : ∀ (s : St), (feed s l 0 []).2.2.1 ≤ l.length := by
  induction l with
  | nil => intro s; simp [feed]
  | cons c l ih =>
    intro s
    rw [feed]
    split
    · rw [feed_acc]; have := ih { s with at_ := if s.left - 1 = 0 then 4 else 3, left := s.left - 1, total := s.total + 1 }; simp only [List.length_cons]; omega
    · split
      · simp
      · split
        · simp
        · rw [feed_acc]; have := ih (step s c).1; simp only [List.length_cons]; omega

theorem feed_more (l : Bs) : ∀ (s : St), (feed s l 0 []).2.2.2 = 0 → (feed s l 0 []).2.2.1 = l.length := by
  induction l with
  | nil => intro s _; simp [feed]
  | cons c l ih =>
    intro s
    rw [feed]
    split
    · rw [feed_acc]; intro h; have := ih _ h; simp only [List.length_cons]; omega
    · split
      · simp
      · split
        · simp
        · rw [feed_acc]; intro h; have := ih _ h; simp only [List.length_cons]; omega

theorem feed_app (l m : Bs) : ∀ (s : St) (i : Nat) (b : Bs), feed s (l ++ m) i b = if (feed s l i b).2.2.2 = 0 then feed (feed s l i b).1 m (feed s l i b).2.2.1 (feed s l i b).2.1 else feed s l i b := by
  induction l with
  | nil => intro s i b; simp [feed]
  | cons c l ih =>
    intro s i b
    rw [List.cons_append, feed, feed]
    split
    · exact ih _ _ _
    · split
      · simp
      · split
        · simp
        · exact ih _ _ _

/-- what is read is what was fed, and nothing behind it is looked at -/
theorem feed_take (l : Bs) : ∀ (s : St), (feed s l 0 []).2.2.2 ≠ 2 → feed s (l.take (feed s l 0 []).2.2.1) 0 [] = feed s l 0 [] := by
  intro s h
  generalize hk : (feed s l 0 []).2.2.1 = k
  have e : feed s (l.take k ++ l.drop k) 0 [] = feed s l 0 [] := by rw [List.take_append_drop]
  have hle := feed_read_le l s
  by_cases h0 : (feed s (l.take k) 0 []).2.2.2 = 0
  · rw [feed_app, if_pos h0] at e
    have hm := feed_more _ _ h0
    rw [feed_acc] at e
    have e2 := congrArg (fun x => x.2.2.1) e
    have e3 := congrArg (fun x => x.2.2.2) e
    simp only [hk, hm] at e2
    have hl : (l.take k).length = k := by rw [List.length_take]; omega
    rw [hl] at e2
    cases hd : l.drop k with
    | nil => rw [hd] at e; simp [feed] at e; rw [← e]; exact Prod.ext rfl (Prod.ext rfl (Prod.ext rfl h0))
    | cons c r =>
      exfalso
      rw [hd] at e2 e3
      rw [feed] at e2 e3
      split at e2
      · rw [feed_acc] at e2; simp at e2
      · split at e2
        · rename_i h1 h2; rw [if_neg h1, if_pos h2] at e3; exact h e3.symm
        · split at e2
          · simp at e2
          · rw [feed_acc] at e2; simp at e2
  · rw [feed_app, if_neg h0] at e; exact e

theorem feed_bulk (l : Bs) : ∀ (s : St) (i : Nat) (b : Bs), s.at_ = 3 → 0 < s.left → 0 < l.length →
    feed s l i b = feed { s with at_ := if s.left - min s.left l.length = 0 then 4 else 3, left := s.left - min s.left l.length, total := s.total + min s.left l.length } (l.drop (min s.left l.length)) (i + min s.left l.length) (b ++ l.take (min s.left l.length)) := by
  induction l with
  | nil => intro s i b _ _ h; simp at h
  | cons c l ih =>
    intro s i b h3 h0 _
    rw [feed, if_pos h3]
    obtain ⟨m, hm⟩ : ∃ m, s.left = m + 1 := ⟨s.left - 1, by omega⟩
    simp only [hm, Nat.add_sub_cancel, List.length_cons]
    by_cases h1 : m = 0
    · subst h1
      have : min (0 + 1) (l.length + 1) = 1 := by omega
      rw [this]; simp
    · by_cases hl : l = []
      · subst hl
        rw [show ([] : Bs).length + 1 = 1 from rfl, show min (m + 1) 1 = 1 by omega]; simp [h1]
      · rw [if_neg h1, ih _ _ _ rfl (by simp; omega) (by cases l; exact absurd rfl hl; simp)]
        simp only []
        have : min (m + 1) (l.length + 1) = min m l.length + 1 := by omega
        rw [this]
        simp only [List.drop_succ_cons, List.take_succ_cons, List.append_assoc, List.cons_append, List.nil_append]
        have e1 : m + 1 - (min m l.length + 1) = m - min m l.length := by omega
        rw [e1]
        have e2 : i + 1 + min m l.length = i + (min m l.length + 1) := by omega
        have e3 : s.total + 1 + min m l.length = s.total + (min m l.length + 1) := by omega
        rw [e2, e3]

/-- what holds of a reader that is alive; T bounds the bytes of its body -/
structure Ok (s : St) (T : Nat) : Prop where
  at_ : s.at_ ≤ 11
  left : s.left ≤ most
  data : s.at_ = 3 → 0 < s.left
  digits : s.digits ≤ 8
  long : s.long ≤ 4096
  line : s.line.length ≤ 4096
  read : s.read ≤ 16384
  trailers : s.trailers.length ≤ 64
  total : s.total ≤ T
  small : ∀ f ∈ s.trailers, f.1.length ≤ 4096 ∧ f.2.length ≤ 4096
  sized : s.at_ = 0 → s.long = s.digits
  name : s.at_ = 7 ∨ s.at_ = 8 ∨ s.at_ = 9 → s.trailers.length < 64
  rest : s.at_ = 3 ∨ s.at_ = 4 ∨ s.at_ = 5 → s.long = 0 ∧ s.digits = 0

theorem colonCut_le (l : Bs) : (colonCut l).1.length ≤ l.length ∧ (colonCut l).2.length ≤ l.length := by
  induction l with
  | nil => simp [colonCut]
  | cons c l ih =>
    rw [colonCut]
    split
    · simp
    · simp; omega
theorem trim_le' (l : Bs) : (trim l).length ≤ l.length := by
  unfold trim
  exact Nat.le_trans (List.dropWhile_sublist _).length_le (by simpa using (List.dropWhile_sublist (p := isBlank) (l := l.reverse)).length_le)

theorem hexI_le (c : UInt8) : hexI c ≤ 15 := by
  have h0 := UInt8.toNat_lt c
  unfold hexI
  simp only [Bool.and_eq_true, decide_eq_true_eq, UInt8.le_iff_toNat_le]
  have e1 : (57 : UInt8).toNat = 57 := rfl
  have e2 : (102 : UInt8).toNat = 102 := rfl
  have e3 : (70 : UInt8).toNat = 70 := rfl
  simp only [e1, e2, e3]
  split
  · omega
  · split
    · omega
    · split <;> omega

theorem Ok.sized_ok {s : St} {T : Nat} (h : Ok s T) (h0 : s.at_ = 0) (c : UInt8) (hs : (Chunk.sized s c).2 = true) : Ok (Chunk.sized s c).1 T := by
  obtain ⟨a1, a2, a3, a4, a5, a6, a7, a8, a9, a10, a11, a12, a13⟩ := h
  have := a11 h0
  unfold Chunk.sized at hs ⊢
  simp only at hs ⊢
  split
  · rename_i hd
    exact ⟨a1, hd.2.2, fun e => by simp only at e; omega, by simp only; omega, by simp only; omega, a6, a7, a8, a9, a10, fun _ => by simp only; omega, a12, fun e => by simp only at e; omega⟩
  · rename_i hd
    rw [if_neg hd] at hs
    split at hs
    · cases hs
    · rename_i h2
      rw [if_neg h2]
      split at hs
      · rename_i h3
        rw [if_pos h3]
        exact ⟨by simp only; omega, a2, fun e => by simp only at e; omega, a4, by simp only; omega, a6, a7, a8, a9, a10, fun e => by simp only at e; omega, fun e => by simp only at e; omega, fun e => by simp only at e; omega⟩
      · rename_i h3
        rw [if_neg h3]
        exact ⟨by simp only; omega, a2, fun e => by simp only at e; omega, a4, a5, a6, a7, a8, a9, a10, fun e => by simp only at e; omega, fun e => by simp only at e; omega, fun e => by simp only at e; omega⟩

theorem Ok.lined2_ok {s : St} {T : Nat} (h : Ok s T) (h0 : s.at_ = 7 ∨ s.at_ = 8) (c : UInt8) (hs : (lined2 s c).2 = true) : Ok (lined2 s c).1 T := by
  obtain ⟨a1, a2, a3, a4, a5, a6, a7, a8, a9, a10, a11, a12, a13⟩ := h
  have a12' : s.trailers.length < 64 := a12 (by omega)
  unfold lined2 at hs ⊢
  simp only at hs ⊢
  split
  · rename_i hd; rw [if_pos hd] at hs; cases hs
  · rename_i hd
    rw [if_neg hd] at hs
    have hr : s.read + 1 ≤ 16384 := by omega
    split
    · exact ⟨by simp only; omega, a2, fun e => by simp only at e; omega, a4, a5, a6, by simp only; omega, a8, a9, a10, fun e => by simp only at e; omega, fun _ => a12', fun e => by simp only at e; omega⟩
    · rename_i h13
      rw [if_neg h13] at hs
      have hl : s.line.length + 1 ≤ 4096 := by
        have : s.line.length ≠ 4096 := fun e => hd (Or.inr ⟨h13, e⟩)
        omega
      split
      · rename_i h7
        rw [if_pos h7] at hs
        split
        · rename_i hn; rw [if_pos hn] at hs; cases hs
        · exact ⟨by simp only; omega, a2, fun e => by simp only at e; omega, a4, a5, by simpa using hl, by simp only; omega, a8, a9, a10, fun e => by simp only at e; omega, fun _ => a12', fun e => by simp only at e; omega⟩
      · rename_i h7
        rw [if_neg h7] at hs
        split
        · rename_i h8; rw [if_pos h8] at hs; cases hs
        · exact ⟨a1, a2, a3, a4, a5, by simpa using hl, by simp only; omega, a8, a9, a10, fun e => by simp only at e; omega, fun _ => a12', fun e => by simp only at e; omega⟩

theorem Ok.step_ok {s : St} {T : Nat} (h : Ok s T) (_h3 : s.at_ ≠ 3) (c : UInt8) (hs : (step s c).2 = true) : Ok (step s c).1 T := by
  have hh := h
  obtain ⟨a1, a2, a3, a4, a5, a6, a7, a8, a9, a10, a11, a12, a13⟩ := h
  unfold step at hs ⊢
  split
  · rename_i h0; rw [if_pos h0] at hs; exact hh.sized_ok h0 c hs
  · rename_i h0
    rw [if_neg h0] at hs
    split
    · rename_i h1
      rw [if_pos h1] at hs
      split
      · exact ⟨by simp only; omega, a2, fun e => by simp only at e; omega, a4, a5, a6, a7, a8, a9, a10, fun e => by simp only at e; omega, fun e => by simp only at e; omega, fun e => by simp only at e; omega⟩
      · rename_i h13
        rw [if_neg h13] at hs
        simp only [Bool.and_eq_true, decide_eq_true_eq] at hs
        exact ⟨a1, a2, a3, a4, hs.2, a6, a7, a8, a9, a10, fun e => by simp only at e; omega, fun e => by simp only at e; omega, fun e => by simp only at e; omega⟩
    · rename_i h1
      rw [if_neg h1] at hs
      split
      · rename_i h6
        rw [if_pos h6] at hs
        unfold lined at hs ⊢
        split
        · rename_i h66
          rw [if_pos h66] at hs
          split
          · exact ⟨by simp only; omega, a2, fun e => by simp only at e; omega, a4, a5, a6, a7, a8, a9, a10, fun e => by simp only at e; omega, fun e => by simp only at e; omega, fun e => by simp only at e; omega⟩
          · rename_i h13
            rw [if_neg h13] at hs
            split
            · rename_i h64; rw [if_pos h64] at hs; cases hs
            · rename_i h64
              rw [if_neg h64] at hs
              exact Ok.lined2_ok (s := { s with at_ := 7, line := [] }) ⟨by simp only; omega, a2, fun e => by simp only at e; omega, a4, a5, by simp, a7, a8, a9, a10, fun e => by simp only at e; omega, fun _ => by simp only; omega, fun e => by simp only at e; omega⟩ (Or.inl rfl) c hs
        · rename_i h66
          rw [if_neg h66] at hs
          exact hh.lined2_ok (by omega) c hs
      · rename_i h6
        rw [if_neg h6] at hs
        split
        · exact ⟨by simp only; omega, a2, fun e => by simp only at e; omega, a4, a5, a6, a7, a8, a9, a10, fun e => by simp only at e; omega, fun e => by simp only at e; omega, fun _ => a13 (by omega)⟩
        · rename_i h4
          rw [if_neg h4] at hs
          split
          · by_cases hl : s.left = 0
            · simp only [hl, if_true]
              exact ⟨by simp only; omega, by simp only [most]; omega, fun e => by simp only at e; omega, by simp only; omega, by simp only; omega, a6, a7, a8, a9, a10, fun e => by simp only at e; omega, fun e => by simp only at e; omega, fun _ => ⟨rfl, rfl⟩⟩
            · simp only [if_neg hl]
              exact ⟨by simp only; omega, a2, fun _ => by simp only; omega, by simp only; omega, by simp only; omega, a6, a7, a8, a9, a10, fun e => by simp only at e; omega, fun e => by simp only at e; omega, fun _ => ⟨rfl, rfl⟩⟩
          · rename_i h2
            rw [if_neg h2] at hs
            split
            · have := a13 (by omega)
              exact ⟨by simp only; omega, a2, fun e => by simp only at e; omega, a4, a5, a6, a7, a8, a9, a10, fun _ => by simp only; omega, fun e => by simp only at e; omega, fun e => by simp only at e; omega⟩
            · rename_i h5
              rw [if_neg h5] at hs
              split
              · rename_i h9
                rw [if_pos h9] at hs
                split
                · rename_i hr; rw [if_pos hr] at hs; cases hs
                · rename_i hr
                  have hl := a12 (by omega)
                  have hc := colonCut_le s.line
                  have ht := trim_le' (colonCut s.line).2
                  unfold ended
                  exact ⟨by simp only; omega, a2, fun e => by simp only at e; omega, a4, a5, by simp, by simp only; omega, by simp only [List.length_append, List.length_cons, List.length_nil]; omega, a9, by
                    intro f hf
                    simp only [List.mem_append, List.mem_singleton] at hf
                    rcases hf with hf | rfl
                    · exact a10 f hf
                    · exact ⟨by simp only; omega, by simp only; omega⟩, fun e => by simp only at e; omega, fun e => by simp only at e; omega, fun e => by simp only at e; omega⟩
              · split
                · exact ⟨by simp only; omega, a2, fun e => by simp only at e; omega, a4, a5, a6, a7, a8, a9, a10, fun e => by simp only at e; omega, fun e => by simp only at e; omega, fun e => by simp only at e; omega⟩
                · exact hh

theorem Ok.mono {s : St} {T T' : Nat} (h : Ok s T) (hT : T ≤ T') : Ok s T' := ⟨h.at_, h.left, h.data, h.digits, h.long, h.line, h.read, h.trailers, Nat.le_trans h.total hT, h.small, h.sized, h.name, h.rest⟩
theorem Ok.data_ok {s : St} {T : Nat} (h : Ok s T) (h3 : s.at_ = 3) (n : Nat) (hn : n ≤ s.left) : Ok { s with at_ := if s.left - n = 0 then 4 else 3, left := s.left - n, total := s.total + n } (T + n) := by
  have hr := h.rest (by omega)
  obtain ⟨a1, a2, a3, a4, a5, a6, a7, a8, a9, a10, a11, a12, a13⟩ := h
  by_cases e : s.left - n = 0
  · rw [if_pos e]; exact ⟨by simp only; omega, by simp only [most]; omega, fun e => by simp only at e; omega, a4, a5, a6, a7, a8, by simp only; omega, a10, fun e => by simp only at e; omega, fun e => by simp only at e; omega, fun _ => hr⟩
  · rw [if_neg e]; exact ⟨by simp only; omega, by simp only; omega, fun _ => by simp only; omega, a4, a5, a6, a7, a8, by simp only; omega, a10, fun e => by simp only at e; omega, fun e => by simp only at e; omega, fun _ => hr⟩
theorem Ok.init : Ok {} 0 := ⟨by decide, by decide, (fun e => by cases e), by decide, by decide, by decide, by decide, by decide, by decide, (fun f hf => by cases hf), (fun _ => rfl), (fun e => by simp at e), (fun e => by simp at e)⟩

theorem feed_ok (l : Bs) : ∀ (s : St) (T : Nat), Ok s T → (feed s l 0 []).2.2.2 ≠ 2 → Ok (feed s l 0 []).1 (T + l.length) := by
  induction l with
  | nil => intro s T h _; simpa [feed] using h
  | cons c l ih =>
    intro s T h hk
    rw [feed] at hk ⊢
    split
    · rename_i h3
      rw [if_pos h3] at hk
      rw [feed_acc] at hk ⊢
      have := ih _ (T + 1) (h.data_ok h3 1 (h.data h3)) hk
      exact this.mono (by simp only [List.length_cons]; omega)
    · rename_i h3
      rw [if_neg h3] at hk
      split
      · rename_i h2; rw [if_pos h2] at hk; exact absurd rfl hk
      · rename_i h2
        rw [if_neg h2] at hk
        have h2' : (step s c).2 = true := by simpa using h2
        have ho := h.step_ok h3 c h2'
        split
        · exact ho.mono (by omega)
        · rename_i h11
          rw [if_neg h11] at hk
          rw [feed_acc] at hk ⊢
          exact (ih _ T ho hk).mono (by simp only [List.length_cons]; omega)

theorem step_total (s : St) (c : UInt8) : (step s c).1.total = s.total := by
  unfold step sized lined lined2 ended
  repeat' split
  all_goals first | rfl | (simp only; repeat' split) <;> rfl
theorem feed_total (l : Bs) : ∀ (s : St), (feed s l 0 []).1.total = s.total + (feed s l 0 []).2.1.length := by
  induction l with
  | nil => intro s; simp [feed]
  | cons c l ih =>
    intro s
    rw [feed]
    split
    · rw [feed_acc, ih]; simp; omega
    · split
      · simp [step_total]
      · split
        · simp [step_total]
        · rw [feed_acc, ih, step_total]; simp




theorem feed_cons3 {s : St} (c : UInt8) (l : Bs) (h3 : s.at_ = 3) : feed s (c :: l) 0 [] = ((feed { s with at_ := if s.left - 1 = 0 then 4 else 3, left := s.left - 1, total := s.total + 1 } l 0 []).1, c :: (feed { s with at_ := if s.left - 1 = 0 then 4 else 3, left := s.left - 1, total := s.total + 1 } l 0 []).2.1, (feed { s with at_ := if s.left - 1 = 0 then 4 else 3, left := s.left - 1, total := s.total + 1 } l 0 []).2.2.1 + 1, (feed { s with at_ := if s.left - 1 = 0 then 4 else 3, left := s.left - 1, total := s.total + 1 } l 0 []).2.2.2) := by
  rw [feed, if_pos h3, feed_acc, Nat.add_comm (0 + 1)]; rfl
theorem feed_cons {s : St} (c : UInt8) (l : Bs) (h3 : s.at_ ≠ 3) (h2 : ¬ (step s c).2 = false) (h11 : (step s c).1.at_ ≠ 11) : feed s (c :: l) 0 [] = ((feed (step s c).1 l 0 []).1, (feed (step s c).1 l 0 []).2.1, (feed (step s c).1 l 0 []).2.2.1 + 1, (feed (step s c).1 l 0 []).2.2.2) := by
  rw [feed, if_neg h3, if_neg h2, if_neg h11, feed_acc, Nat.add_comm (0 + 1)]; rfl
theorem feed_wrong (l : Bs) : ∀ (s : St), (feed s l 0 []).2.2.2 = 2 → ∃ s', feed s (l.take (feed s l 0 []).2.2.1) 0 [] = (s', (feed s l 0 []).2.1, (feed s l 0 []).2.2.1, 0) := by
  induction l with
  | nil => intro s h; simp [feed] at h
  | cons c l ih =>
    intro s h
    by_cases h3 : s.at_ = 3
    · rw [feed_cons3 c l h3] at h ⊢
      obtain ⟨s', hs⟩ := ih _ h
      simp only [List.take_succ_cons]
      rw [feed_cons3 c _ h3, hs]
      exact ⟨s', rfl⟩
    · by_cases h2 : (step s c).2 = false
      · have e : feed s (c :: l) 0 [] = ({ (step s c).1 with at_ := 12 }, [], 0, 2) := by rw [feed, if_neg h3, if_pos h2]
        rw [e]
        exact ⟨s, by simp [feed]⟩
      · by_cases h11 : (step s c).1.at_ = 11
        · rw [feed, if_neg h3, if_neg h2, if_pos h11] at h; simp at h
        · rw [feed_cons c l h3 h2 h11] at h ⊢
          obtain ⟨s', hs⟩ := ih _ h
          simp only [List.take_succ_cons]
          rw [feed_cons c _ h3 h2 h11, hs]
          exact ⟨s', rfl⟩

/-- what the document's reader has read -/
def readOf (l : Bs) : Out := readR (l.length + 1) l 0 []
theorem readOf_feed (l : Bs) : readOf l = ⟨(feed {} l 0 []).2.1, (feed {} l 0 []).2.2.1, decide ((feed {} l 0 []).2.2.2 = 1), decide ((feed {} l 0 []).2.2.2 = 2), if (feed {} l 0 []).2.2.2 = 1 then (feed {} l 0 []).1.trailers else []⟩ := by
  rw [readOf, ← run_read (l.length + 1) l {} 0 [] rfl rfl rfl rfl rfl rfl (by omega), run_feed]

/-- all bytes so far, alive: the reader's state is s, the body so far b -/
def Alive (all : Bs) (s : St) (b : Bs) : Prop := feed {} all 0 [] = (s, b, all.length, 0)
theorem Alive.init : Alive [] {} [] := rfl
theorem Alive.read {all : Bs} {s : St} {b : Bs} (h : Alive all s b) : readOf all = ⟨b, all.length, false, false, []⟩ := by
  unfold Alive at h
  rw [readOf_feed, h]; rfl
theorem Alive.total {all : Bs} {s : St} {b : Bs} (h : Alive all s b) : s.total = b.length := by
  unfold Alive at h
  have := feed_total all {}
  rw [h] at this
  simpa using this
theorem Alive.ok {all : Bs} {s : St} {b : Bs} (h : Alive all s b) : Ok s all.length := by
  unfold Alive at h
  have := feed_ok all {} 0 Ok.init (by rw [h]; simp)
  rw [h] at this
  simpa using this
theorem Alive.feed_all {all : Bs} {s : St} {b : Bs} (h : Alive all s b) (p : Bs) : feed {} (all ++ p) 0 [] = ((feed s p 0 []).1, b ++ (feed s p 0 []).2.1, all.length + (feed s p 0 []).2.2.1, (feed s p 0 []).2.2.2) := by
  unfold Alive at h
  rw [feed_app, h]
  simp only [if_true]
  exact feed_acc _ _ _ _
/-- the next piece -/
theorem Alive.next {all : Bs} {s : St} {b : Bs} (h : Alive all s b) (p : Bs) : readOf (all ++ p) = ⟨b ++ (feed s p 0 []).2.1, all.length + (feed s p 0 []).2.2.1, decide ((feed s p 0 []).2.2.2 = 1), decide ((feed s p 0 []).2.2.2 = 2), if (feed s p 0 []).2.2.2 = 1 then (feed s p 0 []).1.trailers else []⟩ := by
  rw [readOf_feed, h.feed_all]
theorem Alive.goes {all : Bs} {s : St} {b : Bs} (h : Alive all s b) (p : Bs) (h0 : (feed s p 0 []).2.2.2 = 0) : Alive (all ++ p) (feed s p 0 []).1 (b ++ (feed s p 0 []).2.1) := by
  unfold Alive
  rw [h.feed_all, feed_more _ _ h0, h0, List.length_append]
theorem Alive.cut {all : Bs} {s : St} {b : Bs} (h : Alive all s b) (p : Bs) : readOf (all ++ p.take (feed s p 0 []).2.2.1) = ⟨b ++ (feed s p 0 []).2.1, all.length + (feed s p 0 []).2.2.1, decide ((feed s p 0 []).2.2.2 = 1), false, if (feed s p 0 []).2.2.2 = 1 then (feed s p 0 []).1.trailers else []⟩ := by
  rw [h.next]
  by_cases h2 : (feed s p 0 []).2.2.2 = 2
  · obtain ⟨s', hs⟩ := feed_wrong p s h2
    rw [hs]; simp [h2]
  · rw [feed_take p s h2]; simp [h2]
theorem Alive.dead_total {all : Bs} {s : St} {b : Bs} (h : Alive all s b) (p : Bs) : (feed s p 0 []).1.total = (b ++ (feed s p 0 []).2.1).length := by
  rw [feed_total, h.total, List.length_append]


end Chunk
end Go.Proofs.YtklmpadcfioefaaGreatDoor