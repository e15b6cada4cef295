/- Plain words on hosts, lengths and framings (chapter 24). No program in sight. No condition. -/
import Derived.Test.YtklmpadcfioefaaDoorMB
namespace Go.Proofs.YtklmpadcfioefaaDoor

def isHostC (c : UInt8) : Bool := (97 ≤ c && c ≤ 122) || (65 ≤ c && c ≤ 90) || (48 ≤ c && c ≤ 57) || c == 45 || c == 46
def portP (s : Bs) : Bs := match cutAt 58 s with
  | none => []
  | some p => p.2
def hostOf (s : Bs) : Bs := match cutAt 58 s with
  | none => s
  | some p => p.1
def authP (s : Bs) : Option Bs :=
  if hostOf s = [] ∨ 5 < (portP s).length then none
  else if (portP s).all isDigit = true ∧ (hostOf s).all isHostC = true then some (fold (hostOf s)) else none
def hostedL (mn : Int) : List ByteArray → Bool
  | [] => !(decide (mn = 1))
  | [v] => v.data.toList.isEmpty || (authP v.data.toList).isSome
  | _ :: _ :: _ => false
def hostedP (mn : Int) (fs : List Fl) : Bool := hostedL mn (vals fs sHost)
def lengthP : List ByteArray → Option Nat
  | [] => none
  | a :: r => if 15 < a.size then none else if a.data.toList.all isDigit = true ∧ (∀ b ∈ r, b = a) then some (numP a.data.toList) else none
theorem lengthP_cons (a : ByteArray) (r : List ByteArray) : lengthP (a :: r) = if 15 < a.size then none else if a.data.toList.all isDigit = true ∧ (∀ b ∈ r, b = a) then some (numP a.data.toList) else none := rfl
def bChunked : Bs := [99, 104, 117, 110, 107, 101, 100]
def codedP (mn : Int) (fs : List Fl) : Bool := decide (mn = 1) && (vals fs sLen).isEmpty && ((listed (vals fs sCod)).map fd == [bChunked])
/-- which framing, which length, which error -/
def framingP (rq hd : Bool) (st mn : Int) (fs : List Fl) : Nat × Nat × Nat :=
  if rq = true ∧ hostedP mn fs = false then (0, 0, 240)
  else if rq = false ∧ (100 ≤ st ∧ st ≤ 199 ∨ st = 204 ∨ st = 304 ∨ hd = true) then (0, 0, 0)
  else if vals fs sCod ≠ [] then (if codedP mn fs = true then (2, 0, 0) else (0, 0, 240))
  else if vals fs sLen ≠ [] then (match lengthP (listed (vals fs sLen)) with
    | none => (0, 0, 240)
    | some n => (1, n, 0))
  else if rq = true then (0, 0, 0) else (3, 0, 0)

theorem numF_snoc (l : Bs) (c : UInt8) : numP (l ++ [c]) = 10 * numP l + (c.toNat - 48) := by
  unfold numP; rw [List.foldl_append]; rfl

/-! ### law 25's authority -/
def preH (s : Bs) : Bs := s.takeWhile isHostC
def authL (s : Bs) : Bool :=
  !(preH s).isEmpty && (match s.drop (preH s).length with
    | [] => true
    | c :: r => c == 58 && decide (r.length ≤ 5) && r.all isDigit)
theorem colon_no : isHostC 58 = false := by decide
theorem take_all : ∀ s : Bs, (preH s).all isHostC = true
  | [] => rfl
  | c :: t => by
    unfold preH
    rw [List.takeWhile_cons]
    split
    · rename_i h; rw [List.all_cons, h]; exact take_all t
    · rfl
theorem pre_parts : ∀ s : Bs, s = preH s ++ s.drop (preH s).length
  | [] => rfl
  | c :: t => by
    unfold preH
    rw [List.takeWhile_cons]
    split
    · have := pre_parts t
      unfold preH at this
      simp only [List.length_cons, List.drop_succ_cons, List.cons_append]
      rw [← this]
    · rfl
theorem all_no {c : UInt8} {l : Bs} (h : l.all isHostC = true) (hc : isHostC c = false) : c ∉ l := fun hm => by
  have := List.all_eq_true.1 h c hm
  rw [hc] at this
  cases this
theorem pre_stop : ∀ (s : Bs) (c : UInt8) (r : Bs), s.drop (preH s).length = c :: r → isHostC c = false
  | [], c, r, h => by simp [preH] at h
  | x :: t, c, r, h => by
    unfold preH at h
    rw [List.takeWhile_cons] at h
    split at h
    · rename_i hx
      rw [List.length_cons, List.drop_succ_cons] at h
      exact pre_stop t c r h
    · rename_i hx
      rw [List.length_nil, List.drop_zero] at h
      injection h with h1 h2
      rw [← h1]
      simpa using hx
theorem authL_eq (s : Bs) : authL s = (authP s).isSome := by
  have h1 := pre_parts s
  have h2 := take_all s
  unfold authL authP
  cases hd : s.drop (preH s).length with
  | nil =>
    rw [hd, List.append_nil] at h1
    have hc : cutAt 58 s = none := cutAt_none.2 (by rw [h1]; exact all_no h2 colon_no)
    have e1 : portP s = [] := by unfold portP; rw [hc]
    have e2 : hostOf s = s := by unfold hostOf; rw [hc]
    rw [e1, e2, ← h1]
    rw [← h1] at h2
    cases s with
    | nil => rfl
    | cons c t => simp [h2]
  | cons c r =>
    rw [hd] at h1
    have hs := pre_stop s c r hd
    by_cases h58 : c = 58
    · subst h58
      have hc : cutAt 58 s = some (preH s, r) := cutAt_some.2 ⟨h1, all_no h2 colon_no⟩
      have e1 : portP s = r := by unfold portP; rw [hc]
      have e2 : hostOf s = preH s := by unfold hostOf; rw [hc]
      rw [e1, e2]
      by_cases hn : preH s = []
      · simp [hn]
      · by_cases h5 : r.length ≤ 5
        · have h6 : ¬ 5 < r.length := by omega
          have hf : (preH s).isEmpty = false := by simpa using hn
          simp only [hn, h6, or_self, if_false, h2, and_true, hf, Bool.not_false, Bool.true_and, beq_self_eq_true, h5, decide_true]
          cases hr : r.all isDigit <;> simp
        · have h6 : 5 < r.length := by omega
          simp [h6, h5]
    · have hne : (c == 58) = false := by simpa using h58
      simp only [hne, Bool.false_and, Bool.and_false]
      have hno : (hostOf s).all isHostC = false := by
        have hm : c ∈ hostOf s := by
          unfold hostOf
          cases hc : cutAt 58 s with
          | none => rw [h1]; simp
          | some p =>
            obtain ⟨a, b⟩ := p
            obtain ⟨q1, q2⟩ := cutAt_some.1 hc
            show c ∈ a
            have q3 : preH s ++ c :: r = a ++ 58 :: b := by rw [← h1]; exact q1
            rcases List.append_eq_append_iff.1 q3 with ⟨u, hu, hv⟩ | ⟨u, hu, hv⟩
            · cases u with
              | nil => simp only [List.nil_append, List.cons.injEq] at hv; exact absurd hv.1 h58
              | cons y u => simp only [List.cons_append, List.cons.injEq] at hv; rw [hu, hv.1]; simp
            · exfalso
              cases u with
              | nil => simp only [List.nil_append, List.cons.injEq] at hv; exact h58 hv.1.symm
              | cons y u =>
                simp only [List.cons_append, List.cons.injEq] at hv
                rw [hu] at h2
                have := List.all_eq_true.1 h2 58 (by rw [hv.1]; simp)
                rw [colon_no] at this
                cases this
        cases hq : (hostOf s).all isHostC with
        | false => rfl
        | true => have := List.all_eq_true.1 hq c hm; rw [hs] at this; cases this
      rw [hno]
      simp

/-! ### lists of one text -/
theorem trim_none {s : Bs} (h : s.all (fun c => !(isBlank c)) = true) : trim s = s := by
  have e : ∀ l : Bs, l.all (fun c => !(isBlank c)) = true → l.dropWhile isBlank = l := fun l hl => by
    cases l with
    | nil => rfl
    | cons c t =>
      rw [List.all_cons, Bool.and_eq_true] at hl
      rw [List.dropWhile_cons, if_neg (by simpa using hl.1)]
  unfold trim
  rw [e s.reverse (by rw [List.all_reverse]; exact h), List.reverse_reverse, e _ h]
theorem listed_one {v : ByteArray} (h1 : (44 : UInt8) ∉ v.data.toList) (h2 : v.data.toList.all (fun c => !(isBlank c)) = true) (h3 : v.data.toList ≠ []) : listed [v] = [v] := by
  unfold listed
  rw [List.flatMap_cons, List.flatMap_nil, List.append_nil, pieces_none _ _ h1]
  unfold sel
  rw [List.map_cons, List.map_nil, List.nil_append, trim_none h2, List.filter_cons, if_pos (by simpa using h3)]
  rfl
theorem digits_plain {l : Bs} (h : l.all isDigit = true) : (44 : UInt8) ∉ l ∧ l.all (fun c => !(isBlank c)) = true := by
  refine ⟨fun hm => ?_, ?_⟩
  · have := List.all_eq_true.1 h 44 hm
    revert this; decide
  · rw [List.all_eq_true]
    intro c hc
    have := List.all_eq_true.1 h c hc
    unfold isDigit at this
    unfold isBlank
    simp only [Bool.and_eq_true, decide_eq_true_eq] at this
    rw [Bool.not_eq_true', Bool.or_eq_false_iff, beq_eq_false_iff_ne, beq_eq_false_iff_ne]
    constructor
    · rintro rfl; exact absurd this.1 (by decide)
    · rintro rfl; exact absurd this.1 (by decide)
end Go.Proofs.YtklmpadcfioefaaDoor
