/- Plain words on what is written in chunks, and that it is read back. No program in sight. No condition. -/
import Derived.Test.YtabecgdaiakgiaaDoorChunk
namespace Go.Proofs.YtabecgdaiakgiaaDoor
namespace Chunk

def hexDig (d : Nat) : UInt8 := if d < 10 then UInt8.ofNat (48 + d) else UInt8.ofNat (87 + d)
def hexD (n : Nat) : Bs := if _h : n < 16 then [hexDig n] else hexD (n / 16) ++ [hexDig (n % 16)]
decreasing_by omega
/-- a chunk -/
def writeC (p : Bs) : Bs := if p = [] then [] else hexD p.length ++ [13, 10] ++ p ++ [13, 10]
def lineF (f : Bs × Bs) : Bs := f.1 ++ [58, 32] ++ f.2
def linesF : List (Bs × Bs) → Bs
  | [] => []
  | f :: fs => lineF f ++ [13, 10] ++ linesF fs
/-- the end with its trailers -/
def lastB (fs : List (Bs × Bs)) : Bs := [48, 13, 10] ++ linesF fs ++ [13, 10]
def okF (f : Bs × Bs) (ahead : Nat) : Bool := token f.1 && decide ((lineF f).length ≤ 4096) && decide (ahead + (lineF f).length + 2 ≤ 16384) && (trim f.2 == f.2) && f.2.all plain
def okFs : List (Bs × Bs) → Nat → Nat → Bool
  | [], _, _ => true
  | f :: fs, i, ahead => okF f ahead && decide (i < 64) && okFs fs (i + 1) (ahead + (lineF f).length + 2)
/-- what Last answers: its bytes, its number -/
def lastP (fs : List (Bs × Bs)) : Bs × Nat := if okFs fs 0 0 then (lastB fs, 0) else ([], 2)

theorem plain_13 : plain 13 = false := by decide
theorem hexI_dig (d : Nat) (h : d < 16) : hexI (hexDig d) = d := by
  have : ∀ d : Fin 16, hexI (hexDig d.val) = d.val := by decide
  exact this ⟨d, h⟩
theorem hexD_small {n : Nat} (h : n < 16) : hexD n = [hexDig n] := by rw [hexD, dif_pos h]
theorem hexD_big {n : Nat} (h : ¬ n < 16) : hexD n = hexD (n / 16) ++ [hexDig (n % 16)] := by rw [hexD, dif_neg h]
theorem hexD_len (k : Nat) : ∀ n, n < 16 ^ (k + 1) → (hexD n).length ≤ k + 1 := by
  induction k with
  | zero => intro n h; rw [hexD_small (by omega)]; simp
  | succ k ih =>
    intro n h
    by_cases h16 : n < 16
    · rw [hexD_small h16]; simp
    · rw [hexD_big h16]
      have : n / 16 < 16 ^ (k + 1) := by
        rw [Nat.div_lt_iff_lt_mul (by omega)]; rw [Nat.pow_succ] at h; exact h
      have := ih _ this
      simp; omega
theorem hexD_len8 {n : Nat} (h : n ≤ most) : (hexD n).length ≤ 8 := hexD_len 7 n (by unfold most at h; omega)
theorem hexD_pos (n : Nat) : 0 < (hexD n).length := by
  by_cases h : n < 16
  · rw [hexD_small h]; simp
  · rw [hexD_big h]; simp

theorem sizeA_dig {c : UInt8} {d : Nat} (hc : hexI c = d) (l : Bs) (i k n : Nat) (hk : k ≠ 8) (hm : 16 * n + d ≤ most) : sizeA (c :: l) i k n = sizeA l (i + 1) (k + 1) (16 * n + d) := by
  rw [sizeA, hc, if_pos (by omega), if_neg (by rw [Int.toNat_natCast]; rintro (h | h); exact hk h; omega), Int.toNat_natCast]
theorem sizeA_hexD (n : Nat) : ∀ (r : Bs) (i : Nat), n ≤ most → sizeA (hexD n ++ r) i 0 0 = sizeA r (i + (hexD n).length) (hexD n).length n := by
  induction n using Nat.strongRecOn with
  | ind n ih =>
    intro r i hn
    by_cases h16 : n < 16
    · rw [hexD_small h16, List.singleton_append, sizeA_dig (hexI_dig n h16) r i 0 0 (by omega) (by omega)]; simp
    · have h1 := hexD_len8 hn
      rw [hexD_big h16] at h1 ⊢
      rw [List.append_assoc, ih (n / 16) (by omega) _ _ (by omega), List.singleton_append]
      simp only [List.length_append, List.length_cons, List.length_nil] at h1 ⊢
      rw [sizeA_dig (hexI_dig (n % 16) (by omega)) r _ _ _ (by omega) (by omega)]
      rw [show 16 * (n / 16) + n % 16 = n by omega, Nat.add_assoc, Nat.zero_add]
theorem sizeA_end (r : Bs) (i k n : Nat) (hk : 0 < k) : sizeA (13 :: 10 :: r) i k n = (n, i + 2, 1) := by
  rw [sizeA, hexI_13, if_neg (by omega), if_neg (by rintro (h | h); omega; exact absurd h (by decide)), sizeB, if_pos rfl]; simp [endedR]
theorem writeC_nil : writeC [] = [] := rfl
theorem writeC_cons {p : Bs} (h : p ≠ []) : writeC p = hexD p.length ++ [13, 10] ++ p ++ [13, 10] := by rw [writeC, if_neg h]
theorem readR_chunk {p : Bs} (hp : p ≠ []) (hm : p.length ≤ most) (f : Nat) (r : Bs) (i : Nat) (body : Bs) : readR (f + 1) (writeC p ++ r) i body = readR f r (i + (writeC p).length) (body ++ p) := by
  have hl : 0 < p.length := by cases p with
    | nil => exact absurd rfl hp
    | cons _ _ => simp
  have e1 : writeC p ++ r = hexD p.length ++ (13 :: 10 :: (p ++ 13 :: 10 :: r)) := by rw [writeC_cons hp]; simp
  rw [e1]
  simp only [readR]
  rw [sizeA_hexD _ _ _ hm, sizeA_end _ _ _ _ (hexD_pos _)]
  simp only []
  rw [if_neg (by omega), if_neg (by omega)]
  have e2 : i + (hexD p.length).length + 2 - i = (hexD p.length).length + 2 := by omega
  have e3 : (hexD p.length ++ (13 :: 10 :: (p ++ 13 :: 10 :: r))).drop ((hexD p.length).length + 2) = p ++ 13 :: 10 :: r := by
    rw [show hexD p.length ++ (13 :: 10 :: (p ++ 13 :: 10 :: r)) = (hexD p.length ++ [13, 10]) ++ (p ++ 13 :: 10 :: r) by simp]
    rw [show (hexD p.length).length + 2 = (hexD p.length ++ [13, 10]).length by simp]
    exact List.drop_left
  rw [e2, e3, if_neg (by simp), List.drop_left, List.take_left]
  have e4 : ∀ j, endedR (13 :: 10 :: r) j = (j + 2, 1) := fun j => by simp [endedR]
  rw [e4]
  simp only []
  rw [if_neg (by omega)]
  have e5 : i + (hexD p.length).length + 2 + p.length + 2 = i + (writeC p).length := by rw [writeC_cons hp]; simp; omega
  rw [e5]; rfl
/-- chunks -/
def chunks (ps : List Bs) : Bs := (ps.map writeC).flatten
theorem readR_chunks (r : Bs) : ∀ (ps : List Bs) (f i : Nat) (body : Bs), (∀ p ∈ ps, p.length ≤ most) → (chunks ps).length ≤ f → ∃ f', f - (chunks ps).length ≤ f' ∧ readR f (chunks ps ++ r) i body = readR f' r (i + (chunks ps).length) (body ++ ps.flatten) := by
  intro ps
  induction ps with
  | nil => intro f i body _ _; exact ⟨f, Nat.sub_le _ _, by simp [chunks]⟩
  | cons p ps ih =>
    intro f i body hm hf
    have e : chunks (p :: ps) = writeC p ++ chunks ps := by simp [chunks]
    rw [e] at hf ⊢
    by_cases hp : p = []
    · subst hp
      rw [writeC_nil] at hf ⊢
      simpa using ih f i body (fun q hq => hm q (by simp [hq])) (by simpa using hf)
    · have hl : 0 < (writeC p).length := by rw [writeC_cons hp]; simp; omega
      simp only [List.length_append] at hf ⊢
      obtain ⟨f0, rfl⟩ : ∃ f0, f = f0 + 1 := ⟨f - 1, by omega⟩
      rw [List.append_assoc, readR_chunk hp (hm p (by simp))]
      obtain ⟨f', h1, h2⟩ := ih f0 (i + (writeC p).length) (body ++ p) (fun q hq => hm q (by simp [hq])) (by omega)
      refine ⟨f', by omega, ?_⟩
      rw [h2]; simp [Nat.add_assoc]

theorem lineF_len (f : Bs × Bs) : (lineF f).length = f.1.length + 2 + f.2.length := by simp [lineF]; omega
theorem fieldA_name (s : Bs) : ∀ (r : Bs) (i ahead k : Nat) (nm : Bs), (∀ c ∈ s, isTok c = true) → ahead + k + s.length ≤ 16384 → k + s.length ≤ 4096 →
    fieldA (s ++ r) i ahead k nm none = fieldA r (i + s.length) ahead (k + s.length) (nm ++ s) none := by
  induction s with
  | nil => intro r i ahead k nm _ _ _; simp
  | cons c s ih =>
    intro r i ahead k nm ht h1 h2
    have htc := ht c (by simp)
    have h58 : c ≠ 58 := fun e => by rw [e, isTok_58] at htc; cases htc
    simp only [List.length_cons] at h1 h2 ⊢
    rw [List.cons_append, fieldA_cons _ _ _ _ _ _ _ (by omega) (by simp) (by omega)]
    simp only [h58, false_and, if_false, htc]
    rw [if_neg (by simp), ih r (i + 1) ahead (k + 1) (nm ++ [c]) (fun x hx => ht x (by simp [hx])) (by omega) (by omega)]
    simp [Nat.add_assoc, Nat.add_comm 1]
theorem fieldA_value (s : Bs) : ∀ (r : Bs) (i ahead k : Nat) (nm v : Bs), (∀ c ∈ s, plain c = true) → ahead + k + s.length ≤ 16384 → k + s.length ≤ 4096 →
    fieldA (s ++ r) i ahead k nm (some v) = fieldA r (i + s.length) ahead (k + s.length) nm (some (v ++ s)) := by
  induction s with
  | nil => intro r i ahead k nm v _ _ _; simp
  | cons c s ih =>
    intro r i ahead k nm v ht h1 h2
    have htc := ht c (by simp)
    have h13 : c ≠ 13 := fun e => by rw [e, plain_13] at htc; cases htc
    simp only [List.length_cons] at h1 h2 ⊢
    rw [List.cons_append, fieldA_cons _ _ _ _ _ _ _ (by omega) (by simp [h13]) (by omega)]
    simp only [htc]
    rw [if_neg (by simp), ih r (i + 1) ahead (k + 1) nm (v ++ [c]) (fun x hx => ht x (by simp [hx])) (by omega) (by omega)]
    simp [Nat.add_assoc, Nat.add_comm 1]
theorem trim_sp (v : Bs) : trim (32 :: v) = trim v := by
  rw [trim_eq, trim_eq, ← trim_comm, ← trim_comm, trimL_step 32 v (by decide)]
theorem trim_mem {v : Bs} {c : UInt8} (h : c ∈ trim v) : c ∈ v := by
  have h1 : c ∈ (v.reverse.dropWhile isBlank).reverse := (List.dropWhile_sublist _).mem h
  have h2 : c ∈ v.reverse := (List.dropWhile_sublist _).mem (by simpa using h1)
  simpa using h2

theorem okF_iff (f : Bs × Bs) (ahead : Nat) : okF f ahead = true ↔ token f.1 = true ∧ (lineF f).length ≤ 4096 ∧ ahead + (lineF f).length + 2 ≤ 16384 ∧ trim f.2 = f.2 ∧ ∀ c ∈ f.2, plain c = true := by
  simp [okF, and_assoc]
theorem token_iff (s : Bs) : token s = true ↔ s ≠ [] ∧ ∀ c ∈ s, isTok c = true := by
  simp [token]
theorem fieldA_ok {f : Bs × Bs} {ahead : Nat} (h : okF f ahead = true) (r : Bs) (i : Nat) : fieldA (lineF f ++ 13 :: 10 :: r) i ahead 0 [] none = (f, i + (lineF f).length + 2, 1) := by
  obtain ⟨h1, h2, h3, h4, h5⟩ := (okF_iff f ahead).1 h
  obtain ⟨h6, h7⟩ := (token_iff _).1 h1
  have hl := lineF_len f
  have hpos : 0 < f.1.length := by cases hf : f.1 with
    | nil => exact absurd hf h6
    | cons _ _ => simp
  have e1 : lineF f ++ 13 :: 10 :: r = f.1 ++ (58 :: ((32 :: f.2) ++ 13 :: 10 :: r)) := by simp [lineF]
  rw [e1, fieldA_name f.1 _ i ahead 0 [] h7 (by omega) (by omega)]
  rw [fieldA_cons _ _ _ _ _ _ _ (by omega) (by simp) (by omega)]
  rw [if_pos ⟨rfl, by omega⟩, fieldA_value (32 :: f.2) _ _ _ _ _ _ (by intro c hc; rcases List.mem_cons.1 hc with rfl | hc; decide; exact h5 c hc) (by simp; omega) (by simp; omega)]
  rw [fieldA, if_neg (by simp; omega), if_pos (by simp)]
  simp only []
  rw [if_neg (by simp; omega)]
  simp only [Option.getD_some, List.nil_append, trim_sp, h4, List.length_cons]
  refine Prod.ext rfl (Prod.ext ?_ rfl)
  simp only
  omega

/-- what a field line was that was read whole -/
theorem fieldA_inv (l : Bs) : ∀ (i ahead k : Nat) (nm : Bs) (val : Option Bs), 0 < (fieldA l i ahead k nm val).2.2 →
    match val with
    | none => ∃ s1 s2 r, l = s1 ++ 58 :: (s2 ++ 13 :: 10 :: r) ∧ (∀ c ∈ s1, isTok c = true) ∧ (∀ c ∈ s2, plain c = true) ∧ 0 < k + s1.length ∧ fieldA l i ahead k nm val = ((nm ++ s1, trim s2), i + s1.length + 1 + s2.length + 2, 1) ∧ ahead + k + s1.length + 1 + s2.length + 2 ≤ 16384 ∧ k + s1.length + 1 + s2.length ≤ 4096
    | some v => ∃ s2 r, l = s2 ++ 13 :: 10 :: r ∧ (∀ c ∈ s2, plain c = true) ∧ fieldA l i ahead k nm val = ((nm, trim (v ++ s2)), i + s2.length + 2, 1) ∧ ahead + k + s2.length + 2 ≤ 16384 ∧ (k ≤ 4096 → k + s2.length ≤ 4096) := by
  induction l with
  | nil => intro i ahead k nm val h; simp [fieldA] at h
  | cons c l ih =>
    intro i ahead k nm val h
    by_cases hb : 16384 ≤ ahead + k
    · unfold fieldA at h; rw [if_pos hb] at h; simp at h
    by_cases h13 : c = 13 ∧ val.isSome = true
    · obtain ⟨rfl, hv⟩ := h13
      cases val with
      | none => simp at hv
      | some v =>
        unfold fieldA at h ⊢
        rw [if_neg hb, if_pos ⟨rfl, hv⟩] at h ⊢
        match l with
        | [] => simp at h
        | d :: r =>
          simp only [] at h ⊢
          by_cases hd : d ≠ 10 ∨ 16384 ≤ ahead + k + 1
          · rw [if_pos hd] at h; simp at h
          · rw [if_neg hd]
            have hd10 : d = 10 := by
              by_cases e : d = 10
              · exact e
              · exact absurd (Or.inl e) hd
            subst hd10
            refine ⟨[], r, rfl, by simp, by simp, ?_, by simp⟩
            have : ¬ 16384 ≤ ahead + k + 1 := fun e => hd (Or.inr e)
            show ahead + k + 0 + 2 ≤ 16384
            omega
    by_cases h4 : 4096 ≤ k
    · rw [fieldA.eq_def] at h; simp only [if_neg hb, if_neg h13, if_pos h4] at h; simp at h
    rw [fieldA_cons _ _ _ _ _ _ _ hb h13 h4] at h ⊢
    cases val with
    | none =>
      simp only [] at h ⊢
      by_cases hc : c = 58 ∧ 0 < k
      · rw [if_pos hc] at h ⊢
        obtain ⟨s2, r, e1, e2, e3, e4, e5⟩ := ih _ _ _ _ _ h
        rw [e3]
        refine ⟨[], s2, r, by rw [e1, hc.1]; rfl, by simp, e2, by simpa using hc.2, ?_, ?_, ?_⟩
        · simp
        · simp; omega
        · have := e5 (by omega); simp; omega
      · rw [if_neg hc] at h ⊢
        by_cases ht : isTok c = false
        · rw [if_pos ht] at h; simp at h
        · rw [if_neg ht] at h ⊢
          obtain ⟨s1, s2, r, e1, e2, e3, e4, e5, e6, e7⟩ := ih _ _ _ _ _ h
          rw [e5]
          refine ⟨c :: s1, s2, r, by rw [e1]; rfl, ?_, e3, by simp; omega, ?_, ?_, ?_⟩
          · intro x hx
            rcases List.mem_cons.1 hx with rfl | hx
            · simpa using ht
            · exact e2 x hx
          · simp; omega
          · simp; omega
          · simp; omega
    | some v =>
      simp only [] at h ⊢
      by_cases ht : plain c = false
      · rw [if_pos ht] at h; simp at h
      · rw [if_neg ht] at h ⊢
        obtain ⟨s2, r, e1, e2, e3, e4, e5⟩ := ih _ _ _ _ _ h
        rw [e3]
        refine ⟨c :: s2, r, by rw [e1]; rfl, ?_, ?_, ?_, ?_⟩
        · intro x hx
          rcases List.mem_cons.1 hx with rfl | hx
          · simpa using ht
          · exact e2 x hx
        · simp; omega
        · simp; omega
        · intro _; have := e5 (by omega); simp; omega

theorem split13 : ∀ (a b : Bs) (x y : Bs), (∀ c ∈ a, c ≠ 13) → (∀ c ∈ b, c ≠ 13) → a ++ 13 :: x = b ++ 13 :: y → a = b ∧ x = y
  | [], [], x, y, _, _, e => by simpa using e
  | [], d :: b, x, y, _, hb, e => by injection e with e1 _; exact absurd e1.symm (hb d (by simp))
  | c :: a, [], x, y, ha, _, e => by injection e with e1 _; exact absurd e1 (ha c (by simp))
  | c :: a, d :: b, x, y, ha, hb, e => by
    injection e with e1 e2
    obtain ⟨h1, h2⟩ := split13 a b x y (fun q hq => ha q (by simp [hq])) (fun q hq => hb q (by simp [hq])) e2
    exact ⟨by rw [e1, h1], h2⟩
/-- a line that is read as the field it was written for may be -/
theorem fieldA_back {f : Bs × Bs} {ahead : Nat} (r : Bs) (i : Nat) (h : 0 < (fieldA (lineF f ++ 13 :: 10 :: r) i ahead 0 [] none).2.2) (he : (fieldA (lineF f ++ 13 :: 10 :: r) i ahead 0 [] none).1 = f) : okF f ahead = true := by
  obtain ⟨s1, s2, r', e1, e2, e3, e4, e5, e6, e7⟩ := fieldA_inv _ _ _ _ _ _ h
  rw [e5] at he
  simp only [List.nil_append] at he
  have e0 : lineF f ++ 13 :: 10 :: r = f.1 ++ (58 :: ((32 :: f.2) ++ 13 :: 10 :: r)) := by simp [lineF]
  have n1 : s1 = f.1 := by rw [← he]
  have n2 : trim s2 = f.2 := by rw [← he]
  rw [e0, n1] at e1
  have e8 := List.append_cancel_left e1
  injection e8 with _ e8
  have hp : ∀ c : UInt8, plain c = true → c ≠ 13 := fun c hc e => by rw [e, plain_13] at hc; cases hc
  have hf2 : ∀ c ∈ f.2, plain c = true := fun c hc => e3 c (trim_mem (by rw [n2]; exact hc))
  obtain ⟨n3, _⟩ := split13 (32 :: f.2) s2 _ _ (by intro c hc; rcases List.mem_cons.1 hc with rfl | hc; decide; exact hp c (hf2 c hc)) (fun c hc => hp c (e3 c hc)) e8
  subst n3
  rw [trim_sp] at n2
  have hl := lineF_len f
  rw [n1] at e4 e6 e7
  simp only [List.length_cons] at e6 e7
  refine (okF_iff f ahead).2 ⟨(token_iff _).2 ⟨fun e => by rw [e] at e4; simp at e4, n1 ▸ e2⟩, by omega, by omega, n2, hf2⟩

theorem endedR_ok (r : Bs) (i : Nat) : endedR (13 :: 10 :: r) i = (i + 2, 1) := by simp [endedR]
theorem lineF_ne (f : Bs × Bs) : lineF f ≠ [] := by simp [lineF]
theorem lineF_head {f : Bs × Bs} {ahead : Nat} (h : okF f ahead = true) : ∃ c l, lineF f = c :: l ∧ c ≠ 13 := by
  obtain ⟨h1, _⟩ := (okF_iff f ahead).1 h
  obtain ⟨h6, h7⟩ := (token_iff _).1 h1
  cases hf : f.1 with
  | nil => exact absurd hf h6
  | cons c l => exact ⟨c, l ++ [58, 32] ++ f.2, by simp [lineF, hf], fun e => by have := h7 c (by simp [hf]); rw [e, isTok_13] at this; cases this⟩
theorem trail_ok (t : Bs) : ∀ (fs : List (Bs × Bs)) (f i ahead : Nat) (body : Bs) (tr : List (Bs × Bs)), okFs fs tr.length ahead = true → (linesF fs ++ 13 :: 10 :: t).length ≤ f →
    trailR f (linesF fs ++ 13 :: 10 :: t) i ahead body tr = ⟨body, i + (linesF fs).length + 2, true, false, tr ++ fs⟩ := by
  intro fs
  induction fs with
  | nil =>
    intro f i ahead body tr _ hf
    simp only [linesF, List.nil_append, List.length_cons] at hf ⊢
    obtain ⟨f', rfl⟩ : ∃ f', f = f' + 1 := ⟨f - 1, by omega⟩
    rw [trailR, if_pos rfl, lastR, endedR_ok]; simp
  | cons x fs ih =>
    intro f i ahead body tr hok hf
    simp only [okFs, Bool.and_eq_true, decide_eq_true_eq] at hok
    obtain ⟨⟨h1, h2⟩, h3⟩ := hok
    have e : linesF (x :: fs) ++ 13 :: 10 :: t = lineF x ++ 13 :: 10 :: (linesF fs ++ 13 :: 10 :: t) := by simp [linesF]
    rw [e] at hf ⊢
    have hx := fieldA_ok h1 (linesF fs ++ 13 :: 10 :: t) i
    obtain ⟨c, l, hc, h13⟩ := lineF_head h1
    simp only [List.length_append, List.length_cons] at hf
    have hlen : (lineF x).length = l.length + 1 := by rw [hc]; rfl
    obtain ⟨f', rfl⟩ : ∃ f', f = f' + 1 := ⟨f - 1, by omega⟩
    have e2 : lineF x ++ 13 :: 10 :: (linesF fs ++ 13 :: 10 :: t) = c :: (l ++ 13 :: 10 :: (linesF fs ++ 13 :: 10 :: t)) := by rw [hc]; rfl
    rw [e2] at hx ⊢
    rw [trailR, if_neg h13, if_neg (by omega)]
    simp only [hx]
    rw [if_neg (by omega), ← e2]
    have e3 : i + (lineF x).length + 2 - i = (lineF x ++ [13, 10]).length := by simp; omega
    rw [e3, show lineF x ++ 13 :: 10 :: (linesF fs ++ 13 :: 10 :: t) = (lineF x ++ [13, 10]) ++ (linesF fs ++ 13 :: 10 :: t) by simp, List.drop_left]
    rw [ih f' _ _ body (tr ++ [x]) (by simp only [List.length_append, List.length_cons, List.length_nil]; rw [show ahead + ((lineF x).length + (0 + 1 + 1)) = ahead + (lineF x).length + 2 by omega]; exact h3) (by simp; omega)]
    simp [linesF]; omega
theorem trail_pre (f : Nat) : ∀ (l : Bs) (i ahead : Nat) (body : Bs) (tr : List (Bs × Bs)), (trailR f l i ahead body tr).done = true → ∃ ys, (trailR f l i ahead body tr).trailers = tr ++ ys := by
  have hlast : ∀ (l : Bs) (i : Nat) (body : Bs) (tr : List (Bs × Bs)), (lastR l i body tr).done = true → ∃ ys, (lastR l i body tr).trailers = tr ++ ys := by
    intro l i body tr h
    simp only [lastR, decide_eq_true_eq] at h ⊢
    exact ⟨[], by rw [if_pos h]; simp⟩
  induction f with
  | zero => intro l i ahead body tr h; rw [trailR] at h ⊢; exact hlast _ _ _ _ h
  | succ f ih =>
    intro l i ahead body tr h
    cases l with
    | nil => rw [trailR] at h ⊢; exact hlast _ _ _ _ h
    | cons c l =>
      rw [trailR] at h ⊢
      by_cases hc : c = 13
      · rw [if_pos hc] at h ⊢; exact hlast _ _ _ _ h
      · rw [if_neg hc] at h ⊢
        by_cases h64 : tr.length = 64
        · rw [if_pos h64] at h; cases h
        · rw [if_neg h64] at h ⊢
          simp only [] at h ⊢
          by_cases hx : (fieldA (c :: l) i ahead 0 [] none).2.2 < 1
          · rw [if_pos hx] at h; cases h
          · rw [if_neg hx] at h ⊢
            obtain ⟨ys, hy⟩ := ih _ _ _ _ _ h
            exact ⟨_ :: ys, by rw [hy, List.append_assoc]; rfl⟩
theorem trail_no (t : Bs) : ∀ (fs : List (Bs × Bs)) (f i ahead : Nat) (body : Bs) (tr : List (Bs × Bs)), okFs fs tr.length ahead = false → tr.length ≤ 64 → (linesF fs ++ 13 :: 10 :: t).length ≤ f →
    (trailR f (linesF fs ++ 13 :: 10 :: t) i ahead body tr).done = true → (trailR f (linesF fs ++ 13 :: 10 :: t) i ahead body tr).trailers ≠ tr ++ fs := by
  intro fs
  induction fs with
  | nil => intro f i ahead body tr h; simp [okFs] at h
  | cons x fs ih =>
    intro f i ahead body tr hok htr hf hd
    have e : linesF (x :: fs) ++ 13 :: 10 :: t = lineF x ++ 13 :: 10 :: (linesF fs ++ 13 :: 10 :: t) := by simp [linesF]
    rw [e] at hf hd ⊢
    obtain ⟨c, l, hc⟩ : ∃ c l, lineF x = c :: l := by
      cases hl : lineF x with
      | nil => exact absurd hl (lineF_ne x)
      | cons c l => exact ⟨c, l, rfl⟩
    have hlen : (lineF x).length = l.length + 1 := by rw [hc]; rfl
    simp only [List.length_append, List.length_cons] at hf
    obtain ⟨f', rfl⟩ : ∃ f', f = f' + 1 := ⟨f - 1, by omega⟩
    have e2 : lineF x ++ 13 :: 10 :: (linesF fs ++ 13 :: 10 :: t) = c :: (l ++ 13 :: 10 :: (linesF fs ++ 13 :: 10 :: t)) := by rw [hc]; rfl
    rw [e2] at hd ⊢
    rw [trailR] at hd ⊢
    by_cases h13 : c = 13
    · rw [if_pos h13] at hd ⊢
      simp only [lastR, decide_eq_true_eq] at hd ⊢
      rw [if_pos hd]
      intro e3
      have := congrArg List.length e3
      simp at this
    · rw [if_neg h13] at hd ⊢
      by_cases h64 : tr.length = 64
      · rw [if_pos h64] at hd; cases hd
      · rw [if_neg h64] at hd ⊢
        simp only [] at hd ⊢
        by_cases hx : (fieldA (c :: (l ++ 13 :: 10 :: (linesF fs ++ 13 :: 10 :: t))) i ahead 0 [] none).2.2 < 1
        · rw [if_pos hx] at hd; cases hd
        · rw [if_neg hx] at hd ⊢
          by_cases hxe : (fieldA (c :: (l ++ 13 :: 10 :: (linesF fs ++ 13 :: 10 :: t))) i ahead 0 [] none).1 = x
          · have hokx : okF x ahead = true := fieldA_back (linesF fs ++ 13 :: 10 :: t) i (by rw [e2]; omega) (by rw [e2]; exact hxe)
            have hfx := fieldA_ok hokx (linesF fs ++ 13 :: 10 :: t) i
            rw [e2] at hfx
            rw [hfx] at hd ⊢
            simp only [] at hd ⊢
            rw [← e2] at hd ⊢
            have e3 : i + (lineF x).length + 2 - i = (lineF x ++ [13, 10]).length := by simp; omega
            rw [e3, show lineF x ++ 13 :: 10 :: (linesF fs ++ 13 :: 10 :: t) = (lineF x ++ [13, 10]) ++ (linesF fs ++ 13 :: 10 :: t) by simp, List.drop_left] at hd ⊢
            have hno : okFs fs (tr ++ [x]).length (ahead + (lineF x ++ [13, 10]).length) = false := by
              simp only [okFs, hokx, Bool.true_and, decide_eq_true (show tr.length < 64 by omega)] at hok
              simpa [Nat.add_assoc] using hok
            have := ih f' _ _ body (tr ++ [x]) hno (by simp; omega) (by simp; omega) hd
            simpa using this
          · obtain ⟨ys, hy⟩ := trail_pre _ _ _ _ _ _ hd
            rw [hy]
            intro e4
            rw [List.append_assoc] at e4
            have e5 := List.append_cancel_left e4
            injection e5 with e5 _
            exact hxe e5

theorem readR_last (f : Nat) (r : Bs) (i : Nat) (body : Bs) : readR (f + 1) (48 :: 13 :: 10 :: r) i body = trailR r.length r (i + 3) 0 body [] := by
  have h0 : sizeA (48 :: 13 :: 10 :: r) i 0 0 = (0, i + 3, 1) := by
    rw [sizeA_dig (d := 0) (by decide) _ _ _ _ (by omega) (by omega), sizeA_end _ _ _ _ (by omega)]
  simp only [readR, h0]
  rw [if_neg (by omega), if_pos trivial]
  have : i + 3 - i = 3 := by omega
  rw [this]; rfl
theorem lastB_eq (fs : List (Bs × Bs)) (t : Bs) : lastB fs ++ t = 48 :: 13 :: 10 :: (linesF fs ++ 13 :: 10 :: t) := by simp [lastB]
theorem lastB_len (fs : List (Bs × Bs)) : (lastB fs).length = (linesF fs).length + 5 := by simp [lastB]
/-- CHUNKS AND AN END: read as they were, what stands behind is left -/
theorem readOf_written (ps : List Bs) (fs : List (Bs × Bs)) (t : Bs) (hm : ∀ p ∈ ps, p.length ≤ most) (hok : okFs fs 0 0 = true) :
    readOf (chunks ps ++ lastB fs ++ t) = ⟨ps.flatten, (chunks ps ++ lastB fs).length, true, false, fs⟩ := by
  unfold readOf
  rw [List.append_assoc, lastB_eq]
  obtain ⟨f', h1, h2⟩ := readR_chunks (48 :: 13 :: 10 :: (linesF fs ++ 13 :: 10 :: t)) ps ((chunks ps ++ 48 :: 13 :: 10 :: (linesF fs ++ 13 :: 10 :: t)).length + 1) 0 [] hm (by simp; omega)
  rw [h2]
  simp only [List.length_append, List.length_cons] at h1
  obtain ⟨f0, rfl⟩ : ∃ f0, f' = f0 + 1 := ⟨f' - 1, by omega⟩
  rw [readR_last, trail_ok t fs _ _ _ _ [] hok (Nat.le_refl _)]
  simp only [List.nil_append, List.length_append, lastB_len]
  congr 1
  omega
/-- an end that may not be isn't read as it was -/
theorem readOf_last_no (fs : List (Bs × Bs)) (hok : okFs fs 0 0 = false) : (readOf (lastB fs)).done = true → (readOf (lastB fs)).trailers ≠ fs := by
  have e := lastB_eq fs []
  rw [List.append_nil] at e
  unfold readOf
  rw [e, readR_last]
  intro hd
  have := trail_no [] fs _ _ _ _ [] hok (by simp) (Nat.le_refl _) hd
  simpa using this
theorem readOf_last (fs : List (Bs × Bs)) (hok : okFs fs 0 0 = true) : readOf (lastB fs) = ⟨[], (lastB fs).length, true, false, fs⟩ := by
  have := readOf_written [] fs [] (by simp) hok
  simpa [chunks] using this
end Chunk
end Go.Proofs.YtabecgdaiakgiaaDoor
