/- Plain law: a sidecar's own replies. No program in sight. No condition. -/
import Derived.Test.YtabecgdaiakgiaaDoorOne
import Derived.Test.YtabecgdaiakgiaaDoorMB
namespace Go.Proofs.YtabecgdaiakgiaaDoor

theorem digits3 (k : Nat) (h1 : 100 ≤ k) (h2 : k ≤ 999) : ∃ x y z : UInt8, Lib.decDigits k = [x, y, z] ∧ [x, y, z].all isDigit = true ∧ numP [x, y, z] = k := by
  have g : ∀ d, d < 10 → (UInt8.ofNat (48 + d)).toNat = 48 + d := fun d hd => by rw [UInt8.toNat_ofNat']; exact Nat.mod_eq_of_lt (by omega)
  have a1 := g (k / 10 / 10) (by omega)
  have a2 := g (k / 10 % 10) (by omega)
  have a3 := g (k % 10) (by omega)
  refine ⟨UInt8.ofNat (48 + k / 10 / 10), UInt8.ofNat (48 + k / 10 % 10), UInt8.ofNat (48 + k % 10), ?_, ?_, ?_⟩
  · rw [Lib.decDigits, dif_neg (by omega), Lib.decDigits_two (by omega) (by omega)]
    rfl
  · have e1 : (48 : UInt8).toNat = 48 := rfl
    have e2 : (57 : UInt8).toNat = 57 := rfl
    simp only [List.all_cons, List.all_nil, Bool.and_true, Bool.and_eq_true, isDigit, UInt8.le_iff_toNat_le, decide_eq_true_eq, e1, e2, a1, a2, a3]
    omega
  · have hn : ∀ x y z : UInt8, numP [x, y, z] = 10 * (10 * (10 * 0 + (x.toNat - 48)) + (y.toNat - 48)) + (z.toNat - 48) := fun _ _ _ => rfl
    rw [hn, a1, a2, a3]
    omega
/-- a reply's head whose parts are clean can be written -/
theorem resp_clean (st : Nat) (h1 : 100 ≤ st) (h2 : st ≤ 599) (rs : Bs) (fs : List (Bs × Bs)) (hrs : rs.all isReason = true) (hrl : rs.length ≤ 4000)
    (hf : ∀ f ∈ fs, fieldP (fieldT f) = some f ∧ (13 : UInt8) ∉ fieldT f ∧ (fieldT f).length ≤ 4096) (hn : fs.length ≤ 64)
    (hz : (textP { st := (st : Int), rs := rs, mn := 1, fs := fs }).length ≤ 16384) :
    writeP { st := (st : Int), rs := rs, mn := 1, fs := fs } = (some (textP { st := (st : Int), rs := rs, mn := 1, fs := fs }), 0) := by
  obtain ⟨x, y, z, hd, hdig, hnum⟩ := digits3 st h1 (by omega)
  have hline : lineT { st := (st : Int), rs := rs, mn := 1, fs := fs } = [72, 84, 84, 80, 47, 49, 46, 49] ++ 32 :: ([x, y, z] ++ 32 :: rs) := by
    unfold lineT
    rw [if_neg (by simp)]
    show ver ++ (Lib.itoa ((1 : Nat) : Int) ++ 32 :: (Lib.itoa ((st : Nat) : Int) ++ 32 :: rs)) = _
    rw [itoa_nat, itoa_nat, hd, Lib.decDigits_one (by omega)]
    rfl
  have hno : ∀ c : UInt8, isDigit c = false → c ∉ [x, y, z] := fun c hc hm => by
    have := List.all_eq_true.1 hdig _ hm
    rw [hc] at this; cases this
  have hfirst : firstP false ([72, 84, 84, 80, 47, 49, 46, 49] ++ 32 :: ([x, y, z] ++ 32 :: rs)) = some { st := st, rs := rs, mn := 1 } := by
    unfold firstP
    rw [cutAt_some.2 ⟨rfl, by decide⟩]
    simp only
    rw [cutAt_some.2 ⟨rfl, hno 32 (by decide)⟩]
    simp only [Bool.false_eq_true, if_false]
    rw [show minorP [72, 84, 84, 80, 47, 49, 46, 49] = some 1 by decide]
    simp only
    rw [if_pos ⟨rfl, hrs, hdig, by omega, by omega⟩, hnum]
  have h13 : (13 : UInt8) ∉ lineT { st := (st : Int), rs := rs, mn := 1, fs := fs } := by
    have g1 := good_13 (good_of isReason hrs reason_good)
    have g2 := hno 13 (by decide)
    rw [hline]
    simp only [List.mem_append, List.mem_cons, not_or] at g2 ⊢
    refine ⟨by decide, by decide, ⟨g2.1, g2.2.1, g2.2.2.1, g2.2.2.2⟩, by decide, g1⟩
  have hlen : (lineT { st := (st : Int), rs := rs, mn := 1, fs := fs }).length ≤ 4096 := by
    rw [hline]; simp; omega
  have hl : lines [] (textP { st := (st : Int), rs := rs, mn := 1, fs := fs }) = lineT { st := (st : Int), rs := rs, mn := 1, fs := fs } :: (fs.map fieldT ++ [[], []]) := by
    unfold textP
    exact lines_text _ _ h13 fun f hf' => (hf f hf').2.1
  have hen : endedP (textP { st := (st : Int), rs := rs, mn := 1, fs := fs }) = true := (ended_iff _).2 (by rw [hl]; exact (two_iff _).2 ⟨fs.map fieldT, rfl⟩)
  have hp : parseP (textP { st := (st : Int), rs := rs, mn := 1, fs := fs }) false = ({ st := st, rs := rs, mn := 1, fs := fs }, 0) := by
    unfold parseP
    rw [hl, List.headD_cons, List.tail_cons, body_two, if_neg (by omega), if_neg (by
      rintro (h | h | ⟨s, hs, h⟩)
      · omega
      · rw [List.length_map] at h; omega
      · obtain ⟨f, hf', rfl⟩ := List.mem_map.1 hs
        have := (hf f hf').2.2
        omega), hen, if_neg (by simp), hline, hfirst]
    simp only
    rw [if_pos (fun s hs => by
      obtain ⟨f, hf', rfl⟩ := List.mem_map.1 hs
      rw [(hf f hf').1]; rfl), filter_fields _ (fun f hf' => (hf f hf').1)]
  unfold writeP
  simp only [hp]
  rw [if_neg (by simp), if_pos (by rfl)]

def sType : ByteArray := ⟨#[67, 111, 110, 116, 101, 110, 116, 45, 84, 121, 112, 101]⟩
def sPlain : ByteArray := ⟨#[116, 101, 120, 116, 47, 112, 108, 97, 105, 110]⟩
def reasonsL : List (Int × Bs) := [
  (400, [66, 97, 100, 32, 82, 101, 113, 117, 101, 115, 116]),
  (403, [70, 111, 114, 98, 105, 100, 100, 101, 110]),
  (404, [78, 111, 116, 32, 70, 111, 117, 110, 100]),
  (408, [82, 101, 113, 117, 101, 115, 116, 32, 84, 105, 109, 101, 111, 117, 116]),
  (413, [67, 111, 110, 116, 101, 110, 116, 32, 84, 111, 111, 32, 76, 97, 114, 103, 101]),
  (414, [85, 82, 73, 32, 84, 111, 111, 32, 76, 111, 110, 103]),
  (431, [82, 101, 113, 117, 101, 115, 116, 32, 72, 101, 97, 100, 101, 114, 32, 70, 105, 101, 108, 100, 115, 32, 84, 111, 111, 32, 76, 97, 114, 103, 101]),
  (500, [73, 110, 116, 101, 114, 110, 97, 108, 32, 83, 101, 114, 118, 101, 114, 32, 69, 114, 114, 111, 114]),
  (502, [66, 97, 100, 32, 71, 97, 116, 101, 119, 97, 121]),
  (503, [83, 101, 114, 118, 105, 99, 101, 32, 85, 110, 97, 118, 97, 105, 108, 97, 98, 108, 101]),
  (504, [71, 97, 116, 101, 119, 97, 121, 32, 84, 105, 109, 101, 111, 117, 116])]
def bStatus : Bs := [83, 116, 97, 116, 117, 115]
def reasonOf : List (Int × Bs) → Int → Bs
  | [], _ => bStatus
  | p :: r, st => if st = p.1 then p.2 else reasonOf r st
def reasonP (st : Int) : Bs := reasonOf reasonsL st
theorem reasonOf_mem (p : Bs → Prop) (h0 : p bStatus) : ∀ (L : List (Int × Bs)), (∀ x ∈ L, p x.2) → ∀ st, p (reasonOf L st)
  | [], _, _ => h0
  | q :: r, h, st => by
    unfold reasonOf
    split
    · exact h q (by simp)
    · exact reasonOf_mem p h0 r (fun x hx => h x (by simp [hx])) st
def bodyOf (d r : Bs) : Bs := d ++ 32 :: (r ++ [10])
def localBody (st : Int) : Bs := bodyOf (Lib.itoa st) (reasonP st)
def localF (v : Bs) (cl : Bool) : List Fl := (sType, sPlain) :: (sLen, ⟨v.toArray⟩) :: (if cl = true then [(sConnC, sClose)] else [])
def localH (st : Int) (cl : Bool) : HB := { st := st, rs := ⟨(reasonP st).toArray⟩, mn := 1, fs := localF (Lib.itoa (localBody st).length) cl }
def d2 (n : Nat) : Bs := [UInt8.ofNat (48 + n / 10), UInt8.ofNat (48 + n % 10)]
def cleanF (v : Bs) (cl : Bool) : Bool := ((localF v cl).map fun f => (f.1.data.toList, f.2.data.toList)).all fun f => decide (fieldP (fieldT f) = some f) && !((fieldT f).contains 13) && decide ((fieldT f).length ≤ 100)
def cleanR (r : Bs) : Prop := (r.all isReason && decide (r.length ≤ 40) && decide (5 ≤ r.length) && cleanF (d2 (r.length + 5)) true && cleanF (d2 (r.length + 5)) false) = true
theorem reason_clean (st : Int) : cleanR (reasonP st) := reasonOf_mem cleanR (by unfold cleanR; decide +kernel) reasonsL (by unfold cleanR; decide +kernel) st
theorem localH_hi (st : Int) (cl : Bool) : (localH st cl).hi = { st := st, rs := reasonP st, mn := 1, fs := (localF (Lib.itoa (localBody st).length) cl).map fun f => (f.1.data.toList, f.2.data.toList) } := rfl
theorem local_in (st : Int) (cl : Bool) (h1 : 100 ≤ st) (h2 : st ≤ 599) : writeP (localH st cl).hi = (some (textP (localH st cl).hi), 0) := by
  obtain ⟨k, rfl⟩ : ∃ k : Nat, st = (k : Int) := ⟨st.toNat, by omega⟩
  obtain ⟨x, y, z, hd, _, _⟩ := digits3 k (by omega) (by omega)
  have hc := reason_clean (k : Int)
  unfold cleanR at hc
  simp only [Bool.and_eq_true, decide_eq_true_eq] at hc
  obtain ⟨⟨⟨⟨c1, c2⟩, c3⟩, c4⟩, c5⟩ := hc
  have hb : (localBody (k : Int)).length = (reasonP (k : Int)).length + 5 := by
    unfold localBody bodyOf
    rw [itoa_nat, hd]; simp
  have hv : Lib.itoa ((localBody (k : Int)).length : Int) = d2 ((reasonP (k : Int)).length + 5) := by
    rw [hb, itoa_nat, Lib.decDigits_two (by omega) (by omega)]; rfl
  have hcl : cleanF (Lib.itoa ((localBody (k : Int)).length : Int)) cl = true := by
    rw [hv]; cases cl
    · exact c5
    · exact c4
  rw [localH_hi]
  generalize hF : (localF (Lib.itoa ((localBody (k : Int)).length : Int)) cl).map (fun f => (f.1.data.toList, f.2.data.toList)) = F at *
  unfold cleanF at hcl
  rw [hF, List.all_eq_true] at hcl
  have hf : ∀ f ∈ F, fieldP (fieldT f) = some f ∧ (13 : UInt8) ∉ fieldT f ∧ (fieldT f).length ≤ 100 := fun f hf => by
    have := hcl f hf
    simp only [Bool.and_eq_true, decide_eq_true_eq, Bool.not_eq_true', List.contains_eq_mem, decide_eq_false_iff_not] at this
    exact ⟨this.1.1, this.1.2, this.2⟩
  have hlen : F.length ≤ 3 := by
    rw [← hF]; unfold localF; cases cl <;> simp
  refine resp_clean k (by omega) (by omega) _ F c1 (by omega) (fun f h => ⟨(hf f h).1, (hf f h).2.1, by have := (hf f h).2.2; omega⟩) (by omega) ?_
  have hfl : ∀ L : List (Bs × Bs), (∀ f ∈ L, (fieldT f).length ≤ 100) → (fieldsT L).length ≤ 102 * L.length := by
    intro L
    induction L with
    | nil => intro _; exact Nat.le_refl _
    | cons f L ih =>
      intro h
      have := ih fun g hg => h g (by simp [hg])
      have h0 := h f (by simp)
      have e : fieldsT (f :: L) = (fieldT f ++ [13, 10]) ++ fieldsT L := rfl
      have e2 : ([13, 10] : Bs).length = 2 := rfl
      have e3 : (f :: L).length = L.length + 1 := rfl
      rw [e, List.length_append, List.length_append, e2, e3]
      omega
  have := hfl F fun f h => (hf f h).2.2
  unfold textP lineT
  rw [if_neg (by simp)]
  show (ver ++ (Lib.itoa ((1 : Nat) : Int) ++ 32 :: (Lib.itoa ((k : Nat) : Int) ++ 32 :: reasonP k)) ++ 13 :: 10 :: (fieldsT F ++ [13, 10])).length ≤ 16384
  rw [itoa_nat, itoa_nat, hd, Lib.decDigits_one (by omega)]
  simp [ver]
  omega
theorem local_out (st : Int) (cl : Bool) (h : ¬ (100 ≤ st ∧ st ≤ 599)) : (writeP (localH st cl).hi).2 ≠ 0 := fun h0 => by
  obtain ⟨_, ⟨g, hp, hu⟩, _, _⟩ := write_back (write_ok h0)
  obtain ⟨h0', hf, hg, _, _⟩ := parse_inv hp
  have e : ((g.st : Nat) : Int) = st := congrArg HI.st hu
  have hst : g.st = h0'.st := by rw [hg]
  change firstP false _ = some h0' at hf
  unfold firstP at hf
  split at hf
  · cases hf
  · split at hf
    · cases hf
    · rw [if_neg (by simp)] at hf
      split at hf
      · cases hf
      · split at hf
        · rename_i c
          cases hf
          have := c.2.2.2
          simp only at hst
          omega
        · cases hf
/-- a reply's head as bytes, and its body; nothing where the status is none -/
def replyP (st : Int) (cl : Bool) : Bs × Bs := if 100 ≤ st ∧ st ≤ 599 then (textP (localH st cl).hi, localBody st) else ([], [])
end Go.Proofs.YtabecgdaiakgiaaDoor
