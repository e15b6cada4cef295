/- the law HeadOne. Conditions: the size, the library's variables. | Plain law: a sidecar's own replies. No program in sight. No condition. | A sidecar's own replies: reason, told, local, Local, Bare; the reference's. Conditions: sizes, the library's variables. | What law 25's awake asks, reckoned. No program in sight. No condition. | A chunk reader behind a change elsewhere. No condition. | A reader of streams and its events, in memory. No condition. | The steps of a reader of streams: data, end, rest, length, chunked. Conditions: sizes, the world's shape. | bytes.Index, and which error a head that is too long has. Conditions: sizes, the world's shape. -/
import Derived.Test.YtklmpadcfioefaaGreatDoorMX0
import Derived.Test.YtklmpadcfioefaaGreatDoorHWrite
import Derived.Test.YtklmpadcfioefaaGreatDoorMB
import Derived.Test.YtklmpadcfioefaaGreatDoorRFramed
import Derived.Test.YtklmpadcfioefaaGreatDoorRRsp
import Derived.Test.YtklmpadcfioefaaGreatDoorFeed
import Derived.Lib.LazyBuf
import Derived.Test.YtklmpadcfioefaaGreatDoorShelf
import Derived.Lib.SlBytesConst
import Derived.Outline
namespace Go.Proofs.YtklmpadcfioefaaGreatDoor
open Go.RowKit

theorem parse_err {l : Bs} {rq : Bool} {h : Hd} {e : Nat} (hp : parseP l rq = (h, e)) (he : e ≠ 0) : h = {} := by
  unfold parseP at hp
  split at hp
  · cases hp; rfl
  · split at hp
    · cases hp; rfl
    · split at hp
      · cases hp; rfl
      · cases hf : firstP rq ((lines [] l).headD []) with
        | none => rw [hf] at hp; cases hp; rfl
        | some g =>
          rw [hf] at hp
          simp only at hp
          split at hp
          · cases hp; exact absurd rfl he
          · cases hp; rfl
/-- sizes of what is parsed -/
theorem parse_sizes {l : Bs} {rq : Bool} {h : Hd} {e : Nat} (hp : parseP l rq = (h, e)) : h.m.length + h.t.length + h.rs.length ≤ 49152 ∧ flSize (flB h.fs) ≤ 2097408 ∧ h.fs.length ≤ 64 := by
  by_cases he : e = 0
  · subst he
    obtain ⟨_, k2, _, _, _, k6, k7, k8, k9⟩ := smuggle hp
    have hl : l.length ≤ 16384 := (parse_yes (by rw [hp])).1
    refine ⟨by omega, ?_, k2⟩
    have key : ∀ fs : List (Bs × Bs), (∀ f ∈ fs, f.1.length ≤ 16384 ∧ f.2.length ≤ 16384) → flSize (flB fs) ≤ fs.length * 32772 := by
      intro fs
      induction fs with
      | nil => intro _; exact Nat.zero_le _
      | cons f fs ih =>
        intro hf
        have h1 := ih fun g hg => hf g (by simp [hg])
        have h2 := hf f (by simp)
        have e : flSize (flB (f :: fs)) = (f.1.length + f.2.length + 4) + flSize (flB fs) := rfl
        rw [e, List.length_cons]
        omega
    have := key h.fs fun f hf => by have := k9 f hf; omega
    omega
  · rw [parse_err hp he]; exact ⟨Nat.zero_le _, Nat.zero_le _, Nat.zero_le _⟩
end Go.Proofs.YtklmpadcfioefaaGreatDoor

namespace Go.Proofs.YtklmpadcfioefaaGreatDoor

theorem digits3 (k : Nat) (h1 : 100 ≤ k) (h2 : k ≤ 999) : ∃ x y z : UInt8, Lib.decDigits k = [x, y, z] ∧ [x, y, z].all isDigit = true ∧ numP [x, y, z] = k := by
  have g : ∀ d, d < 10 → (UInt8.ofNat (48 + d)).toNat = 48 + d := fun d hd => by rw [UInt8.toNat_ofNat']; exact Nat.mod_eq_of_lt (by omega)
  have a1 := g (k / 10 / 10) (by omega)
  have a2 := g (k / 10 % 10) (by omega)
  have a3 := g (k % 10) (by omega)
  refine ⟨UInt8.ofNat (48 + k / 10 / 10), UInt8.ofNat (48 + k / 10 % 10), UInt8.ofNat (48 + k % 10), ?_, ?_, ?_⟩
  · rw [Lib.decDigits, dif_neg (by omega), Lib.decDigits_two (by omega) (by omega)]
    rfl
  · have e1 : (48 : UInt8).toNat = 48 := rfl
    have e2 : (57 : UInt8).toNat = 57 := rfl
    simp only [List.all_cons, List.all_nil, Bool.and_true, Bool.and_eq_true, isDigit, UInt8.le_iff_toNat_le, decide_eq_true_eq, e1, e2, a1, a2, a3]
    omega
  · have hn : ∀ x y z : UInt8, numP [x, y, z] = 10 * (10 * (10 * 0 + (x.toNat - 48)) + (y.toNat - 48)) + (z.toNat - 48) := fun _ _ _ => rfl
    rw [hn, a1, a2, a3]
    omega
/-- a reply's head whose parts are clean can be written -/
theorem resp_clean (st : Nat) (h1 : 100 ≤ st) (h2 : st ≤ 599) (rs : Bs) (fs : List (Bs × Bs)) (hrs : rs.all isReason = true) (hrl : rs.length ≤ 4000)
    (hf : ∀ f ∈ fs, fieldP (fieldT f) = some f ∧ (13 : UInt8) ∉ fieldT f ∧ (fieldT f).length ≤ 4096) (hn : fs.length ≤ 64)
    (hz : (textP { st := (st : Int), rs := rs, mn := 1, fs := fs }).length ≤ 16384) :
    writeP { st := (st : Int), rs := rs, mn := 1, fs := fs } = (some (textP { st := (st : Int), rs := rs, mn := 1, fs := fs }), 0) := by
  obtain ⟨x, y, z, hd, hdig, hnum⟩ := digits3 st h1 (by omega)
  have hline : lineT { st := (st : Int), rs := rs, mn := 1, fs := fs } = [72, 84, 84, 80, 47, 49, 46, 49] ++ 32 :: ([x, y, z] ++ 32 :: rs) := by
    unfold lineT
    rw [if_neg (by simp)]
    show ver ++ (Lib.itoa ((1 : Nat) : Int) ++ 32 :: (Lib.itoa ((st : Nat) : Int) ++ 32 :: rs)) = _
    rw [itoa_nat, itoa_nat, hd, Lib.decDigits_one (by omega)]
    rfl
  have hno : ∀ c : UInt8, isDigit c = false → c ∉ [x, y, z] := fun c hc hm => by
    have := List.all_eq_true.1 hdig _ hm
    rw [hc] at this; cases this
  have hfirst : firstP false ([72, 84, 84, 80, 47, 49, 46, 49] ++ 32 :: ([x, y, z] ++ 32 :: rs)) = some { st := st, rs := rs, mn := 1 } := by
    unfold firstP
    rw [cutAt_some.2 ⟨rfl, by decide⟩]
    simp only
    rw [cutAt_some.2 ⟨rfl, hno 32 (by decide)⟩]
    simp only [Bool.false_eq_true, if_false]
    rw [show minorP [72, 84, 84, 80, 47, 49, 46, 49] = some 1 by decide]
    simp only
    rw [if_pos ⟨rfl, hrs, hdig, by omega, by omega⟩, hnum]
  have h13 : (13 : UInt8) ∉ lineT { st := (st : Int), rs := rs, mn := 1, fs := fs } := by
    have g1 := good_13 (good_of isReason hrs reason_good)
    have g2 := hno 13 (by decide)
    rw [hline]
    simp only [List.mem_append, List.mem_cons, not_or] at g2 ⊢
    refine ⟨by decide, by decide, ⟨g2.1, g2.2.1, g2.2.2.1, g2.2.2.2⟩, by decide, g1⟩
  have hlen : (lineT { st := (st : Int), rs := rs, mn := 1, fs := fs }).length ≤ 4096 := by
    rw [hline]; simp; omega
  have hl : lines [] (textP { st := (st : Int), rs := rs, mn := 1, fs := fs }) = lineT { st := (st : Int), rs := rs, mn := 1, fs := fs } :: (fs.map fieldT ++ [[], []]) := by
    unfold textP
    exact lines_text _ _ h13 fun f hf' => (hf f hf').2.1
  have hen : endedP (textP { st := (st : Int), rs := rs, mn := 1, fs := fs }) = true := (ended_iff _).2 (by rw [hl]; exact (two_iff _).2 ⟨fs.map fieldT, rfl⟩)
  have hp : parseP (textP { st := (st : Int), rs := rs, mn := 1, fs := fs }) false = ({ st := st, rs := rs, mn := 1, fs := fs }, 0) := by
    unfold parseP
    rw [hl, List.headD_cons, List.tail_cons, body_two, if_neg (by omega), if_neg (by
      rintro (h | h | ⟨s, hs, h⟩)
      · omega
      · rw [List.length_map] at h; omega
      · obtain ⟨f, hf', rfl⟩ := List.mem_map.1 hs
        have := (hf f hf').2.2
        omega), hen, if_neg (by simp), hline, hfirst]
    simp only
    rw [if_pos (fun s hs => by
      obtain ⟨f, hf', rfl⟩ := List.mem_map.1 hs
      rw [(hf f hf').1]; rfl), filter_fields _ (fun f hf' => (hf f hf').1)]
  unfold writeP
  simp only [hp]
  rw [if_neg (by simp), if_pos (by rfl)]

def sType : ByteArray := ⟨#[67, 111, 110, 116, 101, 110, 116, 45, 84, 121, 112, 101]⟩
def sPlain : ByteArray := ⟨#[116, 101, 120, 116, 47, 112, 108, 97, 105, 110]⟩
def reasonsL : List (Int × Bs) := [
  (400, [66, 97, 100, 32, 82, 101, 113, 117, 101, 115, 116]),
  (403, [70, 111, 114, 98, 105, 100, 100, 101, 110]),
  (404, [78, 111, 116, 32, 70, 111, 117, 110, 100]),
  (408, [82, 101, 113, 117, 101, 115, 116, 32, 84, 105, 109, 101, 111, 117, 116]),
  (413, [67, 111, 110, 116, 101, 110, 116, 32, 84, 111, 111, 32, 76, 97, 114, 103, 101]),
  (414, [85, 82, 73, 32, 84, 111, 111, 32, 76, 111, 110, 103]),
  (431, [82, 101, 113, 117, 101, 115, 116, 32, 72, 101, 97, 100, 101, 114, 32, 70, 105, 101, 108, 100, 115, 32, 84, 111, 111, 32, 76, 97, 114, 103, 101]),
  (500, [73, 110, 116, 101, 114, 110, 97, 108, 32, 83, 101, 114, 118, 101, 114, 32, 69, 114, 114, 111, 114]),
  (502, [66, 97, 100, 32, 71, 97, 116, 101, 119, 97, 121]),
  (503, [83, 101, 114, 118, 105, 99, 101, 32, 85, 110, 97, 118, 97, 105, 108, 97, 98, 108, 101]),
  (504, [71, 97, 116, 101, 119, 97, 121, 32, 84, 105, 109, 101, 111, 117, 116])]
def bStatus : Bs := [83, 116, 97, 116, 117, 115]
def reasonOf : List (Int × Bs) → Int → Bs
  | [], _ => bStatus
  | p :: r, st => if st = p.1 then p.2 else reasonOf r st
def reasonP (st : Int) : Bs := reasonOf reasonsL st
theorem reasonOf_mem (p : Bs → Prop) (h0 : p bStatus) : ∀ (L : List (Int × Bs)), (∀ x ∈ L, p x.2) → ∀ st, p (reasonOf L st)
  | [], _, _ => h0
  | q :: r, h, st => by
    unfold reasonOf
    split
    · exact h q (by simp)
    · exact reasonOf_mem p h0 r (fun x hx => h x (by simp [hx])) st
def bodyOf (d r : Bs) : Bs := d ++ 32 :: (r ++ [10])
def localBody (st : Int) : Bs := bodyOf (Lib.itoa st) (reasonP st)
def localF (v : Bs) (cl : Bool) : List Fl := (sType, sPlain) :: (sLen, ⟨v.toArray⟩) :: (if cl = true then [(sConnC, sClose)] else [])
def localH (st : Int) (cl : Bool) : HB := { st := st, rs := ⟨(reasonP st).toArray⟩, mn := 1, fs := localF (Lib.itoa (localBody st).length) cl }
def d2 (n : Nat) : Bs := [UInt8.ofNat (48 + n / 10), UInt8.ofNat (48 + n % 10)]
def cleanF (v : Bs) (cl : Bool) : Bool := ((localF v cl).map fun f => (f.1.data.toList, f.2.data.toList)).all fun f => decide (fieldP (fieldT f) = some f) && !((fieldT f).contains 13) && decide ((fieldT f).length ≤ 100)
def cleanR (r : Bs) : Prop := (r.all isReason && decide (r.length ≤ 40) && decide (5 ≤ r.length) && cleanF (d2 (r.length + 5)) true && cleanF (d2 (r.length + 5)) false) = true
theorem reason_clean (st : Int) : cleanR (reasonP st) := reasonOf_mem cleanR (by unfold cleanR; decide +kernel) reasonsL (by unfold cleanR; decide +kernel) st
theorem localH_hi (st : Int) (cl : Bool) : (localH st cl).hi = { st := st, rs := reasonP st, mn := 1, fs := (localF (Lib.itoa (localBody st).length) cl).map fun f => (f.1.data.toList, f.2.data.toList) } := rfl
theorem local_in (st : Int) (cl : Bool) (h1 : 100 ≤ st) (h2 : st ≤ 599) : writeP (localH st cl).hi = (some (textP (localH st cl).hi), 0) := by
  obtain ⟨k, rfl⟩ : ∃ k : Nat, st = (k : Int) := ⟨st.toNat, by omega⟩
  obtain ⟨x, y, z, hd, _, _⟩ := digits3 k (by omega) (by omega)
  have hc := reason_clean (k : Int)
  unfold cleanR at hc
  simp only [Bool.and_eq_true, decide_eq_true_eq] at hc
  obtain ⟨⟨⟨⟨c1, c2⟩, c3⟩, c4⟩, c5⟩ := hc
  have hb : (localBody (k : Int)).length = (reasonP (k : Int)).length + 5 := by
    unfold localBody bodyOf
    rw [itoa_nat, hd]; simp
  have hv : Lib.itoa ((localBody (k : Int)).length : Int) = d2 ((reasonP (k : Int)).length + 5) := by
    rw [hb, itoa_nat, Lib.decDigits_two (by omega) (by omega)]; rfl
  have hcl : cleanF (Lib.itoa ((localBody (k : Int)).length : Int)) cl = true := by
    rw [hv]; cases cl
    · exact c5
    · exact c4
  rw [localH_hi]
  generalize hF : (localF (Lib.itoa ((localBody (k : Int)).length : Int)) cl).map (fun f => (f.1.data.toList, f.2.data.toList)) = F at *
  unfold cleanF at hcl
  rw [hF, List.all_eq_true] at hcl
  have hf : ∀ f ∈ F, fieldP (fieldT f) = some f ∧ (13 : UInt8) ∉ fieldT f ∧ (fieldT f).length ≤ 100 := fun f hf => by
    have := hcl f hf
    simp only [Bool.and_eq_true, decide_eq_true_eq, Bool.not_eq_true', List.contains_eq_mem, decide_eq_false_iff_not] at this
    exact ⟨this.1.1, this.1.2, this.2⟩
  have hlen : F.length ≤ 3 := by
    rw [← hF]; unfold localF; cases cl <;> simp
  refine resp_clean k (by omega) (by omega) _ F c1 (by omega) (fun f h => ⟨(hf f h).1, (hf f h).2.1, by have := (hf f h).2.2; omega⟩) (by omega) ?_
  have hfl : ∀ L : List (Bs × Bs), (∀ f ∈ L, (fieldT f).length ≤ 100) → (fieldsT L).length ≤ 102 * L.length := by
    intro L
    induction L with
    | nil => intro _; exact Nat.le_refl _
    | cons f L ih =>
      intro h
      have := ih fun g hg => h g (by simp [hg])
      have h0 := h f (by simp)
      have e : fieldsT (f :: L) = (fieldT f ++ [13, 10]) ++ fieldsT L := rfl
      have e2 : ([13, 10] : Bs).length = 2 := rfl
      have e3 : (f :: L).length = L.length + 1 := rfl
      rw [e, List.length_append, List.length_append, e2, e3]
      omega
  have := hfl F fun f h => (hf f h).2.2
  unfold textP lineT
  rw [if_neg (by simp)]
  show (ver ++ (Lib.itoa ((1 : Nat) : Int) ++ 32 :: (Lib.itoa ((k : Nat) : Int) ++ 32 :: reasonP k)) ++ 13 :: 10 :: (fieldsT F ++ [13, 10])).length ≤ 16384
  rw [itoa_nat, itoa_nat, hd, Lib.decDigits_one (by omega)]
  simp [ver]
  omega
theorem local_out (st : Int) (cl : Bool) (h : ¬ (100 ≤ st ∧ st ≤ 599)) : (writeP (localH st cl).hi).2 ≠ 0 := fun h0 => by
  obtain ⟨_, ⟨g, hp, hu⟩, _, _⟩ := write_back (write_ok h0)
  obtain ⟨h0', hf, hg, _, _⟩ := parse_inv hp
  have e : ((g.st : Nat) : Int) = st := congrArg HI.st hu
  have hst : g.st = h0'.st := by rw [hg]
  change firstP false _ = some h0' at hf
  unfold firstP at hf
  split at hf
  · cases hf
  · split at hf
    · cases hf
    · rw [if_neg (by simp)] at hf
      split at hf
      · cases hf
      · split at hf
        · rename_i c
          cases hf
          have := c.2.2.2
          simp only at hst
          omega
        · cases hf
/-- a reply's head as bytes, and its body; nothing where the status is none -/
def replyP (st : Int) (cl : Bool) : Bs × Bs := if 100 ≤ st ∧ st ≤ 599 then (textP (localH st cl).hi, localBody st) else ([], [])
end Go.Proofs.YtklmpadcfioefaaGreatDoor

namespace Go.Proofs.YtklmpadcfioefaaGreatDoor
open Go.RowKit

set_option maxHeartbeats 4000000 in
set_option maxRecDepth 100000 in
theorem wreason_any (st : Int) (w : World) : Calls Tryz.prog 74 #[.int .i64 st] w fun e w' => e = .returned (.string ⟨(reasonP st).toArray⟩) ∧ w = w' := by
  by_cases h1 : st = 400
  · subst h1
    go_enter Tryz.func74, Tryz.ntmps74
    go_wp2
    go_ret
    exact ⟨by kernel_rfl, rfl⟩
  have b1 : (st == 400) = false := by simpa using h1
  by_cases h2 : st = 403
  · subst h2
    go_enter Tryz.func74, Tryz.ntmps74
    go_wp2
    go_ret
    exact ⟨by kernel_rfl, rfl⟩
  have b2 : (st == 403) = false := by simpa using h2
  by_cases h3 : st = 404
  · subst h3
    go_enter Tryz.func74, Tryz.ntmps74
    go_wp2
    go_ret
    exact ⟨by kernel_rfl, rfl⟩
  have b3 : (st == 404) = false := by simpa using h3
  by_cases h4 : st = 408
  · subst h4
    go_enter Tryz.func74, Tryz.ntmps74
    go_wp2
    go_ret
    exact ⟨by kernel_rfl, rfl⟩
  have b4 : (st == 408) = false := by simpa using h4
  by_cases h5 : st = 413
  · subst h5
    go_enter Tryz.func74, Tryz.ntmps74
    go_wp2
    go_ret
    exact ⟨by kernel_rfl, rfl⟩
  have b5 : (st == 413) = false := by simpa using h5
  by_cases h6 : st = 414
  · subst h6
    go_enter Tryz.func74, Tryz.ntmps74
    go_wp2
    go_ret
    exact ⟨by kernel_rfl, rfl⟩
  have b6 : (st == 414) = false := by simpa using h6
  by_cases h7 : st = 431
  · subst h7
    go_enter Tryz.func74, Tryz.ntmps74
    go_wp2
    go_ret
    exact ⟨by kernel_rfl, rfl⟩
  have b7 : (st == 431) = false := by simpa using h7
  by_cases h8 : st = 500
  · subst h8
    go_enter Tryz.func74, Tryz.ntmps74
    go_wp2
    go_ret
    exact ⟨by kernel_rfl, rfl⟩
  have b8 : (st == 500) = false := by simpa using h8
  by_cases h9 : st = 502
  · subst h9
    go_enter Tryz.func74, Tryz.ntmps74
    go_wp2
    go_ret
    exact ⟨by kernel_rfl, rfl⟩
  have b9 : (st == 502) = false := by simpa using h9
  by_cases ha : st = 503
  · subst ha
    go_enter Tryz.func74, Tryz.ntmps74
    go_wp2
    go_ret
    exact ⟨by kernel_rfl, rfl⟩
  have ba : (st == 503) = false := by simpa using ha
  by_cases hb : st = 504
  · subst hb
    go_enter Tryz.func74, Tryz.ntmps74
    go_wp2
    go_ret
    exact ⟨by kernel_rfl, rfl⟩
  have bb : (st == 504) = false := by simpa using hb
  have HS : Hid (reasonP st = bStatus) := Lib.hid (by unfold reasonP reasonsL; simp only [reasonOf, h1, h2, h3, h4, h5, h6, h7, h8, h9, ha, hb, if_false])
  clear h1 h2 h3 h4 h5 h6 h7 h8 h9 ha hb
  go_enter Tryz.func74, Tryz.ntmps74
  go_wp2
  go_ret
  exact ⟨by rw [HS.out]; rfl, rfl⟩

def le63 (n : Nat) : Prop := n ≤ 9223372036854775807
end Go.Proofs.YtklmpadcfioefaaGreatDoor

namespace Go.Proofs.YtklmpadcfioefaaGreatDoor

theorem itoa1 : Lib.itoa 1 = [49] := by
  have h := itoa_nat 1
  rw [Lib.decDigits_one (by omega)] at h
  exact h
theorem itoa3 : Lib.itoa 3 = [51] := by
  have h := itoa_nat 3
  rw [Lib.decDigits_one (by omega)] at h
  exact h
theorem itoa200 : Lib.itoa 200 = [50, 48, 48] := digits_three (b := [50, 48, 48]) rfl (by decide) (by decide)

def sGet : ByteArray := ⟨#[71, 69, 84]⟩
def sUrl : ByteArray := ⟨#[104, 116, 116, 112, 58, 47, 47, 104, 47, 97]⟩
def sS80 : ByteArray := ⟨#[115, 58, 56, 48]⟩
def awF1 : List Fl := [(⟨#[72, 111, 115, 116]⟩, ⟨#[104]⟩), (⟨#[67, 111, 110, 110, 101, 99, 116, 105, 111, 110]⟩, ⟨#[88, 45, 65]⟩), (⟨#[88, 45, 97]⟩, ⟨#[49]⟩), (⟨#[65, 99, 99, 101, 112, 116]⟩, ⟨#[98]⟩)]
def awG1 : List Fl := [(⟨#[72, 111, 115, 116]⟩, ⟨#[115, 58, 56, 48]⟩), (⟨#[65, 99, 99, 101, 112, 116]⟩, ⟨#[98]⟩), (⟨#[84, 114, 97, 110, 115, 102, 101, 114, 45, 69, 110, 99, 111, 100, 105, 110, 103]⟩, ⟨#[99, 104, 117, 110, 107, 101, 100]⟩)]
def awR1 : HB := ⟨true, ⟨#[71, 69, 84]⟩, ⟨#[47, 97]⟩, 0, ⟨#[]⟩, 1, awG1⟩
def awT1 : Bs := [71, 69, 84, 32, 47, 97, 32, 72, 84, 84, 80, 47, 49, 46, 49, 13, 10, 72, 111, 115, 116, 58, 32, 115, 58, 56, 48, 13, 10, 65, 99, 99, 101, 112, 116, 58, 32, 98, 13, 10, 84, 114, 97, 110, 115, 102, 101, 114, 45, 69, 110, 99, 111, 100, 105, 110, 103, 58, 32, 99, 104, 117, 110, 107, 101, 100, 13, 10, 13, 10]
theorem aw_text1 : textP awR1.hi = awT1 := by
  unfold textP lineT
  rw [if_pos (show awR1.hi.rq = true from rfl), show awR1.hi.mn = 1 from rfl, itoa1]
  rfl
theorem aw_parse1 : parseP awT1 true = ({ rq := true, m := [71, 69, 84], t := [47, 97], mn := 1, fs := [([72, 111, 115, 116], [115, 58, 56, 48]), ([65, 99, 99, 101, 112, 116], [98]), ([84, 114, 97, 110, 115, 102, 101, 114, 45, 69, 110, 99, 111, 100, 105, 110, 103], [99, 104, 117, 110, 107, 101, 100])] }, 0) := by kernel_rfl
theorem aw_write1 : (writeP awR1.hi).2 = 0 := by
  unfold writeP
  rw [aw_text1, show awR1.hi.rq = true from rfl, aw_parse1]
  rw [if_neg (by simp), if_pos (by rfl)]
theorem aw_req : reqP ⟨true, sGet, sUrl, 0, ⟨#[]⟩, 1, awF1⟩ 2 0 sS80 = (awR1, 0) := by
  rw [reqP_yes (p := [47, 97]) (by kernel_rfl) (by kernel_rfl)]
  have e : reqH ⟨true, sGet, sUrl, 0, ⟨#[]⟩, 1, awF1⟩ 2 0 sS80 [47, 97] = awR1 := by kernel_rfl
  rw [e]
  unfold okH
  rw [if_pos aw_write1]
theorem aw_req3 : reqP ⟨true, sGet, sUrl, 0, ⟨#[]⟩, 1, awF1⟩ 3 0 ⟨#[115]⟩ = ({}, 2) := reqP_no (.inr (by kernel_rfl))

def awF2 : List Fl := [(⟨#[65]⟩, ⟨#[98]⟩)]
def awG2 : List Fl := [(⟨#[65]⟩, ⟨#[98]⟩), (⟨#[67, 111, 110, 116, 101, 110, 116, 45, 76, 101, 110, 103, 116, 104]⟩, ⟨#[51]⟩), (⟨#[67, 111, 110, 110, 101, 99, 116, 105, 111, 110]⟩, ⟨#[107, 101, 101, 112, 45, 97, 108, 105, 118, 101]⟩)]
def awR2 : HB := ⟨false, ⟨#[]⟩, ⟨#[]⟩, 200, ⟨#[]⟩, 1, awG2⟩
def awT2 : Bs := [72, 84, 84, 80, 47, 49, 46, 49, 32, 50, 48, 48, 32, 13, 10, 65, 58, 32, 98, 13, 10, 67, 111, 110, 116, 101, 110, 116, 45, 76, 101, 110, 103, 116, 104, 58, 32, 51, 13, 10, 67, 111, 110, 110, 101, 99, 116, 105, 111, 110, 58, 32, 107, 101, 101, 112, 45, 97, 108, 105, 118, 101, 13, 10, 13, 10]
theorem aw_text2 : textP awR2.hi = awT2 := by
  unfold textP lineT
  rw [if_neg (show ¬ awR2.hi.rq = true from fun h => by cases h), show awR2.hi.mn = 1 from rfl, show awR2.hi.st = 200 from rfl, itoa1, itoa200]
  rfl
theorem aw_parse2 : parseP awT2 false = ({ rq := false, st := 200, mn := 1, fs := [([65], [98]), ([67, 111, 110, 116, 101, 110, 116, 45, 76, 101, 110, 103, 116, 104], [51]), ([67, 111, 110, 110, 101, 99, 116, 105, 111, 110], [107, 101, 101, 112, 45, 97, 108, 105, 118, 101])] }, 0) := by kernel_rfl
theorem aw_write2 : (writeP awR2.hi).2 = 0 := by
  unfold writeP
  rw [aw_text2, show awR2.hi.rq = false from rfl, aw_parse2]
  rw [if_neg (by simp), if_pos (by rfl)]
theorem aw_rsp : rspP ⟨false, ⟨#[]⟩, ⟨#[]⟩, 200, ⟨#[]⟩, 1, awF2⟩ 1 3 false 0 = ((awR2, 0), false) := by
  rw [rspP_yes (by kernel_rfl)]
  have ef : frameP 1 3 = [(sLen, ⟨#[51]⟩)] := by unfold frameP; rw [if_pos rfl, itoa3]
  have e : rspH ⟨false, ⟨#[]⟩, ⟨#[]⟩, 200, ⟨#[]⟩, 1, awF2⟩ 1 3 false 0 = awR2 := by
    unfold rspH
    rw [if_neg (by decide), ef]
    kernel_rfl
  have eo : okH awR2 = (awR2, 0) := by unfold okH; rw [if_pos aw_write2]
  rw [e, eo]
  rfl
theorem aw_keeps : keepsP 1 awG1 = true := by kernel_rfl
end Go.Proofs.YtklmpadcfioefaaGreatDoor

namespace Go.Proofs.YtklmpadcfioefaaGreatDoor
open Go.RowKit

theorem Rdr.chgd {S : Nat → Prop} {w w' : World} {base b : Nat} {s : Chunk.St} {vl vt : Value} (h : Rdr w base b s vl vt) (hc : Chg S w w') (hS : ∀ k, foot b vl vt k → ¬ S k) : Rdr w' base b s vl vt :=
  ⟨h.mid.var.chg hc (hS b (Or.inl rfl)), h.mid.line.chg hc (fun k hk => hS k (Or.inr (Or.inl hk))), h.mid.tr.chg hc (fun k hk => hS k (Or.inr (Or.inr hk))), Chg.refl _ _, Or.inl rfl, h.mid.nl, h.mid.nt, h.mid.lt, h.mid.le⟩
theorem Rdr.foot_in {w : World} {base b : Nat} {s : Chunk.St} {vl vt : Value} (h : Rdr w base b s vl vt) : ∀ k, foot b vl vt k → base ≤ k ∧ k < w.heap.size :=
  fun k hk => ⟨h.mid.foot_ge k hk, h.mid.foot_lt k hk⟩
theorem rdr_new2 (w : World) : Rdr (w.alloc (.cells #[.int .i64 0, .int .i64 0, .slice none 0 0, .int .i64 0, .int .i64 0, .int .i64 0, .int .i64 0, .slice none 0 0] 111)) w.heap.size w.heap.size {} (.slice none 0 0) (.slice none 0 0) :=
  ⟨Var.new w 111 [.int .i64 0, .int .i64 0, .slice none 0 0, .int .i64 0, .int .i64 0, .int .i64 0, .int .i64 0, .slice none 0 0], Row.nil _ _ _, Row.nil _ _ _, Chg.refl _ _, Or.inl rfl, by simp [Value.ownBlock], by simp [Value.ownBlock], fun k hk => by simp [Value.ownBlock] at hk, Nat.le_refl _⟩
theorem Rdr.mono2 {w : World} {base base' b : Nat} {s : Chunk.St} {vl vt : Value} (h : Rdr w base b s vl vt) (hb : base' ≤ base) : Rdr w base' b s vl vt :=
  ⟨h.mid.var, h.mid.line.mono hb, h.mid.tr.mono hb, Chg.refl _ _, Or.inl rfl, h.mid.nl, h.mid.nt, h.mid.lt, Nat.le_trans hb h.mid.le⟩
end Go.Proofs.YtklmpadcfioefaaGreatDoor

namespace Go.Proofs.YtklmpadcfioefaaGreatDoor
open Go.RowKit

def nowF : Nat → Nat
  | 0 => 29
  | 1 => 55
  | 2 => 56
  | 3 => 57
  | _ => 58
def nowV (rb ph : Nat) : Value := .func (.func (nowF ph)) #[.pointer (some ⟨rb, 0, none⟩)] #[]
/-- what of a reader lies in memory: its methods, its block, its chunk reader with what that has -/
structure SV where
  mv : Value
  kv : Value
  bv : Value
  cb : Nat
  vl : Value
  vt : Value
def footS (rb : Nat) (V : SV) (k : Nat) : Prop := k = rb ∨ V.mv.ownBlock = some k ∨ V.kv.ownBlock = some k ∨ foot V.cb V.vl V.vt k
def rCells (rb : Nat) (s : Strm.S) (V : SV) (q : Nat) : List Value := [.bool s.rq, V.mv, nowV rb q, V.kv, .int .i64 (s.left : Int), V.bv, .int .i64 (s.fr : Int), .bool s.win, .bool s.due, .int .i64 (s.dead : Int)]
/-- the reader s at rb, its next step being q -/
structure SMem (w : World) (base rb : Nat) (s : Strm.S) (V : SV) (q : Nat) : Prop where
  le : base ≤ rb
  var : Var w rb 72 (rCells rb s V q)
  ms : Row w base 1 V.mv s.ms.length (strsV s.ms)
  blk : RowB w base V.kv s.blk
  nil : s.ph ≠ 0 → V.kv = .slice none 0 0
  on : s.ph = 3 → V.bv = .pointer (some ⟨V.cb, 0, none⟩) ∧ Rdr w base V.cb s.body V.vl V.vt
  off : s.ph ≠ 3 → V.cb = rb ∧ V.vl = .slice none 0 0 ∧ V.vt = .slice none 0 0
  a1 : ∀ k, V.mv.ownBlock = some k → k ≠ rb ∧ V.kv.ownBlock ≠ some k ∧ ¬ foot V.cb V.vl V.vt k
  a2 : ∀ k, V.kv.ownBlock = some k → k ≠ rb ∧ ¬ foot V.cb V.vl V.vt k
  a3 : s.ph = 3 → ¬ foot V.cb V.vl V.vt rb
theorem nil_own {k : Nat} : (Value.slice none 0 0).ownBlock = some k → False := fun h => by simp [Value.ownBlock] at h
section
variable {w w' : World} {base rb q : Nat} {s : Strm.S} {V : SV} {S : Nat → Prop}
theorem SMem.lt (h : SMem w base rb s V q) : ∀ k, footS rb V k → base ≤ k ∧ k < w.heap.size := by
  intro k hk
  rcases hk with x | x | x | x
  · subst x; exact ⟨h.le, h.var.lt⟩
  · exact h.ms.lt k x
  · exact Row.lt h.blk k x
  · by_cases h3 : s.ph = 3
    · obtain ⟨_, hr⟩ := h.on h3
      exact hr.foot_in k x
    · obtain ⟨e1, e2, e3⟩ := h.off h3
      rw [e1, e2, e3] at x
      rcases x with x | x | x
      · subst x; exact ⟨h.le, h.var.lt⟩
      · exact (nil_own x).elim
      · exact (nil_own x).elim
theorem SMem.chg (h : SMem w base rb s V q) (hc : Chg S w w') (hs : ∀ k, footS rb V k → ¬ S k) : SMem w' base rb s V q :=
  ⟨h.le, h.var.chg hc (hs _ (.inl rfl)), h.ms.chg hc (fun k hk => hs k (.inr (.inl hk))), Row.chg h.blk hc (fun k hk => hs k (.inr (.inr (.inl hk)))), h.nil,
    fun h3 => ⟨(h.on h3).1, (h.on h3).2.chgd hc (fun k hk => hs k (.inr (.inr (.inr hk))))⟩, h.off, h.a1, h.a2, h.a3⟩
theorem SMem.below (h : SMem w base rb s V q) (hb : Below w.heap.size w w') : SMem w' base rb s V q :=
  h.chg (S := fun _ => False) ((Chg.refl (fun _ => False) w).then_below hb) (fun _ _ e => e)
theorem SMem.cell (h : SMem w base rb s V q) {j : Nat} {v : Value} (hj : (rCells rb s V q)[j]? = some v) : w.cell? ⟨rb, j, none⟩ = some v := h.var.cell hj
end

theorem SMem.put {w : World} {base rb q : Nat} {s : Strm.S} {V : SV} (h : SMem w base rb s V q) {j : Nat} {u : Value} {t : Strm.S} {q' : Nat} (hc : rCells rb t V q' = (rCells rb s V q).set j u) (hms : t.ms = s.ms) (hb : t.blk = s.blk) (hy : t.body = s.body) (hp : t.ph = 3 ↔ s.ph = 3) (hn : t.ph ≠ 0 → V.kv = .slice none 0 0) :
    SMem (w.setCell ⟨rb, j, none⟩ u) base rb t V q' := by
  have hcg : Chg (fun k => k = rb) w (w.setCell ⟨rb, j, none⟩ u) := (show Chg (fun k => k = rb) w w from Chg.refl _ w).setCell (p := ⟨rb, j, none⟩) (fun _ => rfl) u
  refine ⟨h.le, by rw [hc]; exact h.var.set j u, by rw [hms]; exact h.ms.chg hcg (fun k hk => (h.a1 k hk).1), by rw [hb]; exact Row.chg h.blk hcg (fun k hk => (h.a2 k hk).1), hn, fun h3 => ?_, fun h3 => h.off (fun e => h3 (hp.2 e)), h.a1, h.a2, fun h3 => h.a3 (hp.1 h3)⟩
  obtain ⟨e1, e2⟩ := h.on (hp.1 h3)
  refine ⟨e1, ?_⟩
  rw [hy]
  exact e2.chgd hcg (fun k hk e => h.a3 (hp.1 h3) (by rw [← e]; exact hk))
def SV.cut (V : SV) (rb : Nat) : SV := { V with cb := rb, vl := .slice none 0 0, vt := .slice none 0 0 }
theorem foot_cut {rb k : Nat} (h : foot rb (.slice none 0 0) (.slice none 0 0) k) : k = rb := by
  rcases h with x | x | x
  · exact x
  · exact (nil_own x).elim
  · exact (nil_own x).elim
theorem SMem.rephase {w : World} {base rb q : Nat} {s : Strm.S} {V : SV} (h : SMem w base rb s V q) {x : Nat} (hx : x ≠ 3) (hn : x ≠ 0 → V.kv = .slice none 0 0) : SMem w base rb { s with ph := x } (V.cut rb) q :=
  ⟨h.le, h.var, h.ms, h.blk, hn, fun e => absurd e hx, fun _ => ⟨rfl, rfl, rfl⟩, fun k hk => ⟨(h.a1 k hk).1, (h.a1 k hk).2.1, fun f => (h.a1 k hk).1 (foot_cut f)⟩, fun k hk => ⟨(h.a2 k hk).1, fun f => (h.a2 k hk).1 (foot_cut f)⟩, fun e => absurd e hx⟩
theorem footS_cut {rb : Nat} {V : SV} {k : Nat} (h : footS rb (V.cut rb) k) : footS rb V k := by
  rcases h with x | x | x | x
  · exact .inl x
  · exact .inr (.inl x)
  · exact .inr (.inr (.inl x))
  · exact .inl (foot_cut x)

/-! ### events -/
def eHd : Strm.E1 → Hd
  | .head h _ _ => h
  | _ => {}
def eData : Strm.E1 → Bs
  | .body d => d
  | _ => []
def eKind : Strm.E1 → Int
  | .head _ _ _ => 1
  | .body _ => 2
  | .fin => 3
def eFr : Strm.E1 → Nat
  | .head _ f _ => f
  | _ => 0
def eLn : Strm.E1 → Nat
  | .head _ _ n => n
  | _ => 0
/-- an event, its lists -/
structure EvE where
  x : Strm.E1
  fv : Value
  dv : Value
def EvE.cells (e : EvE) : List Value := [.int .i64 (eKind e.x), .bool (eHd e.x).rq, .string ⟨(eHd e.x).m.toArray⟩, .string ⟨(eHd e.x).t.toArray⟩, .int .i64 ((eHd e.x).st : Int), .string ⟨(eHd e.x).rs.toArray⟩, .int .i64 ((eHd e.x).mn : Int), e.fv, .int .i64 (eFr e.x : Int), .int .i64 (eLn e.x : Int), e.dv]
def EvE.own (e : EvE) (k : Nat) : Prop := e.fv.ownBlock = some k ∨ e.dv.ownBlock = some k
structure EvR (w : World) (base : Nat) (e : EvE) : Prop where
  f : Row w base 2 e.fv (eHd e.x).fs.length (fieldsV (flB (eHd e.x).fs))
  d : RowB w base e.dv (eData e.x)
  x : ∀ k, e.fv.ownBlock = some k → e.dv.ownBlock ≠ some k
def ownE (l : List EvE) (k : Nat) : Prop := ∃ e ∈ l, e.own k
structure Outs (w : World) (base : Nat) (v : Value) (l : List EvE) : Prop where
  row : Row w base 11 v l.length (l.flatMap EvE.cells)
  el : ∀ e ∈ l, EvR w base e
  apart : l.Pairwise fun a b => ∀ k, a.own k → ¬ b.own k
  x : ∀ k, v.ownBlock = some k → ¬ ownE l k
section
variable {w w' w1 : World} {base base' : Nat} {v v' : Value} {l m : List EvE} {e : EvE} {S : Nat → Prop} {k : Nat}
theorem EvR.chg (h : EvR w base e) (hc : Chg S w w') (hs : ∀ k, e.own k → ¬ S k) : EvR w' base e :=
  ⟨h.f.chg hc (fun k hk => hs k (.inl hk)), Row.chg h.d hc (fun k hk => hs k (.inr hk)), h.x⟩
theorem EvR.mono (h : EvR w base e) (hb : base' ≤ base) : EvR w base' e := ⟨h.f.mono hb, Row.mono h.d hb, h.x⟩
theorem EvR.lt (h : EvR w base e) (hk : e.own k) : base ≤ k ∧ k < w.heap.size := by
  rcases hk with x | x
  · exact h.f.lt k x
  · exact Row.lt h.d k x
theorem Outs.nil (w : World) (base : Nat) : Outs w base (.slice none 0 0) [] := ⟨Row.nil _ _ _, fun _ h => (List.not_mem_nil h).elim, List.Pairwise.nil, fun k hk => (nil_own hk).elim⟩
theorem Outs.chg (h : Outs w base v l) (hc : Chg S w w') (hs : ∀ k, v.ownBlock = some k ∨ ownE l k → ¬ S k) : Outs w' base v l :=
  ⟨h.row.chg hc (fun k hk => hs k (.inl hk)), fun e he => (h.el e he).chg hc (fun k hk => hs k (.inr ⟨e, he, hk⟩)), h.apart, h.x⟩
theorem Outs.below (h : Outs w base v l) (hb : Below w.heap.size w w') : Outs w' base v l :=
  h.chg (S := fun _ => False) ((Chg.refl (fun _ => False) w).then_below hb) (fun _ _ e => e)
theorem Outs.mono (h : Outs w base v l) (hb : base' ≤ base) : Outs w base' v l := ⟨h.row.mono hb, fun e he => (h.el e he).mono hb, h.apart, h.x⟩
theorem Outs.lt (h : Outs w base v l) (hk : v.ownBlock = some k ∨ ownE l k) : base ≤ k ∧ k < w.heap.size := by
  rcases hk with x | ⟨e, he, x⟩
  · exact h.row.lt k x
  · exact (h.el e he).lt x
theorem ownE_app : ownE (l ++ m) k ↔ ownE l k ∨ ownE m k := by
  unfold ownE
  constructor
  · rintro ⟨e, he, h⟩
    rcases List.mem_append.1 he with he | he
    · exact .inl ⟨e, he, h⟩
    · exact .inr ⟨e, he, h⟩
  · rintro (⟨e, he, h⟩ | ⟨e, he, h⟩)
    · exact ⟨e, List.mem_append_left _ he, h⟩
    · exact ⟨e, List.mem_append_right _ he, h⟩
/-- more events, of a later call, are taken in -/
theorem Outs.grow {v2 : Value} (h : Outs w base v l) (h2 : Outs w base v2 m) (hx : ∀ k, ownE m k → ¬ (v.ownBlock = some k ∨ ownE l k)) (hg : w.grownBy w' v.ownBlock) (hr : Row w' base 11 v' (l.length + m.length) (l.flatMap EvE.cells ++ m.flatMap EvE.cells)) (ho : v'.ownBlock = v.ownBlock ∨ v'.ownBlock = some w.heap.size) : Outs w' base v' (l ++ m) := by
  have hc : Chg (fun k => v.ownBlock = some k) w w' := (Chg.refl _ _).grown hg (fun k _ hk => hk)
  refine ⟨by rw [List.length_append, List.flatMap_append]; exact hr, ?_, ?_, ?_⟩
  · intro e he
    rcases List.mem_append.1 he with he | he
    · exact (h.el e he).chg hc (fun k hk hk2 => h.x k hk2 ⟨e, he, hk⟩)
    · exact (h2.el e he).chg hc (fun k hk hk2 => hx k ⟨e, he, hk⟩ (.inl hk2))
  · rw [List.pairwise_append]
    exact ⟨h.apart, h2.apart, fun a ha b hb k hk hk2 => hx k ⟨b, hb, hk2⟩ (.inr ⟨a, ha, hk⟩)⟩
  · intro k hk hk2
    rcases ho with e | e
    · rw [e] at hk
      rcases ownE_app.1 hk2 with x | x
      · exact h.x k hk x
      · exact hx k x (.inl hk)
    · rw [e] at hk
      injection hk with hk
      rcases ownE_app.1 hk2 with x | x
      · have := (h.lt (.inr x)).2; omega
      · have := (h2.lt (.inr x)).2; omega
end

/-- what a call of the state leaves: r is what callS says -/
def CallPost (w : World) (base rb : Nat) (V : SV) (A : Option Addr) (n c : Nat) (q : Nat) (r : List Strm.E1 × Nat × Strm.S × Nat) (e : Ending) (w' : World) : Prop :=
  ∃ ev rest nx L V', e = .returned (.tuple #[ev, rest, nx, .int .i64 (r.2.2.2 : Int)]) ∧ L.map EvE.x = r.1 ∧ Outs w' w.heap.size ev L ∧ SMem w' base rb r.2.2.1 V' q ∧
    (r.2.2.2 = 0 → nx = nowV rb r.2.2.1.ph ∧ (rest = .slice none 0 0 ∧ r.2.1 = n ∨ rest = .slice A n c ∧ r.2.1 = 0 ∨ rest = .slice (if c = r.2.1 then A else A.map (·.add r.2.1)) (n - r.2.1) (c - r.2.1))) ∧
    Chg (footS rb V) w w' ∧ (∀ k, footS rb V' k → footS rb V k ∨ w.heap.size ≤ k) ∧ (∀ k, ev.ownBlock = some k ∨ ownE L k → ¬ footS rb V' k)
end Go.Proofs.YtklmpadcfioefaaGreatDoor

namespace Go.Proofs.YtklmpadcfioefaaGreatDoor
open Go.RowKit

theorem Row.of_block {w : World} {b base sz n : Nat} {t : TypeId} {cs : Array Value} (h : w.heap[b]? = some (.cells cs t (0, 0))) (hb : base ≤ b) (hl : cs.size = n * sz) (hn : n ≤ maxLen) : Row w base sz (.slice (some ⟨b, 0, none⟩) n n) n cs.toList := by
  refine ⟨by simpa using hl, .inr ⟨b, 0, n, cs, t, (0, 0), rfl, hb, h, Nat.le_refl _, hn, by omega, by intro j _ _; simp, ?_⟩⟩
  rw [List.drop_zero, ← hl]
  exact List.take_of_length_le (by simp)
set_option maxHeartbeats 1000000 in
theorem sclone_any (A : Option Addr) (n c : Nat) (l : Bs) (w : World) (hA : A = none → n = 0 ∧ c = 0) (hrd : Rd w w.heap.size 1 A n (bytesV l)) (hn : n ≤ 1000000000) :
    Calls Tryz.prog 131 #[.slice A n c] w fun e w' => ∃ v, e = .returned v ∧ RowB w' w.heap.size v l ∧ Below w.heap.size w w' := by
  have hlen : l.length = n := by have := hrd.1; rw [bytesV_len] at this; omega
  obtain ⟨f0, hf0, fz0, fz1, fz2⟩ := info_parts infoByte
  cases A with
  | none =>
    obtain ⟨rfl, rfl⟩ := hA rfl
    have h0 : l = [] := List.eq_nil_of_length_eq_zero hlen
    subst h0
    have hq := fun (W : World) (a : Option Addr) (l c : Nat) => Go.run_eql_slice_nil (P := Tryz.prog) W 26 5 a l c Tryz.underlying26
    go_enter Tryz.func131, Tryz.ntmps131
    go_wp2
    go_ret
    exact ⟨_, rfl, RowB.nil _ _, Below.refl _ _⟩
  | some a =>
    have hq := fun (W : World) (a : Option Addr) (l c : Nat) => Go.run_eql_slice_nil (P := Tryz.prog) W 26 5 a l c Tryz.underlying26
    have hrd1 := (hrd.alloc (Nat.le_refl _) (.cells #[] 5)).more (B' := (w.alloc (.cells #[] 5)).heap.size) (by simp)
    have HL := Lib.hid hlen
    clear hlen
    go_enter Tryz.func131, Tryz.ntmps131
    go_wp2_with (first
      | (at_builtin; go_must (refine wpList_app _ rfl (.tmp 5) (.tmp 6) 26 26 rfl w.heap.size 5 f0 (.int .u8 0) 1 1 Tryz.underlying26 hf0 fz0 fz1 fz2 rfl (.slice (some ⟨w.heap.size, 0, none⟩) 0 0) 0 [] (by rfl) (empty_row w _ 1) _ n (bytesV l) (by rfl) (Src.slice Tryz.underlying26 hrd1 (fun e => by cases e) (bytesV_one l)) (by omega) (by omega) (by omega) (by simp) ?_); go_must (intro v2 w2 hrow2 hg2 hv2; rw [List.nil_append, Nat.zero_add] at hrow2))
      | fail)
    go_ret
    refine ⟨_, rfl, ?_, Below.app ((Below.refl _ _).alloc (Nat.le_refl _) _) (empty_row w 5 1) hg2 (Nat.le_refl _) (by simp)⟩
    have hL := HL.out
    subst hL
    exact hrow2

theorem Outs.one {W : World} {base : Nat} {e : EvE} (hr : EvR W base e) (hw : base ≤ W.heap.size) (hlt : ∀ k, e.own k → k < W.heap.size) : Outs (W.alloc (.cells e.cells.toArray 58)) base (.slice (some ⟨W.heap.size, 0, none⟩) 1 1) [e] := by
  have hb : Below W.heap.size W (W.alloc (.cells e.cells.toArray 58)) := (Below.refl _ _).alloc (Nat.le_refl _) _
  refine ⟨?_, ?_, List.pairwise_singleton _ _, ?_⟩
  · have h := Row.of_block (w := W.alloc (.cells e.cells.toArray 58)) (b := W.heap.size) (base := base) (sz := 11) (n := 1) (t := 58) (cs := e.cells.toArray) (heap_alloc_new W _) hw (by rfl) (by decide)
    simpa using h
  · intro f hf
    rw [List.mem_singleton.1 hf]
    exact hr.chg (S := fun _ => False) ((Chg.refl (fun _ => False) W).then_below hb) (fun _ _ h => h)
  · rintro k hk ⟨f, hf, hk2⟩
    rw [List.mem_singleton.1 hf] at hk2
    simp [Value.ownBlock] at hk
    have := hlt k hk2
    omega
theorem evr_data {w : World} {base : Nat} {dv : Value} {d : Bs} (h : RowB w base dv d) : EvR w base ⟨.body d, .slice none 0 0, dv⟩ := ⟨Row.nil _ _ _, h, fun k hk => (nil_own hk).elim⟩
theorem evr_fin {w : World} {base : Nat} : EvR w base ⟨.fin, .slice none 0 0, .slice none 0 0⟩ := ⟨Row.nil _ _ _, RowB.nil _ _, fun k hk => (nil_own hk).elim⟩
set_option maxHeartbeats 1000000 in
theorem sdata_any (A : Option Addr) (n c : Nat) (l : Bs) (w : World) (hA : A = none → n = 0) (hrd : Rd w w.heap.size 1 A n (bytesV l)) (hn : n ≤ 1000000000) :
    Calls Tryz.prog 94 #[.slice A n c] w fun e w' => ∃ ev L, e = .returned ev ∧ L.map EvE.x = Strm.data l ∧ Outs w' w.heap.size ev L ∧ Below w.heap.size w w' := by
  have hlen : l.length = n := by have := hrd.1; rw [bytesV_len] at this; omega
  by_cases h0 : n = 0
  · subst h0
    have hl : l = [] := List.eq_nil_of_length_eq_zero hlen
    clear hlen hA hrd
    go_enter Tryz.func94, Tryz.ntmps94
    go_wp2
    go_ret
    exact ⟨_, [], rfl, by rw [hl]; rfl, Outs.nil _ _, Below.refl _ _⟩
  · have hl : l ≠ [] := fun e => h0 (by rw [← hlen, e]; rfl)
    have e0 : ((n : Int) == 0) = false := by simp; omega
    have HC := Lib.hid (sclone_any A n c l w (fun e => absurd (hA e) h0) hrd hn)
    have HL := Lib.hid hl
    clear hlen hA hrd h0 hl
    go_enter Tryz.func94, Tryz.ntmps94
    go_wp2_with (first
      | (go_at_call 131; go_must (refine HC.out.mono ?_; rintro _ w1 ⟨v, rfl, hrow, hb⟩; obtain ⟨Av, cv, rfl, _, _, _, _⟩ := Row.form hrow))
      | fail)
    go_ret
    refine ⟨_, [⟨.body l, .slice none 0 0, .slice Av l.length cv⟩], rfl, by unfold Strm.data; rw [if_neg HL.out]; rfl, Outs.one (evr_data hrow) hb.size ?_, hb.alloc hb.size _⟩
    intro k hk
    rcases hk with x | x
    · exact (nil_own x).elim
    · exact (Row.lt hrow k x).2
theorem call_one {w W : World} {base rb q : Nat} {V V' : SV} {t : Strm.S} {e : EvE} (hsz : w.heap.size ≤ W.heap.size) (hm : SMem W base rb t V' q) (hr : EvR W w.heap.size e) (hch : Chg (footS rb V) w W) (hx : ∀ k, e.own k → ¬ footS rb V' k) :
    Outs (W.alloc (.cells e.cells.toArray 58)) w.heap.size (.slice (some ⟨W.heap.size, 0, none⟩) 1 1) [e] ∧ SMem (W.alloc (.cells e.cells.toArray 58)) base rb t V' q ∧ Chg (footS rb V) w (W.alloc (.cells e.cells.toArray 58)) ∧
      (∀ k, (Value.slice (some ⟨W.heap.size, 0, none⟩) 1 1).ownBlock = some k ∨ ownE [e] k → ¬ footS rb V' k) := by
  refine ⟨Outs.one hr hsz (fun k hk => (hr.lt hk).2), hm.below ((Below.refl _ _).alloc (Nat.le_refl _) _), hch.alloc _, fun k hk => ?_⟩
  rcases hk with x | ⟨f, hf, x⟩
  · simp [Value.ownBlock] at x
    intro y
    have := (hm.lt k y).2
    omega
  · rw [List.mem_singleton.1 hf] at x
    exact hx k x
set_option maxHeartbeats 1000000 in
theorem send_any {w : World} {base rb : Nat} {s : Strm.S} {V : SV} (h : SMem w base rb s V 1) (hp : s.ph = 1) (A : Option Addr) (n c : Nat) (l : Bs) :
    Calls Tryz.prog 55 #[.pointer (some ⟨rb, 0, none⟩), .slice A n c] w (CallPost w base rb V A n c 1 (Strm.callS s l)) := by
  have e : Strm.callS s l = ([.fin], 0, { s with win := false, due := false, ph := 0 }, 0) := by unfold Strm.callS; rw [if_neg (by omega), if_pos hp]
  rw [e]
  have d7 := h.cell (j := 7) rfl
  have d8 := h.cell (j := 8) rfl
  have f7 := h.var.frozen 7
  have f8 := h.var.frozen 8
  have hlt := h.var.lt
  have h1 := (h.put (j := 7) (u := .bool false) (t := { s with win := false }) (q' := 1) rfl rfl rfl rfl Iff.rfl h.nil)
  have h2 := (h1.put (j := 8) (u := .bool false) (t := { s with win := false, due := false }) (q' := 1) rfl rfl rfl rfl Iff.rfl h.nil).rephase (x := 0) (by decide) (fun e => absurd rfl e)
  have hc := ((show Chg (footS rb V) w w from Chg.refl _ w).setCell (p := ⟨rb, 7, none⟩) (fun _ => .inl rfl) (.bool false)).setCell (p := ⟨rb, 8, none⟩) (fun _ => .inl rfl) (.bool false)
  have hr := call_one (e := ⟨.fin, .slice none 0 0, .slice none 0 0⟩) hc.size h2 evr_fin hc (fun k hk => (hk.elim nil_own nil_own).elim)
  have HR := Lib.hid hr
  clear e h h1 h2 hp hc hr
  go_enter Tryz.func55, Tryz.ntmps55
  go_wp2
  refine bodyPost_ret (results_tmp4 rfl _ _ _) rfl ?_
  obtain ⟨r1, r2, r3, r4⟩ := HR.out
  rw [show ((w.setCell ⟨rb, 7, none⟩ (.bool false)).setCell ⟨rb, 8, none⟩ (.bool false)).heap.size = w.heap.size by simp] at r1 r4
  exact ⟨.slice (some ⟨w.heap.size, 0, none⟩) 1 1, .slice A n c, nowV rb 0, [⟨.fin, .slice none 0 0, .slice none 0 0⟩], V.cut rb, rfl, rfl, r1, r2, fun _ => ⟨rfl, .inr (.inl ⟨rfl, rfl⟩)⟩, r3, fun k hk => .inl (footS_cut hk), r4⟩
theorem call_list {w W : World} {base rb q : Nat} {V' : SV} {t : Strm.S} {ev : Value} {L : List EvE} {B : Nat} (hm : SMem w base rb t V' q) (hb : Below w.heap.size w W) (ho : Outs W B ev L) (hB : w.heap.size ≤ B) : SMem W base rb t V' q ∧ (∀ k, ev.ownBlock = some k ∨ ownE L k → ¬ footS rb V' k) := by
  refine ⟨hm.below hb, fun k hk y => ?_⟩
  have := (ho.lt hk).1
  have := (hm.lt k y).2
  omega
set_option maxHeartbeats 1000000 in
theorem srest_any {w : World} {base rb : Nat} {s : Strm.S} {V : SV} (h : SMem w base rb s V 4) (hp : s.ph = 4) (A : Option Addr) (n c : Nat) (l : Bs) (hA : A = none → n = 0) (hrd : Rd w w.heap.size 1 A n (bytesV l)) (hn : n ≤ 1000000000) :
    Calls Tryz.prog 58 #[.pointer (some ⟨rb, 0, none⟩), .slice A n c] w (CallPost w base rb V A n c 4 (Strm.callS s l)) := by
  have hlen : l.length = n := by have := hrd.1; rw [bytesV_len] at this; omega
  have e : Strm.callS s l = (Strm.data l, l.length, s, 0) := by unfold Strm.callS; rw [if_neg (by omega), if_neg (by omega), if_neg (by omega), if_neg (by omega)]
  rw [e, hlen]
  have HD := Lib.hid (sdata_any A n c l w hA hrd hn)
  have HM := Lib.hid h
  have HP := Lib.hid hp
  clear e h hp hrd hlen
  go_enter Tryz.func58, Tryz.ntmps58
  go_wp2_with (first
    | (go_at_call 94; go_must (refine HD.out.mono ?_; rintro _ w1 ⟨ev, L, rfl, hL, ho, hb⟩))
    | fail)
  refine bodyPost_ret (results_tmp4 rfl _ _ _) rfl ?_
  obtain ⟨r1, r2⟩ := call_list HM.out hb ho (Nat.le_refl _)
  exact ⟨ev, .slice none 0 0, nowV rb 4, L, V, rfl, hL, ho, r1, fun _ => ⟨by rw [HP.out], .inl ⟨rfl, rfl⟩⟩, Chg.of_below hb, fun k hk => .inl hk, r2⟩
end Go.Proofs.YtklmpadcfioefaaGreatDoor

namespace Go.Proofs.YtklmpadcfioefaaGreatDoor
open Go.RowKit

theorem bytesOf_nat (l : Bs) : Lib.bytesOf (l.map fun b => (b.toNat : Int)) = l := by
  unfold Lib.bytesOf
  rw [List.map_map]
  conv => rhs; rw [← List.map_id l]
  apply List.map_congr_left
  intro b _
  simp
theorem cells_at {w : World} {B n : Nat} {a : Addr} {l : Bs} (hrd : Rd w B 1 (some a) n (bytesV l)) : ∀ i, i < n → w.cell? (a.add i) = some (.int .u8 ((l.map fun b => (b.toNat : Int)).getD i 0)) := by
  intro i hi
  obtain ⟨g, o, e, _, hc⟩ := hrd.2 (by omega)
  injection e with e
  subst e
  have hlen : l.length = n := by have := hrd.1; rw [bytesV_len] at this; omega
  rw [Addr.add_lit]
  have := hc i _ (bytesV_get (l := l) (j := i) (by omega))
  rw [this]
  congr 2
  rw [List.getD_eq_getElem?_getD, List.getElem?_map, List.getElem?_eq_getElem (by omega)]
  rfl
theorem bIndex_any (A : Option Addr) (n c : Nat) (l : Bs) (a2 : Addr) (k c2 : Nat) (y : Bs) (w : World) (hsh : w.ShapedOpen Tryz.prog) (hnc : n ≤ c) (hA : A = none → n = 0 ∧ c = 0) (hrd : Rd w w.heap.size 1 A n (bytesV l)) (hrd2 : Rd w w.heap.size 1 (some a2) k (bytesV y)) (h2 : 2 ≤ k) (hk : k ≤ 1000) (hn : n ≤ 1000000000) :
    Calls Tryz.prog 53 #[.slice A n c, .slice (some a2) k c2] w fun e w' => e = .returned (.int .i64 (Lib.index l y)) ∧ ∃ q, w' = w.drewN q := by
  have hlen : l.length = n := by have := hrd.1; rw [bytesV_len] at this; omega
  have hlen2 : y.length = k := by have := hrd2.1; rw [bytesV_len] at this; omega
  cases A with
  | none =>
    obtain ⟨rfl, rfl⟩ := hA rfl
    have hl : l = [] := List.eq_nil_of_length_eq_zero hlen
    subst hl
    refine (Tryz.bytes_Index_nil (some a2) k c2 w (by omega) (fun e => by omega)).mono fun e w' ⟨he, hw⟩ => ⟨?_, 0, hw⟩
    rw [he, if_neg (by omega), Lib.index_past (i := 0) (fun e => by rw [e] at hlen2; simp at hlen2; omega) (Lib.NoOcc.zero _ _) (by simp; omega)]
  | some a =>
    have h := Tryz.bytes_Index_at_shaped a a2 n c k c2 (l.map fun b => (b.toNat : Int)) (y.map fun b => (b.toNat : Int)) w (by simpa using hlen) (by simpa using hlen2)
      (by intro x hx; obtain ⟨b, _, rfl⟩ := List.mem_map.1 hx; have := b.toNat_lt; omega) (by intro x hx; obtain ⟨b, _, rfl⟩ := List.mem_map.1 hx; have := b.toNat_lt; omega)
      (cells_at hrd) (cells_at hrd2) hnc (by omega) (by omega) hsh
    rw [bytesOf_nat, bytesOf_nat] at h
    exact h
theorem rd_const (w : World) (t : TypeId) (fr : Nat × Nat) (y : Bs) : Rd (w.alloc (.cells (bytesV y).toArray t fr)) (w.alloc (.cells (bytesV y).toArray t fr)).heap.size 1 (some ⟨w.heap.size, 0, none⟩) y.length (bytesV y) :=
  ⟨by rw [bytesV_len, Nat.mul_one], fun _ => ⟨_, 0, rfl, by simp, fun j u hu => by rw [Nat.zero_add, cell_of_row _ w.heap.size j _ t fr (heap_alloc_new w _)]; simpa using hu⟩⟩
set_option maxHeartbeats 1000000 in
set_option maxRecDepth 100000 in
theorem srefuse_any (A : Option Addr) (n c : Nat) (l : Bs) (w : World) (hsh : w.ShapedOpen Tryz.prog) (hnc : n ≤ c) (hA : A = none → n = 0 ∧ c = 0) (hrd : Rd w w.heap.size 1 A n (bytesV l)) (hn : n ≤ 1000000000) :
    Calls Tryz.prog 54 #[.slice A n c] w fun e w' => e = .returned (.int .i64 (Strm.refuseP l : Nat)) ∧ Below w.heap.size w w' := by
  have hB : Below w.heap.size w (w.alloc (.cells #[.int .u8 13, .int .u8 10] 5 (2, 3))) := (Below.refl _ _).alloc (Nat.le_refl _) _
  have hr2 : Rd (w.alloc (.cells #[.int .u8 13, .int .u8 10] 5 (2, 3))) (w.alloc (.cells #[.int .u8 13, .int .u8 10] 5 (2, 3))).heap.size 1 (some ⟨w.heap.size, 0, none⟩) 2 (bytesV [13, 10]) := rd_const w 5 (2, 3) [13, 10]
  have kc := fun (W : World) (C : Array Value) (n c : Nat) => Lib.run_convert_bytes_const (P := Tryz.prog) W 26 5 C n c Tryz.underlying26 Tryz.underlying5
  have HI := Lib.hid (bIndex_any A n c l ⟨w.heap.size, 0, none⟩ 2 2 [13, 10] _ (shaped_below hsh hB) hnc hA ((hrd.below hB).more hB.size) hr2 (by decide) (by decide) hn)
  have hR : Strm.refuseP l = if Lib.index l [13, 10] < 0 ∨ 4096 < Lib.index l [13, 10] then 221 else 222 := rfl
  have hge := Lib.index_ge l [13, 10]
  have hle := Lib.index_le l [13, 10]
  obtain ⟨I, hI⟩ : ∃ I, I = Lib.index l [13, 10] := ⟨_, rfl⟩
  rw [← hI] at HI hR hge
  have HB := Lib.hid hB
  clear hsh hrd hB hr2 hI hA hle
  by_cases h0 : I < 0
  · rw [if_pos (.inl h0)] at hR
    rw [hR]
    clear hR
    have q0 : decide (I < 0) = true := by simpa using h0
    go_enter Tryz.func54, Tryz.ntmps54
    go_wp2_with (first
      | (go_at_call 53; go_must (refine HI.out.mono ?_; rintro _ _ ⟨rfl, q, rfl⟩))
      | fail)
    go_ret
    exact ⟨rfl, below_drewN HB.out _⟩
  · by_cases h1 : 4096 < I
    · rw [if_pos (.inr h1)] at hR
      rw [hR]
      clear hR
      have q0 : decide (I < 0) = false := by simpa using h0
      go_enter Tryz.func54, Tryz.ntmps54
      go_wp2_with (first
        | (go_at_call 53; go_must (refine HI.out.mono ?_; rintro _ _ ⟨rfl, q, rfl⟩))
        | fail)
      go_ret
      exact ⟨rfl, below_drewN HB.out _⟩
    · rw [if_neg (by omega)] at hR
      rw [hR]
      clear hR
      have q0 : decide (I < 0) = false := by simpa using h0
      have q1 : decide (4096 < I) = false := by simpa using h1
      go_enter Tryz.func54, Tryz.ntmps54
      go_wp2_with (first
        | (go_at_call 53; go_must (refine HI.out.mono ?_; rintro _ _ ⟨rfl, q, rfl⟩))
        | fail)
      go_ret
      exact ⟨rfl, below_drewN HB.out _⟩
end Go.Proofs.YtklmpadcfioefaaGreatDoor
