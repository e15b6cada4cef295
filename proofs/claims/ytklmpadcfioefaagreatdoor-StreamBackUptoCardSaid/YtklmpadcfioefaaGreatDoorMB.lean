/- Plain laws on writing heads: what is written is read back; what is read is written in one form. No program in sight. No condition. | the reference's magnitude, digits; strconv.Itoa: a number's decimal digits. Condition: the number is an int's. | Rows of bytes that a call appends to. No condition but sizes. | the reference's Text: a head's text. Conditions: sizes, and that the numbers are ints. | Plain words on what is rewritten (chapter 25): the connection's own fields, paths, framings, replies. No program in sight. No condition. | head.minor, head.Parse's closure, slices.ContainsFunc with it, strings.Cut at a byte; the reference's minor. Conditions: sizes. | the reference's List. | the law's 'texts': of the same texts. | the reference's Values. | the reference's Same: of the same head. | the law HeadAsks. | Small words for regions that draw their order and only call what leaves memory below alone. No condition. | How great the values of a name are. No program in sight. No condition. | Bytes that came in, nil or not: what capacity they have. No condition. | A head that came in: how great its fields are together; the library's table of powers, where the row lists it. No condition. | An Ask that came in. No condition. -/
import Derived.Test.YtklmpadcfioefaaGreatDoorMA
import Derived.Lib.ItoaNum
import Derived.Lib.ItoaLen
import Derived.IntWalk
import Derived.OpenShut
import Derived.Lib.SmallJoins
import Derived.Lib.AppendIntMem
import Derived.Deep.RegionHeld3
import Derived.Deep.MidRow
import Derived.BigQuiet
import Derived.LaidSub
import Derived.Lib.LaidTab
namespace Go.Proofs.YtklmpadcfioefaaGreatDoor

/-- a head of whatever numbers -/
structure HI where
  rq : Bool := false
  m : Bs := []
  t : Bs := []
  st : Int := 0
  rs : Bs := []
  mn : Int := 0
  fs : List (Bs × Bs) := []
deriving DecidableEq
def Hd.up (h : Hd) : HI := { rq := h.rq, m := h.m, t := h.t, st := h.st, rs := h.rs, mn := h.mn, fs := h.fs }
def ver : Bs := [72, 84, 84, 80, 47, 49, 46]
def lineT (h : HI) : Bs := if h.rq = true then h.m ++ 32 :: (h.t ++ 32 :: (ver ++ Lib.itoa h.mn)) else ver ++ (Lib.itoa h.mn ++ 32 :: (Lib.itoa h.st ++ 32 :: h.rs))
def fieldT (f : Bs × Bs) : Bs := f.1 ++ 58 :: 32 :: f.2
def fieldsT (fs : List (Bs × Bs)) : Bs := fs.flatMap fun f => fieldT f ++ [13, 10]
def textP (h : HI) : Bs := lineT h ++ 13 :: 10 :: (fieldsT h.fs ++ [13, 10])
def writeP (h : HI) : Option Bs × Nat :=
  if (parseP (textP h) h.rq).2 ≠ 0 then (none, (parseP (textP h) h.rq).2) else if (parseP (textP h) h.rq).1.up = h then (some (textP h), 0) else (none, 220)

/-- what parses has a first line that does, and is not long -/
theorem parse_yes {l : Bs} {rq : Bool} (h : (parseP l rq).2 = 0) : l.length ≤ 16384 ∧ (firstP rq ((lines [] l).headD [])).isSome = true := by
  unfold parseP at h
  split at h
  · cases h
  · split at h
    · cases h
    · rename_i c1
      split at h
      · cases h
      · refine ⟨by omega, ?_⟩
        cases hf : firstP rq ((lines [] l).headD []) with
        | none => rw [hf] at h; cases h
        | some g => rfl
theorem minor_shape {a : Bs} {k : Nat} (h : minorP a = some k) : (k = 0 ∧ a = ver ++ [48]) ∨ (k = 1 ∧ a = ver ++ [49]) := by
  unfold minorP at h
  split at h
  · rename_i e; injection h with h; exact .inl ⟨h.symm, e⟩
  · split at h
    · rename_i e; injection h with h; exact .inr ⟨h.symm, e⟩
    · cases h
theorem minor_no_token {a : Bs} {k : Nat} (h : minorP a = some k) : token a = false := by
  rcases minor_shape h with ⟨_, rfl⟩ | ⟨_, rfl⟩ <;> decide
theorem first_both {l : Bs} (h1 : (firstP true l).isSome = true) (h2 : (firstP false l).isSome = true) : False := by
  unfold firstP at h1 h2
  cases c1 : cutAt 32 l with
  | none => rw [c1] at h1; cases h1
  | some p =>
    obtain ⟨a, r⟩ := p
    rw [c1] at h1 h2
    simp only at h1 h2
    cases c2 : cutAt 32 r with
    | none => rw [c2] at h1; cases h1
    | some p =>
      obtain ⟨b, c⟩ := p
      rw [c2] at h1 h2
      simp only [if_true, Bool.false_eq_true, if_false] at h1 h2
      cases m1 : minorP c with
      | none => rw [m1] at h1; cases h1
      | some k =>
        rw [m1] at h1
        simp only at h1
        cases m2 : minorP a with
        | none => rw [m2] at h2; cases h2
        | some k2 =>
          have := minor_no_token m2
          rw [this] at h1
          simp at h1

/-- HeadBack -/
theorem write_back {h : HI} {t : Bs} (hw : writeP h = (some t, 0)) : t = textP h ∧ (∃ g, parseP t h.rq = (g, 0) ∧ g.up = h) ∧ (parseP t (!h.rq)).2 ≠ 0 ∧ t.length ≤ 16384 := by
  unfold writeP at hw
  split at hw
  · cases hw
  · rename_i c0
    split at hw
    · rename_i c1
      injection hw with hw _
      injection hw with hw
      subst hw
      have z : (parseP (textP h) h.rq).2 = 0 := by omega
      obtain ⟨z1, z2⟩ := parse_yes z
      refine ⟨rfl, ⟨_, Prod.ext rfl z, c1⟩, fun z3 => ?_, z1⟩
      obtain ⟨_, z4⟩ := parse_yes z3
      cases hr : h.rq
      · rw [hr] at z2 z4; exact first_both z4 z2
      · rw [hr] at z2 z4; exact first_both z2 z4
    · cases hw
theorem write_err {h : HI} (hw : (writeP h).2 ≠ 0) : (writeP h).1 = none := by
  unfold writeP at hw ⊢
  split
  · rfl
  · rename_i c0
    rw [if_neg c0] at hw
    split
    · rename_i c1; rw [if_pos c1] at hw; exact absurd rfl hw
    · rfl
theorem write_ok {h : HI} (hw : (writeP h).2 = 0) : writeP h = (some (textP h), 0) := by
  unfold writeP at hw ⊢
  split
  · rename_i c0; rw [if_pos c0] at hw; exact absurd hw c0
  · rename_i c0
    rw [if_neg c0] at hw
    split
    · rfl
    · rename_i c1; rw [if_neg c1] at hw; cases hw

/-! ### what is read is written in one form -/
theorem good_13 {l : Bs} (h : allGood l = true) : (13 : UInt8) ∉ l := fun hm => by
  unfold allGood at h
  have := List.all_eq_true.1 h _ hm
  simp [isGood] at this
theorem itoa_nat (k : Nat) : Lib.itoa (k : Int) = Lib.decDigits k := by
  unfold Lib.itoa; rw [if_neg (by omega)]; simp
theorem ofNat_toNat (c : UInt8) (n : Nat) (h : n = c.toNat) : UInt8.ofNat n = c := by subst h; simp
theorem digits_three {b : Bs} (h3 : b.length = 3) (hd : b.all isDigit = true) (h100 : 100 ≤ numP b) : Lib.itoa ((numP b : Nat) : Int) = b := by
  match b, h3 with
  | [x, y, z], _ =>
    simp only [List.all_cons, List.all_nil, Bool.and_true, Bool.and_eq_true, isDigit, UInt8.le_iff_toNat_le, decide_eq_true_eq] at hd
    have e1 : (48 : UInt8).toNat = 48 := rfl
    have e2 : (57 : UInt8).toNat = 57 := rfl
    have hn : numP [x, y, z] = 10 * (10 * (10 * 0 + (x.toNat - 48)) + (y.toNat - 48)) + (z.toNat - 48) := rfl
    rw [e1, e2] at hd
    rw [itoa_nat]
    generalize numP [x, y, z] = n at *
    rw [Lib.decDigits, dif_neg (by omega), Lib.decDigits_two (by omega) (by omega), ofNat_toNat x _ (by omega), ofNat_toNat y _ (by omega), ofNat_toNat z _ (by omega)]
    rfl

theorem first_line {rq : Bool} {p : Bs} {h : Hd} (hf : firstP rq p = some h) : lineT h.up = p ∧ h.rq = rq ∧ (13 : UInt8) ∉ p := by
  unfold firstP at hf
  cases h1 : cutAt 32 p with
  | none => rw [h1] at hf; cases hf
  | some q =>
    obtain ⟨a, r⟩ := q
    obtain ⟨e1, _⟩ := cutAt_some.1 h1
    rw [h1] at hf
    simp only at hf
    cases h2 : cutAt 32 r with
    | none => rw [h2] at hf; cases hf
    | some q =>
      obtain ⟨b, c⟩ := q
      obtain ⟨e2, _⟩ := cutAt_some.1 h2
      rw [h2] at hf
      simp only at hf
      have e3 : p = a ++ 32 :: (b ++ 32 :: c) := by rw [e1, e2]
      cases rq with
      | true =>
        simp only [if_true] at hf
        cases h3 : minorP c with
        | none => rw [h3] at hf; cases hf
        | some k =>
          rw [h3] at hf
          simp only at hf
          by_cases h4 : token a = true ∧ b ≠ [] ∧ b.all isSeen = true
          · rw [if_pos h4] at hf
            cases hf
            have hc : c = ver ++ Lib.itoa ((k : Nat) : Int) ∧ (13 : UInt8) ∉ c := by
              rw [itoa_nat]
              rcases minor_shape h3 with ⟨rfl, rfl⟩ | ⟨rfl, rfl⟩
              · exact ⟨by rw [Lib.decDigits_one (by omega)]; rfl, by decide⟩
              · exact ⟨by rw [Lib.decDigits_one (by omega)]; rfl, by decide⟩
            refine ⟨?_, rfl, ?_⟩
            · rw [e3]
              unfold lineT Hd.up
              simp only [if_true]
              rw [← hc.1]
            · rw [e3]
              have g1 := good_13 (token_good h4.1)
              have g2 := good_13 (good_of isSeen h4.2.2 seen_good)
              simp [g1, g2, hc.2]
          · rw [if_neg h4] at hf; cases hf
      | false =>
        simp only [Bool.false_eq_true, if_false] at hf
        cases h3 : minorP a with
        | none => rw [h3] at hf; cases hf
        | some k =>
          rw [h3] at hf
          simp only at hf
          by_cases h4 : b.length = 3 ∧ c.all isReason = true ∧ b.all isDigit = true ∧ 100 ≤ numP b ∧ numP b ≤ 599
          · rw [if_pos h4] at hf
            cases hf
            have hc : a = ver ++ Lib.itoa ((k : Nat) : Int) ∧ (13 : UInt8) ∉ a := by
              rw [itoa_nat]
              rcases minor_shape h3 with ⟨rfl, rfl⟩ | ⟨rfl, rfl⟩
              · exact ⟨by rw [Lib.decDigits_one (by omega)]; rfl, by decide⟩
              · exact ⟨by rw [Lib.decDigits_one (by omega)]; rfl, by decide⟩
            refine ⟨?_, rfl, ?_⟩
            · rw [e3]
              unfold lineT Hd.up
              simp only [Bool.false_eq_true, if_false]
              rw [digits_three h4.1 h4.2.2.1 h4.2.2.2.1, ← List.append_assoc, ← hc.1]
            · rw [e3]
              have g1 := good_13 (good_of isReason h4.2.1 reason_good)
              have g2 : (13 : UInt8) ∉ b := fun hm => by
                have := List.all_eq_true.1 h4.2.2.1 _ hm
                simp [isDigit] at this
              simp [g1, g2, hc.2]
          · rw [if_neg h4] at hf; cases hf

theorem trimL_idem : ∀ l : Bs, trimL (trimL l) = trimL l
  | [] => rfl
  | c :: t => by
    cases h : isBlank c with
    | true => rw [trimL_step c t h, trimL_idem t]
    | false => rw [trimL_stop c t h, trimL_stop c t h]
theorem trimR_idem (l : Bs) : trimR (trimR l) = trimR l := by
  have h := trimL_idem l.reverse
  unfold trimL at h
  unfold trimR
  rw [List.reverse_reverse, h]
theorem trim_idem (l : Bs) : trim (trim l) = trim l := by
  rw [trim_eq (trim l), trim_eq l, trim_comm, trimR_idem, trimL_idem]
theorem trim_blank (v : Bs) : trim (32 :: v) = trim v := by
  rw [trim_eq, ← trim_comm, trimL_step 32 v rfl, trim_comm, ← trim_eq]
theorem field_back {s n v : Bs} (hf : fieldP s = some (n, v)) : fieldP (fieldT (n, v)) = some (n, v) ∧ (13 : UInt8) ∉ fieldT (n, v) := by
  obtain ⟨g1, g2, g3, _, _⟩ := field_good hf
  unfold fieldP at hf
  cases h1 : cutAt 58 s with
  | none => rw [h1] at hf; cases hf
  | some p =>
    obtain ⟨a, b⟩ := p
    rw [h1] at hf
    simp only at hf
    by_cases h2 : token a = true ∧ (trim b).all isText = true
    · rw [if_pos h2] at hf
      injection hf with hf
      injection hf with e1 e2
      subst e1 e2
      have h58 : (58 : UInt8) ∉ a := fun hm => by
        unfold token at g1
        rw [Bool.and_eq_true] at g1
        have := List.all_eq_true.1 g1.2 _ hm
        revert this
        decide
      have hc : cutAt 58 (fieldT (a, trim b)) = some (a, 32 :: trim b) := cutAt_some.2 ⟨rfl, h58⟩
      refine ⟨?_, ?_⟩
      · unfold fieldP
        rw [hc]
        simp only
        rw [trim_blank, trim_idem, if_pos h2]
      · have q1 := good_13 g2
        have q2 := good_13 g3
        simp [fieldT, q1, q2]
    · rw [if_neg h2] at hf; cases hf

theorem parse_inv {l : Bs} {rq : Bool} {h : Hd} (hp : parseP l rq = (h, 0)) :
    ∃ h0 : Hd, firstP rq ((lines [] l).headD []) = some h0 ∧ h = { h0 with fs := h.fs } ∧ (∀ f ∈ h.fs, ∃ s, fieldP s = some f) ∧ ((lines [] l).headD []).length ≤ 4096 := by
  unfold parseP at hp
  split at hp
  · cases hp
  · rename_i c0
    split at hp
    · cases hp
    · split at hp
      · cases hp
      · cases h1 : firstP rq ((lines [] l).headD []) with
        | none => rw [h1] at hp; cases hp
        | some g =>
          rw [h1] at hp
          simp only at hp
          split at hp
          · cases hp
            exact ⟨g, rfl, rfl, fun f hf => by obtain ⟨s, _, e⟩ := List.mem_filterMap.1 hf; exact ⟨s, e⟩, by omega⟩
          · cases hp
end Go.Proofs.YtklmpadcfioefaaGreatDoor

namespace Go.Proofs.YtklmpadcfioefaaGreatDoor
open Go.RowKit

theorem conv_one (W : World) (b : Nat) (x : Int) (h0 : 0 ≤ x) (h1 : x < 256) (hc : W.cell? ⟨b, 0, none⟩ = some (.int .u8 x)) :
    (convert 26 9 (.slice (some ⟨b, 0, none⟩) 1 1)).run Tryz.prog W = .ok (.string ⟨#[UInt8.ofNat x.toNat]⟩) W := by
  have e : ((UInt8.ofNat x.toNat).toNat : Int) = x := by
    rw [UInt8.toNat_ofNat', Nat.mod_eq_of_lt (by omega)]; omega
  refine conv_str (P := Tryz.prog) (B := b + 1) 26 9 5 Tryz.underlying26 Tryz.underlying5 Tryz.underlying9 (A := some ⟨b, 0, none⟩) (n := 1) (c := 1) (l := [UInt8.ofNat x.toNat]) ⟨rfl, fun _ => ⟨b, 0, rfl, by omega, fun j u hu => ?_⟩⟩ (fun e => by cases e)
  match j, hu with
  | 0, hu =>
    simp only [bytesV, List.map_cons, e] at hu
    cases hu
    exact hc
def isInt (n : Int) : Prop := -9223372036854775808 ≤ n ∧ n ≤ 9223372036854775807
theorem isInt_wf {n : Int} (h : (Lit.int .i64 n).wf = true) : isInt n := by
  have := Go.bounds_i64 h
  unfold isInt; omega

/-- strconv.Itoa -/
def Tab (w : World) : Prop := Lib.TabIs Tryz.prog w "internal/strconv.uint64pow10" .u64 Lib.pow10Tab
theorem tab_here : (Tryz.prog.globalNamed "internal/strconv.uint64pow10").isSome = true := by kernel_rfl
theorem Tab.below {w w' : World} (h : Tab w) (hb : Below w.heap.size w w') : Tab w' := by
  obtain ⟨g, hg⟩ := Option.isSome_iff_exists.1 tab_here
  exact Joins.tab_stays hg h hb (Nat.le_refl _)
theorem itoa_any (n : Int) (w : World) (hn : isInt n) (ht : Tab w) :
    Calls Tryz.prog 64 #[.int .i64 n] w fun e w' => e = .returned (.string ⟨(Lib.itoa n).toArray⟩) ∧ Below w.heap.size w w' :=
  (Tryz.strconv_Itoa n hn.1 hn.2 w ht).mono fun e w' ⟨he, k, os, hw⟩ => ⟨he, by subst hw; exact Lib.below_grow _ _ (Nat.le_refl _) _ _⟩
theorem itoa_len {n : Int} (h : isInt n) : (Lib.itoa n).length ≤ 21 := Lib.itoa_length_le n h.1 h.2
end Go.Proofs.YtklmpadcfioefaaGreatDoor

namespace Go.Proofs.YtklmpadcfioefaaGreatDoor
open Go.RowKit

theorem infoByte : (Tryz.prog.info? 5).map (fun i => (i.zero, i.size, i.bytes)) = some (some (.int .u8 0), 1, 1) := by kernel_rfl
/-- the value v's elements are the bytes L; its block, from base on, is the call's own -/
def RowB (w : World) (base : Nat) (v : Value) (L : Bs) : Prop := Row w base 1 v L.length (bytesV L)
/-- what is appended: the bytes M -/
def SrcB (w : World) (tx : TypeId) (x : Value) (M : Bs) : Prop := Src Tryz.prog w tx 1 x M.length (bytesV M)

section
variable {w w' : World} {base B : Nat} {v : Value} {L M : Bs}
theorem RowB.nil (w : World) (base : Nat) : RowB w base (.slice none 0 0) [] := Row.nil w base 1
theorem RowB.alloc (h : RowB w base v L) (o : Obj) : RowB (w.alloc o) base v L := Row.alloc h o
theorem RowB.drew (h : RowB w base v L) : RowB w.drew base v L := h
theorem RowB.drewN (h : RowB w base v L) (k : Nat) : RowB (w.drewN k) base v L := h
theorem RowB.below_all (h : RowB w base v L) (hb : Below w.heap.size w w') : RowB w' base v L := Row.below_all h hb
theorem RowB.kept {row : Option Nat} (h : RowB w base v L) (hg : w.grownBy w' row) (hne : v.ownBlock = none ∨ v.ownBlock ≠ row) : RowB w' base v L := Row.kept h hg hne
theorem RowB.form (h : RowB w base v L) : ∃ A c, v = .slice A L.length c ∧ L.length ≤ c ∧ c ≤ maxLen ∧ (A = none → L.length = 0 ∧ c = 0) ∧ Rd w w.heap.size 1 A L.length (bytesV L) := Row.form h
theorem SrcB.str (w : World) (s : ByteArray) : SrcB w 9 (.string s) s.data.toList := by
  have h := Src.string (P := Tryz.prog) (w := w) (tx := 9) Tryz.underlying9 s
  unfold SrcB
  rw [size_data]
  exact h
theorem SrcB.slice {A : Option Addr} {n c : Nat} (h : Rd w B 1 A n (bytesV M)) (h0 : A = none → n = 0) : SrcB w 26 (.slice A n c) M := by
  have hn : M.length = n := by have := h.1; rw [bytesV_len] at this; omega
  subst hn
  exact Src.slice Tryz.underlying26 h h0 (bytesV_one M)
theorem SrcB.built (M : Bs) (us : List Value) (hu : us = bytesV M) : SrcB (w.alloc (.cells us.toArray 5)) 26 (.slice (some ⟨w.heap.size, 0, none⟩) M.length M.length) M := by
  subst hu
  exact Src.built (bytesV M) 5 Tryz.underlying26 (by rw [bytesV_len]; omega) (bytesV_one M)
end

/-- append to bytes -/
theorem wpList_appB {ops : Array Oper} {rest : List Oper} {o : Oper} {a : Act} {w : World} {Q : Exit → Act → World → Prop} (hgd : o.guard = none) (s x : Operand) (tx : TypeId)
    (ho : o.op = .call { callee := .builtin .append, args := #[s, x], argTypes := #[26, tx] })
    (base : Nat) {v : Value} {L M : Bs} (hs : a.eval s = v) (hown : RowB w base v L) {xv : Value} (hxv : a.eval x = xv) (hx : SrcB w tx xv M)
    (hmax : L.length + M.length ≤ 134217728) (hbase : base ≤ w.heap.size)
    (h : ∀ v' w', RowB w' base v' (L ++ M) → Below base w w' → w.grownBy w' v.ownBlock → (v'.ownBlock = v.ownBlock ∨ v'.ownBlock = some w.heap.size) → wpList Tryz.prog ops Q rest (a.put o.dst v') w') : wpList Tryz.prog ops Q (o :: rest) a w := by
  obtain ⟨j0, hj0, jz0, jz1, jz2⟩ := info_parts infoByte
  refine wpList_app (P := Tryz.prog) w hgd s x 26 tx ho base 5 j0 (.int .u8 0) 1 1 Tryz.underlying26 hj0 jz0 jz1 jz2 rfl v L.length (bytesV L) hs hown xv M.length (bytesV M) hxv hx (by omega) (by omega) (by omega) hbase ?_
  intro v' w' h1 h2 h3
  refine h v' w' ?_ (Below.app (Below.refl _ _) hown h2 (Nat.le_refl _) hbase) h2 h3
  unfold RowB
  rw [List.length_append, bytesV_append]
  exact h1
/-- the same in a region that draws its order -/
theorem step_appB {ops : Array Oper} {o : Oper} {a : Act} {w : World} {K : Act → World → Prop} {Q : Exit → Act → World → Prop} {E : Prop} (hgd : o.guard = none) (s x : Operand) (tx : TypeId)
    (ho : o.op = .call { callee := .builtin .append, args := #[s, x], argTypes := #[26, tx] })
    (base : Nat) {v : Value} {L M : Bs} (hs : a.eval s = v) (hown : RowB w base v L) {xv : Value} (hxv : a.eval x = xv) (hx : SrcB w tx xv M)
    (hmax : L.length + M.length ≤ 134217728) (hbase : base ≤ w.heap.size)
    (h : ∀ v' w', RowB w' base v' (L ++ M) → Below base w w' → w.grownBy w' v.ownBlock → (v'.ownBlock = v.ownBlock ∨ v'.ownBlock = some w.heap.size) → K (a.put o.dst v') w') :
    if Region.wanted o (yielded ops a.tmps) = true then Oper.wp Tryz.prog o a w K Q else E := by
  obtain ⟨j0, hj0, jz0, jz1, jz2⟩ := info_parts infoByte
  refine step_app (P := Tryz.prog) w hgd s x 26 tx ho base 5 j0 (.int .u8 0) 1 1 Tryz.underlying26 hj0 jz0 jz1 jz2 rfl v L.length (bytesV L) hs hown xv M.length (bytesV M) hxv hx (by omega) (by omega) (by omega) hbase ?_
  intro v' w' h1 h2 h3
  refine h v' w' ?_ (Below.app (Below.refl _ _) hown h2 (Nat.le_refl _) hbase) h2 h3
  unfold RowB
  rw [List.length_append, bytesV_append]
  exact h1
end Go.Proofs.YtklmpadcfioefaaGreatDoor

namespace Go.Proofs.YtklmpadcfioefaaGreatDoor
open Go.RowKit

/-- a head in memory, as the plain law has it -/
def hiOf (rq : Bool) (m t : ByteArray) (st : Int) (rs : ByteArray) (mn : Int) (fs : List Fl) : HI :=
  { rq := rq, m := m.data.toList, t := t.data.toList, st := st, rs := rs.data.toList, mn := mn, fs := fs.map fun f => (f.1.data.toList, f.2.data.toList) }
def flT (fs : List Fl) : Bs := fieldsT (fs.map fun f => (f.1.data.toList, f.2.data.toList))
theorem flT_take (fs : List Fl) (k : Nat) (h : k < fs.length) : flT (fs.take (k + 1)) = flT (fs.take k) ++ (((fs[k].1.data.toList ++ [58, 32]) ++ fs[k].2.data.toList) ++ [13, 10]) := by
  unfold flT fieldsT
  rw [List.take_succ_eq_append_getElem h, List.map_append, List.flatMap_append]
  simp [fieldT]
/-- how long fields are -/
def flSize (fs : List Fl) : Nat := (fs.map fun f => f.1.size + f.2.size + 4).sum
theorem flT_len (fs : List Fl) : (flT fs).length = flSize fs := by
  unfold flT fieldsT flSize
  induction fs with
  | nil => rfl
  | cons f fs ih =>
    have h1 := size_data f.1
    have h2 := size_data f.2
    rw [List.map_cons, List.flatMap_cons, List.length_append, ih]
    simp only [fieldT, List.map_cons, List.sum_cons, List.length_append, List.length_cons, List.length_nil]
    omega
theorem flSize_take (fs : List Fl) (k : Nat) : flSize (fs.take k) ≤ flSize fs := by
  have e : flSize fs = flSize (fs.take k) + flSize (fs.drop k) := by
    unfold flSize
    rw [← List.sum_append, ← List.map_append, List.take_append_drop]
  omega
theorem flSize_get (fs : List Fl) (k : Nat) (h : k < fs.length) : flSize (fs.take k) + (fs[k].1.size + fs[k].2.size + 4) ≤ flSize fs := by
  have := flSize_take fs (k + 1)
  have e : flSize (fs.take (k + 1)) = flSize (fs.take k) + (fs[k].1.size + fs[k].2.size + 4) := by
    unfold flSize
    rw [List.take_succ_eq_append_getElem h, List.map_append, List.sum_append]; simp
  omega

end Go.Proofs.YtklmpadcfioefaaGreatDoor

namespace Go.Proofs.YtklmpadcfioefaaGreatDoor

def sHost : ByteArray := ⟨#[72, 111, 115, 116]⟩
def sLen : ByteArray := ⟨#[67, 111, 110, 116, 101, 110, 116, 45, 76, 101, 110, 103, 116, 104]⟩
def sCod : ByteArray := ⟨#[84, 114, 97, 110, 115, 102, 101, 114, 45, 69, 110, 99, 111, 100, 105, 110, 103]⟩
/-- a name, folded -/
def fd (s : ByteArray) : Bs := fold s.data.toList
/-- a head, its texts as in memory -/
structure HB where
  rq : Bool := false
  m : ByteArray := ⟨#[]⟩
  t : ByteArray := ⟨#[]⟩
  st : Int := 0
  rs : ByteArray := ⟨#[]⟩
  mn : Int := 0
  fs : List Fl := []
def HB.hi (h : HB) : HI := hiOf h.rq h.m h.t h.st h.rs h.mn h.fs
end Go.Proofs.YtklmpadcfioefaaGreatDoor

namespace Go.Proofs.YtklmpadcfioefaaGreatDoor
open Go.RowKit

theorem index_place (c : UInt8) : ∀ l : Bs, Lib.index l [c] = placeP c l
  | [] => by simp [Lib.index, placeP, cutAt]
  | x :: l => by
    have ih := index_place c l
    have hp : ([c] : Bs).isPrefixOf (x :: l) = (c == x) := by simp [List.isPrefixOf]
    have e : Lib.index (x :: l) [c] = if (c == x) = true then 0 else if Lib.index l [c] == -1 then -1 else Lib.index l [c] + 1 := by rw [Lib.index, hp]
    rw [e, placeP, cutAt]
    by_cases h : x = c
    · subst h; simp
    · have h' : (c == x) = false := by simpa using fun e => h e.symm
      rw [h', ih, if_neg (by simp), if_neg h, placeP]
      cases hc : cutAt c l with
      | none => simp
      | some p =>
        simp only [Option.map_some]
        rw [if_neg (by simp)]
        simp
theorem cut_at (c : UInt8) (l : Bs) : Lib.cut l [c] = match cutAt c l with | none => (l, [], false) | some (a, b) => (a, b, true) := by
  have e := index_place c l
  unfold Lib.cut
  rw [e, placeP]
  cases hc : cutAt c l with
  | none => simp
  | some p =>
    obtain ⟨a, b⟩ := p
    obtain ⟨e1, _⟩ := cutAt_some.1 hc
    subst e1
    simp

theorem cut_any (s : ByteArray) (c : UInt8) (w : World) (h : w.ShapedOpen Tryz.prog) (hs : s.size ≤ 16777216) :
    Calls Tryz.prog 45 #[.string s, .string ⟨#[c]⟩] w fun e w' => (match cutAt c s.data.toList with
      | none => e = .returned (.tuple #[.string s, .string ⟨#[]⟩, .bool false])
      | some (a, b) => e = .returned (.tuple #[.string ⟨a.toArray⟩, .string ⟨b.toArray⟩, .bool true])) ∧ ∃ q, w' = w.drewN q :=
  (Tryz.strings_Cut_shaped s ⟨#[c]⟩ w h (by omega)).mono fun e w' ⟨he, hw⟩ => by
    have hc := cut_at c s.data.toList
    refine ⟨?_, hw⟩
    have e0 : ({ data := #[c] } : ByteArray).data.toList = [c] := rfl
    rw [e0, hc] at he
    cases hk : cutAt c s.data.toList with
    | none => rw [hk] at he; simpa using he
    | some p => rw [hk] at he; simpa using he
theorem cut_none (s : ByteArray) (c : UInt8) (w : World) (h : w.ShapedOpen Tryz.prog) (hs : s.size ≤ 16777216) (hc : cutAt c s.data.toList = none) :
    Calls Tryz.prog 45 #[.string s, .string ⟨#[c]⟩] w fun e w' => e = .returned (.tuple #[.string s, .string ⟨#[]⟩, .bool false]) ∧ ∃ q, w' = w.drewN q :=
  (cut_any s c w h hs).mono fun e w' ⟨h1, h2⟩ => by rw [hc] at h1; exact ⟨h1, h2⟩
theorem cut_some (s : ByteArray) (c : UInt8) (w : World) (h : w.ShapedOpen Tryz.prog) (hs : s.size ≤ 16777216) {a b : Bs} (hc : cutAt c s.data.toList = some (a, b)) :
    Calls Tryz.prog 45 #[.string s, .string ⟨#[c]⟩] w fun e w' => e = .returned (.tuple #[.string ⟨a.toArray⟩, .string ⟨b.toArray⟩, .bool true]) ∧ ∃ q, w' = w.drewN q :=
  (cut_any s c w h hs).mono fun e w' ⟨h1, h2⟩ => by rw [hc] at h1; exact ⟨h1, h2⟩

theorem toList_ne {s : ByteArray} {l : List UInt8} (h : ¬ s = ⟨l.toArray⟩) : (s.toList == l) = false := by
  have h2 : s.data.toList ≠ l := fun e => h (by cases s with | mk d => simp at e; subst e; simp)
  rw [ByteArray.toList_eq]; simpa using h2
theorem byte_ext {s : ByteArray} {l : List UInt8} : s = ⟨l.toArray⟩ ↔ s.data.toList = l := by
  constructor
  · intro h; rw [h]
  · intro h
    cases s with
    | mk d => simp at h; subst h; simp

theorem hminor_any (s : ByteArray) (w : World) : Calls Tryz.prog 78 #[.string s] w fun e w' => e = .returned (.tuple #[.int .i64 (((minorP s.data.toList).getD 0 : Nat) : Int), .bool (minorP s.data.toList).isSome]) ∧ w = w' := by
  by_cases h0 : s = ⟨#[72, 84, 84, 80, 47, 49, 46, 48]⟩
  · subst h0
    go_enter Tryz.func78, Tryz.ntmps78
    go_wp2
    go_ret2
    exact ⟨rfl, rfl⟩
  · by_cases h1 : s = ⟨#[72, 84, 84, 80, 47, 49, 46, 49]⟩
    · subst h1
      go_enter Tryz.func78, Tryz.ntmps78
      go_wp2
      go_ret2
      exact ⟨rfl, rfl⟩
    · have HM : Hid (minorP s.data.toList = none) := Lib.hid (by
        unfold minorP
        rw [if_neg (fun e => h0 (byte_ext.2 e)), if_neg (fun e => h1 (byte_ext.2 e))])
      have b0 := toList_ne (l := [72, 84, 84, 80, 47, 49, 46, 48]) h0
      have b1 := toList_ne (l := [72, 84, 84, 80, 47, 49, 46, 49]) h1
      go_enter Tryz.func78, Tryz.ntmps78
      go_wp2
      go_ret2
      exact ⟨by rw [HM.out]; rfl, rfl⟩

theorem hParse1_any (s : ByteArray) (w : World) : Calls Tryz.prog 42 #[.string s] w fun e w' => e = .returned (.bool (decide (4096 < s.size))) ∧ w = w' := by
  by_cases h : 4096 < s.size
  · go_enter Tryz.func42, Tryz.ntmps42
    go_wp2
    go_ret
    exact ⟨by simp [h] <;> omega, rfl⟩
  · go_enter Tryz.func42, Tryz.ntmps42
    go_wp2
    go_ret
    exact ⟨by simp [h] <;> omega, rfl⟩

def anyLong (vs : List ByteArray) : Bool := vs.any fun s => decide (4096 < s.size)

set_option maxHeartbeats 1000000 in
set_option maxRecDepth 100000 in
theorem idxLong_any (A : Option Addr) (n c : Nat) (vs : List ByteArray) (w : World) (hrd : Rd w w.heap.size 1 A n (strsV vs)) (hn : n ≤ 16777217) :
    Calls Tryz.prog 76 #[.slice A n c, .func (.func 42) #[] #[]] w fun e w' => ∃ i : Int, e = .returned (.int .i64 i) ∧ anyLong vs = decide (0 ≤ i) ∧ Below w.heap.size w w' := by
  have hlen : vs.length = n := by have := hrd.1; rw [strsV_len] at this; omega
  go_enter Tryz.func76, Tryz.ntmps76
  go_wp2
  go_loopw [8] (fun i wr => ∃ k : Nat, k ≤ n ∧ i = .int .i64 k ∧ (∀ j (h : j < vs.length), j < k → ¬ 4096 < vs[j].size) ∧ Below w.heap.size w wr) (fun i _ => n - (intOf i).toNat)
  case atStart => exact ⟨0, Nat.zero_le _, rfl, (fun j h hj => absurd hj (by omega)), Below.refl _ _⟩
  case round =>
    obtain ⟨k, hk, rfl, hall, hb⟩ := hrel
    have HA := Lib.hid hall
    clear hall
    by_cases hlt : k < n
    · obtain ⟨g, o, rfl, hg, hcell⟩ := hrd.2 (by omega)
      have c1 := (hb.cell (p := ⟨g, o + k, none⟩) hg).trans (hcell _ _ (strs_get (l := vs) (j := k) (by omega)))
      clear hcell
      by_cases hl : 4096 < vs[k].size
      · have HL : Hid (anyLong vs = true) := Lib.hid (List.any_eq_true.2 ⟨vs[k], List.getElem_mem _, by simpa using hl⟩)
        have hd : decide (4096 < vs[k].size) = true := by simpa using hl
        go_wp2_with (go_at_call 42; go_must (refine (hParse1_any vs[k] _).mono ?_; rintro _ _ ⟨rfl, rfl⟩; rw [hd]))
        go_ret
        exact ⟨_, rfl, by rw [HL.out]; simp, hb⟩
      · have hd : decide (4096 < vs[k].size) = false := by simpa using hl
        have HN : Hid (∀ j (h : j < vs.length), j < k + 1 → ¬ 4096 < vs[j].size) := Lib.hid (fun j h hj => by
          by_cases e : j = k
          · subst e; exact hl
          · exact HA.out j h (by omega))
        go_wp2_with (go_at_call 42; go_must (refine (hParse1_any vs[k] _).mono ?_; rintro _ _ ⟨rfl, rfl⟩; rw [hd]))
        go_roundw
        case rel => exact ⟨k + 1, by omega, by go_num, HN.out, hb⟩
        case measure => simp [intOf]; omega
    · have HL : Hid (anyLong vs = false) := Lib.hid (by
        unfold anyLong
        rw [List.any_eq_false]
        intro s hs
        obtain ⟨j, hj, rfl⟩ := List.getElem_of_mem hs
        simpa using HA.out j hj (by omega))
      go_wp2
      go_ret
      exact ⟨_, rfl, by rw [HL.out]; simp, hb⟩

theorem hasLong_any (A : Option Addr) (n c : Nat) (vs : List ByteArray) (w : World) (hrd : Rd w w.heap.size 1 A n (strsV vs)) (hn : n ≤ 16777217) :
    Calls Tryz.prog 41 #[.slice A n c, .func (.func 42) #[] #[]] w fun e w' => e = .returned (.bool (anyLong vs)) ∧ Below w.heap.size w w' := by
  go_enter Tryz.func41, Tryz.ntmps41
  go_wp2_with (go_at_call 76; go_must (refine (idxLong_any A n c vs _ hrd hn).mono ?_; rintro _ w1 ⟨i, rfl, hi, hb⟩))
  go_ret
  exact ⟨by rw [hi]; simp, hb⟩
end Go.Proofs.YtklmpadcfioefaaGreatDoor

namespace Go.Proofs.YtklmpadcfioefaaGreatDoor
open Go.RowKit

def cur (s : Bs) (f q : Nat) : Bs := (s.drop f).take (q - f)
/-- what the inner loop holds: at q of s, the piece begun at f -/
def Held (s : Bs) (f q : Nat) (done : List ByteArray) : Prop :=
  (q ≤ s.length ∧ done ++ sel (pieces (cur s f q) (s.drop q)) = sel (pieces [] s)) ∨ (q = s.length + 1 ∧ done = sel (pieces [] s))
end Go.Proofs.YtklmpadcfioefaaGreatDoor

namespace Go.Proofs.YtklmpadcfioefaaGreatDoor
open Go.RowKit

end Go.Proofs.YtklmpadcfioefaaGreatDoor

namespace Go.Proofs.YtklmpadcfioefaaGreatDoor
open Go.RowKit

end Go.Proofs.YtklmpadcfioefaaGreatDoor

namespace Go.Proofs.YtklmpadcfioefaaGreatDoor
open Go.RowKit

/-- In a region that draws and only reads: a variable of several cells is read. -/
theorem wpQuiet_load_mid {P : Program} {ops : Array Oper} {C : World → Prop} {Q : Act → Prop} {rest : List Oper} {op : Oper} {a : Act} (hgd : op.guard = none) (ty : TypeId) (x : Operand) (ho : op.op = .load ty x)
    (b o : Nat) (hx : a.eval x = .pointer (some ⟨b, o, none⟩)) (cs : List Value) (d : TypeDesc) (hc : ∀ w, C w → w.rangeAt b o cs)
    (hu : P.underlying ty = some d) (hd : d.isRow = true) (hi : (P.info? ty).map (·.size) = some cs.length)
    (h : wpQuiet P ops C Q rest (a.put op.dst (.agg cs.toArray))) : wpQuiet P ops C Q (op :: rest) a :=
  BigFrame.wpQuiet_want (by simp [Region.wanted, hgd]) fun K hK => ⟨.agg cs.toArray, fun w hw => by
    unfold Oper.quietAt execOp
    simp only [ho, hx, Instr.loadAt, Instr.sureAddr, Sem.run_bind, Sem.run_pure, Result.andThen_ok, run_loadVar_mid w b o ty cs d (hc w hw) hu hd hi]
    exact ⟨rfl, rfl⟩, hK _ h⟩

set_option maxHeartbeats 2000000 in
set_option maxRecDepth 100000 in
theorem rSame_any (rq : Bool) (m t : ByteArray) (st : Int) (rs : ByteArray) (mn : Int) (A A' : Option Addr) (n c c' : Nat) (fs : List Fl) (w : World) (h1 : Rd w w.heap.size 2 A n (fieldsV fs)) (h2 : Rd w w.heap.size 2 A' n (fieldsV fs))
    (hn : n ≤ 16777216) :
    Calls Tryz.prog 21 #[headV rq m t st rs mn (.slice A n c), headV rq m t st rs mn (.slice A' n c')] w fun e w' => e = .returned (.bool true) ∧ Below w.heap.size w w' := by
  have hlen : fs.length = n := by have := h1.1; rw [fieldsV_len] at this; omega
  unfold headV
  go_enter Tryz.func21, Tryz.ntmps21
  go_wp2
  go_loopw [5] (fun i wr => ∃ k : Nat, k ≤ n ∧ i = .int .i64 k ∧ Below (w.heap.size + 2) ((w.alloc (.cells #[.bool rq, .string m, .string t, .int .i64 st, .string rs, .int .i64 mn, .slice A n c] 52)).alloc (.cells #[.bool rq, .string m, .string t, .int .i64 st, .string rs, .int .i64 mn, .slice A' n c'] 52)) wr) (fun i _ => n - (intOf i).toNat)
  case atStart => exact ⟨0, Nat.zero_le _, rfl, Below.refl _ _⟩
  case round =>
    obtain ⟨k, hk, rfl, hb⟩ := hrel
    have hb1 : ∀ q, (wr.drewN q).cell? ⟨w.heap.size, 6, none⟩ = some (.slice A n c) := fun q => (hb.cell (p := ⟨w.heap.size, 6, none⟩) (by show w.heap.size < _; omega)).trans (World.cell?_alloc2_first _ _ _ _)
    have hb2 : ∀ q, (wr.drewN q).cell? ⟨w.heap.size + 1, 6, none⟩ = some (.slice A' n c') := fun q => (hb.cell (p := ⟨w.heap.size + 1, 6, none⟩) (by show w.heap.size + 1 < _; omega)).trans (World.cell?_alloc2_new _ _ _ _)
    have e1 : wr.cell? ⟨w.heap.size, 6, none⟩ = some (.slice A n c) := hb1 0
    have e2 : wr.cell? ⟨w.heap.size + 1, 6, none⟩ = some (.slice A' n c') := hb2 0
    by_cases hlt : k < n
    · obtain ⟨g, o, rfl, hg, hcell⟩ := h1.2 (by omega)
      obtain ⟨g', o', rfl, hg', hcell'⟩ := h2.2 (by omega)
      obtain ⟨G1, G2⟩ := fieldsV_get fs k (by omega)
      have old : ∀ (p : Addr), p.block < w.heap.size → ∀ q, (wr.drewN q).cell? p = w.cell? p := fun p hp q =>
        (hb.cell (p := p) (by omega)).trans ((World.cell?_alloc_lt _ _ _ (by simp; omega)).trans (World.cell?_alloc_lt _ _ _ hp))
      have r1 : ∀ q, World.rangeAt (wr.drewN q) g (o + k * 2) [.string fs[k].1, .string fs[k].2] := by
        intro q j v hj
        match j, hj with
        | 0, hj => cases hj; exact (old _ hg q).trans (hcell _ _ G1)
        | 1, hj => cases hj; rw [Nat.add_assoc]; exact (old _ hg q).trans (hcell _ _ G2)
      have r2 : ∀ q, World.rangeAt (wr.drewN q) g' (o' + k * 2) [.string fs[k].1, .string fs[k].2] := by
        intro q j v hj
        match j, hj with
        | 0, hj => cases hj; exact (old _ hg' q).trans (hcell' _ _ G1)
        | 1, hj => cases hj; rw [Nat.add_assoc]; exact (old _ hg' q).trans (hcell' _ _ G2)
      clear hcell hcell' G1 G2
      go_wp2
      refine wp_region_quiet_lit (by kernel_rfl) (by kernel_rfl) ?_
      repeat (first
        | (refine wpQuiet_load_mid rfl 89 (.tmp 65) rfl g (o + k * 2) rfl _ _ (by rintro _ ⟨q, rfl⟩; exact r1 q) Tryz.underlying89 rfl (by kernel_rfl) ?_)
        | (refine wpQuiet_load_mid rfl 89 (.tmp 70) rfl g' (o' + k * 2) rfl _ _ (by rintro _ ⟨q, rfl⟩; exact r2 q) Tryz.underlying89 rfl (by kernel_rfl) ?_)
        | go_big_quiet_step (fail)
        | quiet_step (fail))
      refine wpQuiet_nil ?_
      rintro _ ⟨nq, rfl⟩
      go_wp2
      go_roundw
      case rel => exact ⟨k + 1, by omega, by go_num, below_drewN hb _⟩
      case measure => simp [intOf]; omega
    · go_wp2
      go_ret
      exact ⟨rfl, ((Below.refl _ w).alloc (Nat.le_refl _) _ |>.alloc (by simp) _).trans (hb.mono (by omega))⟩
end Go.Proofs.YtklmpadcfioefaaGreatDoor

namespace Go.Proofs.YtklmpadcfioefaaGreatDoor
open Go.RowKit

end Go.Proofs.YtklmpadcfioefaaGreatDoor

namespace Go.Proofs.YtklmpadcfioefaaGreatDoor
open Go.RowKit

theorem Held.trans {W0 W W1 : World} {X : Prop} (h : Below W0.heap.size W0 W ∧ X) (hl : Below W.heap.size W W1) : Below W0.heap.size W0 W1 := h.1.trans (hl.mono h.1.size)
theorem Held.rd {W0 W : World} {X : Prop} {sz n : Nat} {A : Option Addr} {xs : List Value} (h : Below W0.heap.size W0 W ∧ X) (hr : Rd W0 W0.heap.size sz A n xs) : Rd W W.heap.size sz A n xs := hr.keeps h.1
end Go.Proofs.YtklmpadcfioefaaGreatDoor

namespace Go.Proofs.YtklmpadcfioefaaGreatDoor
theorem vals_total (fs : List Fl) (name : ByteArray) : total (vals fs name) ≤ flSize fs := by
  unfold total vals flSize
  induction fs with
  | nil => exact Nat.zero_le _
  | cons f fs ih =>
    rw [List.filter_cons]
    split
    · simp only [List.map_cons, List.sum_cons] at ih ⊢; omega
    · simp only [List.map_cons, List.sum_cons] at ih ⊢; omega
end Go.Proofs.YtklmpadcfioefaaGreatDoor

namespace Go.Proofs.YtklmpadcfioefaaGreatDoor
open Go.ChangeShapes Go.WideShapes Go.ChangeAt Go.RowKit

section
variable {H : Type} {enc : TypeId × Value → H} {P : Program}
end
end Go.Proofs.YtklmpadcfioefaaGreatDoor

namespace Go.Proofs.YtklmpadcfioefaaGreatDoor
open Go.ChangeShapes Go.WideShapes Go.ChangeAt Go.RowKit

section
variable {H : Type} {enc : TypeId × Value → H}

theorem open_fields2 {W : World} {fuel : Nat} {v : Value} {x : DataW H × List MemPlace} (h : DataW.trod enc Tryz.prog W 0 (fun _ => true) true fuel 50 [v] = some x) :
    ∃ (A : Option Addr) (n c : Nat) (fs : List Fl), v = .slice A n c ∧ n ≤ c ∧ (A = none → n = 0) ∧ Rd W W.heap.size 2 A n (fieldsV fs) ∧ n ≤ Rows.uptoBulk x.1 ∧ flSize fs ≤ 2 * Rows.uptoBulk x.1 ∧ (∀ f ∈ fs, f.1.size + f.2.size ≤ Rows.uptoBulk x.1) := by
  rcases Go.Deep.open_slice_pairs Tryz.underlying50 Tryz.underlying89 cellsField rfl rfl cellsStr cellsStr h with ⟨hcs, rfl⟩ | ⟨a, len, cap, m, k, V0, V1, D0, D1, P0, P1, hcs, hb, hl, hm, hmm, rfl, hx⟩
  · injection hcs with e _
    exact ⟨none, 0, 0, [], e, Nat.le_refl _, fun _ => rfl, Rd.nil _ _ _ _, Nat.zero_le _, Nat.zero_le _, fun f hf => by cases hf⟩
  · injection hcs with e _
    have hlm : len ≤ m := by rw [hmm]; split <;> omega
    have each : ∀ i, i < len → W.cell? (a.add (i * 2)) = some (.string (strIn (V0 i))) ∧ W.cell? (a.add (i * 2 + 1)) = some (.string (strIn (V1 i))) ∧ D0 i = .lit (.string (strIn (V0 i)).data.toList) ∧ D1 i = .lit (.string (strIn (V1 i)).data.toList) := by
      intro i hi
      obtain ⟨h1, h2, h3, h4⟩ := hx i (by omega)
      obtain ⟨s, hs, e3, _⟩ := DataW.trod_string Tryz.underlying9 h3
      obtain ⟨s', hs', e4, _⟩ := DataW.trod_string Tryz.underlying9 h4
      injection hs with hs _
      injection hs' with hs' _
      rw [hs] at h1
      rw [hs'] at h2
      simp only [Prod.mk.injEq] at e3 e4
      rw [hs, hs']
      exact ⟨h1, h2, e3.1, e4.1⟩
    have hfl : ((List.range len).map fun i => (strIn (V0 i), strIn (V1 i))).length = len := by simp
    refine ⟨some a, len, cap, (List.range len).map fun i => (strIn (V0 i), strIn (V1 i)), e, hl, (fun e => by cases e), ⟨by rw [fieldsV_len, hfl], fun hn => ?_⟩, ?_, ?_, ?_⟩
    · obtain ⟨g, o, sp⟩ := a
      obtain rfl : sp = none := by simpa [Addr.add] using World.cell?_spot (each 0 hn).1
      refine ⟨g, o, rfl, cell_lt (by have := (each 0 hn).1; rw [Addr.add_lit] at this; exact this), fun j u hu => ?_⟩
      have hj : j < len * 2 := by
        have := (List.getElem?_eq_some_iff.1 hu).1
        rw [fieldsV_len, hfl] at this
        exact this
      obtain ⟨G1, G2⟩ := fieldsV_get ((List.range len).map fun i => (strIn (V0 i), strIn (V1 i))) (j / 2) (by rw [hfl]; omega)
      obtain ⟨c1, c2, _, _⟩ := each (j / 2) (by omega)
      rw [Addr.add_lit] at c1 c2
      simp only [List.getElem_map, List.getElem_range] at G1 G2
      rcases (show j = j / 2 * 2 ∨ j = j / 2 * 2 + 1 by omega) with hj2 | hj2
      · rw [hj2] at hu ⊢
        rw [← hj2] at hu
        rw [hj2, G1] at hu
        rw [← hu]
        exact c1
      · have e2 : (fieldsV ((List.range len).map fun i => (strIn (V0 i), strIn (V1 i))))[j]? = some (.string (strIn (V1 (j / 2)))) := by
          rw [← G2]; congr 1
        rw [e2] at hu
        rw [← hu, show o + j = o + (j / 2 * 2 + 1) by omega]
        exact c2
    · simp only [Rows.uptoBulk]
      have := bulk_len ((List.range len).map fun i => DataW.agg [D0 i, D1 i])
      simp at this
      omega
    · simp only [Rows.uptoBulk]
      have key : ∀ l : List Nat, (∀ i ∈ l, i < len) → flSize (l.map fun i => (strIn (V0 i), strIn (V1 i))) ≤ 2 * Rows.uptoBulkAll (l.map fun i => DataW.agg [D0 i, D1 i]) := by
        intro l
        induction l with
        | nil => intro _; exact Nat.zero_le _
        | cons i l ih =>
          intro hl
          have ih' := ih fun j hj => hl j (by simp [hj])
          obtain ⟨_, _, d0, d1⟩ := each i (hl i (by simp))
          have q0 : (strIn (V0 i)).data.toList.length = (strIn (V0 i)).size := by rw [Array.length_toList]; rfl
          have q1 : (strIn (V1 i)).data.toList.length = (strIn (V1 i)).size := by rw [Array.length_toList]; rfl
          simp only [flSize, List.map_cons, List.sum_cons, Rows.uptoBulkAll, Rows.uptoBulk, d0, d1] at ih' ⊢
          omega
      have h := key (List.range len) fun i hi => List.mem_range.1 hi
      omega
    · intro f hf
      obtain ⟨i, hi, rfl⟩ := List.mem_map.1 hf
      have hi' := List.mem_range.1 hi
      obtain ⟨_, _, d0, d1⟩ := each i hi'
      have hp : DataW.agg [D0 i, D1 i] ∈ (List.range len).map fun i => DataW.agg [D0 i, D1 i] := List.mem_map_of_mem hi
      have := bulk_part hp
      simp only [Rows.uptoBulk, Rows.uptoBulkAll, d0, d1, bulk_str] at this ⊢
      omega

end
def powRow (H : Type) : String × DataW H := ("internal/strconv.uint64pow10", Rows.laid_internal_strconv_uint64pow10)
/-- what the rows that list tables lay -/
def laid5 : List (String × DataW Unit) := [("math/bits.deBruijn32tab", Rows.laid_math_bits_deBruijn32tab), ("math/bits.deBruijn64tab", Rows.laid_math_bits_deBruijn64tab), powRow Unit, ("unicode/utf8.acceptRanges", Rows.laid_unicode_utf8_acceptRanges), ("unicode/utf8.first", Rows.laid_unicode_utf8_first)]
theorem tab_of_laid {W : World} (h : laidMetH Tryz.prog laid5 W) : Tab W := by
  have h1 := h.filter (fun x => x.1 == "internal/strconv.uint64pow10")
  have e : laid5.filter (fun x => x.1 == "internal/strconv.uint64pow10") = [powRow Unit] := by kernel_rfl
  rw [e] at h1
  have h2 : laidMet Tryz.prog (("internal/strconv.uint64pow10", Lib.tabData .u64 Lib.pow10Tab) :: []) W := h1
  exact Lib.tabIs_of_head (g := 1) (t := 183) (e := 173) (n := 20) (by kernel_rfl) (by kernel_rfl) Tryz.underlying183 Tryz.underlying173 (by kernel_rfl) (by kernel_rfl) h2
end Go.Proofs.YtklmpadcfioefaaGreatDoor

namespace Go.Proofs.YtklmpadcfioefaaGreatDoor
open Go.ChangeShapes Go.WideShapes Go.ChangeAt Go.RowKit

section
variable {H : Type} {enc : TypeId × Value → H}
set_option maxRecDepth 100000 in
theorem open_headc {W : World} {fuel : Nat} {cs : List Value} {x : DataW H × List MemPlace} (hf : DataW.trod enc Tryz.prog W 0 (fun _ => true) true fuel 52 cs = some x) :
    ∃ (rq : Bool) (m t : ByteArray) (st : Int) (rs : ByteArray) (mn : Int) (A : Option Addr) (n c : Nat) (fs : List Fl), cs = [.bool rq, .string m, .string t, .int .i64 st, .string rs, .int .i64 mn, .slice A n c] ∧ n ≤ c ∧ (A = none → n = 0) ∧ Rd W W.heap.size 2 A n (fieldsV fs) ∧
      (Lit.int .i64 st).wf = true ∧ (Lit.int .i64 mn).wf = true ∧ n ≤ Rows.uptoBulk x.1 ∧ m.size + t.size + rs.size ≤ Rows.uptoBulk x.1 ∧ flSize fs ≤ 2 * Rows.uptoBulk x.1 ∧ (∀ f ∈ fs, f.1.size + f.2.size ≤ Rows.uptoBulk x.1) := by
  obtain ⟨xs, k, _, hx, hl, hlen, each⟩ := DataW.trod_struct Tryz.underlying52 hf
  rw [cellsHead] at hl
  match cs, hl, xs, hlen with
  | [a0, a1, a2, a3, a4, a5, a6], _, [y0, y1, y2, y3, y4, y5, y6], _ =>
    have e0 := each 0 _ rfl
    have e1 := each 1 _ rfl
    have e2 := each 2 _ rfl
    have e3 := each 3 _ rfl
    have e4 := each 4 _ rfl
    have e5 := each 5 _ rfl
    have e6 := each 6 _ rfl
    simp only [List.getElem?_cons_zero, List.getElem?_cons_succ] at e0 e1 e2 e3 e4 e5 e6
    obtain ⟨b, r0, rfl⟩ := DataW.trod_bool Tryz.underlying4 e0
    obtain ⟨m, r1, rfl, _⟩ := DataW.trod_string Tryz.underlying9 e1
    obtain ⟨t, r2, rfl, _⟩ := DataW.trod_string Tryz.underlying9 e2
    obtain ⟨st, r3, rfl, wst⟩ := DataW.trod_int Tryz.underlying3 e3
    obtain ⟨rs, r4, rfl, _⟩ := DataW.trod_string Tryz.underlying9 e4
    obtain ⟨mn, r5, rfl, wmn⟩ := DataW.trod_int Tryz.underlying3 e5
    obtain ⟨A, n, c, fs, r6, h1, h2, h3, h4, h6, h5⟩ := open_fields2 e6
    injection r0 with r0 _
    injection r1 with r1 _
    injection r2 with r2 _
    injection r3 with r3 _
    injection r4 with r4 _
    injection r5 with r5 _
    subst r0 r1 r2 r3 r4 r5 r6
    subst hx
    simp only [List.map_cons, List.map_nil, Rows.uptoBulk, Rows.uptoBulkAll]
    have q1 : m.data.toList.length = m.size := by rw [Array.length_toList]; rfl
    have q2 : t.data.toList.length = t.size := by rw [Array.length_toList]; rfl
    have q3 : rs.data.toList.length = rs.size := by rw [Array.length_toList]; rfl
    exact ⟨b, m, t, st, rs, mn, A, n, c, fs, rfl, h1, h2, h3, wst, wmn, by omega, by omega, by omega, fun f hf => by have := h5 f hf; omega⟩

end
end Go.Proofs.YtklmpadcfioefaaGreatDoor
