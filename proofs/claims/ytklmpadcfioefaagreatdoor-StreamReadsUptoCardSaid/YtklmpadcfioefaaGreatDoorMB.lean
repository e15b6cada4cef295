/- Plain laws on writing heads: what is written is read back; what is read is written in one form. No program in sight. No condition. | the reference's magnitude, digits; strconv.Itoa: a number's decimal digits. Condition: the number is an int's. | Rows of bytes that a call appends to. No condition but sizes. | the reference's Text: a head's text. Conditions: sizes, and that the numbers are ints. | Plain words on what is rewritten (chapter 25): the connection's own fields, paths, framings, replies. No program in sight. No condition. | head.minor, head.Parse's closure, slices.ContainsFunc with it, strings.Cut at a byte; the reference's minor. Conditions: sizes. | the reference's List. | the law's 'texts': of the same texts. | the reference's Values. | the reference's Same: of the same head. | the law HeadAsks. | Small words for regions that draw their order and only call what leaves memory below alone. No condition. | How great the values of a name are. No program in sight. No condition. | Bytes that came in, nil or not: what capacity they have. No condition. -/
import Derived.Test.YtklmpadcfioefaaGreatDoorMA
import Derived.Lib.ItoaNum
import Derived.Lib.ItoaLen
import Derived.IntWalk
import Derived.OpenShut
import Derived.Lib.SmallJoins
import Derived.Lib.AppendIntMem
import Derived.Deep.RegionHeld3
import Derived.Deep.MidRow
import Derived.BigQuiet
namespace Go.Proofs.YtklmpadcfioefaaGreatDoor

/-- a head of whatever numbers -/
structure HI where
  rq : Bool := false
  m : Bs := []
  t : Bs := []
  st : Int := 0
  rs : Bs := []
  mn : Int := 0
  fs : List (Bs × Bs) := []
deriving DecidableEq
def Hd.up (h : Hd) : HI := { rq := h.rq, m := h.m, t := h.t, st := h.st, rs := h.rs, mn := h.mn, fs := h.fs }
/-- what parses has a first line that does, and is not long -/
theorem parse_yes {l : Bs} {rq : Bool} (h : (parseP l rq).2 = 0) : l.length ≤ 16384 ∧ (firstP rq ((lines [] l).headD [])).isSome = true := by
  unfold parseP at h
  split at h
  · cases h
  · split at h
    · cases h
    · rename_i c1
      split at h
      · cases h
      · refine ⟨by omega, ?_⟩
        cases hf : firstP rq ((lines [] l).headD []) with
        | none => rw [hf] at h; cases h
        | some g => rfl
/-! ### what is read is written in one form -/
theorem ofNat_toNat (c : UInt8) (n : Nat) (h : n = c.toNat) : UInt8.ofNat n = c := by subst h; simp
theorem parse_inv {l : Bs} {rq : Bool} {h : Hd} (hp : parseP l rq = (h, 0)) :
    ∃ h0 : Hd, firstP rq ((lines [] l).headD []) = some h0 ∧ h = { h0 with fs := h.fs } ∧ (∀ f ∈ h.fs, ∃ s, fieldP s = some f) ∧ ((lines [] l).headD []).length ≤ 4096 := by
  unfold parseP at hp
  split at hp
  · cases hp
  · rename_i c0
    split at hp
    · cases hp
    · split at hp
      · cases hp
      · cases h1 : firstP rq ((lines [] l).headD []) with
        | none => rw [h1] at hp; cases hp
        | some g =>
          rw [h1] at hp
          simp only at hp
          split at hp
          · cases hp
            exact ⟨g, rfl, rfl, fun f hf => by obtain ⟨s, _, e⟩ := List.mem_filterMap.1 hf; exact ⟨s, e⟩, by omega⟩
          · cases hp
end Go.Proofs.YtklmpadcfioefaaGreatDoor

namespace Go.Proofs.YtklmpadcfioefaaGreatDoor
open Go.RowKit

theorem conv_one (W : World) (b : Nat) (x : Int) (h0 : 0 ≤ x) (h1 : x < 256) (hc : W.cell? ⟨b, 0, none⟩ = some (.int .u8 x)) :
    (convert 26 9 (.slice (some ⟨b, 0, none⟩) 1 1)).run Tryz.prog W = .ok (.string ⟨#[UInt8.ofNat x.toNat]⟩) W := by
  have e : ((UInt8.ofNat x.toNat).toNat : Int) = x := by
    rw [UInt8.toNat_ofNat', Nat.mod_eq_of_lt (by omega)]; omega
  refine conv_str (P := Tryz.prog) (B := b + 1) 26 9 5 Tryz.underlying26 Tryz.underlying5 Tryz.underlying9 (A := some ⟨b, 0, none⟩) (n := 1) (c := 1) (l := [UInt8.ofNat x.toNat]) ⟨rfl, fun _ => ⟨b, 0, rfl, by omega, fun j u hu => ?_⟩⟩ (fun e => by cases e)
  match j, hu with
  | 0, hu =>
    simp only [bytesV, List.map_cons, e] at hu
    cases hu
    exact hc
/-- strconv.Itoa -/
def Tab (w : World) : Prop := Lib.TabIs Tryz.prog w "internal/strconv.uint64pow10" .u64 Lib.pow10Tab
theorem tab_here : (Tryz.prog.globalNamed "internal/strconv.uint64pow10").isSome = true := by kernel_rfl
theorem Tab.below {w w' : World} (h : Tab w) (hb : Below w.heap.size w w') : Tab w' := by
  obtain ⟨g, hg⟩ := Option.isSome_iff_exists.1 tab_here
  exact Joins.tab_stays hg h hb (Nat.le_refl _)
end Go.Proofs.YtklmpadcfioefaaGreatDoor

namespace Go.Proofs.YtklmpadcfioefaaGreatDoor
open Go.RowKit

theorem infoByte : (Tryz.prog.info? 5).map (fun i => (i.zero, i.size, i.bytes)) = some (some (.int .u8 0), 1, 1) := by kernel_rfl
/-- the value v's elements are the bytes L; its block, from base on, is the call's own -/
def RowB (w : World) (base : Nat) (v : Value) (L : Bs) : Prop := Row w base 1 v L.length (bytesV L)
/-- what is appended: the bytes M -/
def SrcB (w : World) (tx : TypeId) (x : Value) (M : Bs) : Prop := Src Tryz.prog w tx 1 x M.length (bytesV M)

section
variable {w w' : World} {base B : Nat} {v : Value} {L M : Bs}
theorem RowB.nil (w : World) (base : Nat) : RowB w base (.slice none 0 0) [] := Row.nil w base 1
theorem RowB.alloc (h : RowB w base v L) (o : Obj) : RowB (w.alloc o) base v L := Row.alloc h o
theorem RowB.drew (h : RowB w base v L) : RowB w.drew base v L := h
theorem RowB.drewN (h : RowB w base v L) (k : Nat) : RowB (w.drewN k) base v L := h
theorem RowB.below_all (h : RowB w base v L) (hb : Below w.heap.size w w') : RowB w' base v L := Row.below_all h hb
theorem RowB.kept {row : Option Nat} (h : RowB w base v L) (hg : w.grownBy w' row) (hne : v.ownBlock = none ∨ v.ownBlock ≠ row) : RowB w' base v L := Row.kept h hg hne
theorem RowB.form (h : RowB w base v L) : ∃ A c, v = .slice A L.length c ∧ L.length ≤ c ∧ c ≤ maxLen ∧ (A = none → L.length = 0 ∧ c = 0) ∧ Rd w w.heap.size 1 A L.length (bytesV L) := Row.form h
theorem SrcB.slice {A : Option Addr} {n c : Nat} (h : Rd w B 1 A n (bytesV M)) (h0 : A = none → n = 0) : SrcB w 26 (.slice A n c) M := by
  have hn : M.length = n := by have := h.1; rw [bytesV_len] at this; omega
  subst hn
  exact Src.slice Tryz.underlying26 h h0 (bytesV_one M)
theorem SrcB.built (M : Bs) (us : List Value) (hu : us = bytesV M) : SrcB (w.alloc (.cells us.toArray 5)) 26 (.slice (some ⟨w.heap.size, 0, none⟩) M.length M.length) M := by
  subst hu
  exact Src.built (bytesV M) 5 Tryz.underlying26 (by rw [bytesV_len]; omega) (bytesV_one M)
end

/-- append to bytes -/
theorem wpList_appB {ops : Array Oper} {rest : List Oper} {o : Oper} {a : Act} {w : World} {Q : Exit → Act → World → Prop} (hgd : o.guard = none) (s x : Operand) (tx : TypeId)
    (ho : o.op = .call { callee := .builtin .append, args := #[s, x], argTypes := #[26, tx] })
    (base : Nat) {v : Value} {L M : Bs} (hs : a.eval s = v) (hown : RowB w base v L) {xv : Value} (hxv : a.eval x = xv) (hx : SrcB w tx xv M)
    (hmax : L.length + M.length ≤ 134217728) (hbase : base ≤ w.heap.size)
    (h : ∀ v' w', RowB w' base v' (L ++ M) → Below base w w' → w.grownBy w' v.ownBlock → (v'.ownBlock = v.ownBlock ∨ v'.ownBlock = some w.heap.size) → wpList Tryz.prog ops Q rest (a.put o.dst v') w') : wpList Tryz.prog ops Q (o :: rest) a w := by
  obtain ⟨j0, hj0, jz0, jz1, jz2⟩ := info_parts infoByte
  refine wpList_app (P := Tryz.prog) w hgd s x 26 tx ho base 5 j0 (.int .u8 0) 1 1 Tryz.underlying26 hj0 jz0 jz1 jz2 rfl v L.length (bytesV L) hs hown xv M.length (bytesV M) hxv hx (by omega) (by omega) (by omega) hbase ?_
  intro v' w' h1 h2 h3
  refine h v' w' ?_ (Below.app (Below.refl _ _) hown h2 (Nat.le_refl _) hbase) h2 h3
  unfold RowB
  rw [List.length_append, bytesV_append]
  exact h1
/-- the same in a region that draws its order -/
theorem step_appB {ops : Array Oper} {o : Oper} {a : Act} {w : World} {K : Act → World → Prop} {Q : Exit → Act → World → Prop} {E : Prop} (hgd : o.guard = none) (s x : Operand) (tx : TypeId)
    (ho : o.op = .call { callee := .builtin .append, args := #[s, x], argTypes := #[26, tx] })
    (base : Nat) {v : Value} {L M : Bs} (hs : a.eval s = v) (hown : RowB w base v L) {xv : Value} (hxv : a.eval x = xv) (hx : SrcB w tx xv M)
    (hmax : L.length + M.length ≤ 134217728) (hbase : base ≤ w.heap.size)
    (h : ∀ v' w', RowB w' base v' (L ++ M) → Below base w w' → w.grownBy w' v.ownBlock → (v'.ownBlock = v.ownBlock ∨ v'.ownBlock = some w.heap.size) → K (a.put o.dst v') w') :
    if Region.wanted o (yielded ops a.tmps) = true then Oper.wp Tryz.prog o a w K Q else E := by
  obtain ⟨j0, hj0, jz0, jz1, jz2⟩ := info_parts infoByte
  refine step_app (P := Tryz.prog) w hgd s x 26 tx ho base 5 j0 (.int .u8 0) 1 1 Tryz.underlying26 hj0 jz0 jz1 jz2 rfl v L.length (bytesV L) hs hown xv M.length (bytesV M) hxv hx (by omega) (by omega) (by omega) hbase ?_
  intro v' w' h1 h2 h3
  refine h v' w' ?_ (Below.app (Below.refl _ _) hown h2 (Nat.le_refl _) hbase) h2 h3
  unfold RowB
  rw [List.length_append, bytesV_append]
  exact h1
end Go.Proofs.YtklmpadcfioefaaGreatDoor

namespace Go.Proofs.YtklmpadcfioefaaGreatDoor
open Go.RowKit

/-- a head in memory, as the plain law has it -/
def hiOf (rq : Bool) (m t : ByteArray) (st : Int) (rs : ByteArray) (mn : Int) (fs : List Fl) : HI :=
  { rq := rq, m := m.data.toList, t := t.data.toList, st := st, rs := rs.data.toList, mn := mn, fs := fs.map fun f => (f.1.data.toList, f.2.data.toList) }
/-- how long fields are -/
def flSize (fs : List Fl) : Nat := (fs.map fun f => f.1.size + f.2.size + 4).sum
end Go.Proofs.YtklmpadcfioefaaGreatDoor

namespace Go.Proofs.YtklmpadcfioefaaGreatDoor

def sHost : ByteArray := ⟨#[72, 111, 115, 116]⟩
def sLen : ByteArray := ⟨#[67, 111, 110, 116, 101, 110, 116, 45, 76, 101, 110, 103, 116, 104]⟩
def sCod : ByteArray := ⟨#[84, 114, 97, 110, 115, 102, 101, 114, 45, 69, 110, 99, 111, 100, 105, 110, 103]⟩
/-- a name, folded -/
def fd (s : ByteArray) : Bs := fold s.data.toList
/-- a head, its texts as in memory -/
structure HB where
  rq : Bool := false
  m : ByteArray := ⟨#[]⟩
  t : ByteArray := ⟨#[]⟩
  st : Int := 0
  rs : ByteArray := ⟨#[]⟩
  mn : Int := 0
  fs : List Fl := []
def HB.hi (h : HB) : HI := hiOf h.rq h.m h.t h.st h.rs h.mn h.fs
end Go.Proofs.YtklmpadcfioefaaGreatDoor

namespace Go.Proofs.YtklmpadcfioefaaGreatDoor
open Go.RowKit

theorem index_place (c : UInt8) : ∀ l : Bs, Lib.index l [c] = placeP c l
  | [] => by simp [Lib.index, placeP, cutAt]
  | x :: l => by
    have ih := index_place c l
    have hp : ([c] : Bs).isPrefixOf (x :: l) = (c == x) := by simp [List.isPrefixOf]
    have e : Lib.index (x :: l) [c] = if (c == x) = true then 0 else if Lib.index l [c] == -1 then -1 else Lib.index l [c] + 1 := by rw [Lib.index, hp]
    rw [e, placeP, cutAt]
    by_cases h : x = c
    · subst h; simp
    · have h' : (c == x) = false := by simpa using fun e => h e.symm
      rw [h', ih, if_neg (by simp), if_neg h, placeP]
      cases hc : cutAt c l with
      | none => simp
      | some p =>
        simp only [Option.map_some]
        rw [if_neg (by simp)]
        simp
theorem cut_at (c : UInt8) (l : Bs) : Lib.cut l [c] = match cutAt c l with | none => (l, [], false) | some (a, b) => (a, b, true) := by
  have e := index_place c l
  unfold Lib.cut
  rw [e, placeP]
  cases hc : cutAt c l with
  | none => simp
  | some p =>
    obtain ⟨a, b⟩ := p
    obtain ⟨e1, _⟩ := cutAt_some.1 hc
    subst e1
    simp

theorem cut_any (s : ByteArray) (c : UInt8) (w : World) (h : w.ShapedOpen Tryz.prog) (hs : s.size ≤ 16777216) :
    Calls Tryz.prog 45 #[.string s, .string ⟨#[c]⟩] w fun e w' => (match cutAt c s.data.toList with
      | none => e = .returned (.tuple #[.string s, .string ⟨#[]⟩, .bool false])
      | some (a, b) => e = .returned (.tuple #[.string ⟨a.toArray⟩, .string ⟨b.toArray⟩, .bool true])) ∧ ∃ q, w' = w.drewN q :=
  (Tryz.strings_Cut_shaped s ⟨#[c]⟩ w h (by omega)).mono fun e w' ⟨he, hw⟩ => by
    have hc := cut_at c s.data.toList
    refine ⟨?_, hw⟩
    have e0 : ({ data := #[c] } : ByteArray).data.toList = [c] := rfl
    rw [e0, hc] at he
    cases hk : cutAt c s.data.toList with
    | none => rw [hk] at he; simpa using he
    | some p => rw [hk] at he; simpa using he
theorem cut_none (s : ByteArray) (c : UInt8) (w : World) (h : w.ShapedOpen Tryz.prog) (hs : s.size ≤ 16777216) (hc : cutAt c s.data.toList = none) :
    Calls Tryz.prog 45 #[.string s, .string ⟨#[c]⟩] w fun e w' => e = .returned (.tuple #[.string s, .string ⟨#[]⟩, .bool false]) ∧ ∃ q, w' = w.drewN q :=
  (cut_any s c w h hs).mono fun e w' ⟨h1, h2⟩ => by rw [hc] at h1; exact ⟨h1, h2⟩
theorem cut_some (s : ByteArray) (c : UInt8) (w : World) (h : w.ShapedOpen Tryz.prog) (hs : s.size ≤ 16777216) {a b : Bs} (hc : cutAt c s.data.toList = some (a, b)) :
    Calls Tryz.prog 45 #[.string s, .string ⟨#[c]⟩] w fun e w' => e = .returned (.tuple #[.string ⟨a.toArray⟩, .string ⟨b.toArray⟩, .bool true]) ∧ ∃ q, w' = w.drewN q :=
  (cut_any s c w h hs).mono fun e w' ⟨h1, h2⟩ => by rw [hc] at h1; exact ⟨h1, h2⟩

theorem toList_ne {s : ByteArray} {l : List UInt8} (h : ¬ s = ⟨l.toArray⟩) : (s.toList == l) = false := by
  have h2 : s.data.toList ≠ l := fun e => h (by cases s with | mk d => simp at e; subst e; simp)
  rw [ByteArray.toList_eq]; simpa using h2
theorem byte_ext {s : ByteArray} {l : List UInt8} : s = ⟨l.toArray⟩ ↔ s.data.toList = l := by
  constructor
  · intro h; rw [h]
  · intro h
    cases s with
    | mk d => simp at h; subst h; simp

def minorI (l : Bs) : Int := match minorP l with | some k => k | none => -1

theorem hminor_any (s : ByteArray) (w : World) : Calls Tryz.prog 78 #[.string s] w fun e w' => e = .returned (.tuple #[.int .i64 (((minorP s.data.toList).getD 0 : Nat) : Int), .bool (minorP s.data.toList).isSome]) ∧ w = w' := by
  by_cases h0 : s = ⟨#[72, 84, 84, 80, 47, 49, 46, 48]⟩
  · subst h0
    go_enter Tryz.func78, Tryz.ntmps78
    go_wp2
    go_ret2
    exact ⟨rfl, rfl⟩
  · by_cases h1 : s = ⟨#[72, 84, 84, 80, 47, 49, 46, 49]⟩
    · subst h1
      go_enter Tryz.func78, Tryz.ntmps78
      go_wp2
      go_ret2
      exact ⟨rfl, rfl⟩
    · have HM : Hid (minorP s.data.toList = none) := Lib.hid (by
        unfold minorP
        rw [if_neg (fun e => h0 (byte_ext.2 e)), if_neg (fun e => h1 (byte_ext.2 e))])
      have b0 := toList_ne (l := [72, 84, 84, 80, 47, 49, 46, 48]) h0
      have b1 := toList_ne (l := [72, 84, 84, 80, 47, 49, 46, 49]) h1
      go_enter Tryz.func78, Tryz.ntmps78
      go_wp2
      go_ret2
      exact ⟨by rw [HM.out]; rfl, rfl⟩

theorem rminor_any (s : ByteArray) (w : World) : Calls Tryz.prog 133 #[.string s] w fun e w' => e = .returned (.int .i64 (minorI s.data.toList)) ∧ w = w' := by
  by_cases h0 : s = ⟨#[72, 84, 84, 80, 47, 49, 46, 48]⟩
  · subst h0
    go_enter Tryz.func133, Tryz.ntmps133
    go_wp2
    go_ret
    exact ⟨rfl, rfl⟩
  · by_cases h1 : s = ⟨#[72, 84, 84, 80, 47, 49, 46, 49]⟩
    · subst h1
      go_enter Tryz.func133, Tryz.ntmps133
      go_wp2
      go_ret
      exact ⟨rfl, rfl⟩
    · have HM : Hid (minorI s.data.toList = -1) := Lib.hid (by
        unfold minorI minorP
        rw [if_neg (fun e => h0 (byte_ext.2 e)), if_neg (fun e => h1 (byte_ext.2 e))])
      have b0 := toList_ne (l := [72, 84, 84, 80, 47, 49, 46, 48]) h0
      have b1 := toList_ne (l := [72, 84, 84, 80, 47, 49, 46, 49]) h1
      go_enter Tryz.func133, Tryz.ntmps133
      go_wp2
      go_ret
      exact ⟨by rw [HM.out]; rfl, rfl⟩

theorem hParse1_any (s : ByteArray) (w : World) : Calls Tryz.prog 42 #[.string s] w fun e w' => e = .returned (.bool (decide (4096 < s.size))) ∧ w = w' := by
  by_cases h : 4096 < s.size
  · go_enter Tryz.func42, Tryz.ntmps42
    go_wp2
    go_ret
    exact ⟨by simp [h] <;> omega, rfl⟩
  · go_enter Tryz.func42, Tryz.ntmps42
    go_wp2
    go_ret
    exact ⟨by simp [h] <;> omega, rfl⟩

def anyLong (vs : List ByteArray) : Bool := vs.any fun s => decide (4096 < s.size)

set_option maxHeartbeats 1000000 in
set_option maxRecDepth 100000 in
theorem idxLong_any (A : Option Addr) (n c : Nat) (vs : List ByteArray) (w : World) (hrd : Rd w w.heap.size 1 A n (strsV vs)) (hn : n ≤ 16777217) :
    Calls Tryz.prog 76 #[.slice A n c, .func (.func 42) #[] #[]] w fun e w' => ∃ i : Int, e = .returned (.int .i64 i) ∧ anyLong vs = decide (0 ≤ i) ∧ Below w.heap.size w w' := by
  have hlen : vs.length = n := by have := hrd.1; rw [strsV_len] at this; omega
  go_enter Tryz.func76, Tryz.ntmps76
  go_wp2
  go_loopw [8] (fun i wr => ∃ k : Nat, k ≤ n ∧ i = .int .i64 k ∧ (∀ j (h : j < vs.length), j < k → ¬ 4096 < vs[j].size) ∧ Below w.heap.size w wr) (fun i _ => n - (intOf i).toNat)
  case atStart => exact ⟨0, Nat.zero_le _, rfl, (fun j h hj => absurd hj (by omega)), Below.refl _ _⟩
  case round =>
    obtain ⟨k, hk, rfl, hall, hb⟩ := hrel
    have HA := Lib.hid hall
    clear hall
    by_cases hlt : k < n
    · obtain ⟨g, o, rfl, hg, hcell⟩ := hrd.2 (by omega)
      have c1 := (hb.cell (p := ⟨g, o + k, none⟩) hg).trans (hcell _ _ (strs_get (l := vs) (j := k) (by omega)))
      clear hcell
      by_cases hl : 4096 < vs[k].size
      · have HL : Hid (anyLong vs = true) := Lib.hid (List.any_eq_true.2 ⟨vs[k], List.getElem_mem _, by simpa using hl⟩)
        have hd : decide (4096 < vs[k].size) = true := by simpa using hl
        go_wp2_with (go_at_call 42; go_must (refine (hParse1_any vs[k] _).mono ?_; rintro _ _ ⟨rfl, rfl⟩; rw [hd]))
        go_ret
        exact ⟨_, rfl, by rw [HL.out]; simp, hb⟩
      · have hd : decide (4096 < vs[k].size) = false := by simpa using hl
        have HN : Hid (∀ j (h : j < vs.length), j < k + 1 → ¬ 4096 < vs[j].size) := Lib.hid (fun j h hj => by
          by_cases e : j = k
          · subst e; exact hl
          · exact HA.out j h (by omega))
        go_wp2_with (go_at_call 42; go_must (refine (hParse1_any vs[k] _).mono ?_; rintro _ _ ⟨rfl, rfl⟩; rw [hd]))
        go_roundw
        case rel => exact ⟨k + 1, by omega, by go_num, HN.out, hb⟩
        case measure => simp [intOf]; omega
    · have HL : Hid (anyLong vs = false) := Lib.hid (by
        unfold anyLong
        rw [List.any_eq_false]
        intro s hs
        obtain ⟨j, hj, rfl⟩ := List.getElem_of_mem hs
        simpa using HA.out j hj (by omega))
      go_wp2
      go_ret
      exact ⟨_, rfl, by rw [HL.out]; simp, hb⟩

theorem hasLong_any (A : Option Addr) (n c : Nat) (vs : List ByteArray) (w : World) (hrd : Rd w w.heap.size 1 A n (strsV vs)) (hn : n ≤ 16777217) :
    Calls Tryz.prog 41 #[.slice A n c, .func (.func 42) #[] #[]] w fun e w' => e = .returned (.bool (anyLong vs)) ∧ Below w.heap.size w w' := by
  go_enter Tryz.func41, Tryz.ntmps41
  go_wp2_with (go_at_call 76; go_must (refine (idxLong_any A n c vs _ hrd hn).mono ?_; rintro _ w1 ⟨i, rfl, hi, hb⟩))
  go_ret
  exact ⟨by rw [hi]; simp, hb⟩
end Go.Proofs.YtklmpadcfioefaaGreatDoor

namespace Go.Proofs.YtklmpadcfioefaaGreatDoor
open Go.RowKit

def cur (s : Bs) (f q : Nat) : Bs := (s.drop f).take (q - f)
theorem cur_next (s : Bs) (f q : Nat) (hf : f ≤ q) (hq : q < s.length) : cur s f (q + 1) = cur s f q ++ [s[q]] := by
  unfold cur
  have h : q - f < (s.drop f).length := by rw [List.length_drop]; omega
  rw [show q + 1 - f = (q - f) + 1 by omega, List.take_succ_eq_append_getElem h, List.getElem_drop]
  congr 2
  simp only [show f + (q - f) = q by omega]
theorem step_ne (s : Bs) (f q : Nat) (hf : f ≤ q) (hq : q < s.length) (h : s[q] ≠ 44) : pieces (cur s f q) (s.drop q) = pieces (cur s f (q + 1)) (s.drop (q + 1)) := by
  rw [List.drop_eq_getElem_cons hq, pieces, if_neg h, cur_next s f q hf hq]
theorem step_eq (s : Bs) (f q : Nat) (hq : q < s.length) (h : s[q] = 44) : pieces (cur s f q) (s.drop q) = cur s f q :: pieces (cur s (q + 1) (q + 1)) (s.drop (q + 1)) := by
  rw [List.drop_eq_getElem_cons hq, pieces, if_pos h]
  simp [cur]
theorem step_end (s : Bs) (f : Nat) : pieces (cur s f s.length) (s.drop s.length) = [cur s f s.length] := by
  rw [List.drop_length]; rfl
def selOne (p : Bs) : List ByteArray := if trim p = [] then [] else [⟨(trim p).toArray⟩]
theorem sel_cons (p : Bs) (l : List Bs) : sel (p :: l) = selOne p ++ sel l := by
  unfold selOne
  by_cases e : trim p = [] <;> simp [sel, e]

/-- what the inner loop holds: at q of s, the piece begun at f -/
def Held (s : Bs) (f q : Nat) (done : List ByteArray) : Prop :=
  (q ≤ s.length ∧ done ++ sel (pieces (cur s f q) (s.drop q)) = sel (pieces [] s)) ∨ (q = s.length + 1 ∧ done = sel (pieces [] s))
theorem held_start (s : Bs) : Held s 0 0 [] := .inl ⟨Nat.zero_le _, by simp [cur]⟩
theorem held_ne {s : Bs} {f q : Nat} {done : List ByteArray} (h : Held s f q done) (hf : f ≤ q) (hq : q < s.length) (hc : s[q] ≠ 44) : Held s f (q + 1) done := by
  rcases h with ⟨_, h⟩ | ⟨h, _⟩
  · exact .inl ⟨hq, by rw [← h, step_ne s f q hf hq hc]⟩
  · omega
theorem held_eq {s : Bs} {f q : Nat} {done : List ByteArray} (h : Held s f q done) (hq : q < s.length) (hc : s[q] = 44) : Held s (q + 1) (q + 1) (done ++ selOne (cur s f q)) := by
  rcases h with ⟨_, h⟩ | ⟨h, _⟩
  · exact .inl ⟨hq, by rw [← h, step_eq s f q hq hc, sel_cons, List.append_assoc]⟩
  · omega
theorem held_end {s : Bs} {f q : Nat} {done : List ByteArray} (h : Held s f q done) (hq : q = s.length) : Held s (q + 1) (q + 1) (done ++ selOne (cur s f q)) := by
  subst hq
  rcases h with ⟨_, h⟩ | ⟨h, _⟩
  · refine .inr ⟨rfl, ?_⟩
    rw [← h, step_end, sel_cons]; simp [sel]
  · omega
theorem held_done {s : Bs} {f q : Nat} {done : List ByteArray} (h : Held s f q done) (hq : s.length < q) : done = sel (pieces [] s) := by
  rcases h with ⟨h, _⟩ | ⟨_, h⟩
  · omega
  · exact h
theorem held_len {s : Bs} {f q : Nat} {done : List ByteArray} (h : Held s f q done) : done.length ≤ s.length + 1 := by
  have h1 := pieces_len s []
  have h2 := sel_len (pieces [] s)
  rcases h with ⟨_, h⟩ | ⟨_, h⟩
  · have := congrArg List.length h
    rw [List.length_append] at this
    omega
  · rw [h]; omega

set_option maxHeartbeats 2000000 in
set_option maxRecDepth 100000 in
theorem rList_any (A : Option Addr) (n c : Nat) (vs : List ByteArray) (w : World) (hrd : Rd w w.heap.size 1 A n (strsV vs))
    (hn : n ≤ 16777216) (hvs : ∀ s ∈ vs, s.size ≤ 16777216) (htot : total vs ≤ 16777216) :
    Calls Tryz.prog 103 #[.slice A n c] w fun e w' => ∃ v, e = .returned v ∧ Row w' w.heap.size 1 v (listed vs).length (strsV (listed vs)) ∧ Below w.heap.size w w' := by
  have hlen : vs.length = n := by have := hrd.1; rw [strsV_len] at this; omega
  obtain ⟨i0, hi, hz0, hz1, hz2⟩ := info_parts info9
  go_enter Tryz.func103, Tryz.ntmps103
  go_wp2
  go_loopw [3, 4] (fun v2 i wr => ∃ k : Nat, k ≤ n ∧ i = .int .i64 k ∧ Row wr w.heap.size 1 v2 (listed (vs.take k)).length (strsV (listed (vs.take k))) ∧ Below w.heap.size w wr) (fun _ i _ => n - (intOf i).toNat)
  case atStart => exact ⟨0, Nat.zero_le _, rfl, Row.nil _ _ _, Below.refl _ _⟩
  case round =>
    obtain ⟨k, hk, rfl, hrow, hb⟩ := hrel
    by_cases hlt : k < n
    · obtain ⟨g, o, rfl, hg, hcell⟩ := hrd.2 (by omega)
      have c1 := hcell _ _ (strs_get (l := vs) (j := k) (by omega))
      have hs1 : vs[k].size ≤ 16777216 := hvs _ (List.getElem_mem _)
      have HL := Lib.hid (listed_take vs k (by omega))
      have HN : Hid ((listed (vs.take k)).length ≤ 16777216) := Lib.hid (Nat.le_trans (listed_len _) (Nat.le_trans (total_take vs k) htot))
      clear hcell
      generalize listed (vs.take k) = pv at HL HN hrow
      generalize vs[k] = s at c1 hs1 HL
      have hpv := HN.out
      go_wp2
      go_loopw [3, 5, 6] (fun v2 fi qi wi => ∃ (f q : Nat) (done : List ByteArray), f ≤ q ∧ q ≤ s.size + 1 ∧ fi = .int .i64 f ∧ qi = .int .i64 q ∧ Held s.data.toList f q done ∧ Row wi w.heap.size 1 v2 (pv ++ done).length (strsV (pv ++ done)) ∧ Below w.heap.size w wi) (fun _ _ i _ => s.size + 1 - (intOf i).toNat)
      case atStart => exact ⟨0, 0, [], Nat.le_refl _, Nat.zero_le _, rfl, rfl, held_start _, by simpa using hrow, hb⟩
      case round =>
        obtain ⟨f, q, done, hfq, hqs, rfl, rfl, hheld, hrowi, hbi⟩ := hrel
        have hszi := hbi.size
        have hdl : s.data.toList.length = s.size := rfl
        have c2 := (hbi.cell (p := ⟨g, o + k, none⟩) hg).trans c1
        have HH := Lib.hid hheld
        have hll : (pv ++ done).length ≤ 33554500 := by have := held_len hheld; rw [List.length_append]; omega
        clear hheld
        by_cases hql : q ≤ s.size
        · by_cases hqe : q = s.size
          · have HH2 := Lib.hid (held_end HH.out (by omega))
            subst hqe
            have HE : Hid ((s.extract f s.size).data.toList = cur s.data.toList f s.size) := Lib.hid (Lib.extract_data s f s.size)
            have HS : Hid (selOne (cur s.data.toList f s.size) = if trim (cur s.data.toList f s.size) = [] then [] else [⟨(trim (cur s.data.toList f s.size)).toArray⟩]) := Lib.hid rfl
            by_cases he : trim (cur s.data.toList f s.size) = []
            · rw [if_pos he] at HS
              go_wp2_with (go_at_call 98; go_must (refine (rtrim_any (s.extract f s.size) _ (by rw [ByteArray.size_extract]; omega)).mono ?_; rintro _ w2 ⟨rfl, rfl⟩; rw [HE.out, he]))
              all_goals first
                | (exfalso; simp only [Bool.or_eq_true, Bool.or_eq_false_iff, beq_iff_eq, beq_eq_false_iff_ne, decide_eq_true_eq, decide_eq_false_iff_not] at *; omega)
                | (refine ⟨⟨s.size + 1, s.size + 1, done, Nat.le_refl _, by omega, by go_num, by go_num, ?_, hrowi, hbi⟩, by simp [intOf] <;> omega⟩
                   have := HH2.out
                   rw [HS.out, List.append_nil] at this
                   exact this)
            · rw [if_neg he] at HS
              have hne : (trim (cur s.data.toList f s.size) == []) = false := by simpa using he
              generalize hpd : pv ++ done = pj at hrowi hll
              go_wp2_with (first
                | (go_at_call 98; go_must (refine (rtrim_any (s.extract f s.size) _ (by rw [ByteArray.size_extract]; omega)).mono ?_; rintro _ w2 ⟨rfl, rfl⟩; rw [HE.out]))
                | (at_builtin; go_must (refine wpList_app _ rfl (.tmp 49) (.tmp 51) 27 27 rfl w.heap.size 9 i0 (.string ⟨#[]⟩) 1 16 Tryz.underlying27 hi hz0 hz1 hz2 rfl u3 pj.length (strsV pj) rfl (hrowi.alloc _) _ 1 [.string ⟨(trim (cur s.data.toList f s.size)).toArray⟩] rfl (Src.built [.string ⟨(trim (cur s.data.toList f s.size)).toArray⟩] 9 Tryz.underlying27 rfl (by intro u hu; simp at hu; subst hu; rfl)) (by omega) (by omega) (by omega) (by simp; omega) ?_); intro v1 w3 hrow3 hg3 _; have hB3 : Below w.heap.size w w3 := Below.app (hbi.alloc (by omega) _) (hrowi.alloc _) hg3 (Nat.le_refl _) (by simp; omega)))
              all_goals first
                | (exfalso; simp only [beq_eq_false_iff_ne] at *; omega)
                | (refine ⟨⟨s.size + 1, s.size + 1, done ++ selOne (cur s.data.toList f s.size), Nat.le_refl _, by omega, by go_num, by go_num, HH2.out, ?_, hB3⟩, by simp [intOf] <;> omega⟩
                   rw [HS.out, ← List.append_assoc, hpd, strsV, List.map_append, List.length_append]
                   exact hrow3)
          · have hqlt : q < s.size := by omega
            by_cases h44 : s[q].toNat = 44
            · have heq : s.data.toList[q] = 44 := by rw [byte_at s q hqlt]; exact UInt8.toNat_inj.mp (by rw [h44]; rfl)
              have HH2 := Lib.hid (held_eq HH.out (by omega) heq)
              have HE : Hid ((s.extract f q).data.toList = cur s.data.toList f q) := Lib.hid (Lib.extract_data s f q)
              have HS : Hid (selOne (cur s.data.toList f q) = if trim (cur s.data.toList f q) = [] then [] else [⟨(trim (cur s.data.toList f q)).toArray⟩]) := Lib.hid rfl
              by_cases he : trim (cur s.data.toList f q) = []
              · rw [if_pos he] at HS
                go_wp2_with (go_at_call 98; go_must (refine (rtrim_any (s.extract f q) _ (by rw [ByteArray.size_extract]; omega)).mono ?_; rintro _ w2 ⟨rfl, rfl⟩; rw [HE.out, he]))
                all_goals first
                  | (exfalso; simp only [Bool.or_eq_true, Bool.or_eq_false_iff, beq_iff_eq, beq_eq_false_iff_ne, decide_eq_true_eq, decide_eq_false_iff_not] at *; omega)
                  | (refine ⟨⟨q + 1, q + 1, done, Nat.le_refl _, by omega, by go_num, by go_num, ?_, hrowi, hbi⟩, by simp [intOf] <;> omega⟩
                     have := HH2.out
                     rw [HS.out, List.append_nil] at this
                     exact this)
              · rw [if_neg he] at HS
                have hne : (trim (cur s.data.toList f q) == []) = false := by simpa using he
                generalize hpd : pv ++ done = pj at hrowi hll
                go_wp2_with (first
                  | (go_at_call 98; go_must (refine (rtrim_any (s.extract f q) _ (by rw [ByteArray.size_extract]; omega)).mono ?_; rintro _ w2 ⟨rfl, rfl⟩; rw [HE.out]))
                  | (at_builtin; go_must (refine wpList_app _ rfl (.tmp 49) (.tmp 51) 27 27 rfl w.heap.size 9 i0 (.string ⟨#[]⟩) 1 16 Tryz.underlying27 hi hz0 hz1 hz2 rfl u3 pj.length (strsV pj) rfl (hrowi.alloc _) _ 1 [.string ⟨(trim (cur s.data.toList f q)).toArray⟩] rfl (Src.built [.string ⟨(trim (cur s.data.toList f q)).toArray⟩] 9 Tryz.underlying27 rfl (by intro u hu; simp at hu; subst hu; rfl)) (by omega) (by omega) (by omega) (by simp; omega) ?_); intro v1 w3 hrow3 hg3 _; have hB3 : Below w.heap.size w w3 := Below.app (hbi.alloc (by omega) _) (hrowi.alloc _) hg3 (Nat.le_refl _) (by simp; omega)))
                all_goals first
                  | (exfalso; simp only [beq_eq_false_iff_ne] at *; omega)
                  | (refine ⟨⟨q + 1, q + 1, done ++ selOne (cur s.data.toList f q), Nat.le_refl _, by omega, by go_num, by go_num, HH2.out, ?_, hB3⟩, by simp [intOf] <;> omega⟩
                     rw [HS.out, ← List.append_assoc, hpd, strsV, List.map_append, List.length_append]
                     exact hrow3)
            · have hne : s.data.toList[q] ≠ 44 := fun e => h44 (by rw [← byte_at s q hqlt, e]; rfl)
              have HH2 := Lib.hid (held_ne HH.out hfq (by omega) hne)
              go_wp2_with (go_at_call 98; (exfalso; simp only [beq_iff_eq] at *; omega))
              all_goals first
                | (exfalso; simp only [beq_eq_false_iff_ne] at *; omega)
                | exact ⟨⟨f, q + 1, done, by omega, by omega, by go_num, by go_num, HH2.out, hrowi, hbi⟩, by simp [intOf] <;> omega⟩
        · have hd := held_done HH.out (by omega)
          rw [hd] at hrowi
          go_wp2
          go_roundw
          case rel => exact ⟨k + 1, by omega, by go_num, by rw [HL.out]; exact hrowi, hbi⟩
          case measure => simp [intOf]; omega
    · have e1 : vs.take k = vs := List.take_of_length_le (by omega)
      rw [e1] at hrow
      go_wp2
      go_ret
      exact ⟨_, rfl, hrow, hb⟩
end Go.Proofs.YtklmpadcfioefaaGreatDoor

namespace Go.Proofs.YtklmpadcfioefaaGreatDoor
open Go.RowKit

end Go.Proofs.YtklmpadcfioefaaGreatDoor

namespace Go.Proofs.YtklmpadcfioefaaGreatDoor
open Go.RowKit

set_option maxHeartbeats 1000000 in
set_option maxRecDepth 100000 in
theorem rValues_any (rq : Bool) (m t : ByteArray) (st : Int) (rs : ByteArray) (mn : Int) (A : Option Addr) (n c : Nat) (fs : List Fl) (name : ByteArray) (w : World) (hrd : Rd w w.heap.size 2 A n (fieldsV fs))
    (hn : n ≤ 16777216) (hname : name.size ≤ 16777216) (hfs : ∀ f ∈ fs, f.1.size ≤ 16777216) :
    Calls Tryz.prog 101 #[headV rq m t st rs mn (.slice A n c), .string name] w fun e w' => ∃ v, e = .returned v ∧ Row w' w.heap.size 1 v (vals fs name).length (strsV (vals fs name)) ∧ Below w.heap.size w w' := by
  have hlen : fs.length = n := by have := hrd.1; rw [fieldsV_len] at this; omega
  obtain ⟨i0, hi, hz0, hz1, hz2⟩ := info_parts info9
  unfold headV
  go_enter Tryz.func101, Tryz.ntmps101
  go_wp2
  go_loopw [5, 6] (fun v4 i wr => ∃ k : Nat, k ≤ n ∧ i = .int .i64 k ∧ Row wr (w.heap.size + 1) 1 v4 (vals (fs.take k) name).length (strsV (vals (fs.take k) name)) ∧ Below (w.heap.size + 1) (w.alloc (.cells #[.bool rq, .string m, .string t, .int .i64 st, .string rs, .int .i64 mn, .slice A n c] 52)) wr) (fun _ i _ => n - (intOf i).toNat)
  case atStart => exact ⟨0, Nat.zero_le _, rfl, Row.nil _ _ _, Below.refl _ _⟩
  case round =>
    obtain ⟨k, hk, rfl, hrow, hb⟩ := hrel
    have hbx : wr.cell? ⟨w.heap.size, 6, none⟩ = some (.slice A n c) := (hb.cell (by show w.heap.size < _; omega)).trans (World.cell?_alloc_new _ _ _ _)
    have hsz : w.heap.size + 1 ≤ wr.heap.size := by (have := hb.size; simpa using this)
    by_cases hlt : k < n
    · obtain ⟨g, o, rfl, hg, hcell⟩ := hrd.2 (by omega)
      obtain ⟨G1, G2⟩ := fieldsV_get fs k (by omega)
      have c1 := ((hb.cell (p := ⟨g, o + k * 2, none⟩) (by show g < _; omega)).trans (World.cell?_alloc_past _ _ _ hg)).trans (hcell _ _ G1)
      have c2 := ((hb.cell (p := ⟨g, o + (k * 2 + 1), none⟩) (by show g < _; omega)).trans (World.cell?_alloc_past _ _ _ hg)).trans (hcell _ _ G2)
      clear hcell G1 G2
      rw [← Nat.add_assoc] at c2
      have hs1 : fs[k].1.size ≤ 16777216 := hfs _ (List.getElem_mem _)
      have HV := Lib.hid (vals_step fs name k (by omega))
      have HP : Hid ((vals (fs.take k) name).length ≤ k) := Lib.hid (Nat.le_trans (vals_le _ _) (by rw [List.length_take]; omega))
      by_cases he : fold fs[k].1.data.toList = fold name.data.toList
      · rw [if_pos he] at HV
        generalize vals (fs.take k) name = pv at HV HP hrow
        have hpv := HP.out
        go_wp2_with (first
          | (go_at_call 104; have c3' := c3; go_must (refine (rFold_any name _ hname).mono ?_; rintro _ w2 ⟨rfl, hb2⟩; have hs2 := hb2.size; have c4 : w2.cell? ⟨g, o + k * 2 + 1, none⟩ = some (.string fs[k].2) := (hb2.cell (by show g < _; omega)).trans c3; have hbx2 : w2.cell? ⟨w.heap.size, 6, none⟩ = some (.slice (some ⟨g, o, none⟩) n c) := (hb2.cell (by show w.heap.size < _; omega)).trans hbx1; have hB2 := hB1.trans (hb2.mono (B' := w.heap.size + 1) (by omega)); have hrow2 := hrow1.below_all hb2))
          | (go_at_call 104; refine (rFold_any fs[k].1 _ hs1).mono ?_; rintro _ w1 ⟨rfl, hb1⟩; have hs1' := hb1.size
             have c3 : w1.cell? ⟨g, o + k * 2 + 1, none⟩ = some (.string fs[k].2) := (hb1.cell (by show g < _; omega)).trans c2
             have hbx1 : w1.cell? ⟨w.heap.size, 6, none⟩ = some (.slice (some ⟨g, o, none⟩) n c) := (hb1.cell (by show w.heap.size < _; omega)).trans hbx
             have hB1 := hb.trans (hb1.mono (B' := w.heap.size + 1) (by omega))
             have hrow1 := hrow.below_all hb1
             rw [he])
          | (at_builtin; go_must (refine wpList_app _ rfl (.tmp 24) (.tmp 31) 27 27 rfl (w.heap.size + 1) 9 i0 (.string ⟨#[]⟩) 1 16 Tryz.underlying27 hi hz0 hz1 hz2 rfl u5 pv.length (strsV pv) rfl (hrow2.alloc _) _ 1 [.string fs[k].2] rfl (Src.built [.string fs[k].2] 9 Tryz.underlying27 rfl (by intro u hu; simp at hu; subst hu; rfl)) (by omega) (by omega) (by omega) (by simp; omega) ?_); intro v1 w3 hrow3 hg3 _; have hB3 := Below.app (B := w.heap.size + 1) (hB2.alloc (by omega) _) (hrow2.alloc _) hg3 (Nat.le_refl _) (by simp; omega)))
        go_roundw
        case rel => exact ⟨k + 1, by omega, by go_num, by rw [HV.out, strsV, List.map_append, List.length_append]; exact hrow3, hB3⟩
        case measure => simp [intOf]; omega
      · rw [if_neg he, List.append_nil] at HV
        have hne : (fold fs[k].1.data.toList == fold name.data.toList) = false := by simpa using he
        generalize vals (fs.take k) name = pv at HV HP hrow
        go_wp2_with (first
          | (go_at_call 104; have c3' := c3; go_must (refine (rFold_any name _ hname).mono ?_; rintro _ w2 ⟨rfl, hb2⟩; have hs2 := hb2.size; have c4 : w2.cell? ⟨g, o + k * 2 + 1, none⟩ = some (.string fs[k].2) := (hb2.cell (by show g < _; omega)).trans c3; have hbx2 : w2.cell? ⟨w.heap.size, 6, none⟩ = some (.slice (some ⟨g, o, none⟩) n c) := (hb2.cell (by show w.heap.size < _; omega)).trans hbx1; have hB2 := hB1.trans (hb2.mono (B' := w.heap.size + 1) (by omega)); have hrow2 := hrow1.below_all hb2))
          | (go_at_call 104; refine (rFold_any fs[k].1 _ hs1).mono ?_; rintro _ w1 ⟨rfl, hb1⟩; have hs1' := hb1.size
             have c3 : w1.cell? ⟨g, o + k * 2 + 1, none⟩ = some (.string fs[k].2) := (hb1.cell (by show g < _; omega)).trans c2
             have hbx1 : w1.cell? ⟨w.heap.size, 6, none⟩ = some (.slice (some ⟨g, o, none⟩) n c) := (hb1.cell (by show w.heap.size < _; omega)).trans hbx
             have hB1 := hb.trans (hb1.mono (B' := w.heap.size + 1) (by omega))
             have hrow1 := hrow.below_all hb1
             skip))
        go_roundw
        case rel => exact ⟨k + 1, by omega, by go_num, by rw [HV.out]; exact hrow2, hB2⟩
        case measure => simp [intOf]; omega
    · have e1 : fs.take k = fs := List.take_of_length_le (by omega)
      rw [e1] at hrow
      go_wp2
      go_ret
      exact ⟨_, rfl, hrow.mono (by omega), ((Below.refl _ w).alloc (Nat.le_refl _) _).trans (hb.mono (by omega))⟩
end Go.Proofs.YtklmpadcfioefaaGreatDoor

namespace Go.Proofs.YtklmpadcfioefaaGreatDoor
open Go.RowKit

/-- In a region that draws and only reads: a variable of several cells is read. -/
theorem wpQuiet_load_mid {P : Program} {ops : Array Oper} {C : World → Prop} {Q : Act → Prop} {rest : List Oper} {op : Oper} {a : Act} (hgd : op.guard = none) (ty : TypeId) (x : Operand) (ho : op.op = .load ty x)
    (b o : Nat) (hx : a.eval x = .pointer (some ⟨b, o, none⟩)) (cs : List Value) (d : TypeDesc) (hc : ∀ w, C w → w.rangeAt b o cs)
    (hu : P.underlying ty = some d) (hd : d.isRow = true) (hi : (P.info? ty).map (·.size) = some cs.length)
    (h : wpQuiet P ops C Q rest (a.put op.dst (.agg cs.toArray))) : wpQuiet P ops C Q (op :: rest) a :=
  BigFrame.wpQuiet_want (by simp [Region.wanted, hgd]) fun K hK => ⟨.agg cs.toArray, fun w hw => by
    unfold Oper.quietAt execOp
    simp only [ho, hx, Instr.loadAt, Instr.sureAddr, Sem.run_bind, Sem.run_pure, Result.andThen_ok, run_loadVar_mid w b o ty cs d (hc w hw) hu hd hi]
    exact ⟨rfl, rfl⟩, hK _ h⟩

set_option maxHeartbeats 2000000 in
set_option maxRecDepth 100000 in
theorem rSame_any (rq : Bool) (m t : ByteArray) (st : Int) (rs : ByteArray) (mn : Int) (A A' : Option Addr) (n c c' : Nat) (fs : List Fl) (w : World) (h1 : Rd w w.heap.size 2 A n (fieldsV fs)) (h2 : Rd w w.heap.size 2 A' n (fieldsV fs))
    (hn : n ≤ 16777216) :
    Calls Tryz.prog 21 #[headV rq m t st rs mn (.slice A n c), headV rq m t st rs mn (.slice A' n c')] w fun e w' => e = .returned (.bool true) ∧ Below w.heap.size w w' := by
  have hlen : fs.length = n := by have := h1.1; rw [fieldsV_len] at this; omega
  unfold headV
  go_enter Tryz.func21, Tryz.ntmps21
  go_wp2
  go_loopw [5] (fun i wr => ∃ k : Nat, k ≤ n ∧ i = .int .i64 k ∧ Below (w.heap.size + 2) ((w.alloc (.cells #[.bool rq, .string m, .string t, .int .i64 st, .string rs, .int .i64 mn, .slice A n c] 52)).alloc (.cells #[.bool rq, .string m, .string t, .int .i64 st, .string rs, .int .i64 mn, .slice A' n c'] 52)) wr) (fun i _ => n - (intOf i).toNat)
  case atStart => exact ⟨0, Nat.zero_le _, rfl, Below.refl _ _⟩
  case round =>
    obtain ⟨k, hk, rfl, hb⟩ := hrel
    have hb1 : ∀ q, (wr.drewN q).cell? ⟨w.heap.size, 6, none⟩ = some (.slice A n c) := fun q => (hb.cell (p := ⟨w.heap.size, 6, none⟩) (by show w.heap.size < _; omega)).trans (World.cell?_alloc2_first _ _ _ _)
    have hb2 : ∀ q, (wr.drewN q).cell? ⟨w.heap.size + 1, 6, none⟩ = some (.slice A' n c') := fun q => (hb.cell (p := ⟨w.heap.size + 1, 6, none⟩) (by show w.heap.size + 1 < _; omega)).trans (World.cell?_alloc2_new _ _ _ _)
    have e1 : wr.cell? ⟨w.heap.size, 6, none⟩ = some (.slice A n c) := hb1 0
    have e2 : wr.cell? ⟨w.heap.size + 1, 6, none⟩ = some (.slice A' n c') := hb2 0
    by_cases hlt : k < n
    · obtain ⟨g, o, rfl, hg, hcell⟩ := h1.2 (by omega)
      obtain ⟨g', o', rfl, hg', hcell'⟩ := h2.2 (by omega)
      obtain ⟨G1, G2⟩ := fieldsV_get fs k (by omega)
      have old : ∀ (p : Addr), p.block < w.heap.size → ∀ q, (wr.drewN q).cell? p = w.cell? p := fun p hp q =>
        (hb.cell (p := p) (by omega)).trans ((World.cell?_alloc_lt _ _ _ (by simp; omega)).trans (World.cell?_alloc_lt _ _ _ hp))
      have r1 : ∀ q, World.rangeAt (wr.drewN q) g (o + k * 2) [.string fs[k].1, .string fs[k].2] := by
        intro q j v hj
        match j, hj with
        | 0, hj => cases hj; exact (old _ hg q).trans (hcell _ _ G1)
        | 1, hj => cases hj; rw [Nat.add_assoc]; exact (old _ hg q).trans (hcell _ _ G2)
      have r2 : ∀ q, World.rangeAt (wr.drewN q) g' (o' + k * 2) [.string fs[k].1, .string fs[k].2] := by
        intro q j v hj
        match j, hj with
        | 0, hj => cases hj; exact (old _ hg' q).trans (hcell' _ _ G1)
        | 1, hj => cases hj; rw [Nat.add_assoc]; exact (old _ hg' q).trans (hcell' _ _ G2)
      clear hcell hcell' G1 G2
      go_wp2
      refine wp_region_quiet_lit (by kernel_rfl) (by kernel_rfl) ?_
      repeat (first
        | (refine wpQuiet_load_mid rfl 89 (.tmp 65) rfl g (o + k * 2) rfl _ _ (by rintro _ ⟨q, rfl⟩; exact r1 q) Tryz.underlying89 rfl (by kernel_rfl) ?_)
        | (refine wpQuiet_load_mid rfl 89 (.tmp 70) rfl g' (o' + k * 2) rfl _ _ (by rintro _ ⟨q, rfl⟩; exact r2 q) Tryz.underlying89 rfl (by kernel_rfl) ?_)
        | go_big_quiet_step (fail)
        | quiet_step (fail))
      refine wpQuiet_nil ?_
      rintro _ ⟨nq, rfl⟩
      go_wp2
      go_roundw
      case rel => exact ⟨k + 1, by omega, by go_num, below_drewN hb _⟩
      case measure => simp [intOf]; omega
    · go_wp2
      go_ret
      exact ⟨rfl, ((Below.refl _ w).alloc (Nat.le_refl _) _ |>.alloc (by simp) _).trans (hb.mono (by omega))⟩
end Go.Proofs.YtklmpadcfioefaaGreatDoor

namespace Go.Proofs.YtklmpadcfioefaaGreatDoor
open Go.RowKit

end Go.Proofs.YtklmpadcfioefaaGreatDoor

namespace Go.Proofs.YtklmpadcfioefaaGreatDoor
open Go.RowKit

theorem Held.trans {W0 W W1 : World} {X : Prop} (h : Below W0.heap.size W0 W ∧ X) (hl : Below W.heap.size W W1) : Below W0.heap.size W0 W1 := h.1.trans (hl.mono h.1.size)
theorem Held.rd {W0 W : World} {X : Prop} {sz n : Nat} {A : Option Addr} {xs : List Value} (h : Below W0.heap.size W0 W ∧ X) (hr : Rd W0 W0.heap.size sz A n xs) : Rd W W.heap.size sz A n xs := hr.keeps h.1
end Go.Proofs.YtklmpadcfioefaaGreatDoor

namespace Go.Proofs.YtklmpadcfioefaaGreatDoor
theorem vals_total (fs : List Fl) (name : ByteArray) : total (vals fs name) ≤ flSize fs := by
  unfold total vals flSize
  induction fs with
  | nil => exact Nat.zero_le _
  | cons f fs ih =>
    rw [List.filter_cons]
    split
    · simp only [List.map_cons, List.sum_cons] at ih ⊢; omega
    · simp only [List.map_cons, List.sum_cons] at ih ⊢; omega
end Go.Proofs.YtklmpadcfioefaaGreatDoor

namespace Go.Proofs.YtklmpadcfioefaaGreatDoor
open Go.ChangeShapes Go.WideShapes Go.ChangeAt Go.RowKit

section
variable {H : Type} {enc : TypeId × Value → H} {P : Program}
end
end Go.Proofs.YtklmpadcfioefaaGreatDoor
