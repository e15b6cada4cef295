/- Plain words on a disk (chapter 3): what lasts, what is loose, what a failure of the power leaves. No program in sight. No condition. | A directory as a map's datum. No condition. | Plain invariants of a disk: what is loose can be done, names are short, files that can be reached are there. No program in sight. No condition. -/
import Derived.Test.YthgeppdoonbkpaaMA
import Derived.Maps.OwnSet
namespace Go.Proofs.Ythgeppdoonbkpaa
namespace Dsk
/-- a change of a file: a write at a place, or a cut -/
inductive Ch where
  | wr (a : Nat) (d : Bs)
  | cut (n : Nat)
/-- a file: what lasts, what is loose -/
structure Fi where
  las : Bs
  loo : List Ch
/-- a change of the directory: a file that is made (its number), or one that is renamed, or removed (to: no byte) -/
structure Mv where
  fr : Bs
  to : Bs
  nw : Option Nat
abbrev Dir := List (Bs × Nat)
structure St where
  room : Nat
  fs : List Fi
  dl : Dir
  lm : List Mv
  arm : Option (Nat × List Int)
  down : Bool
instance : Inhabited Fi := ⟨⟨[], []⟩⟩
/-! ### files -/
def over (b : Bs) (a : Nat) (d : Bs) (n : Nat) : Bs := b.take a ++ d.take n ++ b.drop (a + n)
def Ch.does (c : Ch) (b : Bs) (n : Nat) : Bs :=
  match c with
  | .wr a d => over b a d n
  | .cut k => b.take k
def Ch.len : Ch → Nat
  | .wr _ d => d.length
  | .cut _ => 0
def Ch.all (c : Ch) (b : Bs) : Bs := c.does b c.len
def Fi.bytes (f : Fi) (k : Nat) : Bs := (f.loo.take k).foldl (fun b c => c.all b) f.las
def Fi.now (f : Fi) : Bs := f.loo.foldl (fun b c => c.all b) f.las
theorem Fi.bytes_all (f : Fi) : f.bytes f.loo.length = f.now := by unfold Fi.bytes Fi.now; rw [List.take_length]
theorem Fi.bytes_zero (f : Fi) : f.bytes 0 = f.las := rfl
theorem Fi.now_nil (b : Bs) : (⟨b, []⟩ : Fi).now = b := rfl
theorem Fi.now_snoc (b : Bs) (l : List Ch) (c : Ch) : (⟨b, l ++ [c]⟩ : Fi).now = c.all (⟨b, l⟩ : Fi).now := by
  unfold Fi.now
  rw [List.foldl_append]
  rfl
/-! ### the directory -/
def get : Dir → Bs → Option Nat
  | [], _ => none
  | (x, i) :: l, n => if x = n then some i else get l n
def del (l : Dir) (n : Bs) : Dir := l.filter (fun p => decide (p.1 ≠ n))
/-- by rising names -/
def ins : Dir → Bs → Nat → Dir
  | [], n, i => [(n, i)]
  | (x, j) :: l, n, i => if n < x then (n, i) :: (x, j) :: l else (x, j) :: ins l n i
def put (l : Dir) (n : Bs) (i : Nat) : Dir := ins (del l n) n i
def Mv.app (l : Dir) (m : Mv) : Dir :=
  match m.nw with
  | some i => if m.to = [] then l else put l m.to i
  | none => if m.to = [] then del l m.fr else match get l m.fr with
    | some i => put (del l m.fr) m.to i
    | none => del l m.fr
def names (s : St) (k : Nat) : Dir := (s.lm.take k).foldl Mv.app s.dl
def dn (s : St) : Dir := s.lm.foldl Mv.app s.dl
theorem names_all (s : St) : names s s.lm.length = dn s := by unfold names dn; rw [List.take_length]
/-! ### failures -/
def choice (cs : List Int) (n : Nat) : Nat × List Int :=
  match cs with
  | [] => (0, [])
  | c :: r => ((c % ((n : Int) + 1)).toNat, r)
theorem choice_le (cs : List Int) (n : Nat) : (choice cs n).1 ≤ n := by
  unfold choice
  cases cs with
  | nil => exact Nat.zero_le _
  | cons c r =>
    dsimp only
    have h1 := Int.emod_nonneg c (show (n : Int) + 1 ≠ 0 by omega)
    have h2 := Int.emod_lt_of_pos c (show 0 < (n : Int) + 1 by omega)
    omega
def crashF (f : Fi) (cs : List Int) : Fi × List Int :=
  let k := choice cs f.loo.length
  match f.loo[k.1]? with
  | some (.wr a d) => let n := choice k.2 d.length; (⟨over (f.bytes k.1) a d n.1, []⟩, n.2)
  | _ => (⟨f.bytes k.1, []⟩, k.2)
def crashD : Dir → List Fi → List Int → List Fi × List Int
  | [], fs, cs => (fs, cs)
  | p :: l, fs, cs => crashD l (fs.set p.2 (crashF (fs.getD p.2 default) cs).1) (crashF (fs.getD p.2 default) cs).2
def crash (s : St) (cs : List Int) : St :=
  if s.down = true then s
  else
    let k := choice cs s.lm.length
    { s with fs := (crashD (names s k.1) s.fs k.2).1, dl := names s k.1, lm := [], arm := none, down := true }
/-! ### calls -/
def mayC (c : UInt8) : Bool := decide (32 < c ∧ c ≤ 126 ∧ c ≠ 47)
def may (n : Bs) : Bool := decide (1 ≤ n.length ∧ n.length ≤ 64) && n.all mayC
def allMay (l : List Bs) : Bool := l.all may
def ready (s : St) (l : List Bs) : Nat := if s.down = true then 32 else if allMay l = true then 0 else 2
def done (s : St) : St × Nat :=
  match s.arm with
  | none => (s, 0)
  | some (0, cs) => (crash s cs, 32)
  | some (n + 1, cs) => ({ s with arm := some (n, cs) }, 0)
def dies (s : St) : Bool := match s.arm with | some (0, _) => true | _ => false
def moved (s : St) (m : Mv) : St × Nat := done { s with lm := s.lm ++ [m] }
def fil (s : St) (i : Nat) : Fi := s.fs.getD i default
def create (s : St) (n : Bs) : St × Nat :=
  if ready s [n] ≠ 0 then (s, ready s [n])
  else if get (dn s) n ≠ none then (s, 35)
  else if 64 ≤ (dn s).length then (s, 31)
  else moved { s with fs := s.fs ++ [⟨[], []⟩] } ⟨[], n, some s.fs.length⟩
def rename (s : St) (a b : Bs) : St × Nat :=
  if ready s [b, a] ≠ 0 then (s, ready s [b, a])
  else if get (dn s) a = none then (s, 30)
  else moved s ⟨a, b, none⟩
def remove (s : St) (a : Bs) : St × Nat :=
  if ready s [a] ≠ 0 then (s, ready s [a])
  else if get (dn s) a = none then (s, 30)
  else moved s ⟨a, [], none⟩
/-- a file that is there, or the error -/
def find (s : St) (n : Bs) : Nat × Nat :=
  if ready s [n] ≠ 0 then (0, ready s [n])
  else match get (dn s) n with
    | none => (0, 30)
    | some i => (i, 0)
def held (s : St) : Nat := ((dn s).map fun p => (fil s p.2).now.length).sum
def changed (s : St) (i : Nat) (c : Ch) : St × Nat := done { s with fs := s.fs.set i ⟨(fil s i).las, (fil s i).loo ++ [c]⟩ }
def write (s : St) (n : Bs) (a : Int) (p : Bs) : St × Nat :=
  if (find s n).2 ≠ 0 then (s, (find s n).2)
  else
    let len := (fil s (find s n).1).now.length
    if a < 0 ∨ (len : Int) < a then (s, 2)
    else if 1048576 < max len (a.toNat + p.length) then (s, 3)
    else if len < a.toNat + p.length ∧ s.room < held s + (a.toNat + p.length - len) then (s, 31)
    else changed s (find s n).1 (.wr a.toNat p)
def cut (s : St) (n : Bs) (k : Int) : St × Nat :=
  if (find s n).2 ≠ 0 then (s, (find s n).2)
  else if k < 0 ∨ ((fil s (find s n).1).now.length : Int) < k then (s, 2)
  else changed s (find s n).1 (.cut k.toNat)
def read (s : St) (n : Bs) : Bs × Nat := if (find s n).2 ≠ 0 then ([], (find s n).2) else ((fil s (find s n).1).now, 0)
def sync (s : St) (n : Bs) : St × Nat :=
  if (find s n).2 ≠ 0 then (s, (find s n).2)
  else done (if dies s = true then s else { s with fs := s.fs.set (find s n).1 ⟨(fil s (find s n).1).now, []⟩ })
def syncDir (s : St) : St × Nat :=
  if s.down = true then (s, 32)
  else done (if dies s = true then s else { s with dl := dn s, lm := [] })
def looseOf (s : St) (n : Bs) : Nat :=
  if s.down = true then 0
  else if n = [] then s.lm.length
  else match get (dn s) n with
    | none => 0
    | some i => (fil s i).loo.length
def armed (s : St) (a : Int) (cs : List Int) : St := if s.down = true then s else { s with arm := some (a.toNat, cs) }
def up (s : St) : St := { s with down := false }
def new (room : Int) : St := ⟨room.toNat, [], [], [], none, false⟩
def told (s : St) : List Bs := if s.down = true then [] else (dn s).map (·.1)

/-! ### laws of directories -/
/-- names rise -/
def Rise (l : Dir) : Prop := l.Pairwise fun p q => p.1 < q.1
theorem get_none {l : Dir} {n : Bs} : get l n = none ↔ ∀ p ∈ l, p.1 ≠ n := by
  induction l with
  | nil => simp [get]
  | cons p l ih =>
    obtain ⟨x, i⟩ := p
    unfold get
    by_cases h : x = n
    · rw [if_pos h]; simp [h]
    · rw [if_neg h, ih]; simp [h]
theorem get_mem {l : Dir} {n : Bs} {i : Nat} (h : get l n = some i) : (n, i) ∈ l := by
  induction l with
  | nil => cases h
  | cons p l ih =>
    obtain ⟨x, j⟩ := p
    unfold get at h
    by_cases hx : x = n
    · rw [if_pos hx] at h; injection h with h; subst h hx; exact List.mem_cons_self
    · rw [if_neg hx] at h; exact List.mem_cons_of_mem _ (ih h)
theorem lt_irrefl (a : Bs) : ¬ a < a := List.lt_irrefl a
theorem mem_get {l : Dir} (hr : Rise l) {n : Bs} {i : Nat} (h : (n, i) ∈ l) : get l n = some i := by
  induction l with
  | nil => cases h
  | cons p l ih =>
    obtain ⟨x, j⟩ := p
    unfold get
    rcases List.mem_cons.1 h with e | e
    · injection e with e1 e2; subst e1 e2; rw [if_pos rfl]
    · have := (List.pairwise_cons.1 hr).1 _ e
      rw [if_neg (fun e2 => by dsimp only at this; rw [e2] at this; exact lt_irrefl _ this)]
      exact ih (List.pairwise_cons.1 hr).2 e
theorem del_rise {l : Dir} (hr : Rise l) (n : Bs) : Rise (del l n) := List.Pairwise.filter _ hr
theorem del_mem {l : Dir} {n : Bs} {p : Bs × Nat} : p ∈ del l n ↔ p ∈ l ∧ p.1 ≠ n := by unfold del; rw [List.mem_filter]; simp
theorem ins_mem {l : Dir} {n : Bs} {i : Nat} {p : Bs × Nat} : p ∈ ins l n i ↔ p = (n, i) ∨ p ∈ l := by
  induction l with
  | nil => simp [ins]
  | cons q l ih =>
    obtain ⟨x, j⟩ := q
    unfold ins
    split
    · simp
    · rw [List.mem_cons, ih, List.mem_cons]
      constructor
      · rintro (h | h | h)
        · exact .inr (.inl h)
        · exact .inl h
        · exact .inr (.inr h)
      · rintro (h | h | h)
        · exact .inr (.inl h)
        · exact .inl h
        · exact .inr (.inr h)
theorem lt_total {a b : Bs} (h : ¬ a < b) (hne : a ≠ b) : b < a := by
  by_cases h2 : b < a
  · exact h2
  · exact absurd (List.le_antisymm (List.not_lt.1 h2) (List.not_lt.1 h)) hne
theorem ins_rise {l : Dir} (hr : Rise l) {n : Bs} (hn : ∀ p ∈ l, p.1 ≠ n) (i : Nat) : Rise (ins l n i) := by
  induction l with
  | nil => exact List.pairwise_singleton _ _
  | cons q l ih =>
    obtain ⟨x, j⟩ := q
    obtain ⟨h1, h2⟩ := List.pairwise_cons.1 hr
    unfold ins
    split
    · rename_i hx
      refine List.pairwise_cons.2 ⟨fun p hp => ?_, hr⟩
      rcases List.mem_cons.1 hp with e | e
      · rw [e]; exact hx
      · exact List.lt_trans hx (h1 p e)
    · rename_i hx
      refine List.pairwise_cons.2 ⟨fun p hp => ?_, ih h2 (fun p hp => hn p (List.mem_cons_of_mem _ hp))⟩
      rcases ins_mem.1 hp with e | e
      · rw [e]; exact lt_total hx (fun e => hn _ List.mem_cons_self e.symm)
      · exact h1 p e
theorem put_rise {l : Dir} (hr : Rise l) (n : Bs) (i : Nat) : Rise (put l n i) := ins_rise (del_rise hr n) (fun _p hp => (del_mem.1 hp).2) i
theorem put_mem {l : Dir} {n : Bs} {i : Nat} {p : Bs × Nat} : p ∈ put l n i ↔ p = (n, i) ∨ (p ∈ l ∧ p.1 ≠ n) := by unfold put; rw [ins_mem, del_mem]
theorem app_rise {l : Dir} (hr : Rise l) (m : Mv) : Rise (m.app l) := by
  unfold Mv.app
  split
  · split
    · exact hr
    · exact put_rise hr _ _
  · split
    · exact del_rise hr _
    · split
      · exact put_rise (del_rise hr _) _ _
      · exact del_rise hr _
theorem fold_rise {l : Dir} (hr : Rise l) (ms : List Mv) : Rise (ms.foldl Mv.app l) := by
  induction ms generalizing l with
  | nil => exact hr
  | cons m ms ih => exact ih (app_rise hr m)
/-! ### what a failure leaves -/
theorem crashF_nil (b : Bs) (cs : List Int) : (crashF ⟨b, []⟩ cs).1 = ⟨b, []⟩ := by
  unfold crashF Fi.bytes
  simp
theorem getD_set (fs : List Fi) (j i : Nat) (x : Fi) : (fs.set j x).getD i default = if j = i ∧ i < fs.length then x else fs.getD i default := by
  simp only [List.getD_eq_getElem?_getD, List.getElem?_set]
  by_cases h : j = i
  · subst h
    by_cases hl : j < fs.length
    · simp [hl]
    · simp [hl]
  · simp [h]
theorem crashD_keep {b : Bs} {i : Nat} : ∀ (l : Dir) (fs : List Fi) (cs : List Int), fs.getD i default = ⟨b, []⟩ → (crashD l fs cs).1.getD i default = ⟨b, []⟩
  | [], _, _, h => h
  | p :: l, fs, cs, h => by
    unfold crashD
    refine crashD_keep l _ _ ?_
    rw [getD_set]
    split
    · rename_i hx
      rw [hx.1, h]
      exact crashF_nil b cs
    · exact h
theorem crashF_loo (f : Fi) (cs : List Int) : (crashF f cs).1.loo = [] := by
  unfold crashF
  dsimp only
  split <;> rfl
theorem crashD_len : ∀ (l : Dir) (fs : List Fi) (cs : List Int), (crashD l fs cs).1.length = fs.length
  | [], _, _ => rfl
  | p :: l, fs, cs => by unfold crashD; rw [crashD_len l, List.length_set]
theorem crashD_loo : ∀ (l : Dir) (fs : List Fi) (cs : List Int) (i : Nat), (fs.getD i default).loo = [] ∨ (∃ p ∈ l, p.2 = i) → ((crashD l fs cs).1.getD i default).loo = []
  | [], _, _, _, h => h.elim id (fun ⟨_, h, _⟩ => by cases h)
  | p :: l, fs, cs, i, h => by
    unfold crashD
    refine crashD_loo l _ _ i ?_
    rw [getD_set]
    by_cases hx : p.2 = i ∧ i < fs.length
    · rw [if_pos hx]; exact .inl (crashF_loo _ _)
    · rw [if_neg hx]
      rcases h with h | ⟨q, hq, e⟩
      · exact .inl h
      · rcases List.mem_cons.1 hq with e2 | e2
        · subst e2
          have hge : ¬ i < fs.length := fun hl => hx ⟨e, hl⟩
          left
          rw [List.getD_eq_getElem?_getD, List.getElem?_eq_none (by omega)]
          rfl
        · exact .inr ⟨q, e2, e⟩
/-- what was synced, name and bytes, is there behind a failure -/
theorem crash_lasts {s : St} (hl : s.lm = []) {n : Bs} {i : Nat} {b : Bs} (hg : get s.dl n = some i) (hf : fil s i = ⟨b, []⟩) (cs : List Int) :
    (crash s cs).lm = [] ∧ get (crash s cs).dl n = some i ∧ fil (crash s cs) i = ⟨b, []⟩ := by
  unfold crash
  split
  · exact ⟨hl, hg, hf⟩
  · dsimp only
    have e : names s (choice cs s.lm.length).1 = s.dl := by unfold names; rw [hl]; simp
    rw [e]
    exact ⟨rfl, hg, crashD_keep _ _ _ hf⟩
end Dsk
end Go.Proofs.Ythgeppdoonbkpaa

namespace Go.Proofs.Ythgeppdoonbkpaa
namespace Dsk
open Go
theorem before_lt : ∀ (a b : Bs), bytesBefore a b = decide (a < b)
  | [], [] => by simp [bytesBefore]
  | [], _ :: _ => by simp [bytesBefore]
  | _ :: _, [] => by simp [bytesBefore]
  | x :: a, y :: b => by
    have ih := before_lt a b
    unfold bytesBefore
    rw [ih, Bool.eq_iff_iff]
    simp only [Bool.or_eq_true, Bool.and_eq_true, decide_eq_true_eq, beq_iff_eq]
    rw [List.cons_lt_cons_iff]
/-- block F i is what the file i is -/
def ent (F : Nat → Nat) (p : Bs × Nat) : Lit × DataW Unit := (.string p.1, .lit (.int .i64 (F p.2 : Nat)))
def mapD (F : Nat → Nat) (l : Dir) : DataW Unit := .map (l.map (ent F))
theorem same_key (F : Nat → Nat) (p : Bs × Nat) (n : Bs) : (ent F p).1.sameKey (.string n) = decide (p.1 = n) := by
  unfold ent Lit.sameKey
  simp
  by_cases h : p.1 = n <;> simp [h]
theorem mapD_get (F : Nat → Nat) (l : Dir) (n : Bs) (z : DataW Unit) : (mapD F l).atKey (.string n) z = match get l n with | some i => .lit (.int .i64 (F i : Nat)) | none => z := by
  unfold mapD DataW.atKey
  dsimp only
  induction l with
  | nil => rfl
  | cons p l ih =>
    obtain ⟨x, i⟩ := p
    rw [List.map_cons, List.find?_cons, same_key]
    unfold get
    by_cases h : x = n
    · simp [h, ent]
    · simp only [h, decide_false, if_false]
      exact ih
theorem mapD_del (F : Nat → Nat) (l : Dir) (n : Bs) : (mapD F l).del (.string n) = mapD F (del l n) := by
  unfold mapD DataW.del del
  dsimp only
  rw [List.filter_map]
  congr 2
  apply List.filter_congr
  intro p _
  simp only [Function.comp, same_key]
  by_cases h : p.1 = n <;> simp [h]
theorem ins_map (F : Nat → Nat) (l : Dir) (n : Bs) (i : Nat) : DataW.insert (ent F (n, i)) (l.map (ent F)) = (ins l n i).map (ent F) := by
  induction l with
  | nil => rfl
  | cons p l ih =>
    obtain ⟨x, j⟩ := p
    rw [List.map_cons]
    unfold DataW.insert ins
    have e : (ent F (n, i)).1.before (ent F (x, j)).1 = decide (n < x) := before_lt n x
    rw [e]
    by_cases h : n < x
    · simp [h]
    · simp [h, ih]
theorem mapD_put (F : Nat → Nat) (l : Dir) (n : Bs) (i : Nat) : (mapD F l).put (.string n) (.lit (.int .i64 (F i : Nat))) = mapD F (put l n i) := by
  have h := mapD_del F l n
  unfold mapD DataW.del at h
  dsimp only at h
  injection h with h
  unfold mapD DataW.put put
  dsimp only
  rw [h]
  exact congrArg DataW.map (ins_map F (del l n) n i)
theorem mapD_size (F : Nat → Nat) (l : Dir) : Maps.size (mapD F l) = l.length := by unfold mapD; rw [Maps.size_eq, List.length_map]
theorem mapD_congr {F F' : Nat → Nat} {l : Dir} (h : ∀ p ∈ l, F p.2 = F' p.2) : mapD F l = mapD F' l := by
  unfold mapD
  congr 1
  apply List.map_congr_left
  intro p hp
  unfold ent
  rw [h p hp]
end Dsk
end Go.Proofs.Ythgeppdoonbkpaa

namespace Go.Proofs.Ythgeppdoonbkpaa
namespace Dsk
/-- the change can be done to these bytes -/
def Ch.fits (c : Ch) (b : Bs) : Prop :=
  match c with
  | .wr a d => a ≤ b.length ∧ a + d.length ≤ 1048576
  | .cut n => n ≤ b.length
structure Good (f : Fi) : Prop where
  las : f.las.length ≤ 1048576
  fits : ∀ (k : Nat) (c : Ch), f.loo[k]? = some c → c.fits (f.bytes k)
theorem over_len {b d : Bs} {a n : Nat} (ha : a ≤ b.length) (hd : a + d.length ≤ 1048576) (hb : b.length ≤ 1048576) : (over b a d n).length ≤ 1048576 := by
  unfold over
  rw [List.length_append, List.length_append, List.length_take, List.length_take, List.length_drop]
  omega
theorem fits_len {c : Ch} {b : Bs} (h : c.fits b) (hb : b.length ≤ 1048576) (n : Nat) : (c.does b n).length ≤ 1048576 := by
  cases c with
  | wr a d => exact over_len h.1 h.2 hb
  | cut k => show (b.take k).length ≤ _; rw [List.length_take]; omega
theorem bytes_succ {f : Fi} {k : Nat} {c : Ch} (h : f.loo[k]? = some c) : f.bytes (k + 1) = c.all (f.bytes k) := by
  unfold Fi.bytes
  obtain ⟨hk, e⟩ := List.getElem?_eq_some_iff.1 h
  rw [List.take_succ_eq_append_getElem hk, List.foldl_append, e]
  rfl
theorem bytes_past {f : Fi} {k : Nat} (h : f.loo[k]? = none) : f.bytes (k + 1) = f.bytes k := by
  unfold Fi.bytes
  have := List.getElem?_eq_none_iff.1 h
  rw [List.take_of_length_le (by omega), List.take_of_length_le (by omega)]
theorem Good.bytes_len {f : Fi} (h : Good f) (k : Nat) : (f.bytes k).length ≤ 1048576 := by
  induction k with
  | zero => exact h.las
  | succ k ih =>
    cases e : f.loo[k]? with
    | none => rw [bytes_past e]; exact ih
    | some c => rw [bytes_succ e]; exact fits_len (h.fits k c e) ih _
theorem Good.now_len {f : Fi} (h : Good f) : f.now.length ≤ 1048576 := by rw [← Fi.bytes_all]; exact h.bytes_len _
theorem Good.nil {b : Bs} (h : b.length ≤ 1048576) : Good ⟨b, []⟩ := ⟨h, fun k c e => by cases e⟩
theorem bytes_pre (b : Bs) (l r : List Ch) (k : Nat) (h : k ≤ l.length) : (⟨b, l ++ r⟩ : Fi).bytes k = (⟨b, l⟩ : Fi).bytes k := by
  unfold Fi.bytes
  dsimp only
  rw [List.take_append_of_le_length h]
theorem Good.snoc {f : Fi} (h : Good f) {c : Ch} (hc : c.fits f.now) : Good ⟨f.las, f.loo ++ [c]⟩ := by
  refine ⟨h.las, fun k x e => ?_⟩
  have hk := (List.getElem?_eq_some_iff.1 e).1
  dsimp only at e hk
  rw [List.length_append, List.length_singleton] at hk
  rw [bytes_pre f.las f.loo [c] k (by omega)]
  by_cases hlt : k < f.loo.length
  · rw [List.getElem?_append_left hlt] at e
    exact h.fits k x e
  · obtain rfl : k = f.loo.length := by omega
    rw [List.getElem?_append_right (Nat.le_refl _), Nat.sub_self] at e
    injection e with e
    rw [← e]
    show c.fits (f.bytes f.loo.length)
    rw [Fi.bytes_all]
    exact hc
theorem crashF_good {f : Fi} (h : Good f) (cs : List Int) : Good (crashF f cs).1 := by
  unfold crashF
  dsimp only
  split
  · rename_i a d e
    have hf := h.fits _ _ e
    exact Good.nil (over_len hf.1 hf.2 (h.bytes_len _))
  · exact Good.nil (h.bytes_len _)
/-- files that can be reached: named, or made by a loose change -/
def Reach (s : St) (i : Nat) : Prop := (∃ n, (n, i) ∈ s.dl) ∨ (∃ m ∈ s.lm, m.nw = some i)
structure Fit (s : St) (T : Nat) : Prop where
  rise : Rise s.dl
  dln : ∀ p ∈ s.dl, p.1.length ≤ 64
  mvs : ∀ k m, s.lm[k]? = some m → m.fr.length ≤ 64 ∧ m.to.length ≤ 64 ∧ (m.nw ≠ none → m.to ≠ []) ∧ (m.nw = none → get (names s k) m.fr ≠ none)
  reach : ∀ i, Reach s i → i < s.fs.length
  good : ∀ i, Reach s i → Good (fil s i)
  loo : ∀ i, Reach s i → (fil s i).loo.length ≤ T
  lm : s.lm.length ≤ T
  arm : ∀ a cs, s.arm = some (a, cs) → a ≤ 9223372036854775807 ∧ cs.length ≤ 16777216
  room : s.room ≤ 9223372036854775807
  calm : s.down = true → s.lm = [] ∧ s.arm = none
theorem app_mem {l : Dir} {m : Mv} {p : Bs × Nat} (h : p ∈ m.app l) : p ∈ l ∨ (p.1 = m.to ∧ (m.nw = some p.2 ∨ ∃ n, (n, p.2) ∈ l)) := by
  unfold Mv.app at h
  split at h
  · rename_i i e
    split at h
    · exact .inl h
    · rcases put_mem.1 h with e2 | e2
      · subst e2; exact .inr ⟨rfl, .inl e⟩
      · exact .inl e2.1
  · split at h
    · exact .inl (del_mem.1 h).1
    · split at h
      · rename_i i e
        rcases put_mem.1 h with e2 | e2
        · subst e2; exact .inr ⟨rfl, .inr ⟨_, get_mem e⟩⟩
        · exact .inl (del_mem.1 e2.1).1
      · exact .inl (del_mem.1 h).1
theorem fold_mem : ∀ (ms : List Mv) (l : Dir) (p : Bs × Nat), p ∈ ms.foldl Mv.app l → ((∃ n, (n, p.2) ∈ l) ∨ ∃ m ∈ ms, m.nw = some p.2) ∧ ((∃ i, (p.1, i) ∈ l) ∨ ∃ m ∈ ms, m.to = p.1)
  | [], l, p, h => ⟨.inl ⟨p.1, h⟩, .inl ⟨p.2, h⟩⟩
  | m :: ms, l, p, h => by
    obtain ⟨h1, h2⟩ := fold_mem ms _ p h
    constructor
    · rcases h1 with ⟨n, h1⟩ | ⟨x, hx, h1⟩
      · rcases app_mem h1 with e | ⟨_, e | ⟨n2, e⟩⟩
        · exact .inl ⟨n, e⟩
        · exact .inr ⟨m, List.mem_cons_self, e⟩
        · exact .inl ⟨n2, e⟩
      · exact .inr ⟨x, List.mem_cons_of_mem _ hx, h1⟩
    · rcases h2 with ⟨n, h2⟩ | ⟨x, hx, h2⟩
      · rcases app_mem h2 with e | ⟨e, _⟩
        · exact .inl ⟨n, e⟩
        · exact .inr ⟨m, List.mem_cons_self, e.symm⟩
      · exact .inr ⟨x, List.mem_cons_of_mem _ hx, h2⟩
theorem names_succ {s : St} {k : Nat} {m : Mv} (h : s.lm[k]? = some m) : names s (k + 1) = m.app (names s k) := by
  unfold names
  obtain ⟨hk, e⟩ := List.getElem?_eq_some_iff.1 h
  rw [List.take_succ_eq_append_getElem hk, List.foldl_append, e]
  rfl
theorem names_reach {s : St} {k : Nat} {p : Bs × Nat} (h : p ∈ names s k) : Reach s p.2 := by
  rcases (fold_mem _ _ _ h).1 with e | ⟨m, hm, e⟩
  · exact .inl e
  · exact .inr ⟨m, List.mem_of_mem_take hm, e⟩
theorem dn_reach {s : St} {p : Bs × Nat} (h : p ∈ dn s) : Reach s p.2 := by rw [← names_all] at h; exact names_reach h
theorem Fit.names_len {s : St} {T k : Nat} (hs : Fit s T) {p : Bs × Nat} (h : p ∈ names s k) : p.1.length ≤ 64 := by
  rcases (fold_mem _ _ _ h).2 with ⟨i, e⟩ | ⟨m, hm, e⟩
  · exact hs.dln (p.1, i) e
  · obtain ⟨j, hj⟩ := List.getElem?_of_mem (List.mem_of_mem_take hm)
    rw [← e]
    exact (hs.mvs j m hj).2.1
theorem Fit.dn_len {s : St} {T : Nat} (hs : Fit s T) {p : Bs × Nat} (h : p ∈ dn s) : p.1.length ≤ 64 := by rw [← names_all] at h; exact hs.names_len h
theorem Fit.dn_rise {s : St} {T : Nat} (hs : Fit s T) : Rise (dn s) := fold_rise hs.rise _
theorem Fit.names_rise {s : St} {T : Nat} (hs : Fit s T) (k : Nat) : Rise (names s k) := fold_rise hs.rise _
theorem Fit.more {s : St} {T T' : Nat} (h : Fit s T) (hT : T ≤ T') : Fit s T' :=
  ⟨h.rise, h.dln, h.mvs, h.reach, h.good, fun i hi => Nat.le_trans (h.loo i hi) hT, Nat.le_trans h.lm hT, h.arm, h.room, h.calm⟩
theorem crashD_all {P : Fi → Prop} (hP : ∀ f cs, P f → P (crashF f cs).1) {i : Nat} : ∀ (l : Dir) (fs : List Fi) (cs : List Int), P (fs.getD i default) → P ((crashD l fs cs).1.getD i default)
  | [], _, _, h => h
  | p :: l, fs, cs, h => by
    unfold crashD
    refine crashD_all hP l _ _ ?_
    rw [getD_set]
    split
    · rename_i hx
      rw [hx.1]
      exact hP _ _ h
    · exact h
theorem choice_len (cs : List Int) (n : Nat) : (choice cs n).2.length ≤ cs.length := by
  unfold choice
  cases cs with
  | nil => exact Nat.le_refl _
  | cons c r => exact Nat.le_succ _
theorem crashF_len (f : Fi) (cs : List Int) : (crashF f cs).2.length ≤ cs.length := by
  unfold crashF
  dsimp only
  split
  · exact Nat.le_trans (choice_len _ _) (choice_len _ _)
  · exact choice_len _ _
theorem crashF_none {f : Fi} {cs c2 : List Int} {q : Nat} (h : choice cs f.loo.length = (q, c2)) (hq : f.loo[q]? = none) : crashF f cs = (⟨f.bytes q, []⟩, c2) := by
  unfold crashF
  rw [h]
  dsimp only
  rw [hq]
theorem crashF_cut {f : Fi} {cs c2 : List Int} {q n : Nat} (h : choice cs f.loo.length = (q, c2)) (hq : f.loo[q]? = some (.cut n)) : crashF f cs = (⟨f.bytes q, []⟩, c2) := by
  unfold crashF
  rw [h]
  dsimp only
  rw [hq]
theorem crashF_wr {f : Fi} {cs c2 : List Int} {q a : Nat} {d : Bs} (h : choice cs f.loo.length = (q, c2)) (hq : f.loo[q]? = some (.wr a d)) : crashF f cs = (⟨over (f.bytes q) a d (choice c2 d.length).1, []⟩, (choice c2 d.length).2) := by
  unfold crashF
  rw [h]
  dsimp only
  rw [hq]
theorem set_at {l : List Fi} {i x : Nat} {fx : Fi} (hx : x < l.length) (hl : fx.loo = []) : (l.set i fx).getD x default = (if x = i then ⟨fx.las, []⟩ else l.getD x default) ∧ ((l.set i fx).getD x default).now = (if x = i then fx.las else (l.getD x default).now) := by
  obtain ⟨las, loo⟩ := fx
  dsimp only at hl
  subst hl
  rw [getD_set]
  by_cases e : x = i
  · subst e
    rw [if_pos ⟨rfl, hx⟩, if_pos rfl, if_pos rfl]
    exact ⟨rfl, Fi.now_nil las⟩
  · rw [if_neg (fun h => e h.1.symm), if_neg e, if_neg e]
    exact ⟨rfl, rfl⟩
theorem crashD_cslen : ∀ (l : Dir) (fs : List Fi) (cs : List Int), (crashD l fs cs).2.length ≤ cs.length
  | [], _, _ => Nat.le_refl _
  | p :: l, fs, cs => by
    unfold crashD
    exact Nat.le_trans (crashD_cslen l _ _) (crashF_len _ _)
theorem crashD_append : ∀ (l r : Dir) (fs : List Fi) (cs : List Int), crashD (l ++ r) fs cs = crashD r (crashD l fs cs).1 (crashD l fs cs).2
  | [], _, _, _ => rfl
  | p :: l, r, fs, cs => by
    exact crashD_append l r _ _
theorem crashD_snoc (L : Dir) (j : Nat) (h : j < L.length) (fs : List Fi) (cs : List Int) : crashD (L.take (j + 1)) fs cs = ((crashD (L.take j) fs cs).1.set L[j].2 (crashF ((crashD (L.take j) fs cs).1.getD L[j].2 default) (crashD (L.take j) fs cs).2).1, (crashF ((crashD (L.take j) fs cs).1.getD L[j].2 default) (crashD (L.take j) fs cs).2).2) := by
  rw [List.take_succ_eq_append_getElem h, crashD_append]
  rfl
theorem fit_crash {s : St} {T : Nat} (h : Fit s T) (cs : List Int) : Fit (crash s cs) T := by
  unfold crash
  split
  · exact h
  · dsimp only
    have hr : ∀ i, Reach { s with fs := (crashD (names s (choice cs s.lm.length).1) s.fs (choice cs s.lm.length).2).1, dl := names s (choice cs s.lm.length).1, lm := [], arm := none, down := true } i → Reach s i := by
      rintro i (⟨n, hn⟩ | ⟨m, hm, _⟩)
      · exact names_reach hn
      · cases hm
    refine ⟨h.names_rise _, fun p hp => h.names_len hp, fun k m e => (by cases e), fun i hi => ?_, fun i hi => ?_, fun i hi => ?_, Nat.zero_le _, fun a cs e => (by cases e), h.room, fun _ => ⟨rfl, rfl⟩⟩
    · show i < (crashD _ s.fs _).1.length
      rw [crashD_len]
      exact h.reach i (hr i hi)
    · exact crashD_all (P := Good) (fun f cs hf => crashF_good hf cs) _ _ _ (h.good i (hr i hi))
    · exact crashD_all (P := fun f => f.loo.length ≤ T) (fun f cs _ => by rw [crashF_loo]; exact Nat.zero_le _) _ _ _ (h.loo i (hr i hi))
theorem fit_arm {s : St} {T : Nat} (h : Fit s T) (hd : s.down = false) {x : Option (Nat × List Int)} (ha : ∀ a cs, x = some (a, cs) → a ≤ 9223372036854775807 ∧ cs.length ≤ 16777216) : Fit { s with arm := x } T :=
  ⟨h.rise, h.dln, h.mvs, h.reach, h.good, h.loo, h.lm, ha, h.room, fun e => by dsimp only at e; rw [hd] at e; cases e⟩
theorem fit_done {s : St} {T : Nat} (h : Fit s T) (hd : s.down = false) : Fit (done s).1 T := by
  unfold done
  split
  · exact h
  · exact fit_crash h _
  · rename_i n cs e
    have := h.arm _ _ e
    exact fit_arm h hd (fun a c e => by injection e with e; injection e with e1 e2; subst e1 e2; exact ⟨by omega, this.2⟩)
theorem names_lm {s : St} {m : Mv} {k : Nat} (hk : k ≤ s.lm.length) : names { s with lm := s.lm ++ [m] } k = names s k := by
  unfold names
  dsimp only
  rw [List.take_append_of_le_length hk]
theorem dn_snoc (s : St) (m : Mv) : dn { s with lm := s.lm ++ [m] } = m.app (dn s) := by
  unfold dn
  dsimp only
  rw [List.foldl_append]
  rfl
/-- a change of the directory more -/
theorem fit_mv {s : St} {T : Nat} (h : Fit s T) (hd : s.down = false) {m : Mv} (h1 : m.fr.length ≤ 64) (h2 : m.to.length ≤ 64) (h3 : m.nw ≠ none → m.to ≠ []) (h4 : m.nw = none → get (dn s) m.fr ≠ none)
    (h5 : ∀ i, m.nw = some i → i < s.fs.length ∧ Good (fil s i) ∧ (fil s i).loo = []) : Fit { s with lm := s.lm ++ [m] } (T + 1) := by
  have hr : ∀ i, Reach { s with lm := s.lm ++ [m] } i → Reach s i ∨ m.nw = some i := by
    rintro i (⟨n, hn⟩ | ⟨x, hx, e⟩)
    · exact .inl (.inl ⟨n, hn⟩)
    · rcases List.mem_append.1 hx with hx | hx
      · exact .inl (.inr ⟨x, hx, e⟩)
      · rw [List.mem_singleton.1 hx] at e; exact .inr e
  refine ⟨h.rise, h.dln, fun k x e => ?_, fun i hi => ?_, fun i hi => ?_, fun i hi => ?_, ?_, h.arm, h.room, fun e => by dsimp only at e; rw [hd] at e; cases e⟩
  · have hk := (List.getElem?_eq_some_iff.1 e).1
    dsimp only at e hk
    rw [List.length_append, List.length_singleton] at hk
    rw [names_lm (by omega)]
    by_cases hlt : k < s.lm.length
    · rw [List.getElem?_append_left hlt] at e
      exact h.mvs k x e
    · obtain rfl : k = s.lm.length := by omega
      rw [List.getElem?_append_right (Nat.le_refl _), Nat.sub_self] at e
      injection e with e
      rw [← e, names_all]
      exact ⟨h1, h2, h3, h4⟩
  · rcases hr i hi with e | e
    · exact h.reach i e
    · exact (h5 i e).1
  · rcases hr i hi with e | e
    · exact h.good i e
    · exact (h5 i e).2.1
  · rcases hr i hi with e | e
    · exact Nat.le_succ_of_le (h.loo i e)
    · show (fil s i).loo.length ≤ _
      rw [(h5 i e).2.2]; exact Nat.zero_le _
  · show (s.lm ++ [m]).length ≤ _
    rw [List.length_append, List.length_singleton]
    have := h.lm
    omega
/-- a file more -/
theorem fil_more {s : St} {f : Fi} {i : Nat} (h : i < s.fs.length) : fil { s with fs := s.fs ++ [f] } i = fil s i := by
  unfold fil
  dsimp only
  rw [List.getD_eq_getElem?_getD, List.getD_eq_getElem?_getD, List.getElem?_append_left h]
theorem fil_new (s : St) (f : Fi) : fil { s with fs := s.fs ++ [f] } s.fs.length = f := by
  unfold fil
  dsimp only
  rw [List.getD_eq_getElem?_getD, List.getElem?_append_right (Nat.le_refl _), Nat.sub_self]
  rfl
theorem fit_file {s : St} {T : Nat} (h : Fit s T) (f : Fi) : Fit { s with fs := s.fs ++ [f] } T := by
  refine ⟨h.rise, h.dln, h.mvs, fun i hi => ?_, fun i hi => ?_, fun i hi => ?_, h.lm, h.arm, h.room, h.calm⟩
  · have := h.reach i hi
    show i < (s.fs ++ [f]).length
    rw [List.length_append]; omega
  · rw [fil_more (h.reach i hi)]; exact h.good i hi
  · rw [fil_more (h.reach i hi)]; exact h.loo i hi
/-- a file is set anew -/
theorem fil_set {s : St} {f : Fi} {i j : Nat} (h : i < s.fs.length) : fil { s with fs := s.fs.set i f } j = if j = i then f else fil s j := by
  unfold fil
  dsimp only
  rw [getD_set]
  by_cases e : j = i
  · subst e; rw [if_pos ⟨rfl, h⟩, if_pos rfl]
  · rw [if_neg (fun x => e x.1.symm), if_neg e]
theorem fit_set {s : St} {T : Nat} (h : Fit s T) {i : Nat} {f : Fi} (hi : i < s.fs.length) (hf : Good f) (hl : f.loo.length ≤ T) : Fit { s with fs := s.fs.set i f } T := by
  refine ⟨h.rise, h.dln, h.mvs, fun j hj => ?_, fun j hj => ?_, fun j hj => ?_, h.lm, h.arm, h.room, h.calm⟩
  · show j < (s.fs.set i f).length
    rw [List.length_set]; exact h.reach j hj
  · rw [fil_set hi]; split
    · exact hf
    · exact h.good j hj
  · rw [fil_set hi]; split
    · exact hl
    · exact h.loo j hj
theorem fit_syncd {s : St} {T : Nat} (h : Fit s T) (hd : s.down = false) : Fit { s with dl := dn s, lm := [] } T := by
  have hr : ∀ i, Reach { s with dl := dn s, lm := [] } i → Reach s i := by
    rintro i (⟨n, hn⟩ | ⟨m, hm, _⟩)
    · exact dn_reach hn
    · cases hm
  exact ⟨h.dn_rise, fun p hp => h.dn_len hp, fun k m e => (by cases e), fun i hi => h.reach i (hr i hi), fun i hi => h.good i (hr i hi), fun i hi => h.loo i (hr i hi), Nat.zero_le _, h.arm, h.room, fun e => by dsimp only at e; rw [hd] at e; cases e⟩
theorem fit_up {s : St} {T : Nat} (h : Fit s T) : Fit (up s) T := ⟨h.rise, h.dln, h.mvs, h.reach, h.good, h.loo, h.lm, h.arm, h.room, fun e => by cases e⟩
theorem new_reach (room : Int) (i : Nat) : ¬ Reach (new room) i := by
  rintro (⟨_, h⟩ | ⟨_, h, _⟩) <;> cases h
theorem fit_new (room : Int) (hr : room ≤ 9223372036854775807) : Fit (new room) 0 where
  rise := List.Pairwise.nil
  dln := fun p hp => by cases hp
  mvs := fun k m e => by cases e
  reach := fun i hi => absurd hi (new_reach room i)
  good := fun i hi => absurd hi (new_reach room i)
  loo := fun i hi => absurd hi (new_reach room i)
  lm := Nat.zero_le _
  arm := fun a cs e => by cases e
  room := by show room.toNat ≤ _; omega
  calm := fun e => by cases e
/-! ### calls -/
theorem find_ok {s : St} {n : Bs} (h : (find s n).2 = 0) : s.down = false ∧ may n = true ∧ get (dn s) n = some (find s n).1 := by
  unfold find at h ⊢
  split at h
  · rename_i hr
    exact absurd h hr
  · rename_i hr
    have hr2 : ready s [n] = 0 := by omega
    rw [if_neg hr]
    unfold ready at hr2
    cases hd : s.down with
    | true => rw [hd] at hr2; simp at hr2
    | false =>
      rw [hd] at hr2
      have hm : may n = true := by
        by_cases hm : may n = true
        · exact hm
        · simp [allMay, hm] at hr2
      refine ⟨rfl, hm, ?_⟩
      split at h
      · cases h
      · rename_i i e
        rw [e]
theorem may_len {n : Bs} (h : may n = true) : n.length ≤ 64 ∧ n ≠ [] := by
  unfold may at h
  rw [Bool.and_eq_true, decide_eq_true_eq] at h
  exact ⟨h.1.2, fun e => by rw [e] at h; exact absurd h.1.1 (by decide)⟩
theorem find_reach {s : St} {n : Bs} (h : (find s n).2 = 0) : Reach s (find s n).1 := dn_reach (p := (n, _)) (get_mem (find_ok h).2.2)
theorem fit_changed {s : St} {T i : Nat} {c : Ch} (h : Fit s T) (_hd : s.down = false) (hi : Reach s i) (hc : c.fits (fil s i).now) : Fit { s with fs := s.fs.set i ⟨(fil s i).las, (fil s i).loo ++ [c]⟩ } (T + 1) := by
  refine fit_set (h.more (Nat.le_succ _)) (h.reach i hi) ((h.good i hi).snoc hc) ?_
  show ((fil s i).loo ++ [c]).length ≤ _
  rw [List.length_append, List.length_singleton]
  have := h.loo i hi
  omega
end Dsk
end Go.Proofs.Ythgeppdoonbkpaa
