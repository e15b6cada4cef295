/- Plain words on a disk (chapter 3): what lasts, what is loose, what a failure of the power leaves. No program in sight. No condition. -/
import Derived.Test.YthgeppdoonbkpaaPlain
namespace Go.Proofs.Ythgeppdoonbkpaa
namespace Dsk
/-- a change of a file: a write at a place, or a cut -/
inductive Ch where
  | wr (a : Nat) (d : Bs)
  | cut (n : Nat)
/-- a file: what lasts, what is loose -/
structure Fi where
  las : Bs
  loo : List Ch
/-- a change of the directory: a file that is made (its number), or one that is renamed, or removed (to: no byte) -/
structure Mv where
  fr : Bs
  to : Bs
  nw : Option Nat
abbrev Dir := List (Bs × Nat)
structure St where
  room : Nat
  fs : List Fi
  dl : Dir
  lm : List Mv
  arm : Option (Nat × List Int)
  down : Bool
instance : Inhabited Fi := ⟨⟨[], []⟩⟩
/-! ### files -/
def over (b : Bs) (a : Nat) (d : Bs) (n : Nat) : Bs := b.take a ++ d.take n ++ b.drop (a + n)
def Ch.does (c : Ch) (b : Bs) (n : Nat) : Bs :=
  match c with
  | .wr a d => over b a d n
  | .cut k => b.take k
def Ch.len : Ch → Nat
  | .wr _ d => d.length
  | .cut _ => 0
def Ch.all (c : Ch) (b : Bs) : Bs := c.does b c.len
def Fi.bytes (f : Fi) (k : Nat) : Bs := (f.loo.take k).foldl (fun b c => c.all b) f.las
def Fi.now (f : Fi) : Bs := f.loo.foldl (fun b c => c.all b) f.las
theorem Fi.bytes_all (f : Fi) : f.bytes f.loo.length = f.now := by unfold Fi.bytes Fi.now; rw [List.take_length]
theorem Fi.bytes_zero (f : Fi) : f.bytes 0 = f.las := rfl
theorem Fi.now_nil (b : Bs) : (⟨b, []⟩ : Fi).now = b := rfl
theorem Fi.now_snoc (b : Bs) (l : List Ch) (c : Ch) : (⟨b, l ++ [c]⟩ : Fi).now = c.all (⟨b, l⟩ : Fi).now := by
  unfold Fi.now
  rw [List.foldl_append]
  rfl
/-! ### the directory -/
def get : Dir → Bs → Option Nat
  | [], _ => none
  | (x, i) :: l, n => if x = n then some i else get l n
def del (l : Dir) (n : Bs) : Dir := l.filter (fun p => decide (p.1 ≠ n))
/-- by rising names -/
def ins : Dir → Bs → Nat → Dir
  | [], n, i => [(n, i)]
  | (x, j) :: l, n, i => if n < x then (n, i) :: (x, j) :: l else (x, j) :: ins l n i
def put (l : Dir) (n : Bs) (i : Nat) : Dir := ins (del l n) n i
def Mv.app (l : Dir) (m : Mv) : Dir :=
  match m.nw with
  | some i => if m.to = [] then l else put l m.to i
  | none => if m.to = [] then del l m.fr else match get l m.fr with
    | some i => put (del l m.fr) m.to i
    | none => del l m.fr
def names (s : St) (k : Nat) : Dir := (s.lm.take k).foldl Mv.app s.dl
def dn (s : St) : Dir := s.lm.foldl Mv.app s.dl
theorem names_all (s : St) : names s s.lm.length = dn s := by unfold names dn; rw [List.take_length]
/-! ### failures -/
def choice (cs : List Int) (n : Nat) : Nat × List Int :=
  match cs with
  | [] => (0, [])
  | c :: r => ((c % ((n : Int) + 1)).toNat, r)
theorem choice_le (cs : List Int) (n : Nat) : (choice cs n).1 ≤ n := by
  unfold choice
  cases cs with
  | nil => exact Nat.zero_le _
  | cons c r =>
    dsimp only
    have h1 := Int.emod_nonneg c (show (n : Int) + 1 ≠ 0 by omega)
    have h2 := Int.emod_lt_of_pos c (show 0 < (n : Int) + 1 by omega)
    omega
def crashF (f : Fi) (cs : List Int) : Fi × List Int :=
  let k := choice cs f.loo.length
  match f.loo[k.1]? with
  | some (.wr a d) => let n := choice k.2 d.length; (⟨over (f.bytes k.1) a d n.1, []⟩, n.2)
  | _ => (⟨f.bytes k.1, []⟩, k.2)
def crashD : Dir → List Fi → List Int → List Fi × List Int
  | [], fs, cs => (fs, cs)
  | p :: l, fs, cs => crashD l (fs.set p.2 (crashF (fs.getD p.2 default) cs).1) (crashF (fs.getD p.2 default) cs).2
def crash (s : St) (cs : List Int) : St :=
  if s.down = true then s
  else
    let k := choice cs s.lm.length
    { s with fs := (crashD (names s k.1) s.fs k.2).1, dl := names s k.1, lm := [], arm := none, down := true }
/-! ### calls -/
def mayC (c : UInt8) : Bool := decide (32 < c ∧ c ≤ 126 ∧ c ≠ 47)
def may (n : Bs) : Bool := decide (1 ≤ n.length ∧ n.length ≤ 64) && n.all mayC
def allMay (l : List Bs) : Bool := l.all may
def ready (s : St) (l : List Bs) : Nat := if s.down = true then 32 else if allMay l = true then 0 else 2
def done (s : St) : St × Nat :=
  match s.arm with
  | none => (s, 0)
  | some (0, cs) => (crash s cs, 32)
  | some (n + 1, cs) => ({ s with arm := some (n, cs) }, 0)
def dies (s : St) : Bool := match s.arm with | some (0, _) => true | _ => false
def moved (s : St) (m : Mv) : St × Nat := done { s with lm := s.lm ++ [m] }
def fil (s : St) (i : Nat) : Fi := s.fs.getD i default
def create (s : St) (n : Bs) : St × Nat :=
  if ready s [n] ≠ 0 then (s, ready s [n])
  else if get (dn s) n ≠ none then (s, 35)
  else if 64 ≤ (dn s).length then (s, 31)
  else moved { s with fs := s.fs ++ [⟨[], []⟩] } ⟨[], n, some s.fs.length⟩
def rename (s : St) (a b : Bs) : St × Nat :=
  if ready s [b, a] ≠ 0 then (s, ready s [b, a])
  else if get (dn s) a = none then (s, 30)
  else moved s ⟨a, b, none⟩
def remove (s : St) (a : Bs) : St × Nat :=
  if ready s [a] ≠ 0 then (s, ready s [a])
  else if get (dn s) a = none then (s, 30)
  else moved s ⟨a, [], none⟩
/-- a file that is there, or the error -/
def find (s : St) (n : Bs) : Nat × Nat :=
  if ready s [n] ≠ 0 then (0, ready s [n])
  else match get (dn s) n with
    | none => (0, 30)
    | some i => (i, 0)
def held (s : St) : Nat := ((dn s).map fun p => (fil s p.2).now.length).sum
def changed (s : St) (i : Nat) (c : Ch) : St × Nat := done { s with fs := s.fs.set i ⟨(fil s i).las, (fil s i).loo ++ [c]⟩ }
def write (s : St) (n : Bs) (a : Int) (p : Bs) : St × Nat :=
  if (find s n).2 ≠ 0 then (s, (find s n).2)
  else
    let len := (fil s (find s n).1).now.length
    if a < 0 ∨ (len : Int) < a then (s, 2)
    else if 1048576 < max len (a.toNat + p.length) then (s, 3)
    else if len < a.toNat + p.length ∧ s.room < held s + (a.toNat + p.length - len) then (s, 31)
    else changed s (find s n).1 (.wr a.toNat p)
def cut (s : St) (n : Bs) (k : Int) : St × Nat :=
  if (find s n).2 ≠ 0 then (s, (find s n).2)
  else if k < 0 ∨ ((fil s (find s n).1).now.length : Int) < k then (s, 2)
  else changed s (find s n).1 (.cut k.toNat)
def read (s : St) (n : Bs) : Bs × Nat := if (find s n).2 ≠ 0 then ([], (find s n).2) else ((fil s (find s n).1).now, 0)
def sync (s : St) (n : Bs) : St × Nat :=
  if (find s n).2 ≠ 0 then (s, (find s n).2)
  else done (if dies s = true then s else { s with fs := s.fs.set (find s n).1 ⟨(fil s (find s n).1).now, []⟩ })
def syncDir (s : St) : St × Nat :=
  if s.down = true then (s, 32)
  else done (if dies s = true then s else { s with dl := dn s, lm := [] })
def looseOf (s : St) (n : Bs) : Nat :=
  if s.down = true then 0
  else if n = [] then s.lm.length
  else match get (dn s) n with
    | none => 0
    | some i => (fil s i).loo.length
def armed (s : St) (a : Int) (cs : List Int) : St := if s.down = true then s else { s with arm := some (a.toNat, cs) }
def up (s : St) : St := { s with down := false }
def new (room : Int) : St := ⟨room.toNat, [], [], [], none, false⟩
def told (s : St) : List Bs := if s.down = true then [] else (dn s).map (·.1)

/-! ### laws of directories -/
/-- names rise -/
def Rise (l : Dir) : Prop := l.Pairwise fun p q => p.1 < q.1
theorem get_none {l : Dir} {n : Bs} : get l n = none ↔ ∀ p ∈ l, p.1 ≠ n := by
  induction l with
  | nil => simp [get]
  | cons p l ih =>
    obtain ⟨x, i⟩ := p
    unfold get
    by_cases h : x = n
    · rw [if_pos h]; simp [h]
    · rw [if_neg h, ih]; simp [h]
theorem get_mem {l : Dir} {n : Bs} {i : Nat} (h : get l n = some i) : (n, i) ∈ l := by
  induction l with
  | nil => cases h
  | cons p l ih =>
    obtain ⟨x, j⟩ := p
    unfold get at h
    by_cases hx : x = n
    · rw [if_pos hx] at h; injection h with h; subst h hx; exact List.mem_cons_self
    · rw [if_neg hx] at h; exact List.mem_cons_of_mem _ (ih h)
theorem lt_irrefl (a : Bs) : ¬ a < a := List.lt_irrefl a
theorem mem_get {l : Dir} (hr : Rise l) {n : Bs} {i : Nat} (h : (n, i) ∈ l) : get l n = some i := by
  induction l with
  | nil => cases h
  | cons p l ih =>
    obtain ⟨x, j⟩ := p
    unfold get
    rcases List.mem_cons.1 h with e | e
    · injection e with e1 e2; subst e1 e2; rw [if_pos rfl]
    · have := (List.pairwise_cons.1 hr).1 _ e
      rw [if_neg (fun e2 => by dsimp only at this; rw [e2] at this; exact lt_irrefl _ this)]
      exact ih (List.pairwise_cons.1 hr).2 e
theorem del_rise {l : Dir} (hr : Rise l) (n : Bs) : Rise (del l n) := List.Pairwise.filter _ hr
theorem del_mem {l : Dir} {n : Bs} {p : Bs × Nat} : p ∈ del l n ↔ p ∈ l ∧ p.1 ≠ n := by unfold del; rw [List.mem_filter]; simp
theorem ins_mem {l : Dir} {n : Bs} {i : Nat} {p : Bs × Nat} : p ∈ ins l n i ↔ p = (n, i) ∨ p ∈ l := by
  induction l with
  | nil => simp [ins]
  | cons q l ih =>
    obtain ⟨x, j⟩ := q
    unfold ins
    split
    · simp
    · rw [List.mem_cons, ih, List.mem_cons]
      constructor
      · rintro (h | h | h)
        · exact .inr (.inl h)
        · exact .inl h
        · exact .inr (.inr h)
      · rintro (h | h | h)
        · exact .inr (.inl h)
        · exact .inl h
        · exact .inr (.inr h)
theorem lt_total {a b : Bs} (h : ¬ a < b) (hne : a ≠ b) : b < a := by
  by_cases h2 : b < a
  · exact h2
  · exact absurd (List.le_antisymm (List.not_lt.1 h2) (List.not_lt.1 h)) hne
theorem ins_rise {l : Dir} (hr : Rise l) {n : Bs} (hn : ∀ p ∈ l, p.1 ≠ n) (i : Nat) : Rise (ins l n i) := by
  induction l with
  | nil => exact List.pairwise_singleton _ _
  | cons q l ih =>
    obtain ⟨x, j⟩ := q
    obtain ⟨h1, h2⟩ := List.pairwise_cons.1 hr
    unfold ins
    split
    · rename_i hx
      refine List.pairwise_cons.2 ⟨fun p hp => ?_, hr⟩
      rcases List.mem_cons.1 hp with e | e
      · rw [e]; exact hx
      · exact List.lt_trans hx (h1 p e)
    · rename_i hx
      refine List.pairwise_cons.2 ⟨fun p hp => ?_, ih h2 (fun p hp => hn p (List.mem_cons_of_mem _ hp))⟩
      rcases ins_mem.1 hp with e | e
      · rw [e]; exact lt_total hx (fun e => hn _ List.mem_cons_self e.symm)
      · exact h1 p e
theorem put_rise {l : Dir} (hr : Rise l) (n : Bs) (i : Nat) : Rise (put l n i) := ins_rise (del_rise hr n) (fun _p hp => (del_mem.1 hp).2) i
theorem put_mem {l : Dir} {n : Bs} {i : Nat} {p : Bs × Nat} : p ∈ put l n i ↔ p = (n, i) ∨ (p ∈ l ∧ p.1 ≠ n) := by unfold put; rw [ins_mem, del_mem]
theorem app_rise {l : Dir} (hr : Rise l) (m : Mv) : Rise (m.app l) := by
  unfold Mv.app
  split
  · split
    · exact hr
    · exact put_rise hr _ _
  · split
    · exact del_rise hr _
    · split
      · exact put_rise (del_rise hr _) _ _
      · exact del_rise hr _
theorem fold_rise {l : Dir} (hr : Rise l) (ms : List Mv) : Rise (ms.foldl Mv.app l) := by
  induction ms generalizing l with
  | nil => exact hr
  | cons m ms ih => exact ih (app_rise hr m)
/-! ### what a failure leaves -/
theorem crashF_nil (b : Bs) (cs : List Int) : (crashF ⟨b, []⟩ cs).1 = ⟨b, []⟩ := by
  unfold crashF Fi.bytes
  simp
theorem getD_set (fs : List Fi) (j i : Nat) (x : Fi) : (fs.set j x).getD i default = if j = i ∧ i < fs.length then x else fs.getD i default := by
  simp only [List.getD_eq_getElem?_getD, List.getElem?_set]
  by_cases h : j = i
  · subst h
    by_cases hl : j < fs.length
    · simp [hl]
    · simp [hl]
  · simp [h]
theorem crashD_keep {b : Bs} {i : Nat} : ∀ (l : Dir) (fs : List Fi) (cs : List Int), fs.getD i default = ⟨b, []⟩ → (crashD l fs cs).1.getD i default = ⟨b, []⟩
  | [], _, _, h => h
  | p :: l, fs, cs, h => by
    unfold crashD
    refine crashD_keep l _ _ ?_
    rw [getD_set]
    split
    · rename_i hx
      rw [hx.1, h]
      exact crashF_nil b cs
    · exact h
theorem crashF_loo (f : Fi) (cs : List Int) : (crashF f cs).1.loo = [] := by
  unfold crashF
  dsimp only
  split <;> rfl
theorem crashD_len : ∀ (l : Dir) (fs : List Fi) (cs : List Int), (crashD l fs cs).1.length = fs.length
  | [], _, _ => rfl
  | p :: l, fs, cs => by unfold crashD; rw [crashD_len l, List.length_set]
theorem crashD_loo : ∀ (l : Dir) (fs : List Fi) (cs : List Int) (i : Nat), (fs.getD i default).loo = [] ∨ (∃ p ∈ l, p.2 = i) → ((crashD l fs cs).1.getD i default).loo = []
  | [], _, _, _, h => h.elim id (fun ⟨_, h, _⟩ => by cases h)
  | p :: l, fs, cs, i, h => by
    unfold crashD
    refine crashD_loo l _ _ i ?_
    rw [getD_set]
    by_cases hx : p.2 = i ∧ i < fs.length
    · rw [if_pos hx]; exact .inl (crashF_loo _ _)
    · rw [if_neg hx]
      rcases h with h | ⟨q, hq, e⟩
      · exact .inl h
      · rcases List.mem_cons.1 hq with e2 | e2
        · subst e2
          have hge : ¬ i < fs.length := fun hl => hx ⟨e, hl⟩
          left
          rw [List.getD_eq_getElem?_getD, List.getElem?_eq_none (by omega)]
          rfl
        · exact .inr ⟨q, e2, e⟩
/-- what was synced, name and bytes, is there behind a failure -/
theorem crash_lasts {s : St} (hl : s.lm = []) {n : Bs} {i : Nat} {b : Bs} (hg : get s.dl n = some i) (hf : fil s i = ⟨b, []⟩) (cs : List Int) :
    (crash s cs).lm = [] ∧ get (crash s cs).dl n = some i ∧ fil (crash s cs) i = ⟨b, []⟩ := by
  unfold crash
  split
  · exact ⟨hl, hg, hf⟩
  · dsimp only
    have e : names s (choice cs s.lm.length).1 = s.dl := by unfold names; rw [hl]; simp
    rw [e]
    exact ⟨rfl, hg, crashD_keep _ _ _ hf⟩
end Dsk
end Go.Proofs.Ythgeppdoonbkpaa
