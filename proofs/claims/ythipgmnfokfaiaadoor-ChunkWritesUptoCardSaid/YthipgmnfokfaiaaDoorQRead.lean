/- the reference's Read: any bytes are read as just what 'readOf' says. Condition: sizes. -/
import Derived.Test.YthipgmnfokfaiaaDoorQField
import Derived.Test.YthipgmnfokfaiaaDoorDecode
import Derived.Deep.AppendLies
import Derived.Deep.RegionLaw
namespace Go.Proofs.YthipgmnfokfaiaaDoor
open Go.RowKit

theorem results_var1 {P : Program} {fn : Func} {p : Tmp} {ty : TypeId} (h : fn.results = #[.cell p ty]) (tmps : Array Value) {w : World} {b : Nat} {t : TypeId} {cs : List Value} (d : TypeDesc)
    (hp : tmps.getD p undef = .pointer (some ⟨b, 0, none⟩)) (hv : Var w b t cs) (hu : P.underlying ty = some d) (hd : (match d with | .struct _ | .array _ _ => true | _ => false) = true) (hi : (P.info? ty).map (·.size) = some cs.length) :
    (results fn tmps).run P w = .ok (.agg cs.toArray) w := by
  have hl := run_loadVar_row (P := P) w b t ty cs.toArray (0, 0) d hv hu hd (by simpa using hi)
  have hp' : tmps[p]?.getD undef = .pointer (some ⟨b, 0, none⟩) := by simpa using hp
  simp only [results, h]
  simp [hp', asAddr, hl]

namespace Chunk
theorem sizeB_val (l : Bs) : ∀ (i k n : Nat), (sizeB l i k n).1 ≤ n := by
  induction l with
  | nil => intro i k n; exact Nat.le_refl _
  | cons c l ih =>
    intro i k n
    rw [sizeB]
    split
    · exact Nat.le_refl _
    · split
      · exact Nat.zero_le _
      · exact ih _ _ _
theorem sizeA_val (l : Bs) : ∀ (i k n : Nat), n ≤ most → (sizeA l i k n).1 ≤ most := by
  induction l with
  | nil => intro i k n _; exact Nat.zero_le _
  | cons c l ih =>
    intro i k n h
    rw [sizeA]
    split
    · split
      · exact Nat.zero_le _
      · exact ih _ _ _ (by omega)
    · split
      · exact Nat.zero_le _
      · exact Nat.le_trans (sizeB_val _ _ _ _) h
theorem readR_def (f : Nat) (l : Bs) (i : Nat) (body : Bs) : readR (f + 1) l i body =
    if (sizeA l i 0 0).2.2 < 1 then ⟨body, (sizeA l i 0 0).2.1, false, decide ((sizeA l i 0 0).2.2 < 0), []⟩
    else if (sizeA l i 0 0).1 = 0 then trailR ((l.drop ((sizeA l i 0 0).2.1 - i)).length) (l.drop ((sizeA l i 0 0).2.1 - i)) (sizeA l i 0 0).2.1 0 body []
      else if (l.drop ((sizeA l i 0 0).2.1 - i)).length < (sizeA l i 0 0).1 then ⟨body ++ l.drop ((sizeA l i 0 0).2.1 - i), (sizeA l i 0 0).2.1 + (l.drop ((sizeA l i 0 0).2.1 - i)).length, false, false, []⟩
      else
        if (endedR ((l.drop ((sizeA l i 0 0).2.1 - i)).drop (sizeA l i 0 0).1) ((sizeA l i 0 0).2.1 + (sizeA l i 0 0).1)).2 < 1 then ⟨body ++ (l.drop ((sizeA l i 0 0).2.1 - i)).take (sizeA l i 0 0).1, (endedR ((l.drop ((sizeA l i 0 0).2.1 - i)).drop (sizeA l i 0 0).1) ((sizeA l i 0 0).2.1 + (sizeA l i 0 0).1)).1, false, decide ((endedR ((l.drop ((sizeA l i 0 0).2.1 - i)).drop (sizeA l i 0 0).1) ((sizeA l i 0 0).2.1 + (sizeA l i 0 0).1)).2 < 0), []⟩
        else readR f (((l.drop ((sizeA l i 0 0).2.1 - i)).drop (sizeA l i 0 0).1).drop 2) (endedR ((l.drop ((sizeA l i 0 0).2.1 - i)).drop (sizeA l i 0 0).1) ((sizeA l i 0 0).2.1 + (sizeA l i 0 0).1)).1 (body ++ (l.drop ((sizeA l i 0 0).2.1 - i)).take (sizeA l i 0 0).1) := rfl
theorem trailR_13 (f : Nat) (l : Bs) (i ahead : Nat) (body : Bs) (tr : List (Bs × Bs)) (h : ∀ c r, l = c :: r → c = 13) : trailR f l i ahead body tr = lastR l i body tr := by
  cases f with
  | zero => rfl
  | succ f =>
    cases l with
    | nil => rfl
    | cons c l => rw [trailR, if_pos (h c l rfl)]
theorem trailR_go (f : Nat) (c : UInt8) (l : Bs) (i ahead : Nat) (body : Bs) (tr : List (Bs × Bs)) (h : c ≠ 13) : trailR (f + 1) (c :: l) i ahead body tr =
    if tr.length = 64 then ⟨body, i, false, true, []⟩
    else if (fieldA (c :: l) i ahead 0 [] none).2.2 < 1 then ⟨body, (fieldA (c :: l) i ahead 0 [] none).2.1, false, decide ((fieldA (c :: l) i ahead 0 [] none).2.2 < 0), []⟩
      else trailR f ((c :: l).drop ((fieldA (c :: l) i ahead 0 [] none).2.1 - i)) (fieldA (c :: l) i ahead 0 [] none).2.1 (ahead + ((fieldA (c :: l) i ahead 0 [] none).2.1 - i)) body (tr ++ [(fieldA (c :: l) i ahead 0 [] none).1]) := by
  rw [trailR, if_neg h]
theorem endedR_le {l : Bs} {i : Nat} (h : ¬ (endedR l i).2 < 1) : (endedR l i).1 = i + 2 ∧ 2 ≤ l.length := by
  obtain ⟨r, h1, h2⟩ := endedR_lt (l := l) (i := i) (by omega)
  rw [h2]; exact ⟨rfl, by rw [h1]; simp⟩
end Chunk

def zf : List Value := [.slice none 0 0, .int .i64 0, .bool false, .bool false, .slice none 0 0]
/-- what Read leaves -/
def ReadPost (w : World) (r : Chunk.Out) (e : Ending) (w' : World) : Prop :=
  ∃ vo vt tr, e = .returned (.agg #[vo, .int .i64 r.read, .bool r.done, .bool r.wrong, vt]) ∧ RowB w' w.heap.size vo r.body ∧ Row w' w.heap.size 2 vt tr.length (fieldsV (flB tr)) ∧ (r.done = true → tr = r.trailers) ∧ (∀ k, vo.ownBlock = some k → vt.ownBlock ≠ some k) ∧ Below w.heap.size w w'
/-- what was found so far: its block, its lists -/
structure Fd (w wr : World) (cs : List Value) (vo : Value) (body : Bs) (vt : Value) (tr : List (Bs × Bs)) : Prop where
  v3 : Var wr (w.heap.size + 1) 97 cs
  v2 : Var wr w.heap.size 97 zf
  row : RowB wr (w.heap.size + 2) vo body
  tr : Row wr (w.heap.size + 2) 2 vt tr.length (fieldsV (flB tr))
  apart : ∀ k, vo.ownBlock = some k → vt.ownBlock ≠ some k
  below : Below w.heap.size w wr

section
variable {w wr w' : World} {cs : List Value} {vo vt vo' vt' : Value} {body body' : Bs} {tr tr' : List (Bs × Bs)}
theorem Fd.far (h : Fd w wr cs vo body vt tr) : vo.ownBlock ≠ some (w.heap.size + 1) ∧ vt.ownBlock ≠ some (w.heap.size + 1) ∧ vo.ownBlock ≠ some w.heap.size ∧ vt.ownBlock ≠ some w.heap.size :=
  ⟨fun e => by have := (h.row.lt _ e).1; omega, fun e => by have := (h.tr.lt _ e).1; omega, fun e => by have := (h.row.lt _ e).1; omega, fun e => by have := (h.tr.lt _ e).1; omega⟩
theorem Fd.size (h : Fd w wr cs vo body vt tr) : w.heap.size + 2 ≤ wr.heap.size := by have := h.v3.lt; omega
theorem Fd.set (h : Fd w wr cs vo body vt tr) (j : Nat) (u : Value) : Fd w (wr.setCell ⟨w.heap.size + 1, j, none⟩ u) (cs.set j u) vo body vt tr :=
  ⟨h.v3.set j u, h.v2.set_other (by simp) u, h.row.setCell_far h.far.1 u, h.tr.setCell h.far.2.1 u, h.apart, h.below.setCell (by simp) u⟩
theorem Fd.drew (h : Fd w wr cs vo body vt tr) : Fd w wr.drew cs vo body vt tr := ⟨h.v3, h.v2, h.row, h.tr, h.apart, h.below.drew⟩
theorem Fd.alloc (h : Fd w wr cs vo body vt tr) (o : Obj) : Fd w (wr.alloc o) cs vo body vt tr := ⟨h.v3.alloc o, h.v2.alloc o, h.row.alloc o, h.tr.alloc o, h.apart, h.below.alloc h.below.size o⟩
theorem Fd.then_ (h : Fd w wr cs vo body vt tr) (hb : Below wr.heap.size wr w') : Fd w w' cs vo body vt tr := ⟨h.v3.below_all hb, h.v2.below_all hb, h.row.below_all hb, h.tr.below_all hb, h.apart, h.below.trans (hb.mono h.below.size)⟩
theorem Fd.cast {cs' : List Value} (h : Fd w wr cs vo body vt tr) (e : cs = cs') : Fd w wr cs' vo body vt tr := e ▸ h
theorem Fd.body_grow (h : Fd w wr cs vo body vt tr) (hg : wr.grownBy w' vo.ownBlock) (hr : RowB w' (w.heap.size + 2) vo' body') (hv : vo'.ownBlock = vo.ownBlock ∨ vo'.ownBlock = some wr.heap.size) : Fd w w' cs vo' body' vt tr := by
  refine ⟨h.v3.grown hg h.far.1, h.v2.grown hg h.far.2.2.1, hr, h.tr.kept hg ?_, ?_, h.below.grown hg h.below.size (fun k hk => by have := (h.row.lt k hk).1; omega)⟩
  · cases hvt : vt.ownBlock with
    | none => exact Or.inl rfl
    | some k => exact Or.inr (fun e => h.apart k e.symm hvt)
  · intro k hk e
    rcases hv with x | x
    · exact h.apart k (by rw [← x]; exact hk) e
    · rw [x] at hk; injection hk with hk; have := (h.tr.lt k e).2; omega
theorem Fd.tr_grow (h : Fd w wr cs vo body vt tr) (hg : wr.grownBy w' vt.ownBlock) (hr : Row w' (w.heap.size + 2) 2 vt' tr'.length (fieldsV (flB tr'))) (hv : vt'.ownBlock = vt.ownBlock ∨ vt'.ownBlock = some wr.heap.size) : Fd w w' cs vo body vt' tr' := by
  refine ⟨h.v3.grown hg h.far.2.1, h.v2.grown hg h.far.2.2.2, h.row.kept hg ?_, hr, ?_, h.below.grown hg h.below.size (fun k hk => by have := (h.tr.lt k hk).1; omega)⟩
  · cases hvt : vo.ownBlock with
    | none => exact Or.inl rfl
    | some k => exact Or.inr (fun e => h.apart k hvt e.symm)
  · intro k hk e
    rcases hv with x | x
    · exact h.apart k hk (by rw [← x]; exact e)
    · rw [x] at e; injection e with e; have := (h.row.lt k hk).2; omega
theorem Fd.fin {r : Chunk.Out} (h : Fd w wr cs vo body vt tr) (hg : wr.grownBy w' (some w.heap.size)) (hc : cs = [vo, .int .i64 r.read, .bool r.done, .bool r.wrong, vt]) (hb : r.body = body) (ht : r.done = true → tr = r.trailers) : ReadPost w r (.returned (.agg cs.toArray)) w' := by
  subst hc hb
  have hk : ∀ v : Value, v.ownBlock ≠ some w.heap.size → v.ownBlock = none ∨ v.ownBlock ≠ some w.heap.size := fun v hv => Or.inr hv
  exact ⟨vo, vt, tr, rfl, RowB.mono (h.row.kept hg (hk _ h.far.2.2.1)) (by omega), (h.tr.kept hg (hk _ h.far.2.2.2)).mono (by omega), ht, h.apart, h.below.grown hg h.below.size (fun k e => by injection e with e; omega)⟩
end
theorem fd_new (w : World) : Fd w ((w.alloc (.cells zf.toArray 97)).alloc (.cells zf.toArray 97)) zf (.slice none 0 0) [] (.slice none 0 0) [] :=
  ⟨by have h := Var.new (w.alloc (.cells zf.toArray 97)) 97 zf; rw [show (w.alloc (.cells zf.toArray 97)).heap.size = w.heap.size + 1 by simp] at h; exact h, (Var.new w 97 zf).alloc _, RowB.nil _ _, Row.nil _ _ _, fun k hk => by simp [Value.ownBlock] at hk, ((Below.refl _ _).alloc (Nat.le_refl _) _).alloc (by simp) _⟩
end Go.Proofs.YthipgmnfokfaiaaDoor
