/- the reference's Read: any bytes are read as just what 'readOf' says. Condition: sizes. -/
import Derived.Test.YtabecgdaiakgiaaDoorQField
import Derived.Test.YtabecgdaiakgiaaDoorDecode
import Derived.Deep.AppendLies
import Derived.Deep.RegionLaw
namespace Go.Proofs.YtabecgdaiakgiaaDoor
open Go.RowKit

theorem results_var1 {P : Program} {fn : Func} {p : Tmp} {ty : TypeId} (h : fn.results = #[.cell p ty]) (tmps : Array Value) {w : World} {b : Nat} {t : TypeId} {cs : List Value} (d : TypeDesc)
    (hp : tmps.getD p undef = .pointer (some ⟨b, 0, none⟩)) (hv : Var w b t cs) (hu : P.underlying ty = some d) (hd : (match d with | .struct _ | .array _ _ => true | _ => false) = true) (hi : (P.info? ty).map (·.size) = some cs.length) :
    (results fn tmps).run P w = .ok (.agg cs.toArray) w := by
  have hl := run_loadVar_row (P := P) w b t ty cs.toArray (0, 0) d hv hu hd (by simpa using hi)
  have hp' : tmps[p]?.getD undef = .pointer (some ⟨b, 0, none⟩) := by simpa using hp
  simp only [results, h]
  simp [hp', asAddr, hl]

namespace Chunk
theorem sizeB_val (l : Bs) : ∀ (i k n : Nat), (sizeB l i k n).1 ≤ n := by
  induction l with
  | nil => intro i k n; exact Nat.le_refl _
  | cons c l ih =>
    intro i k n
    rw [sizeB]
    split
    · exact Nat.le_refl _
    · split
      · exact Nat.zero_le _
      · exact ih _ _ _
theorem sizeA_val (l : Bs) : ∀ (i k n : Nat), n ≤ most → (sizeA l i k n).1 ≤ most := by
  induction l with
  | nil => intro i k n _; exact Nat.zero_le _
  | cons c l ih =>
    intro i k n h
    rw [sizeA]
    split
    · split
      · exact Nat.zero_le _
      · exact ih _ _ _ (by omega)
    · split
      · exact Nat.zero_le _
      · exact Nat.le_trans (sizeB_val _ _ _ _) h
theorem readR_def (f : Nat) (l : Bs) (i : Nat) (body : Bs) : readR (f + 1) l i body =
    if (sizeA l i 0 0).2.2 < 1 then ⟨body, (sizeA l i 0 0).2.1, false, decide ((sizeA l i 0 0).2.2 < 0), []⟩
    else if (sizeA l i 0 0).1 = 0 then trailR ((l.drop ((sizeA l i 0 0).2.1 - i)).length) (l.drop ((sizeA l i 0 0).2.1 - i)) (sizeA l i 0 0).2.1 0 body []
      else if (l.drop ((sizeA l i 0 0).2.1 - i)).length < (sizeA l i 0 0).1 then ⟨body ++ l.drop ((sizeA l i 0 0).2.1 - i), (sizeA l i 0 0).2.1 + (l.drop ((sizeA l i 0 0).2.1 - i)).length, false, false, []⟩
      else
        if (endedR ((l.drop ((sizeA l i 0 0).2.1 - i)).drop (sizeA l i 0 0).1) ((sizeA l i 0 0).2.1 + (sizeA l i 0 0).1)).2 < 1 then ⟨body ++ (l.drop ((sizeA l i 0 0).2.1 - i)).take (sizeA l i 0 0).1, (endedR ((l.drop ((sizeA l i 0 0).2.1 - i)).drop (sizeA l i 0 0).1) ((sizeA l i 0 0).2.1 + (sizeA l i 0 0).1)).1, false, decide ((endedR ((l.drop ((sizeA l i 0 0).2.1 - i)).drop (sizeA l i 0 0).1) ((sizeA l i 0 0).2.1 + (sizeA l i 0 0).1)).2 < 0), []⟩
        else readR f (((l.drop ((sizeA l i 0 0).2.1 - i)).drop (sizeA l i 0 0).1).drop 2) (endedR ((l.drop ((sizeA l i 0 0).2.1 - i)).drop (sizeA l i 0 0).1) ((sizeA l i 0 0).2.1 + (sizeA l i 0 0).1)).1 (body ++ (l.drop ((sizeA l i 0 0).2.1 - i)).take (sizeA l i 0 0).1) := rfl
theorem trailR_13 (f : Nat) (l : Bs) (i ahead : Nat) (body : Bs) (tr : List (Bs × Bs)) (h : ∀ c r, l = c :: r → c = 13) : trailR f l i ahead body tr = lastR l i body tr := by
  cases f with
  | zero => rfl
  | succ f =>
    cases l with
    | nil => rfl
    | cons c l => rw [trailR, if_pos (h c l rfl)]
theorem trailR_go (f : Nat) (c : UInt8) (l : Bs) (i ahead : Nat) (body : Bs) (tr : List (Bs × Bs)) (h : c ≠ 13) : trailR (f + 1) (c :: l) i ahead body tr =
    if tr.length = 64 then ⟨body, i, false, true, []⟩
    else if (fieldA (c :: l) i ahead 0 [] none).2.2 < 1 then ⟨body, (fieldA (c :: l) i ahead 0 [] none).2.1, false, decide ((fieldA (c :: l) i ahead 0 [] none).2.2 < 0), []⟩
      else trailR f ((c :: l).drop ((fieldA (c :: l) i ahead 0 [] none).2.1 - i)) (fieldA (c :: l) i ahead 0 [] none).2.1 (ahead + ((fieldA (c :: l) i ahead 0 [] none).2.1 - i)) body (tr ++ [(fieldA (c :: l) i ahead 0 [] none).1]) := by
  rw [trailR, if_neg h]
theorem endedR_le {l : Bs} {i : Nat} (h : ¬ (endedR l i).2 < 1) : (endedR l i).1 = i + 2 ∧ 2 ≤ l.length := by
  obtain ⟨r, h1, h2⟩ := endedR_lt (l := l) (i := i) (by omega)
  rw [h2]; exact ⟨rfl, by rw [h1]; simp⟩
end Chunk

def zf : List Value := [.slice none 0 0, .int .i64 0, .bool false, .bool false, .slice none 0 0]
/-- what Read leaves -/
def ReadPost (w : World) (r : Chunk.Out) (e : Ending) (w' : World) : Prop :=
  ∃ vo vt tr, e = .returned (.agg #[vo, .int .i64 r.read, .bool r.done, .bool r.wrong, vt]) ∧ RowB w' w.heap.size vo r.body ∧ Row w' w.heap.size 2 vt tr.length (fieldsV (flB tr)) ∧ (r.done = true → tr = r.trailers) ∧ (∀ k, vo.ownBlock = some k → vt.ownBlock ≠ some k) ∧ Below w.heap.size w w'
section
variable {w wr w' : World} {cs : List Value} {vo vt vo' vt' : Value} {body body' : Bs} {tr tr' : List (Bs × Bs)}
end
end Go.Proofs.YtabecgdaiakgiaaDoor
