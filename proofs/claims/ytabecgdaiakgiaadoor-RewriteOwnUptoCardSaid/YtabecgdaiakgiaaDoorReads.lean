/- the law HeadReads. Conditions: the size, the library's variable. -/
import Derived.Test.YtabecgdaiakgiaaDoorAwake
import Derived.Test.YtabecgdaiakgiaaDoorLent
import Derived.Test.YtabecgdaiakgiaaDoorRParse
import Derived.Test.YtabecgdaiakgiaaDoorMB
namespace Go.Proofs.YtabecgdaiakgiaaDoor
open Go.RowKit

/-- what a call that returned a struct leaves once the struct lies in a new variable -/
theorem Row.put {w w' : World} {base sz n : Nat} {v : Value} {xs : List Value} {o : Obj} (h : Row w base sz v n xs) (hg : (w.alloc o).grownBy w' (some w.heap.size)) : Row w' base sz v n xs :=
  (h.alloc o).kept hg (by
    cases hv : v.ownBlock with
    | none => exact Or.inl rfl
    | some k => exact Or.inr (fun e => by have := (h.lt k hv).2; injection e with e; omega))
theorem Var.put {w w' : World} {b : Nat} {t : TypeId} {cs : List Value} {o : Obj} (h : Var w b t cs) (hg : (w.alloc o).grownBy w' (some w.heap.size)) : Var w' b t cs :=
  (h.alloc o).grown hg (fun e => by have := h.lt; injection e with e; omega)
theorem Below.put {B : Nat} {a w w' : World} {o : Obj} (h : Below B a w) (hB : B ≤ w.heap.size) (hg : (w.alloc o).grownBy w' (some w.heap.size)) : Below B a w' :=
  Below.grown (h.alloc hB _) hg (by simp; omega) (by intro k hk; injection hk with hk; omega)
theorem put_size {w w' : World} {o : Obj} (hs : w'.heap.size = (w.alloc o).heap.size) : w'.heap.size = w.heap.size + 1 := by simpa using hs

/-- in how few fields a head is parsed -/
theorem parse_few {l : Bs} {rq : Bool} {h : Hd} {e : Nat} (hp : parseP l rq = (h, e)) : h.fs.length ≤ 64 := by
  by_cases he : e = 0
  · subst he; exact (smuggle hp).2.1
  · unfold parseP at hp
    split at hp
    · cases hp; exact Nat.zero_le _
    · split at hp
      · cases hp; exact Nat.zero_le _
      · split at hp
        · cases hp; exact Nat.zero_le _
        · cases hf : firstP rq ((lines [] l).headD []) with
          | none => rw [hf] at hp; cases hp; exact Nat.zero_le _
          | some g =>
            rw [hf] at hp
            simp only at hp
            split at hp
            · cases hp; exact absurd rfl he
            · cases hp; exact Nat.zero_le _

end Go.Proofs.YtabecgdaiakgiaaDoor
