/- the reference's field: a field line. Condition: sizes. -/
import Derived.Test.YtabecgdaiakgiaaDoorLite
import Derived.Test.YtabecgdaiakgiaaDoorQSize2
import Derived.Test.YtabecgdaiakgiaaDoorRdr
import Derived.Deep.RegionHeld3
namespace Go.Proofs.YtabecgdaiakgiaaDoor
open Go.RowKit

def cur (s : Bs) (f q : Nat) : Bs := (s.drop f).take (q - f)
theorem cur_next (s : Bs) (f q : Nat) (hf : f ≤ q) (hq : q < s.length) : cur s f (q + 1) = cur s f q ++ [s[q]] := by
  unfold cur
  have h : q - f < (s.drop f).length := by rw [List.length_drop]; omega
  rw [show q + 1 - f = (q - f) + 1 by omega, List.take_succ_eq_append_getElem h, List.getElem_drop]
  congr 2
  simp only [show f + (q - f) = q by omega]
theorem part_str {w : World} {B : Nat} {g o n c : Nat} {l : Bs} (hr : Rd w B 1 (some ⟨g, o, none⟩) n (bytesV l)) (f q : Nat) (hfq : f ≤ q) (hq : q ≤ n) (hfc : f < c) (hnc : n ≤ c) :
    (convert 32 9 (.slice (some ⟨g, o + f, none⟩) (q - f) (c - f))).run Tryd.prog w = .ok (.string ⟨(cur l f q).toArray⟩) w := by
  have h := hr.pre (k := q) hq
  have h2 := h.shift (k := f) (cap := c) hfq (by omega)
  rw [if_neg (by omega)] at h2
  simp only [Nat.mul_one, Option.map_some, Addr.add_lit, bytesV_take, bytesV_drop] at h2
  have e : (l.take q).drop f = cur l f q := by rw [cur, List.drop_take]
  rw [e] at h2
  exact conv_str (P := Tryd.prog) 32 9 5 Tryd.underlying32 Tryd.underlying5 Tryd.underlying9 h2 (fun e => by cases e)


/-- A whole variable stored at a step of a region that draws its order. -/
theorem step_put {P : Program} {ops : Array Oper} {op : Oper} {a : Act} {w : World} {K : Act → World → Prop} {Q : Exit → Act → World → Prop} {E : Prop} (hgd : op.guard = none) (ty : TypeId) (x y : Operand) (ho : op.op = .store ty x y)
    (b : Nat) (hx : a.eval x = .pointer (some ⟨b, 0, none⟩)) {t : TypeId} {cs : List Value} (hv : Var w b t cs) (us : List Value) (hy : a.eval y = .agg us.toArray) (hl : us.length = cs.length)
    (hi : (P.info? ty).map (·.size) = some us.length) (h1 : ∀ u ∈ us, u.oneCell' = true)
    (h : ∀ w', Var w' b t us → w.grownBy w' (some b) → w'.heap.size = w.heap.size → K (a.put op.dst undef) w') : if Region.wanted op (yielded ops a.tmps) = true then Oper.wp P op a w K Q else E := by
  have hw : Region.wanted op (yielded ops a.tmps) = true := by simp [Region.wanted, hgd]
  rw [if_pos hw]
  obtain ⟨k1, k2, k3⟩ := setCells_var us 0 w cs hv (by omega)
  refine wp_store_mid ty x y ho b 0 us.toArray hx hy (by have := hv.there; rw [← hl] at this; simpa using this) (by simpa using hi) (all_oneCell_toArray h1) ?_
  refine h _ ?_ k2 k3
  rw [Nat.zero_add, hl, List.drop_length, List.take_zero, List.nil_append, List.append_nil] at k1
  exact k1
theorem results_var3 {P : Program} {fn : Func} {p u v : Tmp} {ty : TypeId} (h : fn.results = #[.cell p ty, .tmp u, .tmp v]) (tmps : Array Value) {w : World} {b : Nat} {t : TypeId} {cs : List Value} (d : TypeDesc)
    (hp : tmps.getD p undef = .pointer (some ⟨b, 0, none⟩)) (hv : Var w b t cs) (hu : P.underlying ty = some d) (hd : (match d with | .struct _ | .array _ _ => true | _ => false) = true) (hi : (P.info? ty).map (·.size) = some cs.length) :
    (results fn tmps).run P w = .ok (.tuple #[.agg cs.toArray, tmps.getD u undef, tmps.getD v undef]) w := by
  have hl := run_loadVar_row (P := P) w b t ty cs.toArray (0, 0) d hv hu hd (by simpa using hi)
  have hp' : tmps[p]?.getD undef = .pointer (some ⟨b, 0, none⟩) := by simpa using hp
  simp only [results, h]
  simp [Result.andThen, hp', asAddr, hl]
theorem fieldA_def (c : UInt8) (l : Bs) (i ahead k : Nat) (nm : Bs) (val : Option Bs) : Chunk.fieldA (c :: l) i ahead k nm val =
    if 16384 ≤ ahead + k then (([], []), i, -1)
    else if c = 13 ∧ val.isSome then
      match l with
      | [] => (([], []), i + 1, 0)
      | d :: _ => if d ≠ 10 ∨ 16384 ≤ ahead + k + 1 then (([], []), i + 1, -1) else ((nm, trim (val.getD [])), i + 2, 1)
    else if 4096 ≤ k then (([], []), i, -1)
    else match val with
      | none => if c = 58 ∧ 0 < k then Chunk.fieldA l (i + 1) ahead (k + 1) nm (some [])
          else if isTok c = false then (([], []), i, -1) else Chunk.fieldA l (i + 1) ahead (k + 1) (nm ++ [c]) none
      | some v => if Chunk.plain c = false then (([], []), i, -1) else Chunk.fieldA l (i + 1) ahead (k + 1) nm (some (v ++ [c])) := by
  conv => lhs; unfold Chunk.fieldA
  rfl

def FieldPost (x : (Bs × Bs) × Nat × Int) (w : World) (e : Ending) (w' : World) : Prop := e = .returned (.tuple #[.agg #[.string ⟨x.1.1.toArray⟩, .string ⟨x.1.2.toArray⟩], .int .i64 x.2.1, .int .i64 x.2.2]) ∧ Below w.heap.size w w'
/-- where a reading of a field line stands: what was read of the name, of the value -/
structure FieldIs (w wr : World) (l : Bs) (n a ahead : Nat) (col : Value) (j : Nat) (nm : Bs) (val : Option Bs) : Prop where
  ge : a ≤ j
  le : j ≤ n
  eq : Chunk.fieldA (l.drop a) a ahead 0 [] none = Chunk.fieldA (l.drop j) j ahead (j - a) nm val
  here : (val = none ∧ col = .int .i64 (-1) ∧ nm = cur l a j) ∨ (∃ (q : Nat) (v : Bs), val = some v ∧ col = .int .i64 q ∧ a ≤ q ∧ q < j ∧ nm = cur l a q ∧ v = cur l (q + 1) j)
  below : Below w.heap.size w wr
  var : Var wr w.heap.size 48 [.string ⟨#[]⟩, .string ⟨#[]⟩]

end Go.Proofs.YtabecgdaiakgiaaDoor
