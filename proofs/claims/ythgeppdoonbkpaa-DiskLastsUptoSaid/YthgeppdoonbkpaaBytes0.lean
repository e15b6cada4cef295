/- Rows of bytes that a call appends to. No condition but sizes. -/
import Derived.Test.YthgeppdoonbkpaaVars
import Derived.Test.YthgeppdoonbkpaaPlain
namespace Go.Proofs.Ythgeppdoonbkpaa
open Go.RowKit

theorem infoByte : (Try.prog.info? 5).map (fun i => (i.zero, i.size, i.bytes)) = some (some (.int .u8 0), 1, 1) := by kernel_rfl
/-- the value v's elements are the bytes L; its block, from base on, is the call's own -/
def RowB (w : World) (base : Nat) (v : Value) (L : Bs) : Prop := Row w base 1 v L.length (bytesV L)
/-- what is appended: the bytes M -/
def SrcB (w : World) (tx : TypeId) (x : Value) (M : Bs) : Prop := Src Try.prog w tx 1 x M.length (bytesV M)

section
variable {w w' : World} {base B : Nat} {v : Value} {L M : Bs}
theorem RowB.nil (w : World) (base : Nat) : RowB w base (.slice none 0 0) [] := Row.nil w base 1
theorem RowB.alloc (h : RowB w base v L) (o : Obj) : RowB (w.alloc o) base v L := Row.alloc h o
theorem RowB.drew (h : RowB w base v L) : RowB w.drew base v L := h
theorem RowB.drewN (h : RowB w base v L) (k : Nat) : RowB (w.drewN k) base v L := h
theorem RowB.below_all (h : RowB w base v L) (hb : Below w.heap.size w w') : RowB w' base v L := Row.below_all h hb
theorem RowB.kept {row : Option Nat} (h : RowB w base v L) (hg : w.grownBy w' row) (hne : v.ownBlock = none ∨ v.ownBlock ≠ row) : RowB w' base v L := Row.kept h hg hne
theorem RowB.form (h : RowB w base v L) : ∃ A c, v = .slice A L.length c ∧ L.length ≤ c ∧ c ≤ maxLen ∧ (A = none → L.length = 0 ∧ c = 0) ∧ Rd w w.heap.size 1 A L.length (bytesV L) := Row.form h
theorem SrcB.str (w : World) (s : ByteArray) : SrcB w 9 (.string s) s.data.toList := by
  have h := Src.string (P := Try.prog) (w := w) (tx := 9) Try.underlying9 s
  unfold SrcB
  rw [size_data]
  exact h
theorem SrcB.slice {A : Option Addr} {n c : Nat} (h : Rd w B 1 A n (bytesV M)) (h0 : A = none → n = 0) : SrcB w 22 (.slice A n c) M := by
  have hn : M.length = n := by have := h.1; rw [bytesV_len] at this; omega
  subst hn
  exact Src.slice Try.underlying22 h h0 (bytesV_one M)
theorem SrcB.built (M : Bs) (us : List Value) (hu : us = bytesV M) : SrcB (w.alloc (.cells us.toArray 5)) 22 (.slice (some ⟨w.heap.size, 0, none⟩) M.length M.length) M := by
  subst hu
  exact Src.built (bytesV M) 5 Try.underlying22 (by rw [bytesV_len]; omega) (bytesV_one M)
end

/-- append to bytes -/
theorem wpList_appB {ops : Array Oper} {rest : List Oper} {o : Oper} {a : Act} {w : World} {Q : Exit → Act → World → Prop} (hgd : o.guard = none) (s x : Operand) (tx : TypeId)
    (ho : o.op = .call { callee := .builtin .append, args := #[s, x], argTypes := #[22, tx] })
    (base : Nat) {v : Value} {L M : Bs} (hs : a.eval s = v) (hown : RowB w base v L) {xv : Value} (hxv : a.eval x = xv) (hx : SrcB w tx xv M)
    (hmax : L.length + M.length ≤ 134217728) (hbase : base ≤ w.heap.size)
    (h : ∀ v' w', RowB w' base v' (L ++ M) → Below base w w' → w.grownBy w' v.ownBlock → (v'.ownBlock = v.ownBlock ∨ v'.ownBlock = some w.heap.size) → wpList Try.prog ops Q rest (a.put o.dst v') w') : wpList Try.prog ops Q (o :: rest) a w := by
  obtain ⟨j0, hj0, jz0, jz1, jz2⟩ := info_parts infoByte
  refine wpList_app (P := Try.prog) w hgd s x 22 tx ho base 5 j0 (.int .u8 0) 1 1 Try.underlying22 hj0 jz0 jz1 jz2 rfl v L.length (bytesV L) hs hown xv M.length (bytesV M) hxv hx (by omega) (by omega) (by omega) hbase ?_
  intro v' w' h1 h2 h3
  refine h v' w' ?_ (Below.app (Below.refl _ _) hown h2 (Nat.le_refl _) hbase) h2 h3
  unfold RowB
  rw [List.length_append, bytesV_append]
  exact h1
/-- the same in a region that draws its order -/
theorem step_appB {ops : Array Oper} {o : Oper} {a : Act} {w : World} {K : Act → World → Prop} {Q : Exit → Act → World → Prop} {E : Prop} (hgd : o.guard = none) (s x : Operand) (tx : TypeId)
    (ho : o.op = .call { callee := .builtin .append, args := #[s, x], argTypes := #[22, tx] })
    (base : Nat) {v : Value} {L M : Bs} (hs : a.eval s = v) (hown : RowB w base v L) {xv : Value} (hxv : a.eval x = xv) (hx : SrcB w tx xv M)
    (hmax : L.length + M.length ≤ 134217728) (hbase : base ≤ w.heap.size)
    (h : ∀ v' w', RowB w' base v' (L ++ M) → Below base w w' → w.grownBy w' v.ownBlock → (v'.ownBlock = v.ownBlock ∨ v'.ownBlock = some w.heap.size) → K (a.put o.dst v') w') :
    if Region.wanted o (yielded ops a.tmps) = true then Oper.wp Try.prog o a w K Q else E := by
  obtain ⟨j0, hj0, jz0, jz1, jz2⟩ := info_parts infoByte
  refine step_app (P := Try.prog) w hgd s x 22 tx ho base 5 j0 (.int .u8 0) 1 1 Try.underlying22 hj0 jz0 jz1 jz2 rfl v L.length (bytesV L) hs hown xv M.length (bytesV M) hxv hx (by omega) (by omega) (by omega) hbase ?_
  intro v' w' h1 h2 h3
  refine h v' w' ?_ (Below.app (Below.refl _ _) hown h2 (Nat.le_refl _) hbase) h2 h3
  unfold RowB
  rw [List.length_append, bytesV_append]
  exact h1
end Go.Proofs.Ythgeppdoonbkpaa
