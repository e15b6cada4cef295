/- Rows of bytes that a call appends to. No condition but sizes. | the reference's Same: of the same head. -/
import Derived.Test.YtabecgdaiakgiaaDoorMA
import Derived.Test.YtabecgdaiakgiaaDoorMA
import Derived.Deep.MidRow
import Derived.BigQuiet
namespace Go.Proofs.YtabecgdaiakgiaaDoor
open Go.RowKit

theorem infoByte : (Tryd.prog.info? 5).map (fun i => (i.zero, i.size, i.bytes)) = some (some (.int .u8 0), 1, 1) := by kernel_rfl
/-- the value v's elements are the bytes L; its block, from base on, is the call's own -/
def RowB (w : World) (base : Nat) (v : Value) (L : Bs) : Prop := Row w base 1 v L.length (bytesV L)
/-- what is appended: the bytes M -/
def SrcB (w : World) (tx : TypeId) (x : Value) (M : Bs) : Prop := Src Tryd.prog w tx 1 x M.length (bytesV M)

section
variable {w w' : World} {base B : Nat} {v : Value} {L M : Bs}
theorem RowB.nil (w : World) (base : Nat) : RowB w base (.slice none 0 0) [] := Row.nil w base 1
theorem RowB.alloc (h : RowB w base v L) (o : Obj) : RowB (w.alloc o) base v L := Row.alloc h o
theorem RowB.drew (h : RowB w base v L) : RowB w.drew base v L := h
theorem RowB.drewN (h : RowB w base v L) (k : Nat) : RowB (w.drewN k) base v L := h
theorem RowB.below_all (h : RowB w base v L) (hb : Below w.heap.size w w') : RowB w' base v L := Row.below_all h hb
theorem RowB.kept {row : Option Nat} (h : RowB w base v L) (hg : w.grownBy w' row) (hne : v.ownBlock = none ∨ v.ownBlock ≠ row) : RowB w' base v L := Row.kept h hg hne
theorem RowB.form (h : RowB w base v L) : ∃ A c, v = .slice A L.length c ∧ L.length ≤ c ∧ c ≤ maxLen ∧ (A = none → L.length = 0 ∧ c = 0) ∧ Rd w w.heap.size 1 A L.length (bytesV L) := Row.form h
theorem SrcB.str (w : World) (s : ByteArray) : SrcB w 9 (.string s) s.data.toList := by
  have h := Src.string (P := Tryd.prog) (w := w) (tx := 9) Tryd.underlying9 s
  unfold SrcB
  rw [size_data]
  exact h
theorem SrcB.slice {A : Option Addr} {n c : Nat} (h : Rd w B 1 A n (bytesV M)) (h0 : A = none → n = 0) : SrcB w 32 (.slice A n c) M := by
  have hn : M.length = n := by have := h.1; rw [bytesV_len] at this; omega
  subst hn
  exact Src.slice Tryd.underlying32 h h0 (bytesV_one M)
theorem SrcB.built (M : Bs) (us : List Value) (hu : us = bytesV M) : SrcB (w.alloc (.cells us.toArray 5)) 32 (.slice (some ⟨w.heap.size, 0, none⟩) M.length M.length) M := by
  subst hu
  exact Src.built (bytesV M) 5 Tryd.underlying32 (by rw [bytesV_len]; omega) (bytesV_one M)
end

/-- append to bytes -/
theorem wpList_appB {ops : Array Oper} {rest : List Oper} {o : Oper} {a : Act} {w : World} {Q : Exit → Act → World → Prop} (hgd : o.guard = none) (s x : Operand) (tx : TypeId)
    (ho : o.op = .call { callee := .builtin .append, args := #[s, x], argTypes := #[32, tx] })
    (base : Nat) {v : Value} {L M : Bs} (hs : a.eval s = v) (hown : RowB w base v L) {xv : Value} (hxv : a.eval x = xv) (hx : SrcB w tx xv M)
    (hmax : L.length + M.length ≤ 134217728) (hbase : base ≤ w.heap.size)
    (h : ∀ v' w', RowB w' base v' (L ++ M) → Below base w w' → w.grownBy w' v.ownBlock → (v'.ownBlock = v.ownBlock ∨ v'.ownBlock = some w.heap.size) → wpList Tryd.prog ops Q rest (a.put o.dst v') w') : wpList Tryd.prog ops Q (o :: rest) a w := by
  obtain ⟨j0, hj0, jz0, jz1, jz2⟩ := info_parts infoByte
  refine wpList_app (P := Tryd.prog) w hgd s x 32 tx ho base 5 j0 (.int .u8 0) 1 1 Tryd.underlying32 hj0 jz0 jz1 jz2 rfl v L.length (bytesV L) hs hown xv M.length (bytesV M) hxv hx (by omega) (by omega) (by omega) hbase ?_
  intro v' w' h1 h2 h3
  refine h v' w' ?_ (Below.app (Below.refl _ _) hown h2 (Nat.le_refl _) hbase) h2 h3
  unfold RowB
  rw [List.length_append, bytesV_append]
  exact h1
/-- the same in a region that draws its order -/
theorem step_appB {ops : Array Oper} {o : Oper} {a : Act} {w : World} {K : Act → World → Prop} {Q : Exit → Act → World → Prop} {E : Prop} (hgd : o.guard = none) (s x : Operand) (tx : TypeId)
    (ho : o.op = .call { callee := .builtin .append, args := #[s, x], argTypes := #[32, tx] })
    (base : Nat) {v : Value} {L M : Bs} (hs : a.eval s = v) (hown : RowB w base v L) {xv : Value} (hxv : a.eval x = xv) (hx : SrcB w tx xv M)
    (hmax : L.length + M.length ≤ 134217728) (hbase : base ≤ w.heap.size)
    (h : ∀ v' w', RowB w' base v' (L ++ M) → Below base w w' → w.grownBy w' v.ownBlock → (v'.ownBlock = v.ownBlock ∨ v'.ownBlock = some w.heap.size) → K (a.put o.dst v') w') :
    if Region.wanted o (yielded ops a.tmps) = true then Oper.wp Tryd.prog o a w K Q else E := by
  obtain ⟨j0, hj0, jz0, jz1, jz2⟩ := info_parts infoByte
  refine step_app (P := Tryd.prog) w hgd s x 32 tx ho base 5 j0 (.int .u8 0) 1 1 Tryd.underlying32 hj0 jz0 jz1 jz2 rfl v L.length (bytesV L) hs hown xv M.length (bytesV M) hxv hx (by omega) (by omega) (by omega) hbase ?_
  intro v' w' h1 h2 h3
  refine h v' w' ?_ (Below.app (Below.refl _ _) hown h2 (Nat.le_refl _) hbase) h2 h3
  unfold RowB
  rw [List.length_append, bytesV_append]
  exact h1
end Go.Proofs.YtabecgdaiakgiaaDoor

namespace Go.Proofs.YtabecgdaiakgiaaDoor
open Go.RowKit

/-- In a region that draws and only reads: a variable of several cells is read. -/
theorem wpQuiet_load_mid {P : Program} {ops : Array Oper} {C : World → Prop} {Q : Act → Prop} {rest : List Oper} {op : Oper} {a : Act} (hgd : op.guard = none) (ty : TypeId) (x : Operand) (ho : op.op = .load ty x)
    (b o : Nat) (hx : a.eval x = .pointer (some ⟨b, o, none⟩)) (cs : List Value) (d : TypeDesc) (hc : ∀ w, C w → w.rangeAt b o cs)
    (hu : P.underlying ty = some d) (hd : d.isRow = true) (hi : (P.info? ty).map (·.size) = some cs.length)
    (h : wpQuiet P ops C Q rest (a.put op.dst (.agg cs.toArray))) : wpQuiet P ops C Q (op :: rest) a :=
  BigFrame.wpQuiet_want (by simp [Region.wanted, hgd]) fun K hK => ⟨.agg cs.toArray, fun w hw => by
    unfold Oper.quietAt execOp
    simp only [ho, hx, Instr.loadAt, Instr.sureAddr, Sem.run_bind, Sem.run_pure, Result.andThen_ok, run_loadVar_mid w b o ty cs d (hc w hw) hu hd hi]
    exact ⟨rfl, rfl⟩, hK _ h⟩

set_option maxHeartbeats 2000000 in
set_option maxRecDepth 100000 in
theorem rSame_any (rq : Bool) (m t : ByteArray) (st : Int) (rs : ByteArray) (mn : Int) (A A' : Option Addr) (n c c' : Nat) (fs : List Fl) (w : World) (h1 : Rd w w.heap.size 2 A n (fieldsV fs)) (h2 : Rd w w.heap.size 2 A' n (fieldsV fs))
    (hn : n ≤ 16777216) :
    Calls Tryd.prog 33 #[headV rq m t st rs mn (.slice A n c), headV rq m t st rs mn (.slice A' n c')] w fun e w' => e = .returned (.bool true) ∧ Below w.heap.size w w' := by
  have hlen : fs.length = n := by have := h1.1; rw [fieldsV_len] at this; omega
  unfold headV
  go_enter Tryd.func33, Tryd.ntmps33
  go_wp2
  go_loopw [5] (fun i wr => ∃ k : Nat, k ≤ n ∧ i = .int .i64 k ∧ Below (w.heap.size + 2) ((w.alloc (.cells #[.bool rq, .string m, .string t, .int .i64 st, .string rs, .int .i64 mn, .slice A n c] 24)).alloc (.cells #[.bool rq, .string m, .string t, .int .i64 st, .string rs, .int .i64 mn, .slice A' n c'] 24)) wr) (fun i _ => n - (intOf i).toNat)
  case atStart => exact ⟨0, Nat.zero_le _, rfl, Below.refl _ _⟩
  case round =>
    obtain ⟨k, hk, rfl, hb⟩ := hrel
    have hb1 : ∀ q, (wr.drewN q).cell? ⟨w.heap.size, 6, none⟩ = some (.slice A n c) := fun q => (hb.cell (p := ⟨w.heap.size, 6, none⟩) (by show w.heap.size < _; omega)).trans (World.cell?_alloc2_first _ _ _ _)
    have hb2 : ∀ q, (wr.drewN q).cell? ⟨w.heap.size + 1, 6, none⟩ = some (.slice A' n c') := fun q => (hb.cell (p := ⟨w.heap.size + 1, 6, none⟩) (by show w.heap.size + 1 < _; omega)).trans (World.cell?_alloc2_new _ _ _ _)
    have e1 : wr.cell? ⟨w.heap.size, 6, none⟩ = some (.slice A n c) := hb1 0
    have e2 : wr.cell? ⟨w.heap.size + 1, 6, none⟩ = some (.slice A' n c') := hb2 0
    by_cases hlt : k < n
    · obtain ⟨g, o, rfl, hg, hcell⟩ := h1.2 (by omega)
      obtain ⟨g', o', rfl, hg', hcell'⟩ := h2.2 (by omega)
      obtain ⟨G1, G2⟩ := fieldsV_get fs k (by omega)
      have old : ∀ (p : Addr), p.block < w.heap.size → ∀ q, (wr.drewN q).cell? p = w.cell? p := fun p hp q =>
        (hb.cell (p := p) (by omega)).trans ((World.cell?_alloc_lt _ _ _ (by simp; omega)).trans (World.cell?_alloc_lt _ _ _ hp))
      have r1 : ∀ q, World.rangeAt (wr.drewN q) g (o + k * 2) [.string fs[k].1, .string fs[k].2] := by
        intro q j v hj
        match j, hj with
        | 0, hj => cases hj; exact (old _ hg q).trans (hcell _ _ G1)
        | 1, hj => cases hj; rw [Nat.add_assoc]; exact (old _ hg q).trans (hcell _ _ G2)
      have r2 : ∀ q, World.rangeAt (wr.drewN q) g' (o' + k * 2) [.string fs[k].1, .string fs[k].2] := by
        intro q j v hj
        match j, hj with
        | 0, hj => cases hj; exact (old _ hg' q).trans (hcell' _ _ G1)
        | 1, hj => cases hj; rw [Nat.add_assoc]; exact (old _ hg' q).trans (hcell' _ _ G2)
      clear hcell hcell' G1 G2
      go_wp2
      refine wp_region_quiet_lit (by kernel_rfl) (by kernel_rfl) ?_
      repeat (first
        | (refine wpQuiet_load_mid rfl 48 (.tmp 65) rfl g (o + k * 2) rfl _ _ (by rintro _ ⟨q, rfl⟩; exact r1 q) Tryd.underlying48 rfl (by kernel_rfl) ?_)
        | (refine wpQuiet_load_mid rfl 48 (.tmp 70) rfl g' (o' + k * 2) rfl _ _ (by rintro _ ⟨q, rfl⟩; exact r2 q) Tryd.underlying48 rfl (by kernel_rfl) ?_)
        | go_big_quiet_step (fail)
        | quiet_step (fail))
      refine wpQuiet_nil ?_
      rintro _ ⟨nq, rfl⟩
      go_wp2
      go_roundw
      case rel => exact ⟨k + 1, by omega, by go_num, below_drewN hb _⟩
      case measure => simp [intOf]; omega
    · go_wp2
      go_ret
      exact ⟨rfl, ((Below.refl _ w).alloc (Nat.le_refl _) _ |>.alloc (by simp) _).trans (hb.mono (by omega))⟩
end Go.Proofs.YtabecgdaiakgiaaDoor
