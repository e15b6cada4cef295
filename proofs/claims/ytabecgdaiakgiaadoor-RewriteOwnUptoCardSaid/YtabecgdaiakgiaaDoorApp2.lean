/- Appending to a row: what was the row before reads as it did. No condition. -/
import Derived.Test.YtabecgdaiakgiaaDoorMA
namespace Go.Proofs.YtabecgdaiakgiaaDoor
open Go.RowKit

section
variable {P : Program} (w : World)
/-- THE LAW: append to a row. -/
theorem run_app2 (base : Nat) (ts tx ty e : TypeId) (i : TypeInfo) (z : Value) (size bytes : Nat) (ht : P.underlying ts = some (.slice e)) (hi : P.info? e = some i) (hz : i.zero = some z)
    (hsize : i.size = size) (hby : i.bytes = bytes) (hzs : z.cells.size = size)
    (v : Value) (n : Nat) (xs : List Value) (hown : Row w base size v n xs) (x : Value) (m : Nat) (news : List Value) (hx : Src P w tx size x m news)
    (hmax : n + m ≤ 140737488355328) (hbytes : (n + m) * bytes ≤ 140737488355328) (hb1 : 0 < bytes) (hbase : base ≤ w.heap.size) :
    ∃ v' w', (Builtin.append_ #[ts, tx] ty #[v, x]).run P w = .ok v' w' ∧ Row w' base size v' (n + m) (xs ++ news) ∧ w.grownBy w' v.ownBlock ∧
      (v'.ownBlock = v.ownBlock ∨ v'.ownBlock = some w.heap.size) ∧ Row w' base size v n xs := by
  subst hsize
  subst hby
  obtain ⟨d, hd, hdn⟩ := hx.noint
  have hlen : (xs ++ news).length = (n + m) * i.size := by rw [List.length_append, hown.1, hx.hl, Nat.add_mul]
  have grown : ∀ (old : Nat), old < n + m →
      Row (w.drew.alloc (.cells (xs.toArray ++ news.toArray ++ Builtin.zeroCells z.cells (grownCap w (n + m) old e - (n + m))) e)) base i.size
        (.slice (some ⟨w.heap.size, 0, none⟩) (n + m) (grownCap w (n + m) old e)) (n + m) (xs ++ news) := by
    intro old ho
    have hge := grownCap_ge w (n + m) old e
    have hcm : grownCap w (n + m) old e ≤ maxLen := grownCap_le_maxLen w (n + m) old e (by simp only [maxLen]; omega)
    refine ⟨hlen, .inr ⟨w.heap.size, 0, _, _, e, (0, 0), rfl, hbase, heap_alloc_new w.drew _, hge, hcm, ?_, by intro j _ _; simp, ?_⟩⟩
    · simp only [Array.size_append, List.size_toArray, size_zeroCells, hzs, hown.1, hx.hl, ← Nat.add_mul]
      have : n + m + (grownCap w (n + m) old e - (n + m)) = grownCap w (n + m) old e := by omega
      rw [this]
      omega
    · simp only [Array.toList_append, List.append_assoc, List.drop_zero]
      rw [← List.append_assoc, ← hlen]
      exact List.take_left
  have hgro : ∀ (old : Nat) (row : Option Nat), w.grownBy (w.drew.alloc (.cells (xs.toArray ++ news.toArray ++ Builtin.zeroCells z.cells (grownCap w (n + m) old e - (n + m))) e)) row :=
    fun old row => ⟨rfl, rfl, rfl, by simp, fun k hk _ => Below.heap_alloc w.drew _ k hk⟩
  have hfit : ∀ old, old < n + m → ¬ (281474976710656 < Builtin.nextslicecap (n + m) old * i.bytes) := fun old ho => by
    have := growslice_fits ho hbytes; omega
  have h63 : ¬ (9223372036854775807 < ((n : Int) + (m : Int))) := by omega
  have hf := hx.first
  have hfD := hx.firstD
  have hL := hx.len
  rcases hown.2 with ⟨rfl, rfl⟩ | ⟨g, o, cap, cur, t, fr, rfl, hbg, hg, hnc, hcm, hcs, hfr, htake⟩
  · have hx0 : xs = [] := List.eq_nil_of_length_eq_zero (by simpa using hown.1)
    subst hx0
    by_cases hm : m = 0
    · subst hm
      have hn : news = [] := List.eq_nil_of_length_eq_zero (by simpa using hx.hl)
      subst hn
      refine ⟨.slice none 0 0, w, ?_, Row.nil w base i.size, World.grownBy.refl w _, .inl rfl, hown⟩
      simp [Builtin.append_, run_underlying ht, run_underlying hd, sizeOf, typeInfo, hi, hL, hf]
    · have hf0 := hfit 0 (by omega)
      refine ⟨_, _, ?_, grown 0 (by omega), hgro 0 _, .inr rfl, Row.alloc (Row.drew hown) _⟩
      simp only [Nat.zero_add] at hf0 h63 ⊢
      have hb0 : ¬ i.bytes = 0 := by omega
      simp [Builtin.append_, run_underlying ht, run_underlying hd, sizeOf, typeInfo, zeroValue, hi, hz, hL, hm, hf0, hfD, Question.forced, newRow, grownCap, hb0, run_firstCells_none (P := P) w.drew]
  · by_cases hroom : n + m ≤ cap
    · have hcm2 : (n + m) * i.size ≤ cap * i.size := Nat.mul_le_mul_right _ hroom
      have hfit2 : o + n * i.size + news.length ≤ cur.size := by rw [hx.hl]; rw [Nat.add_mul] at hcm2; omega
      have hst := run_storeCells_fr P g (o + n * i.size) t fr news 0 cur w hg (by simpa using hfit2)
        (fun j h2 h3 => hfr j (by omega) (by rw [hx.hl] at h3; rw [Nat.add_mul] at hcm2; omega)) hx.one
      simp only [Nat.add_zero] at hst
      refine ⟨_, _, ?_, ⟨hlen, .inr ⟨g, o, cap, _, t, fr, rfl, hbg, setRow_heap w g cur (cur.toList.take (o + n * i.size) ++ news ++ cur.toList.drop (o + n * i.size + news.length)).toArray t _ hg, hroom, hcm, ?_, hfr, ?_⟩⟩, ⟨rfl, rfl, rfl, by simp, fun k _ hk => setRow_other w g k _ (fun e => hk (by simp [Value.ownBlock, e]))⟩, .inl rfl, ⟨hown.1, .inr ⟨g, o, cap, _, t, fr, rfl, hbg, setRow_heap w g cur (cur.toList.take (o + n * i.size) ++ news ++ cur.toList.drop (o + n * i.size + news.length)).toArray t _ hg, hnc, hcm, ?_, hfr, ?_⟩⟩⟩
      · simp [Builtin.append_, run_underlying ht, run_underlying hd, sizeOf, typeInfo, hi, hL, hroom, hf, Addr.add_lit, hst]
      · simp only [List.size_toArray, List.length_append, List.length_take, List.length_drop, Array.length_toList]
        omega
      · have e1 : (cur.toList.take (o + n * i.size) ++ news ++ cur.toList.drop (o + n * i.size + news.length)).toArray.toList.drop o = (cur.toList.drop o).take (n * i.size) ++ news ++ cur.toList.drop (o + n * i.size + news.length) := by
          simp only [List.append_assoc]
          rw [List.drop_append_of_le_length (by simp; omega), List.drop_take]
          simp
        rw [e1, htake, ← hlen]
        exact List.take_left
      · simp only [List.size_toArray, List.length_append, List.length_take, List.length_drop, Array.length_toList]
        omega
      · have e1 : (cur.toList.take (o + n * i.size) ++ news ++ cur.toList.drop (o + n * i.size + news.length)).toArray.toList.drop o = (cur.toList.drop o).take (n * i.size) ++ news ++ cur.toList.drop (o + n * i.size + news.length) := by
          simp only [List.append_assoc]
          rw [List.drop_append_of_le_length (by simp; omega), List.drop_take]
          simp
        rw [e1, htake, ← hown.1, List.append_assoc]
        exact List.take_left
    · have holds : ∀ j u, xs[j]? = some u → w.drew.cell? ((⟨g, o, none⟩ : Addr).add j) = some u := by
        intro j u hu
        rw [Addr.add_lit]
        show w.cell? _ = _
        rw [cell_of_row w g (o + j) cur t fr hg]
        rw [← htake, List.getElem?_take] at hu
        split at hu
        · rw [List.getElem?_drop] at hu; simpa using hu
        · cases hu
      have hfo := run_firstCells_some (P := P) w.drew i.size n ⟨g, o, none⟩ n cap xs hown.1 holds
      have hf0 := hfit cap (by omega)
      refine ⟨_, _, ?_, grown cap (by omega), hgro cap _, .inr rfl, Row.alloc (Row.drew hown) _⟩
      have hb0 : ¬ i.bytes = 0 := by omega
      simp [Builtin.append_, run_underlying ht, run_underlying hd, sizeOf, typeInfo, zeroValue, hi, hz, hL, hroom, hf0, hfD, hfo, Question.forced, newRow, grownCap, hb0]
      congr 2
      apply Array.ext'
      simp [List.append_assoc]

theorem wp_app2 {o : Oper} {a : Act} {K : Act → World → Prop} {Q : Exit → Act → World → Prop} (s x : Operand) (ts tx : TypeId)
    (ho : o.op = .call { callee := .builtin .append, args := #[s, x], argTypes := #[ts, tx] })
    (base : Nat) (e : TypeId) (i : TypeInfo) (z : Value) (size bytes : Nat) (ht : P.underlying ts = some (.slice e)) (hi : P.info? e = some i) (hz : i.zero = some z)
    (hsize : i.size = size) (hby : i.bytes = bytes) (hzs : z.cells.size = size)
    (v : Value) (n : Nat) (xs : List Value) (hs : a.eval s = v) (hown : Row w base size v n xs) (xv : Value) (m : Nat) (news : List Value) (hxv : a.eval x = xv) (hx : Src P w tx size xv m news)
    (hmax : n + m ≤ 140737488355328) (hbytes : (n + m) * bytes ≤ 140737488355328) (hb1 : 0 < bytes) (hbase : base ≤ w.heap.size)
    (h : ∀ v' w', Row w' base size v' (n + m) (xs ++ news) → w.grownBy w' v.ownBlock → (v'.ownBlock = v.ownBlock ∨ v'.ownBlock = some w.heap.size) → Row w' base size v n xs → K (a.put o.dst v') w') : o.wp P a w K Q := by
  obtain ⟨v', w', hrun, h2, h3, h4, h5⟩ := run_app2 (P := P) w base ts tx o.type e i z size bytes ht hi hz hsize hby hzs v n xs hown xv m news hx hmax hbytes hb1 hbase
  unfold Oper.wp execOp
  simp only [ho, resolve, invoke, builtin, Sem.run_bind, Sem.run_pure, Result.andThen_ok, List.map_toArray, List.map_cons, List.map_nil, hs, hxv, hrun]
  exact h v' w' h2 h3 h4 h5

theorem wpList_app2 {ops : Array Oper} {rest : List Oper} {o : Oper} {a : Act} {Q : Exit → Act → World → Prop} (hgd : o.guard = none) (s x : Operand) (ts tx : TypeId)
    (ho : o.op = .call { callee := .builtin .append, args := #[s, x], argTypes := #[ts, tx] })
    (base : Nat) (e : TypeId) (i : TypeInfo) (z : Value) (size bytes : Nat) (ht : P.underlying ts = some (.slice e)) (hi : P.info? e = some i) (hz : i.zero = some z)
    (hsize : i.size = size) (hby : i.bytes = bytes) (hzs : z.cells.size = size)
    (v : Value) (n : Nat) (xs : List Value) (hs : a.eval s = v) (hown : Row w base size v n xs) (xv : Value) (m : Nat) (news : List Value) (hxv : a.eval x = xv) (hx : Src P w tx size xv m news)
    (hmax : n + m ≤ 140737488355328) (hbytes : (n + m) * bytes ≤ 140737488355328) (hb1 : 0 < bytes) (hbase : base ≤ w.heap.size)
    (h : ∀ v' w', Row w' base size v' (n + m) (xs ++ news) → w.grownBy w' v.ownBlock → (v'.ownBlock = v.ownBlock ∨ v'.ownBlock = some w.heap.size) → Row w' base size v n xs → wpList P ops Q rest (a.put o.dst v') w') : wpList P ops Q (o :: rest) a w :=
  wpList_plain hgd fun _ hK => wp_app2 w s x ts tx ho base e i z size bytes ht hi hz hsize hby hzs v n xs hs hown xv m news hxv hx hmax hbytes hb1 hbase fun v' w' h2 h3 h4 h5 => hK _ _ (h v' w' h2 h3 h4 h5)
end
end Go.Proofs.YtabecgdaiakgiaaDoor
