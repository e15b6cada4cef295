/- Maps whose keys are pointers (blocks of variables). No condition. -/
import Derived.Test.YthgeppdoonbkpaaDskMi
import Derived.LaidEqlPtr
import Derived.MapKept
namespace Go.Proofs.Ythgeppdoonbkpaa
open Go.RowKit Go.MapKept
/-- block b holds cells that are not frozen -/
def IsVar (w : World) (b : Nat) : Prop := ∃ cs t, w.heap[b]? = some (.cells cs t (0, 0))
def ptrV (g : Nat) : Value := .pointer (some ⟨g, 0, none⟩)
/-- the entries are the pairs m, in this order -/
def Ents (es : List MapEntry) (m : List (Nat × Nat)) : Prop := es.map (fun e => (e.key, e.val)) = m.map (fun p => (ptrV p.1, ptrV p.2))
def look (m : List (Nat × Nat)) (g : Nat) : Option Nat := (m.find? (fun p => p.1 == g)).map (·.2)
section
variable {P : Program} {w : World} {k te : TypeId} {j : TypeInfo}
theorem run_equal_ptr (hp : P.underlying k = some (.pointer te)) (hte : P.info? te = some j) (hsz : j.size ≠ 0) {a b : Nat} (ha : IsVar w a) (hb : IsVar w b) :
    (Op.equal k (ptrV a) (ptrV b)).run P w = .ok (a == b) w := by
  unfold ptrV
  by_cases h : a = b
  · subst h
    have h9 : ∀ d : Nat, (Op.equalIn (d + 1) k (.pointer (some ⟨a, 0, none⟩)) (.pointer (some ⟨a, 0, none⟩))).run P w = .ok true w := fun d => by
      simp [Op.equalIn, run_underlying hp, sizeOf, typeInfo, hte, run_sameAddr_same]
    simp [Op.equal, Op.maxDepth, h9 9999]
  · obtain ⟨ca, ta, ea⟩ := ha
    obtain ⟨cb, tb, eb⟩ := hb
    have h9 : ∀ d : Nat, (Op.equalIn (d + 1) k (.pointer (some ⟨a, 0, none⟩)) (.pointer (some ⟨b, 0, none⟩))).run P w = .ok false w := fun d => by
      simp [Op.equalIn, run_underlying hp, sizeOf, typeInfo, hte, hsz, run_sameAddr_other w (a := ⟨a, 0, none⟩) (b := ⟨b, 0, none⟩) (by intro e; injection e with e; exact h e) ea eb]
    have hb2 : (a == b) = false := by rw [beq_eq_false_iff_ne]; exact h
    rw [hb2]
    simp [Op.equal, Op.maxDepth, h9 9999]
theorem look_cons (a b g : Nat) (m : List (Nat × Nat)) : look ((a, b) :: m) g = if a = g then some b else look m g := by
  unfold look
  rw [List.find?_cons]
  by_cases h : a = g
  · subst h; simp
  · have : (a == g) = false := by rw [beq_eq_false_iff_ne]; exact h
    simp [this, h]
theorem run_find (hp : P.underlying k = some (.pointer te)) (hte : P.info? te = some j) (hsz : j.size ≠ 0) {g : Nat} (hg : IsVar w g) : ∀ (es : List MapEntry) (m : List (Nat × Nat)) (i : Nat), Ents es m → (∀ p ∈ m, IsVar w p.1) →
    (look m g = none ∧ (Instr.findAsking k (ptrV g) es i).run P w = .ok none w) ∨ ∃ x g' e, look m g = some g' ∧ (Instr.findAsking k (ptrV g) es i).run P w = .ok (some (i + x, ptrV g')) w ∧ es[x]? = some e ∧ e.key = ptrV g
  | [], m, i, he, _ => by
    cases m with
    | nil => exact .inl ⟨rfl, by simp [Instr.findAsking, Sem.run_pure]⟩
    | cons p m => simp [Ents] at he
  | e :: es, m, i, he, hv => by
    cases m with
    | nil => simp [Ents] at he
    | cons p m =>
      obtain ⟨a, b⟩ := p
      simp only [Ents, List.map_cons, List.cons.injEq, Prod.mk.injEq] at he
      obtain ⟨⟨h1, h2⟩, h3⟩ := he
      have heq := run_equal_ptr (w := w) hp hte hsz hg (hv (a, b) List.mem_cons_self)
      rw [look_cons]
      by_cases h : a = g
      · subst h
        refine .inr ⟨0, b, e, by rw [if_pos rfl], ?_, rfl, h1⟩
        simp [Instr.findAsking, h1, h2, heq, Sem.run_bind, Sem.run_pure]
      · have hb : (g == a) = false := by rw [beq_eq_false_iff_ne]; exact fun x => h x.symm
        rw [hb] at heq
        have ih := run_find hp hte hsz hg es m (i + 1) h3 (fun p hp => hv p (List.mem_cons_of_mem _ hp))
        have hr : (Instr.findAsking k (ptrV g) (e :: es) i).run P w = (Instr.findAsking k (ptrV g) es (i + 1)).run P w := by
          simp [Instr.findAsking, h1, heq, Sem.run_bind]
        rw [if_neg h, hr]
        rcases ih with ⟨i1, i2⟩ | ⟨x, g', e2, i1, i2, i3, i4⟩
        · exact .inl ⟨i1, i2⟩
        · exact .inr ⟨x + 1, g', e2, i1, by rw [i2]; congr 3; omega, by simpa using i3, i4⟩
theorem run_findKey_ptr (hp : P.underlying k = some (.pointer te)) (hte : P.info? te = some j) (hsz : j.size ≠ 0) {g : Nat} (hg : IsVar w g) (es : List MapEntry) (m : List (Nat × Nat)) (he : Ents es m) (hv : ∀ p ∈ m, IsVar w p.1) :
    (look m g = none ∧ (Instr.findKey k (ptrV g) es).run P w = .ok none w) ∨ ∃ x g' e, look m g = some g' ∧ (Instr.findKey k (ptrV g) es).run P w = .ok (some (x, ptrV g')) w ∧ es[x]? = some e ∧ e.key = ptrV g := by
  have h := run_find hp hte hsz hg es m 0 he hv
  have hf : (Instr.findKey k (ptrV g) es).run P w = (Instr.findAsking k (ptrV g) es 0).run P w := by
    cases es with
    | nil => simp [Instr.findKey, run_underlying hp, Instr.findNow, Instr.findAsking, Sem.run_bind, Sem.run_pure]
    | cons e es =>
      cases m with
      | nil => simp [Ents] at he
      | cons p m =>
        simp only [Ents, List.map_cons, List.cons.injEq, Prod.mk.injEq] at he
        simp [Instr.findKey, run_underlying hp, Instr.findNow, Instr.sameNow, ptrV, he.1.1, Sem.run_bind]
  rw [hf]
  simpa using h
/-- block b is a map from blocks to blocks -/
def PMap (w : World) (b : Nat) (m : List (Nat × Nat)) : Prop := ∃ es clock, w.heap[b]? = some (.map es clock) ∧ Ents es.toList m
theorem pmap_lookup {t : TypeId} (ht : P.underlying t = some (.map k k)) (hp : P.underlying k = some (.pointer te)) (hte : P.info? te = some j) (hsz : j.size ≠ 0) (hz : (zeroValue k).run P w = .ok (.pointer none) w) {b g : Nat} {m : List (Nat × Nat)} (hm : PMap w b m) (hv : ∀ p ∈ m, IsVar w p.1) (hg : IsVar w g) :
    (Instr.lookup t (.map (some b)) (ptrV g) false).run P w = .ok (match look m g with | some g' => ptrV g' | none => .pointer none) w := by
  obtain ⟨es, clock, hb, he⟩ := hm
  have hck : (Instr.checkKey es.isEmpty 10000 k (ptrV g)).run P w = .ok () w := (fun n => by simp [Instr.checkKey, run_underlying hp, ptrV, Sem.run_bind, Sem.run_pure] : ∀ n : Nat, (Instr.checkKey es.isEmpty (n + 1) k (ptrV g)).run P w = .ok () w) 9999
  rcases run_findKey_ptr hp hte hsz hg es.toList m he hv with ⟨h1, h2⟩ | ⟨x, g', e, h1, h2, _, _⟩
  · rw [h1]
    simp [Instr.lookup, run_underlying ht, Go.MapKept.run_getObj_map hb, hck, h2, hz, Sem.run_bind, Sem.run_pure]
  · rw [h1]
    simp [Instr.lookup, run_underlying ht, Go.MapKept.run_getObj_map hb, hck, h2, Sem.run_bind, Sem.run_pure]
/-- a new entry -/
theorem pmap_update {t : TypeId} (ht : P.underlying t = some (.map k k)) (hp : P.underlying k = some (.pointer te)) (hte : P.info? te = some j) (hsz : j.size ≠ 0) {b g g' : Nat} {m : List (Nat × Nat)} (hm : PMap w b m) (hv : ∀ p ∈ m, IsVar w p.1) (hg : IsVar w g) (hno : look m g = none) :
    ∃ w', (Instr.mapUpdate t (.map (some b)) (ptrV g) (ptrV g')).run P w = .ok () w' ∧ PMap w' b (m ++ [(g, g')]) ∧ Chg (fun x => x = b) w w' ∧ w'.heap.size = w.heap.size := by
  obtain ⟨es, clock, hb, he⟩ := hm
  have hck : (Instr.checkKey false 10000 k (ptrV g)).run P w = .ok () w := (fun n => by simp [Instr.checkKey, run_underlying hp, ptrV, Sem.run_bind, Sem.run_pure] : ∀ n : Nat, (Instr.checkKey false (n + 1) k (ptrV g)).run P w = .ok () w) 9999
  rcases run_findKey_ptr hp hte hsz hg es.toList m he hv with ⟨_, h2⟩ | ⟨x, q, e, h1, _⟩
  · have hlt : b < w.heap.size := (Array.getElem?_eq_some_iff.1 hb).1
    refine ⟨{ w with heap := w.heap.setIfInBounds b (.map (es.push { key := ptrV g, val := ptrV g', born := clock }) (clock + 1)) }, ?_, ⟨es.push { key := ptrV g, val := ptrV g', born := clock }, clock + 1, by simp [hlt], ?_⟩, ⟨rfl, rfl, rfl, by simp, fun x _ hx => by simp [Ne.symm hx]⟩, by simp⟩
    · simp [Instr.mapUpdate, run_underlying ht, Go.MapKept.run_getObj_map hb, hck, h2, Go.MapKept.run_setObj_map _ hb, Sem.run_bind]
    · unfold Ents at he ⊢
      simp [he]
  · rw [hno] at h1; cases h1
end
end Go.Proofs.Ythgeppdoonbkpaa
