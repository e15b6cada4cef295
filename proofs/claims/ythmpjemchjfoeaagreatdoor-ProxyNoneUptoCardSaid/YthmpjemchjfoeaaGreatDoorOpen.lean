/-
  From a walk that ends '.bool true' and leaves what was there alone, to the row's own post; arguments opened. No condition.
-/
import Derived.Test.YthmpjemchjfoeaaGreatDoorKit
import Derived.ProofKit
import Derived.OpenShut
import Derived.SizedLaws
import Derived.Carry
namespace Go.Proofs.YthmpjemchjfoeaaGreatDoor
open Go.ChangeShapes Go.WideShapes Go.ChangeAt Go.RowKit
open Go.ChangeMaps (open_string shut_string)

section
variable {H : Type} {enc : TypeId × Value → H} {P : Program}

theorem trodAll_below (hl : laidOutB P = true) {W W' : World} (hb : Below W.heap.size W W') : ∀ {ts : List TypeId} {vs : List Value} {ds : List (DataW H)} {ps : List MemPlace},
    (ts.all fun t => P.readableRec t && decide (t < P.types.size)) = true → DataW.TrodAll enc P W 0 (fun _ => true) true ts vs ds ps → (∀ x ∈ ps, x.block < W.heap.size) →
    DataW.TrodAll enc P W' 0 (fun b => decide (b < W.heap.size)) true ts vs ds ps
  | [], vs, ds, ps, _, h, _ => by
    obtain ⟨rfl, rfl, rfl⟩ := trodAll_nil h
    exact trodAll_mk0
  | t :: ts, vs, ds, ps, hr, h, hlt => by
    simp only [List.all_cons, Bool.and_eq_true, decide_eq_true_eq] at hr
    obtain ⟨v, vs', d, ds', p, q, rfl, rfl, rfl, h0, h1⟩ := trodAll_cons h
    exact ⟨p, q, Below.trod hl hr.1.1 hr.1.2 h0 hb (fun x hx => hlt x (by simp [hx])), trodAll_below hl hb hr.2 h1 (fun x hx => hlt x (by simp [hx])), rfl⟩

/-- THE POST OF A LAW. -/
theorem law_post {f : Func} {s : ChangeSpec} {W W' : World} {args : Array Value} {ds gs : List (DataW H)} {before : List MemPlace} {tb : TypeId}
    (hW : DataW.Whole enc P f.params.toList s.vars false W args.toList ds gs before) (hv : s.vars = []) (hfn : s.fn H (ds ++ gs) = { results := [.lit (.bool true)], args := ds })
    (hres : f.resultTypes = #[tb]) (hbool : P.underlying tb = some .bool) (hl : laidOutB P = true) (hr : (f.params.toList.all fun t => P.readableRec t && decide (t < P.types.size)) = true)
    (hb : Below W.heap.size W W') : s.post enc P f false true false false W args (.bool true) W' := by
  have hW' := hW
  obtain ⟨p, q, hA, hV, rfl, hz, hn⟩ := hW
  have hlt : ∀ x ∈ p, x.block < W.heap.size := fun x hx => hW'.lt x (by simp [hx])
  refine ⟨ds, gs, p ++ q, [], p, [], hW', ?_, ?_, ?_, hb.frame _, fun h => by cases h⟩
  · rw [hfn, hres]
    exact trodAll_mk1 (shut_bool hbool true)
  · rw [hfn]
    exact trodAll_below hl hb hr hA hlt
  · rw [hfn, hv]
    rfl

theorem wf_u8 {x : Int} (h : (Lit.int .u8 x).wf = true) : 0 ≤ x ∧ x < 256 := by
  have := bounds_u8 h
  omega

/-- bytes that came in -/
theorem open_bytes {t e : TypeId} (ht : P.underlying t = some (.slice e)) (he : P.underlying e = some (.int .u8)) (hc : P.cellsOf e = 1) {W : World} {base : Nat} {v : Value} {d : DataW H} {p : List MemPlace}
    (hv : Value.okWide P W .any base t v) (h : DataW.Trod enc P W 0 (fun _ => true) true t v d p) :
    ∃ (A : Option Addr) (n c : Nat) (l : List UInt8), v = .slice A n c ∧ n ≤ c ∧ c ≤ maxLen ∧ (A = none → n = 0) ∧ Rd W W.heap.size 1 A n (bytesV l) ∧
      (d = .nil ∧ n = 0 ∧ l = [] ∨ ∃ es sp : List (DataW H), d = .slice es sp ∧ es.length = n ∧ es.length + sp.length = c ∧ es = l.map fun b => .lit (.int .u8 (b.toNat : Int))) := by
  obtain ⟨a0, len, cap, rfl⟩ := okWide_slice ht hv
  obtain ⟨fuel, hf⟩ := h
  rcases open_ints ht he hc hf with ⟨hcs, hx⟩ | ⟨a, len', cap', zs, hcs, hsp, hle, hm, hz, hx, hcell, hwz⟩
  · obtain ⟨rfl, rfl, rfl⟩ : a0 = none ∧ len = 0 ∧ cap = 0 := by simpa [Value.cells] using hcs
    exact ⟨none, 0, 0, [], rfl, Nat.le_refl _, by simp [maxLen], fun _ => rfl, Rd.nil _ _ _ _, .inl ⟨by simpa using congrArg Prod.fst hx, rfl, rfl⟩⟩
  · obtain ⟨rfl, rfl, rfl⟩ : a0 = some a ∧ len = len' ∧ cap = cap' := by simpa [Value.cells] using hcs
    have hz' : zs.length = cap := by simpa using hz
    have hall : ∀ z ∈ zs, 0 ≤ z ∧ z < 256 := fun z h => wf_u8 (hwz z h)
    have hb : ∀ xs : List Int, (∀ z ∈ xs, 0 ≤ z ∧ z < 256) → bytesV (xs.map fun z => UInt8.ofNat z.toNat) = xs.map (Value.int .u8) ∧ (xs.map fun z => UInt8.ofNat z.toNat).map (fun b => (b.toNat : Int)) = xs := by
      intro xs
      induction xs with
      | nil => intro _; exact ⟨rfl, rfl⟩
      | cons z xs ih =>
        intro h
        obtain ⟨i1, i2⟩ := ih fun y hy => h y (by simp [hy])
        have h0 := h z (by simp)
        have e : ((UInt8.ofNat z.toNat).toNat : Int) = z := by
          rw [UInt8.toNat_ofNat', Nat.mod_eq_of_lt (by omega)]; omega
        constructor
        · simp only [bytesV, List.map_cons, e] at i1 ⊢
          rw [i1]
        · simp only [List.map_cons, e, i2]
    obtain ⟨b1, b2⟩ := hb (zs.take len) fun z h => hall z (List.mem_of_mem_take h)
    refine ⟨some a, len, cap, (zs.take len).map fun z => UInt8.ofNat z.toNat, rfl, hle, hm, (fun e => by cases e), ?_, .inr ⟨lits .u8 (zs.take len), lits .u8 (zs.drop len), by simpa using congrArg Prod.fst hx, ?_, ?_, ?_⟩⟩
    · refine ⟨by rw [bytesV_len]; simp; omega, fun hn => ?_⟩
      obtain ⟨g, o, sp⟩ := a
      obtain rfl : sp = none := by simpa [Addr.add] using World.cell?_spot (hcell 0 (by omega))
      refine ⟨g, o, rfl, cell_lt (by have := hcell 0 (by omega); rw [Addr.add_lit] at this; exact this), fun j u hu => ?_⟩
      rw [b1] at hu
      have hj : j < len := by
        have := (List.getElem?_eq_some_iff.1 hu).1
        simp at this
        omega
      have h1 := hcell j (by omega)
      rw [Addr.add_lit] at h1
      rw [h1]
      have : (List.map (Value.int .u8) (List.take len zs))[j]? = some (.int .u8 (zs.getD j 0)) := by
        simp [hj, List.getD, show j < zs.length by omega]
      rw [this] at hu
      exact hu
    · simp [lits]; omega
    · simp [lits]; omega
    · show (zs.take len).map _ = _
      rw [List.map_map]
      refine List.map_congr_left fun z hz => ?_
      have h0 := hall z (List.mem_of_mem_take hz)
      have e : ((UInt8.ofNat z.toNat).toNat : Int) = z := by
        rw [UInt8.toNat_ofNat', Nat.mod_eq_of_lt (by omega)]; omega
      simp only [Function.comp, e]
end
end Go.Proofs.YthmpjemchjfoeaaGreatDoor
