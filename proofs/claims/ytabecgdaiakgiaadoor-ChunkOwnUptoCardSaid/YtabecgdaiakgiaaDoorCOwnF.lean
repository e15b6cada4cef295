/- Lists of fields written over (law ChunkOwn). No condition. -/
import Derived.Test.YtabecgdaiakgiaaDoorCOwnL
namespace Go.Proofs.YtabecgdaiakgiaaDoor
open Go.RowKit

def ownBs : ByteArray := ⟨#[111, 119, 110]⟩
/-- the first j lists of fields are full of their marks -/
def DoneL (ll : List El) (j : Nat) : Prop := ∀ i, i < j → ∀ e, ll[i]? = some e → ∀ r, r < e.n → e.xs[r * 2]? = some (.string ⟨#[111, 119, 110]⟩) ∧ e.xs[r * 2 + 1]? = some (.string ⟨#[UInt8.ofNat i]⟩)
theorem OwnSt.putL {w wr : World} {k : Nat} {la ll : List El} {va vl : Value} (h : OwnSt w wr k la ll va vl) {j : Nat} {e : El} (hj : ll[j]? = some e) {g o c : Nat} (he : e.v = .slice (some ⟨g, o, none⟩) e.n c) {r : Nat} (hr : r < e.n) (u1 u2 : Value) :
    OwnSt w ((wr.setCell ⟨g, o + r * 2, none⟩ u1).setCell ⟨g, o + r * 2 + 1, none⟩ u2) k la (ll.set j { e with xs := (e.xs.set (r * 2) u1).set (r * 2 + 1) u2 }) va vl := by
  have hm : e ∈ ll := List.mem_of_getElem? hj
  have hrow := h.two.fl.row e hm
  have hl := hrow.1
  rw [he] at hrow
  have hs := hrow.set (j := r * 2) (u := u1) (by omega)
  have hs2 := hs.set (j := r * 2 + 1) (u := u2) (by rw [List.length_set]; omega)
  have hlt := hrow.lt g rfl
  refine ⟨h.two.setL hj ?_ (by rw [he]; exact hs2), h.na, by rw [List.length_set]; exact h.nl, h.za, ?_, (h.bl.setCell (p := ⟨g, o + r * 2, none⟩) hlt.1 u1).setCell (p := ⟨g, o + (r * 2 + 1), none⟩) hlt.1 u2⟩
  · rw [he]
    exact ((show Chg (fun k => (Value.slice (some ⟨g, o, none⟩) e.n c).ownBlock = some k) wr wr from Chg.refl _ _).setCell (p := ⟨g, o + r * 2, none⟩) (fun _ => rfl) u1).setCell (p := ⟨g, o + (r * 2 + 1), none⟩) (fun _ => rfl) u2
  · intro f hf
    obtain ⟨i, hi, rfl⟩ := List.getElem_of_mem hf
    rw [List.length_set] at hi
    rw [List.getElem_set]
    split
    · exact h.zl e hm
    · exact h.zl _ (List.getElem_mem _)
theorem DoneL.set {ll : List El} {j : Nat} (h : DoneL ll j) (f : El) : DoneL (ll.set j f) j := fun i hi e he => h i hi e (by rwa [List.getElem?_set_ne (by omega)] at he)
theorem DoneL.more {ll : List El} {j : Nat} {e : El} (h : DoneL ll j) (hj : ll[j]? = some e) (hd : ∀ r, r < e.n → e.xs[r * 2]? = some (.string ⟨#[111, 119, 110]⟩) ∧ e.xs[r * 2 + 1]? = some (.string ⟨#[UInt8.ofNat j]⟩)) : DoneL ll (j + 1) := fun i hi f hf => by
  by_cases hij : i = j
  · subst hij
    rw [hj] at hf
    cases hf
    exact hd
  · exact h i (by omega) f hf
/-- the state lives on what is drawn or laid anew -/
theorem OwnSt.below {w wr W : World} {k : Nat} {la ll : List El} {va vl : Value} (h : OwnSt w wr k la ll va vl) (hb : Below wr.heap.size wr W) : OwnSt w W k la ll va vl :=
  ⟨h.two.below hb, h.na, h.nl, h.za, h.zl, h.bl.trans (hb.mono h.bl.size)⟩
theorem OwnSt.cellL {w wr : World} {k n : Nat} {la ll : List El} {va : Value} {g o c : Nat} (h : OwnSt w wr k la ll va (.slice (some ⟨g, o, none⟩) n c)) {j : Nat} {e : El} (hj : ll[j]? = some e) : wr.cell? ⟨g, o + j, none⟩ = some e.v := by
  obtain ⟨g', o', e1, h1, _⟩ := h.atL hj
  injection e1 with e1
  injection e1 with e1 e2 _
  subst e1 e2
  exact h1
theorem OwnSt.cellA {w wr : World} {k n : Nat} {la ll : List El} {vl : Value} {g o c : Nat} (h : OwnSt w wr k la ll (.slice (some ⟨g, o, none⟩) n c) vl) {j : Nat} {e : El} (hj : la[j]? = some e) : wr.cell? ⟨g, o + j, none⟩ = some e.v := by
  obtain ⟨g', o', e1, h1, _⟩ := h.atA hj
  injection e1 with e1
  injection e1 with e1 e2 _
  subst e1 e2
  exact h1
theorem xs_put {xs : List Value} {r i : Nat} {a b u v : Value} (h0 : xs[r * 2]? = some a) (h1 : xs[r * 2 + 1]? = some b) (hi : i < r + 1) (hx : i < r → xs[i * 2]? = some u ∧ xs[i * 2 + 1]? = some v) :
    ((xs.set (r * 2) u).set (r * 2 + 1) v)[i * 2]? = some u ∧ ((xs.set (r * 2) u).set (r * 2 + 1) v)[i * 2 + 1]? = some v := by
  have l0 := (List.getElem?_eq_some_iff.1 h0).1
  have l1 := (List.getElem?_eq_some_iff.1 h1).1
  by_cases hir : i = r
  · subst hir
    refine ⟨?_, ?_⟩
    · rw [List.getElem?_set_ne (by omega), List.getElem?_set_self l0]
    · rw [List.getElem?_set_self (by rw [List.length_set]; exact l1)]
  · obtain ⟨a1, a2⟩ := hx (by omega)
    refine ⟨?_, ?_⟩
    · rw [List.getElem?_set_ne (by omega), List.getElem?_set_ne (by omega)]; exact a1
    · rw [List.getElem?_set_ne (by omega), List.getElem?_set_ne (by omega)]; exact a2
end Go.Proofs.YtabecgdaiakgiaaDoor
