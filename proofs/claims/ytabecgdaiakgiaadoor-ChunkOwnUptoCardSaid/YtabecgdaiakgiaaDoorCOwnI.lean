/- What the law ChunkOwn looks at in the end. No condition. -/
import Derived.Test.YtabecgdaiakgiaaDoorCOwnH
namespace Go.Proofs.YtabecgdaiakgiaaDoor
open Go.RowKit

theorem cellOn {w w' : World} (h : Below w.heap.size w w') {p : Addr} {v : Value} (hc : w.cell? p = some v) : w'.cell? p = some v := by
  by_cases hp : p.block < w.heap.size
  · rw [h.cell hp]; exact hc
  · have hn : w.heap[p.block]? = none := Array.getElem?_eq_none (by omega)
    simp [World.cell?, hn] at hc
theorem Row.at {w : World} {base sz n c : Nat} {A : Option Addr} {xs : List Value} (h : Row w base sz (.slice A n c) n xs) (hn : 0 < n) : ∃ g o, A = some ⟨g, o, none⟩ ∧ ∀ j u, xs[j]? = some u → w.cell? ⟨g, o + j, none⟩ = some u := by
  obtain ⟨g, o, e, _, _, hc, _⟩ := h.own hn
  exact ⟨g, o, e, hc⟩
theorem LongSt.check {w wr : World} {la ll lo : List El} {gc oc cv gk ok co : Nat} {vl : Value} (h : LongSt w wr la ll (.slice (some ⟨gc, oc, none⟩) 12 cv) vl 12 lo (.slice (some ⟨gk, ok, none⟩) 12 co)) (hd : DoneA la 12) {j : Nat} {e : El} (he : la[j]? = some e) :
    ∃ gf of cf Ae ce, wr.cell? ⟨gc, oc + j, none⟩ = some (.slice Ae e.n ce) ∧ wr.cell? ⟨gk, ok + j, none⟩ = some (.slice (some ⟨gf, of, none⟩) (e.n + 1) cf) ∧
      (∀ r, r < e.n → ∃ ge oe, Ae = some ⟨ge, oe, none⟩ ∧ wr.cell? ⟨ge, oe + r, none⟩ = some (.int .u8 (3 * (j : Int))) ∧ wr.cell? ⟨gf, of + r, none⟩ = some (.int .u8 (3 * (j : Int)))) ∧ wr.cell? ⟨gf, of + e.n, none⟩ = some (.int .u8 (3 * (j : Int) + 1)) := by
  have hjl : j < 12 := by have := (List.getElem?_eq_some_iff.1 he).1; have := h.st.na; omega
  have hll := h.len
  have hf : lo[j]? = some (lo[j]'(by omega)) := List.getElem?_eq_getElem (by omega)
  generalize lo[j]'(by omega) = f at hf
  obtain ⟨p1, p2, p3, _⟩ := h.el j e f he hf
  have hrow := h.st.two.fa.row e (List.mem_of_getElem? he)
  obtain ⟨Ae, ce, e3, _, _, _, _⟩ := hrow.form
  obtain ⟨Af, cf, f3, _, _, _, _⟩ := p3.form
  have hcc := h.st.cellA he
  rw [e3] at hrow hcc
  rw [f3, p1, p2] at p3
  obtain ⟨gf, of, rfl, hcf⟩ := p3.at (by omega)
  obtain ⟨gk', ok', e4, hck⟩ := h.c.at (by omega)
  injection e4 with e4
  injection e4 with e5 e6 _
  subst e5 e6
  have hck2 := hck j f.v (by rw [List.getElem?_map, hf]; rfl)
  rw [f3, p1] at hck2
  have hxl := hrow.1
  refine ⟨gf, of, cf, Ae, ce, hcc, hck2, fun r hr => ?_, ?_⟩
  · obtain ⟨ge, oe, rfl, hce⟩ := hrow.at (by omega)
    have hx := hd j hjl e he r hr
    exact ⟨ge, oe, rfl, hce r _ hx, hcf r _ (by rw [List.getElem?_append_left (by omega)]; exact hx)⟩
  · exact hcf e.n _ (by rw [List.getElem?_append_right (by omega), hxl]; simp)
theorem MoreSt.check {w wr : World} {la ll lo mo : List El} {gl ol cl gm om cm : Nat} {va vo : Value} (h : MoreSt w wr la ll lo va (.slice (some ⟨gl, ol, none⟩) 9 cl) vo 9 mo (.slice (some ⟨gm, om, none⟩) 9 cm)) (hd : DoneL ll 9) {j : Nat} {e : El} (he : ll[j]? = some e) :
    ∃ gf of cf Ae ce, wr.cell? ⟨gl, ol + j, none⟩ = some (.slice Ae e.n ce) ∧ wr.cell? ⟨gm, om + j, none⟩ = some (.slice (some ⟨gf, of, none⟩) (e.n + 1) cf) ∧
      (∀ r, r < e.n → ∃ ge oe, Ae = some ⟨ge, oe, none⟩ ∧ wr.cell? ⟨ge, oe + r * 2 + 1, none⟩ = some (.string ⟨#[UInt8.ofNat j]⟩) ∧ wr.cell? ⟨gf, of + r * 2, none⟩ = some (.string ⟨#[111, 119, 110]⟩)) ∧ wr.cell? ⟨gf, of + e.n * 2, none⟩ = some (.string ⟨#[109, 111, 114, 101]⟩) ∧ wr.cell? ⟨gf, of + e.n * 2 + 1, none⟩ = some (.string ⟨#[UInt8.ofNat j]⟩) := by
  have hjl : j < 9 := by have := (List.getElem?_eq_some_iff.1 he).1; have := h.lg.st.nl; omega
  have hll := h.len
  have hf : mo[j]? = some (mo[j]'(by omega)) := List.getElem?_eq_getElem (by omega)
  generalize mo[j]'(by omega) = f at hf
  obtain ⟨p1, p2, p3, _⟩ := h.el j e f he hf
  have hrow := h.lg.st.two.fl.row e (List.mem_of_getElem? he)
  obtain ⟨Ae, ce, e3, _, _, _, _⟩ := hrow.form
  obtain ⟨Af, cf, f3, _, _, _, _⟩ := p3.form
  have hcc := h.lg.st.cellL he
  rw [e3] at hrow hcc
  rw [f3, p1, p2] at p3
  obtain ⟨gf, of, rfl, hcf⟩ := p3.at (by omega)
  obtain ⟨gk', ok', e4, hck⟩ := h.c.at (by omega)
  injection e4 with e4
  injection e4 with e5 e6 _
  subst e5 e6
  have hck2 := hck j f.v (by rw [List.getElem?_map, hf]; rfl)
  rw [f3, p1] at hck2
  have hxl := hrow.1
  refine ⟨gf, of, cf, Ae, ce, hcc, hck2, fun r hr => ?_, ?_, ?_⟩
  · obtain ⟨ge, oe, rfl, hce⟩ := hrow.at (by omega)
    obtain ⟨hx1, hx2⟩ := hd j hjl e he r hr
    exact ⟨ge, oe, rfl, hce (r * 2 + 1) _ hx2, hcf (r * 2) _ (by rw [List.getElem?_append_left (by omega)]; exact hx1)⟩
  · exact hcf (e.n * 2) _ (by rw [List.getElem?_append_right (by omega), hxl, Nat.sub_self]; rfl)
  · exact hcf (e.n * 2 + 1) _ (by rw [List.getElem?_append_right (by omega), hxl, show e.n * 2 + 1 - e.n * 2 = 1 by omega]; rfl)
end Go.Proofs.YtabecgdaiakgiaaDoor
