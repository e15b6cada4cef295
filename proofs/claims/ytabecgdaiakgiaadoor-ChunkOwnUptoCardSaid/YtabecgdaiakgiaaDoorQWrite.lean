/- the document's Write. Conditions: sizes. -/
import Derived.Test.YtabecgdaiakgiaaDoorHexF
namespace Go.Proofs.YtabecgdaiakgiaaDoor
open Go.RowKit

theorem SrcB.of_row {w : World} {base c : Nat} {A : Option Addr} {L : Bs} (h : RowB w base (.slice A L.length c) L) : SrcB w 32 (.slice A L.length c) L := by
  obtain ⟨A', c', e, _, _, h0, hr⟩ := h.form
  injection e with e1 _ e3
  subst e1 e3
  exact SrcB.slice hr (fun e => (h0 e).1)
theorem built_rowB (w : World) (L : Bs) (us : List Value) (n : Nat) (hu : us = bytesV L) (hn : L.length = n) (hm : n ≤ 1048576) : RowB (w.alloc (.cells us.toArray 5)) w.heap.size (.slice (some ⟨w.heap.size, 0, none⟩) n n) L := by
  subst hu hn
  exact built_row w (bytesV L) 5 1 L.length (by rw [bytesV_len]; omega) hm
def digits16 : ByteArray := ⟨#[48, 49, 50, 51, 52, 53, 54, 55, 56, 57, 97, 98, 99, 100, 101, 102]⟩
theorem digits16_get (d : Nat) (h : d < 16) (hh : d < digits16.size) : digits16[d]'hh = Chunk.hexDig d := by
  have key : ∀ d : Fin 16, digits16.data.toList[d.val]? = some (Chunk.hexDig d.val) := by decide
  have := key ⟨d, h⟩
  simp only [List.getElem?_eq_some_iff] at this
  obtain ⟨h1, h2⟩ := this
  rw [← h2]; rfl
end Go.Proofs.YtabecgdaiakgiaaDoor
