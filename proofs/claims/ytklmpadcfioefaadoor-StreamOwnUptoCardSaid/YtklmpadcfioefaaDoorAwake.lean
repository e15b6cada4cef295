/- the law's 'awake', and head.Parse in the forms that a law's walk wants. Condition: the library's variable. -/
import Derived.Test.YtklmpadcfioefaaDoorParse
import Derived.Test.YtklmpadcfioefaaDoorMA
import Derived.Lib.SmallJoins
import Derived.Lib.SlBytesConst
namespace Go.Proofs.YtklmpadcfioefaaDoor
open Go.RowKit

theorem hParse_lit (A : Option Addr) (n c : Nat) (l : Bs) (rq : Bool) (w : World) (hsh : w.ShapedOpen Tryd.prog) (hA : A = none → n = 0) (hrd : Rd w w.heap.size 1 A n (bytesV l)) (hn : n ≤ 16777216) {h : Hd} {e0 : Nat} (hp : parseP l rq = (h, e0)) :
    Calls Tryd.prog 22 #[.slice A n c, .bool rq] w fun e w' => ∃ A' c', e = .returned (.tuple #[.agg #[.bool h.rq, .string ⟨h.m.toArray⟩, .string ⟨h.t.toArray⟩, .int .i64 (h.st : Int), .string ⟨h.rs.toArray⟩, .int .i64 (h.mn : Int), .slice A' h.fs.length c'], .int .i64 (e0 : Int)]) ∧
      Row w' w.heap.size 2 (.slice A' h.fs.length c') h.fs.length (fieldsV (flB h.fs)) ∧ Below w.heap.size w w' :=
  (hParse_any A n c l rq w hsh hA hrd hn).mono fun e w' ⟨v, h1, h2, h3⟩ => by
    rw [hp] at h1 h2
    obtain ⟨A', c', rfl, _⟩ := h2.form
    exact ⟨A', c', h1, h2, h3⟩

def awA : Bs := [71, 69, 84, 32, 47, 97, 32, 72, 84, 84, 80, 47, 49, 46, 49, 13, 10, 72, 111, 115, 116, 58, 32, 120, 13, 10, 13, 10]
def awB : Bs := [71, 69, 84, 32, 32, 47, 97, 32, 72, 84, 84, 80, 47, 49, 46, 49, 13, 10, 13, 10]
theorem parse_awA : parseP awA true = ({ rq := true, m := [71, 69, 84], t := [47, 97], mn := 1, fs := [([72, 111, 115, 116], [120])] }, 0) := by kernel_rfl
theorem parse_awB : parseP awB true = ({}, 220) := by kernel_rfl

theorem Rd.built (w : World) (us : List Value) (t : TypeId) (fr : Nat × Nat) (n : Nat) (h : us.length = n) : Rd (w.alloc (.cells us.toArray t fr)) (w.alloc (.cells us.toArray t fr)).heap.size 1 (some ⟨w.heap.size, 0, none⟩) n us :=
  ⟨by omega, fun _ => ⟨w.heap.size, 0, rfl, by simp, fun j u hu => by
    rw [Nat.zero_add, World.cell?_alloc_mark]
    simpa using hu⟩⟩

theorem litA : ([.int .u8 71, .int .u8 69, .int .u8 84, .int .u8 32, .int .u8 47, .int .u8 97, .int .u8 32, .int .u8 72, .int .u8 84, .int .u8 84, .int .u8 80, .int .u8 47, .int .u8 49, .int .u8 46, .int .u8 49, .int .u8 13, .int .u8 10, .int .u8 72, .int .u8 111, .int .u8 115, .int .u8 116, .int .u8 58, .int .u8 32, .int .u8 120, .int .u8 13, .int .u8 10, .int .u8 13, .int .u8 10] : List Value) = bytesV awA := by kernel_rfl
theorem litB : ([.int .u8 71, .int .u8 69, .int .u8 84, .int .u8 32, .int .u8 32, .int .u8 47, .int .u8 97, .int .u8 32, .int .u8 72, .int .u8 84, .int .u8 84, .int .u8 80, .int .u8 47, .int .u8 49, .int .u8 46, .int .u8 49, .int .u8 13, .int .u8 10, .int .u8 13, .int .u8 10] : List Value) = bytesV awB := by kernel_rfl
theorem parse_A (w : World) (hsh : w.ShapedOpen Tryd.prog) : Calls Tryd.prog 22 #[.slice (some ⟨w.heap.size, 0, none⟩) 28 28, .bool true] (w.alloc (.cells #[.int .u8 71, .int .u8 69, .int .u8 84, .int .u8 32, .int .u8 47, .int .u8 97, .int .u8 32, .int .u8 72, .int .u8 84, .int .u8 84, .int .u8 80, .int .u8 47, .int .u8 49, .int .u8 46, .int .u8 49, .int .u8 13, .int .u8 10, .int .u8 72, .int .u8 111, .int .u8 115, .int .u8 116, .int .u8 58, .int .u8 32, .int .u8 120, .int .u8 13, .int .u8 10, .int .u8 13, .int .u8 10] 5 (28, 29))) fun e w' =>
    ∃ g o c', e = .returned (.tuple #[.agg #[.bool true, .string ⟨#[71, 69, 84]⟩, .string ⟨#[47, 97]⟩, .int .i64 0, .string ⟨#[]⟩, .int .i64 1, .slice (some ⟨g, o, none⟩) 1 c'], .int .i64 0]) ∧ w'.cell? ⟨g, o + 1, none⟩ = some (.string ⟨#[120]⟩) ∧ g < w'.heap.size ∧ Below w.heap.size w w' := by
  have hr : Rd (w.alloc (.cells #[.int .u8 71, .int .u8 69, .int .u8 84, .int .u8 32, .int .u8 47, .int .u8 97, .int .u8 32, .int .u8 72, .int .u8 84, .int .u8 84, .int .u8 80, .int .u8 47, .int .u8 49, .int .u8 46, .int .u8 49, .int .u8 13, .int .u8 10, .int .u8 72, .int .u8 111, .int .u8 115, .int .u8 116, .int .u8 58, .int .u8 32, .int .u8 120, .int .u8 13, .int .u8 10, .int .u8 13, .int .u8 10] 5 (28, 29))) (w.alloc (.cells #[.int .u8 71, .int .u8 69, .int .u8 84, .int .u8 32, .int .u8 47, .int .u8 97, .int .u8 32, .int .u8 72, .int .u8 84, .int .u8 84, .int .u8 80, .int .u8 47, .int .u8 49, .int .u8 46, .int .u8 49, .int .u8 13, .int .u8 10, .int .u8 72, .int .u8 111, .int .u8 115, .int .u8 116, .int .u8 58, .int .u8 32, .int .u8 120, .int .u8 13, .int .u8 10, .int .u8 13, .int .u8 10] 5 (28, 29))).heap.size 1 (some ⟨w.heap.size, 0, none⟩) 28 (bytesV awA) := by
    have h := Rd.built w (bytesV awA) 5 (28, 29) 28 (by kernel_rfl)
    rw [← litA] at h ⊢
    exact h
  refine (hParse_lit (some ⟨w.heap.size, 0, none⟩) 28 28 awA true _ (shaped_below hsh ((Below.refl _ _).alloc (Nat.le_refl _) _)) (fun e => by cases e) hr (by omega) parse_awA).mono ?_
  rintro e w' ⟨A', c', rfl, hrow, hb⟩
  obtain ⟨A2, c2, e2, _, _, _, hrd⟩ := hrow.form
  injection e2 with e2 _ e3
  subst e2 e3
  obtain ⟨g, o, rfl, hg, hcell⟩ := hrd.2 (by simp)
  exact ⟨g, o, c', rfl, hcell 1 _ rfl, hg, ((Below.refl _ w).alloc (Nat.le_refl _) _).trans (hb.mono (by simp))⟩
theorem parse_B (w : World) (hsh : w.ShapedOpen Tryd.prog) : Calls Tryd.prog 22 #[.slice (some ⟨w.heap.size, 0, none⟩) 20 20, .bool true] (w.alloc (.cells #[.int .u8 71, .int .u8 69, .int .u8 84, .int .u8 32, .int .u8 32, .int .u8 47, .int .u8 97, .int .u8 32, .int .u8 72, .int .u8 84, .int .u8 84, .int .u8 80, .int .u8 47, .int .u8 49, .int .u8 46, .int .u8 49, .int .u8 13, .int .u8 10, .int .u8 13, .int .u8 10] 5 (20, 21))) fun e w' =>
    ∃ A2 c2, e = .returned (.tuple #[.agg #[.bool false, .string ⟨#[]⟩, .string ⟨#[]⟩, .int .i64 0, .string ⟨#[]⟩, .int .i64 0, .slice A2 0 c2], .int .i64 220]) ∧ Below w.heap.size w w' := by
  have hr : Rd (w.alloc (.cells #[.int .u8 71, .int .u8 69, .int .u8 84, .int .u8 32, .int .u8 32, .int .u8 47, .int .u8 97, .int .u8 32, .int .u8 72, .int .u8 84, .int .u8 84, .int .u8 80, .int .u8 47, .int .u8 49, .int .u8 46, .int .u8 49, .int .u8 13, .int .u8 10, .int .u8 13, .int .u8 10] 5 (20, 21))) (w.alloc (.cells #[.int .u8 71, .int .u8 69, .int .u8 84, .int .u8 32, .int .u8 32, .int .u8 47, .int .u8 97, .int .u8 32, .int .u8 72, .int .u8 84, .int .u8 84, .int .u8 80, .int .u8 47, .int .u8 49, .int .u8 46, .int .u8 49, .int .u8 13, .int .u8 10, .int .u8 13, .int .u8 10] 5 (20, 21))).heap.size 1 (some ⟨w.heap.size, 0, none⟩) 20 (bytesV awB) := by
    have h := Rd.built w (bytesV awB) 5 (20, 21) 20 (by kernel_rfl)
    rw [← litB] at h ⊢
    exact h
  refine (hParse_lit (some ⟨w.heap.size, 0, none⟩) 20 20 awB true _ (shaped_below hsh ((Below.refl _ _).alloc (Nat.le_refl _) _)) (fun e => by cases e) hr (by omega) parse_awB).mono ?_
  rintro e w' ⟨A', c', rfl, hrow, hb⟩
  exact ⟨A', c', rfl, ((Below.refl _ w).alloc (Nat.le_refl _) _).trans (hb.mono (by simp))⟩

end Go.Proofs.YtklmpadcfioefaaDoor
