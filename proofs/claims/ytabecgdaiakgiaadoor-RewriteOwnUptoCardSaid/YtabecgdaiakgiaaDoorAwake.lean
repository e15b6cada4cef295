/- the law's 'awake', and head.Parse in the forms that a law's walk wants. Condition: the library's variable. -/
import Derived.Test.YtabecgdaiakgiaaDoorParse
import Derived.Test.YtabecgdaiakgiaaDoorMA
import Derived.Lib.SmallJoins
import Derived.Lib.SlBytesConst
namespace Go.Proofs.YtabecgdaiakgiaaDoor
open Go.RowKit

theorem hParse_lit (A : Option Addr) (n c : Nat) (l : Bs) (rq : Bool) (w : World) (hsh : w.ShapedOpen Tryd.prog) (hA : A = none → n = 0) (hrd : Rd w w.heap.size 1 A n (bytesV l)) (hn : n ≤ 16777216) {h : Hd} {e0 : Nat} (hp : parseP l rq = (h, e0)) :
    Calls Tryd.prog 32 #[.slice A n c, .bool rq] w fun e w' => ∃ A' c', e = .returned (.tuple #[.agg #[.bool h.rq, .string ⟨h.m.toArray⟩, .string ⟨h.t.toArray⟩, .int .i64 (h.st : Int), .string ⟨h.rs.toArray⟩, .int .i64 (h.mn : Int), .slice A' h.fs.length c'], .int .i64 (e0 : Int)]) ∧
      Row w' w.heap.size 2 (.slice A' h.fs.length c') h.fs.length (fieldsV (flB h.fs)) ∧ Below w.heap.size w w' :=
  (hParse_any A n c l rq w hsh hA hrd hn).mono fun e w' ⟨v, h1, h2, h3⟩ => by
    rw [hp] at h1 h2
    obtain ⟨A', c', rfl, _⟩ := h2.form
    exact ⟨A', c', h1, h2, h3⟩

def awA : Bs := [71, 69, 84, 32, 47, 97, 32, 72, 84, 84, 80, 47, 49, 46, 49, 13, 10, 72, 111, 115, 116, 58, 32, 120, 13, 10, 13, 10]
def awB : Bs := [71, 69, 84, 32, 32, 47, 97, 32, 72, 84, 84, 80, 47, 49, 46, 49, 13, 10, 13, 10]
theorem parse_awA : parseP awA true = ({ rq := true, m := [71, 69, 84], t := [47, 97], mn := 1, fs := [([72, 111, 115, 116], [120])] }, 0) := by kernel_rfl
theorem parse_awB : parseP awB true = ({}, 220) := by kernel_rfl

theorem Rd.built (w : World) (us : List Value) (t : TypeId) (fr : Nat × Nat) (n : Nat) (h : us.length = n) : Rd (w.alloc (.cells us.toArray t fr)) (w.alloc (.cells us.toArray t fr)).heap.size 1 (some ⟨w.heap.size, 0, none⟩) n us :=
  ⟨by omega, fun _ => ⟨w.heap.size, 0, rfl, by simp, fun j u hu => by
    rw [Nat.zero_add, World.cell?_alloc_mark]
    simpa using hu⟩⟩

theorem litA : ([.int .u8 71, .int .u8 69, .int .u8 84, .int .u8 32, .int .u8 47, .int .u8 97, .int .u8 32, .int .u8 72, .int .u8 84, .int .u8 84, .int .u8 80, .int .u8 47, .int .u8 49, .int .u8 46, .int .u8 49, .int .u8 13, .int .u8 10, .int .u8 72, .int .u8 111, .int .u8 115, .int .u8 116, .int .u8 58, .int .u8 32, .int .u8 120, .int .u8 13, .int .u8 10, .int .u8 13, .int .u8 10] : List Value) = bytesV awA := by kernel_rfl
theorem litB : ([.int .u8 71, .int .u8 69, .int .u8 84, .int .u8 32, .int .u8 32, .int .u8 47, .int .u8 97, .int .u8 32, .int .u8 72, .int .u8 84, .int .u8 84, .int .u8 80, .int .u8 47, .int .u8 49, .int .u8 46, .int .u8 49, .int .u8 13, .int .u8 10, .int .u8 13, .int .u8 10] : List Value) = bytesV awB := by kernel_rfl
theorem parse_A (w : World) (hsh : w.ShapedOpen Tryd.prog) : Calls Tryd.prog 32 #[.slice (some ⟨w.heap.size, 0, none⟩) 28 28, .bool true] (w.alloc (.cells #[.int .u8 71, .int .u8 69, .int .u8 84, .int .u8 32, .int .u8 47, .int .u8 97, .int .u8 32, .int .u8 72, .int .u8 84, .int .u8 84, .int .u8 80, .int .u8 47, .int .u8 49, .int .u8 46, .int .u8 49, .int .u8 13, .int .u8 10, .int .u8 72, .int .u8 111, .int .u8 115, .int .u8 116, .int .u8 58, .int .u8 32, .int .u8 120, .int .u8 13, .int .u8 10, .int .u8 13, .int .u8 10] 5 (28, 29))) fun e w' =>
    ∃ g o c', e = .returned (.tuple #[.agg #[.bool true, .string ⟨#[71, 69, 84]⟩, .string ⟨#[47, 97]⟩, .int .i64 0, .string ⟨#[]⟩, .int .i64 1, .slice (some ⟨g, o, none⟩) 1 c'], .int .i64 0]) ∧ w'.cell? ⟨g, o + 1, none⟩ = some (.string ⟨#[120]⟩) ∧ g < w'.heap.size ∧ Below w.heap.size w w' := by
  have hr : Rd (w.alloc (.cells #[.int .u8 71, .int .u8 69, .int .u8 84, .int .u8 32, .int .u8 47, .int .u8 97, .int .u8 32, .int .u8 72, .int .u8 84, .int .u8 84, .int .u8 80, .int .u8 47, .int .u8 49, .int .u8 46, .int .u8 49, .int .u8 13, .int .u8 10, .int .u8 72, .int .u8 111, .int .u8 115, .int .u8 116, .int .u8 58, .int .u8 32, .int .u8 120, .int .u8 13, .int .u8 10, .int .u8 13, .int .u8 10] 5 (28, 29))) (w.alloc (.cells #[.int .u8 71, .int .u8 69, .int .u8 84, .int .u8 32, .int .u8 47, .int .u8 97, .int .u8 32, .int .u8 72, .int .u8 84, .int .u8 84, .int .u8 80, .int .u8 47, .int .u8 49, .int .u8 46, .int .u8 49, .int .u8 13, .int .u8 10, .int .u8 72, .int .u8 111, .int .u8 115, .int .u8 116, .int .u8 58, .int .u8 32, .int .u8 120, .int .u8 13, .int .u8 10, .int .u8 13, .int .u8 10] 5 (28, 29))).heap.size 1 (some ⟨w.heap.size, 0, none⟩) 28 (bytesV awA) := by
    have h := Rd.built w (bytesV awA) 5 (28, 29) 28 (by kernel_rfl)
    rw [← litA] at h ⊢
    exact h
  refine (hParse_lit (some ⟨w.heap.size, 0, none⟩) 28 28 awA true _ (shaped_below hsh ((Below.refl _ _).alloc (Nat.le_refl _) _)) (fun e => by cases e) hr (by omega) parse_awA).mono ?_
  rintro e w' ⟨A', c', rfl, hrow, hb⟩
  obtain ⟨A2, c2, e2, _, _, _, hrd⟩ := hrow.form
  injection e2 with e2 _ e3
  subst e2 e3
  obtain ⟨g, o, rfl, hg, hcell⟩ := hrd.2 (by simp)
  exact ⟨g, o, c', rfl, hcell 1 _ rfl, hg, ((Below.refl _ w).alloc (Nat.le_refl _) _).trans (hb.mono (by simp))⟩
theorem parse_B (w : World) (hsh : w.ShapedOpen Tryd.prog) : Calls Tryd.prog 32 #[.slice (some ⟨w.heap.size, 0, none⟩) 20 20, .bool true] (w.alloc (.cells #[.int .u8 71, .int .u8 69, .int .u8 84, .int .u8 32, .int .u8 32, .int .u8 47, .int .u8 97, .int .u8 32, .int .u8 72, .int .u8 84, .int .u8 84, .int .u8 80, .int .u8 47, .int .u8 49, .int .u8 46, .int .u8 49, .int .u8 13, .int .u8 10, .int .u8 13, .int .u8 10] 5 (20, 21))) fun e w' =>
    ∃ A2 c2, e = .returned (.tuple #[.agg #[.bool false, .string ⟨#[]⟩, .string ⟨#[]⟩, .int .i64 0, .string ⟨#[]⟩, .int .i64 0, .slice A2 0 c2], .int .i64 220]) ∧ Below w.heap.size w w' := by
  have hr : Rd (w.alloc (.cells #[.int .u8 71, .int .u8 69, .int .u8 84, .int .u8 32, .int .u8 32, .int .u8 47, .int .u8 97, .int .u8 32, .int .u8 72, .int .u8 84, .int .u8 84, .int .u8 80, .int .u8 47, .int .u8 49, .int .u8 46, .int .u8 49, .int .u8 13, .int .u8 10, .int .u8 13, .int .u8 10] 5 (20, 21))) (w.alloc (.cells #[.int .u8 71, .int .u8 69, .int .u8 84, .int .u8 32, .int .u8 32, .int .u8 47, .int .u8 97, .int .u8 32, .int .u8 72, .int .u8 84, .int .u8 84, .int .u8 80, .int .u8 47, .int .u8 49, .int .u8 46, .int .u8 49, .int .u8 13, .int .u8 10, .int .u8 13, .int .u8 10] 5 (20, 21))).heap.size 1 (some ⟨w.heap.size, 0, none⟩) 20 (bytesV awB) := by
    have h := Rd.built w (bytesV awB) 5 (20, 21) 20 (by kernel_rfl)
    rw [← litB] at h ⊢
    exact h
  refine (hParse_lit (some ⟨w.heap.size, 0, none⟩) 20 20 awB true _ (shaped_below hsh ((Below.refl _ _).alloc (Nat.le_refl _) _)) (fun e => by cases e) hr (by omega) parse_awB).mono ?_
  rintro e w' ⟨A', c', rfl, hrow, hb⟩
  exact ⟨A', c', rfl, ((Below.refl _ w).alloc (Nat.le_refl _) _).trans (hb.mono (by simp))⟩

set_option maxHeartbeats 1000000 in
set_option maxRecDepth 100000 in
theorem awake_any (w : World) (hsh : w.ShapedOpen Tryd.prog) : Calls Tryd.prog 31 #[] w fun e w' => e = .returned (.bool true) ∧ Below w.heap.size w w' := by
  have HSH := Lib.hid hsh
  clear hsh
  have hcvA : (convert 32 32 (.slice (some ⟨w.heap.size, 0, none⟩) 28 28)).run Tryd.prog (w.alloc (.cells #[.int .u8 71, .int .u8 69, .int .u8 84, .int .u8 32, .int .u8 47, .int .u8 97, .int .u8 32, .int .u8 72, .int .u8 84, .int .u8 84, .int .u8 80, .int .u8 47, .int .u8 49, .int .u8 46, .int .u8 49, .int .u8 13, .int .u8 10, .int .u8 72, .int .u8 111, .int .u8 115, .int .u8 116, .int .u8 58, .int .u8 32, .int .u8 120, .int .u8 13, .int .u8 10, .int .u8 13, .int .u8 10] 5)) = .ok (.slice (some ⟨w.heap.size, 0, none⟩) 28 28) (w.alloc (.cells #[.int .u8 71, .int .u8 69, .int .u8 84, .int .u8 32, .int .u8 47, .int .u8 97, .int .u8 32, .int .u8 72, .int .u8 84, .int .u8 84, .int .u8 80, .int .u8 47, .int .u8 49, .int .u8 46, .int .u8 49, .int .u8 13, .int .u8 10, .int .u8 72, .int .u8 111, .int .u8 115, .int .u8 116, .int .u8 58, .int .u8 32, .int .u8 120, .int .u8 13, .int .u8 10, .int .u8 13, .int .u8 10] 5 (28, 29))) :=
    Lib.run_convert_bytes_const w 32 5 #[.int .u8 71, .int .u8 69, .int .u8 84, .int .u8 32, .int .u8 47, .int .u8 97, .int .u8 32, .int .u8 72, .int .u8 84, .int .u8 84, .int .u8 80, .int .u8 47, .int .u8 49, .int .u8 46, .int .u8 49, .int .u8 13, .int .u8 10, .int .u8 72, .int .u8 111, .int .u8 115, .int .u8 116, .int .u8 58, .int .u8 32, .int .u8 120, .int .u8 13, .int .u8 10, .int .u8 13, .int .u8 10] 28 28 Tryd.underlying32 Tryd.underlying5
  go_enter Tryd.func31, Tryd.ntmps31
  go_upto_region 2 with (first
    | (go_at_call 32; go_must (refine (parse_A w HSH.out).mono ?_; rintro _ w2 ⟨g, o, c', rfl, hg1, hg2, hb2⟩))
    | (refine wpList_put rfl 24 (.tmp 1) (.tmp 9) rfl w2.heap.size rfl (Var.new w2 24 [.bool false, .string ⟨#[]⟩, .string ⟨#[]⟩, .int .i64 0, .string ⟨#[]⟩, .int .i64 0, .slice none 0 0]) [.bool true, .string ⟨#[71, 69, 84]⟩, .string ⟨#[47, 97]⟩, .int .i64 0, .string ⟨#[]⟩, .int .i64 1, .slice (some ⟨g, o, none⟩) 1 c'] rfl rfl (by kernel_rfl) (by simp [Value.oneCell']) ?_; intro w3 hv3 hg3 hs3)
    | fail)
  have hsz2 := hb2.size
  have hs3' : w3.heap.size = w2.heap.size + 1 := by simpa using hs3
  have HB3 : Hid (Below w.heap.size w w3) := Lib.hid (Below.grown (hb2.alloc hsz2 _) hg3 (by simp; omega) (by intro k hk; simp at hk; omega))
  have HC3 : Hid (w3.cell? ⟨g, o + 1, none⟩ = some (.string ⟨#[120]⟩)) := Lib.hid ((World.cell?_of_block (w := w2.alloc (.cells #[.bool false, .string ⟨#[]⟩, .string ⟨#[]⟩, .int .i64 0, .string ⟨#[]⟩, .int .i64 0, .slice none 0 0] 24)) (a := ⟨g, o + 1, none⟩) (hg3.block g (by simp; omega) (fun e => by injection e with e; omega))).trans ((World.cell?_alloc_lt _ _ _ hg2).trans hg1))
  have HV3 := Lib.hid hv3
  have HSH3 : Hid (w3.ShapedOpen Tryd.prog) := Lib.hid (shaped_below HSH.out HB3.out)
  have HG : Hid (g < w3.heap.size) := Lib.hid (by omega)
  clear hg1 hg3 hs3 hv3 hcvA hs3' hg2 hsz2
  have hcvB : (convert 32 32 (.slice (some ⟨w3.heap.size, 0, none⟩) 20 20)).run Tryd.prog (w3.alloc (.cells #[.int .u8 71, .int .u8 69, .int .u8 84, .int .u8 32, .int .u8 32, .int .u8 47, .int .u8 97, .int .u8 32, .int .u8 72, .int .u8 84, .int .u8 84, .int .u8 80, .int .u8 47, .int .u8 49, .int .u8 46, .int .u8 49, .int .u8 13, .int .u8 10, .int .u8 13, .int .u8 10] 5)) = .ok (.slice (some ⟨w3.heap.size, 0, none⟩) 20 20) (w3.alloc (.cells #[.int .u8 71, .int .u8 69, .int .u8 84, .int .u8 32, .int .u8 32, .int .u8 47, .int .u8 97, .int .u8 32, .int .u8 72, .int .u8 84, .int .u8 84, .int .u8 80, .int .u8 47, .int .u8 49, .int .u8 46, .int .u8 49, .int .u8 13, .int .u8 10, .int .u8 13, .int .u8 10] 5 (20, 21))) :=
    Lib.run_convert_bytes_const w3 32 5 #[.int .u8 71, .int .u8 69, .int .u8 84, .int .u8 32, .int .u8 32, .int .u8 47, .int .u8 97, .int .u8 32, .int .u8 72, .int .u8 84, .int .u8 84, .int .u8 80, .int .u8 47, .int .u8 49, .int .u8 46, .int .u8 49, .int .u8 13, .int .u8 10, .int .u8 13, .int .u8 10] 20 20 Tryd.underlying32 Tryd.underlying5
  go_upto_region 3 with (first
    | (go_at_call 32; go_must (refine (parse_B w3 HSH3.out).mono ?_; rintro _ w4 ⟨A2, c2, rfl, hb4⟩))
    | (refine wpList_put rfl 24 (.tmp 3) (.tmp 15) rfl w4.heap.size rfl (Var.new w4 24 [.bool false, .string ⟨#[]⟩, .string ⟨#[]⟩, .int .i64 0, .string ⟨#[]⟩, .int .i64 0, .slice none 0 0]) [.bool false, .string ⟨#[]⟩, .string ⟨#[]⟩, .int .i64 0, .string ⟨#[]⟩, .int .i64 0, .slice A2 0 c2] rfl rfl (by kernel_rfl) (by simp [Value.oneCell']) ?_; intro w5 hv5 hg5 hs5)
    | fail)
  have hsz4 := hb4.size
  have B35 : Below w3.heap.size w3 w5 := Below.grown (hb4.alloc hsz4 _) hg5 (by simp; omega) (by intro k hk; simp at hk; omega)
  have hvv := HV3.out.below_all B35
  have c1 := hvv.cell (j := 1) rfl
  have c2' := hvv.cell (j := 2) rfl
  have c5 := hvv.cell (j := 5) rfl
  have c6 := hvv.cell (j := 6) rfl
  have ce := (B35.cell (p := ⟨g, o + 1, none⟩) (by show g < _; exact HG.out)).trans HC3.out
  clear hv5 hg5 hs5 hvv
  go_wp2
  go_ret
  exact ⟨rfl, HB3.out.trans (B35.mono HB3.out.size)⟩
end Go.Proofs.YtabecgdaiakgiaaDoor
