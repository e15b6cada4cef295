/- Small laws that the chunk reader's texts share. No condition but sizes. -/
import Derived.Test.YtabecgdaiakgiaaDoorMA
import Derived.Test.YtabecgdaiakgiaaDoorMB
import Derived.IntWalk
import Derived.OpenShut
import Derived.Lib.SmallJoins
import Derived.Deep.DeepCutAuto
import Derived.Deep.RegionHeld3
namespace Go.Proofs.YtabecgdaiakgiaaDoor
open Go.RowKit

theorem shaped_below {w w' : World} (h : w.ShapedOpen Tryd.prog) (hb : Below w.heap.size w w') : w'.ShapedOpen Tryd.prog := h.keptBut (hb.frame fun _ => False) fun _ h => h.elim

theorem isText_eq (c : UInt8) : isText c = decide (¬ (c.toNat = 127 ∨ (c.toNat < 32 ∧ c.toNat ≠ 9))) := by
  simp only [isText, UInt8.le_iff_toNat_le]
  have e1 : (32 : UInt8).toNat = 32 := rfl
  have h1 : (c == 9) = decide (c.toNat = 9) := by
    rw [Bool.eq_iff_iff]; simp only [beq_iff_eq, decide_eq_true_eq]
    exact ⟨fun h => by rw [h]; rfl, fun h => UInt8.toNat_inj.mp (by rw [h]; rfl)⟩
  have h2 : (c != 127) = decide (¬ c.toNat = 127) := by
    rw [Bool.eq_iff_iff]; simp only [bne_iff_ne, ne_eq, decide_eq_true_eq]
    exact ⟨fun h e => h (UInt8.toNat_inj.mp (by rw [e]; rfl)), fun h e => h (by rw [e]; rfl)⟩
  rw [h1, h2, e1, Bool.eq_iff_iff]
  simp only [Bool.or_eq_true, Bool.and_eq_true, decide_eq_true_eq]
  omega
def placeP (c : UInt8) (l : Bs) : Int := match cutAt c l with | none => -1 | some (a, _) => a.length
theorem index_place (c : UInt8) : ∀ l : Bs, Lib.index l [c] = placeP c l
  | [] => by simp [Lib.index, placeP, cutAt]
  | x :: l => by
    have ih := index_place c l
    have hp : ([c] : Bs).isPrefixOf (x :: l) = (c == x) := by simp [List.isPrefixOf]
    have e : Lib.index (x :: l) [c] = if (c == x) = true then 0 else if Lib.index l [c] == -1 then -1 else Lib.index l [c] + 1 := by rw [Lib.index, hp]
    rw [e, placeP, cutAt]
    by_cases h : x = c
    · subst h; simp
    · have h' : (c == x) = false := by simpa using fun e => h e.symm
      rw [h', ih, if_neg (by simp), if_neg h, placeP]
      cases hc : cutAt c l with
      | none => simp
      | some p =>
        simp only [Option.map_some]
        rw [if_neg (by simp)]
        simp
theorem cut_at (c : UInt8) (l : Bs) : Lib.cut l [c] = match cutAt c l with | none => (l, [], false) | some (a, b) => (a, b, true) := by
  have e := index_place c l
  unfold Lib.cut
  rw [e, placeP]
  cases hc : cutAt c l with
  | none => simp
  | some p =>
    obtain ⟨a, b⟩ := p
    obtain ⟨e1, _⟩ := cutAt_some.1 hc
    subst e1
    simp

theorem cut_any (s : ByteArray) (c : UInt8) (w : World) (h : w.ShapedOpen Tryd.prog) (hs : s.size ≤ 16777216) :
    Calls Tryd.prog 74 #[.string s, .string ⟨#[c]⟩] w fun e w' => (match cutAt c s.data.toList with
      | none => e = .returned (.tuple #[.string s, .string ⟨#[]⟩, .bool false])
      | some (a, b) => e = .returned (.tuple #[.string ⟨a.toArray⟩, .string ⟨b.toArray⟩, .bool true])) ∧ ∃ q, w' = w.drewN q :=
  (Tryd.strings_Cut_shaped s ⟨#[c]⟩ w h (by omega)).mono fun e w' ⟨he, hw⟩ => by
    have hc := cut_at c s.data.toList
    refine ⟨?_, hw⟩
    have e0 : ({ data := #[c] } : ByteArray).data.toList = [c] := rfl
    rw [e0, hc] at he
    cases hk : cutAt c s.data.toList with
    | none => rw [hk] at he; simpa using he
    | some p => rw [hk] at he; simpa using he
theorem conv_one (W : World) (b : Nat) (x : Int) (h0 : 0 ≤ x) (h1 : x < 256) (hc : W.cell? ⟨b, 0, none⟩ = some (.int .u8 x)) :
    (convert 32 9 (.slice (some ⟨b, 0, none⟩) 1 1)).run Tryd.prog W = .ok (.string ⟨#[UInt8.ofNat x.toNat]⟩) W := by
  have e : ((UInt8.ofNat x.toNat).toNat : Int) = x := by
    rw [UInt8.toNat_ofNat', Nat.mod_eq_of_lt (by omega)]; omega
  refine conv_str (P := Tryd.prog) (B := b + 1) 32 9 5 Tryd.underlying32 Tryd.underlying5 Tryd.underlying9 (A := some ⟨b, 0, none⟩) (n := 1) (c := 1) (l := [UInt8.ofNat x.toNat]) ⟨rfl, fun _ => ⟨b, 0, rfl, by omega, fun j u hu => ?_⟩⟩ (fun e => by cases e)
  match j, hu with
  | 0, hu =>
    simp only [bytesV, List.map_cons, e] at hu
    cases hu
    exact hc
def flB (fs : List (Bs × Bs)) : List Fl := fs.map fun f => (⟨f.1.toArray⟩, ⟨f.2.toArray⟩)
theorem flB_snoc (l : List (Bs × Bs)) (a b : Bs) : fieldsV (flB (l ++ [(a, b)])) = fieldsV (flB l) ++ [.string ⟨a.toArray⟩, .string ⟨b.toArray⟩] := by
  simp [flB, fieldsV]
theorem flB_len (l : List (Bs × Bs)) : (flB l).length = l.length := by simp [flB]
theorem infoField : (Tryd.prog.info? 48).map (fun i => (i.zero, i.size, i.bytes)) = some (some (.agg #[.string ⟨#[]⟩, .string ⟨#[]⟩]), 2, 32) := by kernel_rfl
theorem fieldsV_one (l : List Fl) : ∀ u ∈ fieldsV l, u.oneCell' = true := by
  intro u hu
  obtain ⟨f, _, h⟩ := List.mem_flatMap.1 hu
  simp at h
  rcases h with rfl | rfl <;> rfl

end Go.Proofs.YtabecgdaiakgiaaDoor
