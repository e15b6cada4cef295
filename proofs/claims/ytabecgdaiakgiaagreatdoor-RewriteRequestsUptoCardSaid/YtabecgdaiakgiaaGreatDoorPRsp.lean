/- The reference's Response. Conditions: sizes. -/
import Derived.Test.YtabecgdaiakgiaaGreatDoorPOth
import Derived.Test.YtabecgdaiakgiaaGreatDoorRLoc
import Derived.Test.YtabecgdaiakgiaaGreatDoorRBackH
import Derived.Deep.RegionHeld3
namespace Go.Proofs.YtabecgdaiakgiaaGreatDoor
open Go.RowKit

def hbD (R : HB) (A : Option Addr) (c : Nat) : List Value := [.bool R.rq, .string R.m, .string R.t, .int .i64 R.st, .string R.rs, .int .i64 R.mn, .slice A R.fs.length c]
/-- the variable in block b holds the head R; its fields are the call's own -/
structure RS (w wx : World) (B b : Nat) (R : HB) (A : Option Addr) (c : Nat) : Prop where
  var : Var wx b 24 (hbD R A c)
  row : Row wx (w.heap.size + 2) 2 (.slice A R.fs.length c) R.fs.length (fieldsV R.fs)
  far : (Value.slice A R.fs.length c).ownBlock ≠ some b
  le : w.heap.size + 2 ≤ b
  res : Var wx B 24 [.bool false, .string ⟨#[]⟩, .string ⟨#[]⟩, .int .i64 0, .string ⟨#[]⟩, .int .i64 0, .slice none 0 0]
  resB : w.heap.size ≤ B ∧ B < w.heap.size + 2
  bl : Below w.heap.size w wx
theorem RS.below {w wx wy : World} {B b c : Nat} {R : HB} {A : Option Addr} (h : RS w wx B b R A c) (hb : Below wx.heap.size wx wy) : RS w wy B b R A c :=
  ⟨h.var.below_all hb, h.row.below_all hb, h.far, h.le, h.res.below_all hb, h.resB, h.bl.trans (hb.mono h.bl.size)⟩
/-- one more field -/
theorem RS.app {w wx w' : World} {B b c : Nat} {R : HB} {A : Option Addr} {f : Fl} {v' : Value} {o : Obj} (h : RS w wx B b R A c) (hrow : Row w' (w.heap.size + 2) 2 v' (R.fs.length + 1) (fieldsV R.fs ++ [.string f.1, .string f.2]))
    (hg : (wx.alloc o).grownBy w' (Value.slice A R.fs.length c).ownBlock) (hv : v'.ownBlock = (Value.slice A R.fs.length c).ownBlock ∨ v'.ownBlock = some (wx.alloc o).heap.size) :
    ∃ A' c', v' = .slice A' (R.fs ++ [f]).length c' ∧ RS w (w'.setCell ⟨b, 6, none⟩ v') B b { R with fs := R.fs ++ [f] } A' c' := by
  have hlt := h.var.lt
  have hz := heap_alloc_size wx o
  have hbz := h.bl.size
  have k := h.row.lt
  have hne : v'.ownBlock ≠ some b := by
    rcases hv with e | e
    · rw [e]; exact h.far
    · rw [e]; intro e2; injection e2 with e2; omega
  obtain ⟨A', c', rfl, _, _, _, _⟩ := hrow.form
  have hl : (R.fs ++ [f]).length = R.fs.length + 1 := by simp
  refine ⟨A', c', by rw [hl], ?_, ?_, ?_, h.le, ?_, h.resB, ?_⟩
  · have h1 := ((h.var.alloc o).grown hg h.far).set 6 (.slice A' (R.fs.length + 1) c')
    unfold hbD
    rw [hl]
    exact h1
  · have h1 := hrow.setCell (p := ⟨b, 6, none⟩) hne (.slice A' (R.fs.length + 1) c')
    show Row _ _ 2 (.slice A' (R.fs ++ [f]).length c') (R.fs ++ [f]).length (fieldsV (R.fs ++ [f]))
    rw [hl, fieldsV_append]
    exact h1
  · show (Value.slice A' (R.fs ++ [f]).length c').ownBlock ≠ some b
    rw [hl]; exact hne
  · exact ((h.res.alloc o).grown hg (fun e => by have := (k _ e).1; have := h.resB; omega)).set_other (p := ⟨b, 6, none⟩) (show b ≠ B by have := h.resB; have := h.le; omega) _
  · exact ((h.bl.alloc hbz o).grown hg (by omega) (fun q hq => by have := (k q hq).1; omega)).setCell (p := ⟨b, 6, none⟩) (show w.heap.size ≤ b by have := h.le; omega) _
theorem RS.new {w wx : World} {B : Nat} {R : HB} {v : Value} (hrow : Row wx (w.heap.size + 2) 2 v R.fs.length (fieldsV R.fs)) (hres : Var wx B 24 [.bool false, .string ⟨#[]⟩, .string ⟨#[]⟩, .int .i64 0, .string ⟨#[]⟩, .int .i64 0, .slice none 0 0])
    (hB : w.heap.size ≤ B ∧ B < w.heap.size + 2) (hbl : Below w.heap.size w wx) (hz : w.heap.size + 2 ≤ wx.heap.size) :
    ∃ A c, v = .slice A R.fs.length c ∧ RS w (wx.alloc (.cells (hbD R A c).toArray 24)) B wx.heap.size R A c := by
  have k := hrow.lt
  obtain ⟨A, c, rfl, _, _, _, _⟩ := hrow.form
  exact ⟨A, c, rfl, Var.new wx 24 (hbD R A c), hrow.alloc _, fun e => by have := (k _ e).2; omega, hz, hres.alloc _, hB, hbl.alloc hbl.size _⟩
end Go.Proofs.YtabecgdaiakgiaaGreatDoor
