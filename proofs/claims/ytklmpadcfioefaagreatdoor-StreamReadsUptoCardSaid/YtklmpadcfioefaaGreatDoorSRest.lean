/- stream's New and Ended; Feed and Ended of a dead reader, of none. No condition. -/
import Derived.Test.YtklmpadcfioefaaGreatDoorSFeed
namespace Go.Proofs.YtklmpadcfioefaaGreatDoor
open Go.RowKit

def newV (rb : Nat) : SV := ⟨.slice none 0 0, .slice none 0 0, .pointer none, rb, .slice none 0 0, .slice none 0 0⟩
theorem new_mem (w : World) (rq : Bool) : SMem (w.alloc (.cells #[.bool rq, .slice none 0 0, .func (.func 29) #[.pointer (some ⟨w.heap.size, 0, none⟩)] #[], .slice none 0 0, .int .i64 0, .pointer none, .int .i64 0, .bool false, .bool false, .int .i64 0] 72)) w.heap.size w.heap.size { rq := rq } (newV w.heap.size) 0 :=
  ⟨Nat.le_refl _, Var.new w 72 (rCells w.heap.size { rq := rq } (newV w.heap.size) 0), Row.nil _ _ _, RowB.nil _ _, fun _ => rfl, (fun e => by cases e), fun _ => ⟨rfl, rfl, rfl⟩, fun k hk => (nil_own hk).elim, fun k hk => (nil_own hk).elim, (fun e => by cases e)⟩
theorem new_foot {rb k : Nat} (h : footS rb (newV rb) k) : k = rb := by
  rcases h with x | x | x | x
  · exact x
  · exact (nil_own x).elim
  · exact (nil_own x).elim
  · exact foot_cut x
theorem snew_any (w : World) (rq : Bool) : Calls Tryz.prog 6 #[.bool rq] w fun e w' => e = .returned (.pointer (some ⟨w.heap.size, 0, none⟩)) ∧ SMem w' w.heap.size w.heap.size { rq := rq } (newV w.heap.size) 0 ∧ Below w.heap.size w w' ∧ w'.heap.size = w.heap.size + 1 := by
  go_enter Tryz.func6, Tryz.ntmps6
  go_wp2
  go_ret
  exact ⟨rfl, new_mem w rq, (Below.refl _ _).alloc (Nat.le_refl _) _, by simp⟩
/-- what Ended answers -/
def endsP (s : Strm.S) : List Strm.E1 × Nat := if s.win = false then ([], 0) else if s.fr = 3 then ([.fin], 0) else ([], 42)
set_option maxHeartbeats 1000000 in
theorem sended_any {w : World} {base rb T : Nat} {s : Strm.S} {V : SV} (h : SMem w base rb s V s.ph) (hi : Strm.Inv s T) (hdead : s.dead = 0) :
    Calls Tryz.prog 16 #[.pointer (some ⟨rb, 0, none⟩)] w fun e w' => ∃ v L, e = .returned (.tuple #[v, .int .i64 ((endsP s).2 : Nat)]) ∧ L.map EvE.x = (endsP s).1 ∧ Outs w' w.heap.size v L ∧ SMem w' base rb { s with dead := 42 } V s.ph ∧ Chg (footS rb V) w w' := by
  have d9 := h.cell (j := 9) rfl
  rw [hdead] at d9
  have d7 := h.cell (j := 7) rfl
  have d6 := h.cell (j := 6) rfl
  have d3 := h.cell (j := 3) rfl
  have f9 := h.var.frozen 9
  have hrl := h.var.lt
  have hm := h.put (j := 9) (u := .int .i64 42) (t := { s with dead := 42 }) (q' := s.ph) rfl rfl rfl rfl Iff.rfl h.nil
  have hc := (show Chg (footS rb V) w w from Chg.refl _ w).setCell (p := ⟨rb, 9, none⟩) (fun _ => .inl rfl) (.int .i64 42)
  obtain ⟨b, hb⟩ : ∃ b, b = s.win := ⟨_, rfl⟩
  rw [← hb] at d7
  have HM := Lib.hid hm
  have HC := Lib.hid hc
  cases b with
  | false =>
    have he : endsP s = ([], 0) := by unfold endsP; rw [if_pos hb.symm]
    rw [he]
    clear he hb h hm hc hi hdead d6 d3
    go_enter Tryz.func16, Tryz.ntmps16
    go_wp2
    go_ret2
    exact ⟨_, [], rfl, rfl, Outs.nil _ _, HM.out, HC.out⟩
  | true =>
    by_cases h3 : s.fr = 3
    · have he : endsP s = ([.fin], 0) := by unfold endsP; rw [← hb, if_neg (by decide), if_pos h3]
      have h4 := hi.fr.1 h3
      have hkv := h.nil (by omega)
      rw [hkv] at d3
      rw [h3] at d6
      rw [he]
      have hq := fun (W : World) (a : Option Addr) (l c : Nat) => Go.run_eql_slice_nil (P := Tryz.prog) W 26 5 a l c Tryz.underlying26
      have hone := call_one (e := ⟨.fin, .slice none 0 0, .slice none 0 0⟩) hc.size hm evr_fin hc (fun k hk => (hk.elim nil_own nil_own).elim)
      have HO := Lib.hid hone
      clear he hb h hm hc hi hdead h3 h4 hkv hone
      go_enter Tryz.func16, Tryz.ntmps16
      go_wp2
      go_ret2
      obtain ⟨r1, r2, r3, _⟩ := HO.out
      rw [show (w.setCell ⟨rb, 9, none⟩ (.int .i64 42)).heap.size = w.heap.size by simp] at r1
      exact ⟨_, [⟨.fin, .slice none 0 0, .slice none 0 0⟩], rfl, rfl, r1, r2, r3⟩
    · have he : endsP s = ([], 42) := by unfold endsP; rw [← hb, if_neg (by decide), if_neg h3]
      have e3 : ((s.fr : Int) == 3) = false := by rw [beq_eq_false_iff_ne]; omega
      rw [he]
      clear he hb h hm hc hi hdead h3 d3
      go_enter Tryz.func16, Tryz.ntmps16
      go_wp2
      go_ret2
      exact ⟨_, [], rfl, rfl, Outs.nil _ _, HM.out, HC.out⟩
theorem sended_dead {w : World} {base rb q : Nat} {s : Strm.S} {V : SV} (h : SMem w base rb s V q) (hdead : s.dead ≠ 0) :
    Calls Tryz.prog 16 #[.pointer (some ⟨rb, 0, none⟩)] w fun e w' => e = .returned (.tuple #[.slice none 0 0, .int .i64 (s.dead : Nat)]) ∧ ∃ k, w' = w.drewN k := by
  have d9 := h.cell (j := 9) rfl
  have e9 : ((s.dead : Int) != 0) = true := by simpa using hdead
  clear h
  go_enter Tryz.func16, Tryz.ntmps16
  go_wp2
  go_quiet (fail)
  go_wp2
  go_ret2
  exact ⟨rfl, _, rfl⟩
theorem sfeed_dead {w : World} {base rb q : Nat} {s : Strm.S} {V : SV} (h : SMem w base rb s V q) (hdead : s.dead ≠ 0) (A : Option Addr) (n c : Nat) :
    Calls Tryz.prog 9 #[.pointer (some ⟨rb, 0, none⟩), .slice A n c] w fun e w' => e = .returned (.tuple #[.slice none 0 0, .int .i64 (s.dead : Nat)]) ∧ ∃ k, w' = w.drewN k := by
  have d9 := h.cell (j := 9) rfl
  have e9 : ((s.dead : Int) != 0) = true := by simpa using hdead
  clear h
  go_enter Tryz.func9, Tryz.ntmps9
  go_wp2
  go_quiet (fail)
  go_wp2
  go_ret2
  exact ⟨rfl, _, rfl⟩
end Go.Proofs.YtklmpadcfioefaaGreatDoor
