/- stream's New and Ended; Feed and Ended of a dead reader, of none. No condition. -/
import Derived.Test.YtklmpadcfioefaaGreatDoorSFeed
namespace Go.Proofs.YtklmpadcfioefaaGreatDoor
open Go.RowKit

def newV (rb : Nat) : SV := ⟨.slice none 0 0, .slice none 0 0, .pointer none, rb, .slice none 0 0, .slice none 0 0⟩
theorem new_mem (w : World) (rq : Bool) : SMem (w.alloc (.cells #[.bool rq, .slice none 0 0, .func (.func 29) #[.pointer (some ⟨w.heap.size, 0, none⟩)] #[], .slice none 0 0, .int .i64 0, .pointer none, .int .i64 0, .bool false, .bool false, .int .i64 0] 72)) w.heap.size w.heap.size { rq := rq } (newV w.heap.size) 0 :=
  ⟨Nat.le_refl _, Var.new w 72 (rCells w.heap.size { rq := rq } (newV w.heap.size) 0), Row.nil _ _ _, RowB.nil _ _, fun _ => rfl, (fun e => by cases e), fun _ => ⟨rfl, rfl, rfl⟩, fun k hk => (nil_own hk).elim, fun k hk => (nil_own hk).elim, (fun e => by cases e)⟩
theorem new_foot {rb k : Nat} (h : footS rb (newV rb) k) : k = rb := by
  rcases h with x | x | x | x
  · exact x
  · exact (nil_own x).elim
  · exact (nil_own x).elim
  · exact foot_cut x
theorem snew_any (w : World) (rq : Bool) : Calls Tryz.prog 6 #[.bool rq] w fun e w' => e = .returned (.pointer (some ⟨w.heap.size, 0, none⟩)) ∧ SMem w' w.heap.size w.heap.size { rq := rq } (newV w.heap.size) 0 ∧ Below w.heap.size w w' ∧ w'.heap.size = w.heap.size + 1 := by
  go_enter Tryz.func6, Tryz.ntmps6
  go_wp2
  go_ret
  exact ⟨rfl, new_mem w rq, (Below.refl _ _).alloc (Nat.le_refl _) _, by simp⟩
end Go.Proofs.YtklmpadcfioefaaGreatDoor
