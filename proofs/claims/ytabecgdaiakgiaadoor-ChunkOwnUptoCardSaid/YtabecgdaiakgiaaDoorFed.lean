/- law 23's fed: all bytes, in pieces of whatever sizes (printed by gen_fed.py). Conditions: sizes, the world's shape. -/
import Derived.Test.YtabecgdaiakgiaaDoorDecode
import Derived.Test.YtabecgdaiakgiaaDoorFeedsLaw
import Derived.Test.YtabecgdaiakgiaaDoorMLent
import Derived.Test.YtabecgdaiakgiaaDoorMRound
import Derived.Test.YtabecgdaiakgiaaDoorCFeeds
import Derived.Test.YtabecgdaiakgiaaDoorCReads
import Derived.Deep.RegionHeld3
import Derived.Deep.CutBlock
namespace Go.Proofs.YtabecgdaiakgiaaDoor
open Go.RowKit

namespace Chunk
theorem feed_out_le (l : Bs) : ∀ (s : St), (feed s l 0 []).2.1.length ≤ l.length := by
  induction l with
  | nil => intro s; simp [feed]
  | cons c l ih =>
    intro s
    rw [feed]
    split
    · rw [feed_acc]; have := ih { s with at_ := if s.left - 1 = 0 then 4 else 3, left := s.left - 1, total := s.total + 1 }; simp only [List.length_cons, List.length_append, List.nil_append]; simp only [List.length_nil]; omega
    · split
      · simp
      · split
        · simp
        · rw [feed_acc]; have := ih (step s c).1; simp only [List.length_cons, List.nil_append]; omega
/-- one more piece -/
theorem alive_more {l : Bs} {s : St} {o : Bs} {k m : Nat} (h : Alive (l.take k) s o) (hm : k + m ≤ l.length) :
    ((feed s ((l.drop k).take m) 0 []).2.2.2 = 0 → (feed s ((l.drop k).take m) 0 []).2.2.1 = m ∧ Alive (l.take (k + m)) (feed s ((l.drop k).take m) 0 []).1 (o ++ (feed s ((l.drop k).take m) 0 []).2.1)) ∧
    ((feed s ((l.drop k).take m) 0 []).2.2.2 ≠ 0 → feed {} l 0 [] = ((feed s ((l.drop k).take m) 0 []).1, o ++ (feed s ((l.drop k).take m) 0 []).2.1, k + (feed s ((l.drop k).take m) 0 []).2.2.1, (feed s ((l.drop k).take m) 0 []).2.2.2)) := by
  have e1 : l.take (k + m) = l.take k ++ (l.drop k).take m := List.take_add
  have e2 : (l.take k).length = k := by rw [List.length_take]; omega
  have e3 : ((l.drop k).take m).length = m := by rw [List.length_take, List.length_drop]; omega
  refine ⟨fun h0 => ⟨?_, ?_⟩, fun h0 => ?_⟩
  · rw [feed_more _ _ h0, e3]
  · rw [e1]; exact h.goes _ h0
  · have e4 : l = (l.take k ++ (l.drop k).take m) ++ l.drop (k + m) := by rw [← e1, List.take_append_drop]
    have e5 := h.feed_all ((l.drop k).take m)
    rw [e2] at e5
    conv => lhs; rw [e4]
    rw [feed_app, e5, if_neg h0]
end Chunk
theorem list_part {n : Nat} (h : n ≤ 20000) {l : Bs} (hl : l.length = n) (k m : Nat) : ((l.drop k).take m).length ≤ 20000 := by
  rw [List.length_take, List.length_drop]; omega
/-- a sum of the call's own -/
def sumC (o : Bs) (k : Nat) (q : Nat) (v : Value) : List Value := [.string ⟨o.toArray⟩, .int .i64 (k : Int), .bool (decide (q = 1)), .bool (decide (q = 2)), v]
def trL (r : Chunk.St × Bs × Nat × Nat) : List (Bs × Bs) := if r.2.2.2 = 1 then r.1.trailers else []
structure FedIs (w : World) (l : Bs) (n : Nat) (wr : World) (k j : Nat) (s : Chunk.St) (o : Bs) (vl vt : Value) : Prop where
  le : k ≤ n
  jk : j ≤ k
  al : Chunk.Alive (l.take k) s o
  n11 : s.at_ ≠ 11
  rdr : Rdr wr (w.heap.size + 1) (w.heap.size + 1) s vl vt
  sum : Var wr (w.heap.size + 2) 52 (sumC o k 0 (.slice none 0 0))
  res : Var wr w.heap.size 52 [.string ⟨#[]⟩, .int .i64 0, .bool false, .bool false, .slice none 0 0]
  nl : ∀ q, vl.ownBlock = some q → w.heap.size + 3 ≤ q
  nt : ∀ q, vt.ownBlock = some q → w.heap.size + 3 ≤ q
  bl : Below w.heap.size w wr
/-- behind the loop -/
def FedMid (w : World) (l : Bs) (wx : World) : Prop :=
  ∃ (s : Chunk.St) (o : Bs) (m q : Nat) (vl vt : Value), Chunk.feed {} l 0 [] = (s, o, m, q) ∧ Rdr wx (w.heap.size + 1) (w.heap.size + 1) s vl vt ∧ Var wx (w.heap.size + 2) 52 (sumC o m q (.slice none 0 0)) ∧ Var wx w.heap.size 52 [.string ⟨#[]⟩, .int .i64 0, .bool false, .bool false, .slice none 0 0] ∧
    (∀ q, vl.ownBlock = some q → w.heap.size + 3 ≤ q) ∧ (∀ q, vt.ownBlock = some q → w.heap.size + 3 ≤ q) ∧ Below w.heap.size w wx
def FedPost (w : World) (r : Chunk.St × Bs × Nat × Nat) (e : Ending) (w' : World) : Prop :=
  ∃ v, e = .returned (.tuple #[.agg (sumC r.2.1 r.2.2.1 r.2.2.2 v).toArray, .bool true]) ∧ Row w' w.heap.size 2 v (trL r).length (fieldsV (flB (trL r))) ∧ Below w.heap.size w w'
def intsV (zs : List Int) : List Value := zs.map fun z => .int .i64 z
theorem ints_get (zs : List Int) (k : Nat) (h : k < zs.length) : (intsV zs)[k]? = some (.int .i64 zs[k]) := by
  unfold intsV; simp [h]
theorem tmod_nat (j n : Nat) : Int.tmod (j : Int) (n : Int) = ((j % n : Nat) : Int) := by
  rw [Int.tmod_eq_emod_of_nonneg (by omega)]; rfl
theorem foot_far {w : World} {vl vt : Value} (h1 : ∀ q, vl.ownBlock = some q → w.heap.size + 3 ≤ q) (h2 : ∀ q, vt.ownBlock = some q → w.heap.size + 3 ≤ q) {b : Nat} (hb : b = w.heap.size + 2 ∨ b = w.heap.size) : ¬ foot (w.heap.size + 1) vl vt b := by
  rintro (h | h | h)
  · omega
  · have := h1 _ h; omega
  · have := h2 _ h; omega
theorem foot_low {w : World} {vl vt : Value} (h1 : ∀ q, vl.ownBlock = some q → w.heap.size + 3 ≤ q) (h2 : ∀ q, vt.ownBlock = some q → w.heap.size + 3 ≤ q) : ∀ q, foot (w.heap.size + 1) vl vt q → w.heap.size + 1 ≤ q := by
  rintro q (h | h | h)
  · omega
  · have := h1 _ h; omega
  · have := h2 _ h; omega
/-- the sum behind a piece -/
theorem fed_after {w wr w3 w4 : World} {l : Bs} {n k j : Nat} {s s' : Chunk.St} {o : Bs} {vl vt vl' vt' : Value} (h : FedIs w l n wr k j s o vl vt) (hb3 : Below wr.heap.size wr w3) (hr : Rdr w4 (w.heap.size + 1) (w.heap.size + 1) s' vl' vt') (hch : Chg (foot (w.heap.size + 1) vl vt) w3 w4)
    (k1 : ∀ q, vl'.ownBlock = some q → vl.ownBlock = some q ∨ w3.heap.size ≤ q) (k2 : ∀ q, vt'.ownBlock = some q → vt.ownBlock = some q ∨ w3.heap.size ≤ q) :
    Var w4 (w.heap.size + 2) 52 (sumC o k 0 (.slice none 0 0)) ∧ Var w4 w.heap.size 52 [.string ⟨#[]⟩, .int .i64 0, .bool false, .bool false, .slice none 0 0] ∧ Below w.heap.size w w4 ∧ (∀ q, vl'.ownBlock = some q → w.heap.size + 3 ≤ q) ∧ (∀ q, vt'.ownBlock = some q → w.heap.size + 3 ≤ q) := by
  have z3 := hb3.size
  have zs := h.sum.lt
  refine ⟨(h.sum.below_all hb3).chg hch (foot_far h.nl h.nt (.inl rfl)), (h.res.below_all hb3).chg hch (foot_far h.nl h.nt (.inr rfl)), ?_, ?_, ?_⟩
  · exact Below.chg (h.bl.trans (hb3.mono h.bl.size)) hch (by have := h.bl.size; omega) (fun q hq => by have := foot_low h.nl h.nt q hq; omega)
  · intro q hq
    rcases k1 q hq with e | e
    · exact h.nl q e
    · omega
  · intro q hq
    rcases k2 q hq with e | e
    · exact h.nt q e
    · omega
theorem fed_sum {w w4 : World} {s' : Chunk.St} {vl' vt' : Value} (hr : Rdr w4 (w.heap.size + 1) (w.heap.size + 1) s' vl' vt') {a0 a1 a2 a3 a4 : Value} (hs : Var w4 (w.heap.size + 2) 52 [a0, a1, a2, a3, a4]) (hv : Var w4 w.heap.size 52 [.string ⟨#[]⟩, .int .i64 0, .bool false, .bool false, .slice none 0 0]) (hb : Below w.heap.size w w4)
    (nl : ∀ q, vl'.ownBlock = some q → w.heap.size + 3 ≤ q) (nt : ∀ q, vt'.ownBlock = some q → w.heap.size + 3 ≤ q) (u0 u1 u2 u3 : Value) :
    Rdr ((((w4.setCell ⟨w.heap.size + 2, 0, none⟩ u0).setCell ⟨w.heap.size + 2, 1, none⟩ u1).setCell ⟨w.heap.size + 2, 2, none⟩ u2).setCell ⟨w.heap.size + 2, 3, none⟩ u3) (w.heap.size + 1) (w.heap.size + 1) s' vl' vt' ∧
    Var ((((w4.setCell ⟨w.heap.size + 2, 0, none⟩ u0).setCell ⟨w.heap.size + 2, 1, none⟩ u1).setCell ⟨w.heap.size + 2, 2, none⟩ u2).setCell ⟨w.heap.size + 2, 3, none⟩ u3) (w.heap.size + 2) 52 [u0, u1, u2, u3, a4] ∧
    Var ((((w4.setCell ⟨w.heap.size + 2, 0, none⟩ u0).setCell ⟨w.heap.size + 2, 1, none⟩ u1).setCell ⟨w.heap.size + 2, 2, none⟩ u2).setCell ⟨w.heap.size + 2, 3, none⟩ u3) w.heap.size 52 [.string ⟨#[]⟩, .int .i64 0, .bool false, .bool false, .slice none 0 0] ∧
    Below w.heap.size w ((((w4.setCell ⟨w.heap.size + 2, 0, none⟩ u0).setCell ⟨w.heap.size + 2, 1, none⟩ u1).setCell ⟨w.heap.size + 2, 2, none⟩ u2).setCell ⟨w.heap.size + 2, 3, none⟩ u3) := by
  have hc : Chg (fun q => q = w.heap.size + 2) w4 ((((w4.setCell ⟨w.heap.size + 2, 0, none⟩ u0).setCell ⟨w.heap.size + 2, 1, none⟩ u1).setCell ⟨w.heap.size + 2, 2, none⟩ u2).setCell ⟨w.heap.size + 2, 3, none⟩ u3) :=
    ((((show Chg (fun q => q = w.heap.size + 2) w4 w4 from Chg.refl _ w4).setCell (p := ⟨w.heap.size + 2, 0, none⟩) (fun _ => rfl) u0).setCell (p := ⟨w.heap.size + 2, 1, none⟩) (fun _ => rfl) u1).setCell (p := ⟨w.heap.size + 2, 2, none⟩) (fun _ => rfl) u2).setCell (p := ⟨w.heap.size + 2, 3, none⟩) (fun _ => rfl) u3
  refine ⟨hr.chg hc (fun q hq e => by subst e; exact foot_far nl nt (.inl rfl) hq), (((hs.set 0 u0).set 1 u1).set 2 u2).set 3 u3, hv.chg hc (by omega), ?_⟩
  exact hb.trans (hc.below hb.size (fun q e => by omega))
theorem fed_rdn {w : World} {base sz n m c : Nat} {A : Option Addr} {xs : List Value} (h : Row w base sz (.slice A n c) m xs) (e : n = m := by rfl) : Rd w w.heap.size sz A n xs := by
  subst e
  obtain ⟨A', c', e, _, _, _, hr⟩ := h.form
  injection e with e1 e2 e3
  subst e1 e3
  exact hr
/-- the result is stored -/
theorem fed_put {w w6 : World} {a0 a1 a2 a3 a4 b0 b1 b2 b3 b4 : Value} (hv : Var w6 w.heap.size 52 [a0, a1, a2, a3, a4]) (hs : Var w6 (w.heap.size + 2) 52 [b0, b1, b2, b3, b4]) (u0 u1 u2 u3 u4 : Value) :
    Var (((((w6.setCell ⟨w.heap.size, 0, none⟩ u0).setCell ⟨w.heap.size, 1, none⟩ u1).setCell ⟨w.heap.size, 2, none⟩ u2).setCell ⟨w.heap.size, 3, none⟩ u3).setCell ⟨w.heap.size, 4, none⟩ u4).drew w.heap.size 52 [u0, u1, u2, u3, u4] ∧
    Var (((((w6.setCell ⟨w.heap.size, 0, none⟩ u0).setCell ⟨w.heap.size, 1, none⟩ u1).setCell ⟨w.heap.size, 2, none⟩ u2).setCell ⟨w.heap.size, 3, none⟩ u3).setCell ⟨w.heap.size, 4, none⟩ u4).drew (w.heap.size + 2) 52 [b0, b1, b2, b3, b4] ∧
    Chg (fun q => q = w.heap.size) w6 (((((w6.setCell ⟨w.heap.size, 0, none⟩ u0).setCell ⟨w.heap.size, 1, none⟩ u1).setCell ⟨w.heap.size, 2, none⟩ u2).setCell ⟨w.heap.size, 3, none⟩ u3).setCell ⟨w.heap.size, 4, none⟩ u4).drew := by
  have hc : Chg (fun q => q = w.heap.size) w6 (((((w6.setCell ⟨w.heap.size, 0, none⟩ u0).setCell ⟨w.heap.size, 1, none⟩ u1).setCell ⟨w.heap.size, 2, none⟩ u2).setCell ⟨w.heap.size, 3, none⟩ u3).setCell ⟨w.heap.size, 4, none⟩ u4).drew :=
    ((((((show Chg (fun q => q = w.heap.size) w6 w6 from Chg.refl _ w6).setCell (p := ⟨w.heap.size, 0, none⟩) (fun _ => rfl) u0).setCell (p := ⟨w.heap.size, 1, none⟩) (fun _ => rfl) u1).setCell (p := ⟨w.heap.size, 2, none⟩) (fun _ => rfl) u2).setCell (p := ⟨w.heap.size, 3, none⟩) (fun _ => rfl) u3).setCell (p := ⟨w.heap.size, 4, none⟩) (fun _ => rfl) u4).drew
  refine ⟨((((((hv.set 0 u0).set 1 u1).set 2 u2).set 3 u3).set 4 u4)).drew, hs.chg hc (by omega), hc⟩
theorem str_add (o p : Bs) : (⟨o.toArray⟩ : ByteArray) ++ ⟨p.toArray⟩ = ⟨(o ++ p).toArray⟩ := ByteArray.ext (by simp [ByteArray.data_append])
theorem infoSum : (Tryd.prog.info? 52).map (·.size) = some 5 := by kernel_rfl
set_option maxHeartbeats 8000000 in
set_option maxRecDepth 100000 in
theorem mfed_any (A : Option Addr) (n c : Nat) (l : Bs) (A2 : Option Addr) (n2 c2 : Nat) (zs : List Int) (w : World) (hsh : w.ShapedOpen Tryd.prog) (hnc : n ≤ c) (hA : A = none → n = 0) (hrd : Rd w w.heap.size 1 A n (bytesV l)) (hn : n ≤ 20000)
    (hrd2 : Rd w w.heap.size 1 A2 n2 (intsV zs)) (hn2 : n2 ≤ 16777216) (hz : ∀ z ∈ zs, -9223372036854775808 ≤ z ∧ z ≤ 9223372036854775807) :
    Calls Tryd.prog 27 #[.slice A n c, .slice A2 n2 c2] w (FedPost w (Chunk.feed {} l 0 [])) := by
  have hlen : l.length = n := by have := hrd.1; rw [bytesV_len] at this; omega
  have hlz : zs.length = n2 := by have := hrd2.1; unfold intsV at this; rw [List.length_map] at this; omega
  have HSH := Lib.hid hsh
  have HRD := Lib.hid hrd
  have HRZ := Lib.hid hrd2
  have HLEN := Lib.hid hlen
  have HZ := Lib.hid hz
  have HLZ := Lib.hid hlz
  have B0 := Lib.hid ((((Below.refl w.heap.size w).alloc (Nat.le_refl _) (.cells #[.string ⟨#[]⟩, .int .i64 0, .bool false, .bool false, .slice none 0 0] 52)).alloc (by simp) (.cells #[.int .i64 0, .int .i64 0, .slice none 0 0, .int .i64 0, .int .i64 0, .int .i64 0, .int .i64 0, .slice none 0 0] 41)).alloc (by simp; omega) (.cells #[.string ⟨#[]⟩, .int .i64 0, .bool false, .bool false, .slice none 0 0] 52))
  have V0 := Lib.hid (((Var.new w 52 [.string ⟨#[]⟩, .int .i64 0, .bool false, .bool false, .slice none 0 0]).alloc (.cells #[.int .i64 0, .int .i64 0, .slice none 0 0, .int .i64 0, .int .i64 0, .int .i64 0, .int .i64 0, .slice none 0 0] 41)).alloc (.cells #[.string ⟨#[]⟩, .int .i64 0, .bool false, .bool false, .slice none 0 0] 52))
  have R0 := rdr_new (w.alloc (.cells #[.string ⟨#[]⟩, .int .i64 0, .bool false, .bool false, .slice none 0 0] 52))
  rw [show (w.alloc (.cells #[.string ⟨#[]⟩, .int .i64 0, .bool false, .bool false, .slice none 0 0] 52)).heap.size = w.heap.size + 1 by simp] at R0
  have R0 := Lib.hid (Rdr.below R0 ((Below.refl _ _).alloc (Nat.le_refl _) (.cells #[.string ⟨#[]⟩, .int .i64 0, .bool false, .bool false, .slice none 0 0] 52)))
  have S0 := Var.new ((w.alloc (.cells #[.string ⟨#[]⟩, .int .i64 0, .bool false, .bool false, .slice none 0 0] 52)).alloc (.cells #[.int .i64 0, .int .i64 0, .slice none 0 0, .int .i64 0, .int .i64 0, .int .i64 0, .int .i64 0, .slice none 0 0] 41)) 52 [.string ⟨#[]⟩, .int .i64 0, .bool false, .bool false, .slice none 0 0]
  rw [show ((w.alloc (.cells #[.string ⟨#[]⟩, .int .i64 0, .bool false, .bool false, .slice none 0 0] 52)).alloc (.cells #[.int .i64 0, .int .i64 0, .slice none 0 0, .int .i64 0, .int .i64 0, .int .i64 0, .int .i64 0, .slice none 0 0] 41)).heap.size = w.heap.size + 2 by simp] at S0
  have S0 := Lib.hid S0
  clear hsh hrd hrd2 hlen hz hlz
  go_enter Tryd.func27, Tryd.ntmps27
  go_upto_block 0 with (fail)
  go_cut [] from 8 to 106 (fun wx => FedMid w l wx)
  case first =>
    go_wp2
    go_loopw [8] (fun i wr => ∃ (k j : Nat) (s : Chunk.St) (o : Bs) (vl vt : Value), i = .int .i64 j ∧ FedIs w l n wr k j s o vl vt) (fun i _ => n - (intOf i).toNat)
    case atStart => exact ⟨0, 0, {}, [], .slice none 0 0, .slice none 0 0, rfl, ⟨Nat.zero_le _, Nat.le_refl _, Chunk.Alive.init, by decide, R0.out, S0.out, V0.out, (fun q hq => by simp [Value.ownBlock] at hq), (fun q hq => by simp [Value.ownBlock] at hq), B0.out⟩⟩
    case round =>
    obtain ⟨k, j, s, o, vl, vt, rfl, hI⟩ := hrel
    have hle := hI.le
    have hjk := hI.jk
    have c1 := hI.sum.cell (j := 1) rfl
    have HI := Lib.hid hI
    clear hI
    by_cases hlt : k < n
    · have HRr := Lib.hid ((HRD.out.below HI.out.bl).more HI.out.bl.size)
      go_upto_if 27 with (fail)
      go_cut [9] from 16 to 106 (fun v wx => ∃ m : Nat, 1 ≤ m ∧ m ≤ 20000 ∧ v = .int .i64 m ∧ wr = wx)
      case first =>
        by_cases hz : n2 = 0
        · subst hz
          go_wp2
          go_meet
          exact ⟨n, by omega, hn, rfl, rfl⟩
        · have hn0 : 0 < n2 := by omega
          obtain ⟨g2, o2, e2, hg2, hc2⟩ := HRZ.out.2 hn0
          subst e2
          obtain ⟨q, hq⟩ : ∃ q, q = j % n2 := ⟨_, rfl⟩
          have hq1 : q < n2 := by rw [hq]; exact Nat.mod_lt _ hn0
          have hql : q < zs.length := by have := HLZ.out; omega
          have cq : wr.cell? ⟨g2, o2 + q, none⟩ = some (.int .i64 zs[q]) := (HI.out.bl.cell (p := ⟨g2, o2 + q, none⟩) hg2).trans (hc2 q _ (ints_get zs q hql))
          have hzq := HZ.out zs[q] (List.getElem_mem _)
          obtain ⟨z, hzz⟩ : ∃ z, z = zs[q] := ⟨_, rfl⟩
          rw [← hzz] at cq hzq
          have e3 : Int.tmod (j : Int) (n2 : Int) = (q : Int) := by rw [tmod_nat, hq]
          have e4 : (j : Int) % (n2 : Int) = (q : Int) := by rw [hq]; rfl
          have HMR := Lib.hid (fun W => mround_any z 64 W (by omega) (by omega) hzq)
          clear hc2 hq hzz hzq hql
          go_wp2_with (first
            | (go_at_call 68; refine (HMR.out _).mono ?_; rintro _ _ ⟨⟨r, hr, rfl⟩, rfl⟩)
            | fail)
          go_meet
          exact ⟨1 + r, by omega, by omega, by go_num, rfl⟩
      case rest =>
      obtain ⟨m0, hm1, hm2, rfl, rfl⟩ := hcut
      go_upto_if 43 with (fail)
      go_cut [9] from 16 to 106 (fun v wx => ∃ m : Nat, 1 ≤ m ∧ k + m ≤ n ∧ v = .int .i64 m ∧ wr = wx)
      case first =>
        by_cases hgt : n - k < m0
        · have i1 : (n : Int) - (k : Int) < (m0 : Int) := by omega
          go_wp2
          go_meet
          exact ⟨n - k, by omega, by omega, by go_num, rfl⟩
        · have i1 : ¬ (n : Int) - (k : Int) < (m0 : Int) := by omega
          go_wp2
          go_meet
          exact ⟨m0, hm1, by omega, rfl, rfl⟩
      case rest =>
      obtain ⟨m, hm3, hm4, rfl, rfl⟩ := hcut
      clear hm1 hm2
      obtain ⟨g, o0, e0, hg, _⟩ := HRr.out.2 (by omega)
      subst e0
      have hrs := Rd.sub HRr.out k m hm4
      have hal := Chunk.alive_more HI.out.al (m := m) (by have := HLEN.out; omega)
      have hpl : ((l.drop k).take m).length = m := by rw [List.length_take, List.length_drop]; have := HLEN.out; omega
      obtain ⟨p, hp⟩ : ∃ p, p = (l.drop k).take m := ⟨_, rfl⟩
      rw [← hp] at hrs hal hpl
      have HRS := Lib.hid hrs
      have hkd := Chunk.feed_kind' p s
      have hrl := Chunk.feed_read_le p s
      have hfa : Chunk.feedA s p = Chunk.feed s p 0 [] := by
        have := HI.out.al.ok.at_
        rw [Chunk.feedA, if_neg HI.out.n11, if_neg (by omega)]
      have hat := Chunk.feed_at p s HI.out.n11
      have hok : Chunk.Good s k := Or.inr (HI.out.al.ok.mono (by rw [List.length_take]; omega))
      have hol : o.length ≤ 20000 := by rw [← HI.out.al.total]; have := HI.out.al.ok.total; rw [List.length_take] at this; omega
      have HF := Lib.hid (fun (A : Option Addr) (c : Nat) (W : World) (h1 : Shp (w.heap.size + 1) W) (h2 : Rdr W (w.heap.size + 1) (w.heap.size + 1) s vl vt) (h3 : m ≤ c) (h4 : A = none → m = 0) (h5 : Rd W W.heap.size 1 A m (bytesV p)) (h6 : 0 < m → ∀ g o, A = some ⟨g, o, none⟩ → ¬ foot (w.heap.size + 1) vl vt g) =>
        feedA_any (T := k) A m c p h1 h2 hok (by omega) (by omega) h3 h4 h5 h6)
      rw [hfa] at HF
      obtain ⟨⟨s2, o2, cn, q⟩, hr⟩ : ∃ r, r = Chunk.feed s p 0 [] := ⟨_, rfl⟩
      rw [← hr] at HF hkd hrl hal hat
      dsimp only at hkd hrl hal hat
      have HAL := Lib.hid hal
      have HAT := Lib.hid hat
      have hol2 : o2.length ≤ 20000 := by
        have h1 := Chunk.feed_out_le p s
        rw [← hr] at h1
        dsimp only at h1
        omega
      obtain ⟨D, hD⟩ : ∃ D, D = decide (q = 1) := ⟨_, rfl⟩
      obtain ⟨E, hE⟩ : ∃ E : Int, E = if q = 2 then 230 else 0 := ⟨_, rfl⟩
      unfold FeedPost at HF
      dsimp only at HF
      rw [← hD, ← hE] at HF
      have HE0 : Hid ((p ++ [201, 202]).take m = p) := Lib.hid (by rw [← hpl]; exact List.take_left)
      have HDE := Lib.hid (And.intro hD hE)
      have HKD := Lib.hid hkd
      have HAD : Hid (k + m ≤ n) := Lib.hid hm4
      have i1 : (0 : Int) ≤ (k : Int) := by omega
      have i2 : (k : Int) ≤ (k : Int) + (m : Int) := by omega
      have i3 : (k : Int) + (m : Int) ≤ (c : Int) := by omega
      have i4 : ¬ c = k := by omega
      clear hal hat hrs hfa hok hp hr hkd hD hE
      go_upto_region 12 with (first
        | (go_at_call 29; go_must (refine (mlent_any (some ⟨g, o0 + k, none⟩) m (c - k) p _ (fun e => by cases e) HRS.out (by omega)).mono ?_; rintro _ w3 ⟨g3, o3, c3, rfl, hc3, hm3, hrow3, hb3⟩; have hr3 := (fed_rdn hrow3).pre (k := m) (by omega); rw [Nat.mul_one, bytesV_take, HE0.out] at hr3; have hg3 := hrow3.lt g3 rfl; have hz3 := hb3.size; have HF3 := Lib.hid (HF.out (some ⟨g3, o3, none⟩) c3 w3 ⟨w, HSH.out, by omega, HI.out.bl.trans (hb3.mono HI.out.bl.size)⟩ (HI.out.rdr.below hb3) (by omega) (fun e => by cases e) hr3 (fun _ g o e hf => (by injection e with e; injection e with e1 _ _; subst e1; have := (HI.out.rdr.foot_lt _ hf).2; omega))); clear hrow3 hr3))
        | (go_at_call 23; go_must (refine HF3.out.mono ?_; rintro _ w4 ⟨vo, rfl, hro4, vl4, vt4, hr4, hch4, kk1, kk2, kk3⟩))
        | fail)
      obtain ⟨hS4, hV4, hB4, nl4, nt4⟩ := fed_after HI.out hb3 hr4 hch4 kk1 kk2
      obtain ⟨A4, c4, rfl, _, _, _, _⟩ := RowB.form hro4
      have v1 := conv_row hro4
      have s0 : w4.cell? ⟨w.heap.size + 2, 0, none⟩ = some (.string ⟨o.toArray⟩) := hS4.cell (j := 0) rfl
      have s1 : w4.cell? ⟨w.heap.size + 2, 1, none⟩ = some (.int .i64 (k : Int)) := hS4.cell (j := 1) rfl
      have s2c : w4.cell? ⟨w.heap.size + 2, 2, none⟩ = some (.bool false) := hS4.cell (j := 2) rfl
      have s3c : w4.cell? ⟨w.heap.size + 2, 3, none⟩ = some (.bool false) := hS4.cell (j := 3) rfl
      have y0 := hS4.frozen 0
      have y1 := hS4.frozen 1
      have y2 := hS4.frozen 2
      have y3 := hS4.frozen 3
      obtain ⟨O3, hO3⟩ : ∃ O3, O3 = o ++ o2 := ⟨_, rfl⟩
      have hadd : (⟨o.toArray⟩ : ByteArray) ++ ⟨o2.toArray⟩ = ⟨O3.toArray⟩ := by rw [hO3]; exact str_add o o2
      have HO3 := Lib.hid hO3
      have HSUM := Lib.hid (fun u0 u1 u2 u3 => fed_sum (a0 := .string ⟨o.toArray⟩) (a1 := .int .i64 (k : Int)) (a2 := .bool false) (a3 := .bool false) (a4 := .slice none 0 0) hr4 hS4 hV4 hB4 nl4 nt4 u0 u1 u2 u3)
      have HNL := Lib.hid nl4
      have HNT := Lib.hid nt4
      clear hS4 hV4 hB4 nl4 nt4 hO3 hro4 hr4 hch4 kk1 kk2 kk3 hb3 hg3 hz3 HF3 HF HRr c1
      rcases HKD.out with e | e | e
      · subst e
        obtain ⟨hD, hE⟩ := HDE.out
        obtain rfl : D = false := by rw [hD]; rfl
        obtain rfl : E = 0 := by rw [hE]; rfl
        obtain ⟨hcn, hal⟩ := HAL.out.1 rfl
        have HN11 := Lib.hid (HAT.out.1 rfl)
        have HA2 := Lib.hid hal
        subst hcn
        clear hal HAL HAT HDE HKD hD hE
        go_wp2
        go_roundw
        case rel =>
          have h := HSUM.out (.string ⟨O3.toArray⟩) (.int .i64 ((k : Int) + (cn : Int))) (.bool false) (.bool false)
          refine ⟨k + cn, j + 1, s2, O3, vl4, vt4, by go_num, ?_⟩
          rw [← HO3.out] at HA2
          exact ⟨HAD.out, by omega, HA2.out, HN11.out, h.1, h.2.1, h.2.2.1, HNL.out, HNT.out, h.2.2.2⟩
        case measure => simp [intOf]; omega
      · subst e
        obtain ⟨hD, hE⟩ := HDE.out
        obtain rfl : D = true := by rw [hD]; rfl
        obtain rfl : E = 0 := by rw [hE]; rfl
        have HEND := Lib.hid (HAL.out.2 (by omega))
        clear HAL HAT HDE HKD hD hE
        (go_wp2
         go_meet
         have h := HSUM.out (.string ⟨O3.toArray⟩) (.int .i64 ((k : Int) + (cn : Int))) (.bool true) (.bool false)
         rw [← HO3.out] at HEND
         exact ⟨s2, O3, k + cn, 1, vl4, vt4, HEND.out, h.1, h.2.1, h.2.2.1, HNL.out, HNT.out, h.2.2.2⟩)
      · subst e
        obtain ⟨hD, hE⟩ := HDE.out
        obtain rfl : D = false := by rw [hD]; rfl
        obtain rfl : E = 230 := by rw [hE]; rfl
        have HEND := Lib.hid (HAL.out.2 (by omega))
        clear HAL HAT HDE HKD hD hE
        (go_wp2
         go_meet
         have h := HSUM.out (.string ⟨O3.toArray⟩) (.int .i64 ((k : Int) + (cn : Int))) (.bool false) (.bool true)
         rw [← HO3.out] at HEND
         exact ⟨s2, O3, k + cn, 2, vl4, vt4, HEND.out, h.1, h.2.1, h.2.2.1, HNL.out, HNT.out, h.2.2.2⟩)
    · have hkn : k = n := by omega
      have HEND : Hid (Chunk.feed {} l 0 [] = (s, o, n, 0)) := Lib.hid (by
        have h := HI.out.al
        rw [hkn, List.take_of_length_le (by have := HLEN.out; omega)] at h
        have h2 := h.feed_all []
        unfold Chunk.Alive at h
        rw [h, HLEN.out])
      subst hkn
      go_wp2
      go_meet
      exact ⟨s, o, k, 0, vl, vt, HEND.out, HI.out.rdr, HI.out.sum, HI.out.res, HI.out.nl, HI.out.nt, HI.out.bl⟩
  case rest =>
    obtain ⟨s, o, m, q, vl, vt, hfe, hr, hs, hv, nl, nt, hbl⟩ := hcut
    obtain ⟨wx, rfl⟩ : ∃ wx : World, wx = wc := ⟨_, rfl⟩
    have HFE := Lib.hid hfe
    have hat := Chunk.feed_at l {} (by decide)
    have hkd := Chunk.feed_kind' l {}
    have htt := Chunk.feed_total l {}
    have hgd := Chunk.Good.init.goes l
    rw [show Chunk.feedA {} l = Chunk.feed {} l 0 [] from rfl] at hgd
    rw [hfe] at hat hkd htt hgd
    dsimp only at hat hkd htt hgd
    have HTR : Hid (trOf s = trL (s, o, m, q)) := Lib.hid (by
      unfold trOf trL
      dsimp only
      rcases hkd with e | e | e
      · rw [if_neg (hat.1 e), if_neg (by omega)]
      · rw [if_pos (hat.2.1 e), if_pos e]
      · rw [if_neg (by have := hat.2.2 e; omega), if_neg (by omega)])
    have hct := ctrail_any hr hgd
    rw [HTR.out] at hct
    have HCT := Lib.hid hct
    obtain ⟨X, hX⟩ : ∃ X : ByteArray, X = ⟨o.toArray⟩ := ⟨_, rfl⟩
    have hXs : s.total = X.size := by
      rw [htt, hX]; show 0 + o.length = _; rw [Nat.zero_add]; rfl
    have HTOT := Lib.hid (fun W h => by have := ctotal_any (w := W) h; rw [hXs] at this; exact this : ∀ W, Rdr W (w.heap.size + 1) (w.heap.size + 1) s vl vt → Calls Tryd.prog 69 #[.pointer (some ⟨w.heap.size + 1, 0, none⟩)] W fun e w' => e = .returned (.int .i64 (X.size : Int)) ∧ W = w')
    obtain ⟨D1, hD1⟩ : ∃ D1, D1 = decide (q = 1) := ⟨_, rfl⟩
    obtain ⟨D2, hD2⟩ : ∃ D2, D2 = decide (q = 2) := ⟨_, rfl⟩
    have hs' : Var wx (w.heap.size + 2) 52 [.string X, .int .i64 (m : Int), .bool D1, .bool D2, .slice none 0 0] := by rw [hX, hD1, hD2]; exact hs
    have HSU : Hid (∀ v, (sumC o m q v).toArray = #[.string X, .int .i64 (m : Int), .bool D1, .bool D2, v]) := Lib.hid (fun v => by rw [hX, hD1, hD2]; rfl)
    have HS1 := Lib.hid hs'
    have HV1 := Lib.hid hv
    have HRR := Lib.hid hr
    have HBL := Lib.hid hbl
    have HNL := Lib.hid nl
    have HNT := Lib.hid nt
    clear hfe hat hkd htt hgd hct hXs hX hD1 hD2 hs hs' hv hr hbl nl nt HTR R0 S0 V0 B0
    go_upto_region 20 with (first
      | (go_at_call 26; go_must (refine HCT.out.mono ?_; rintro _ w5 ⟨v5, rfl, hrow5, hb5⟩; obtain ⟨A5, c5, rfl, _, _, _, _⟩ := hrow5.form; have y4 := (HS1.out.below_all hb5).frozen 4; have x4 := (HS1.out.below_all hb5).cell (j := 4) rfl))
      | fail)
    have HB5 := Lib.hid hb5
    have HRW := Lib.hid hrow5
    obtain ⟨w6, hw6⟩ : ∃ w6 : World, w6 = w5.setCell ⟨w.heap.size + 2, 4, none⟩ (.slice A5 (trL (s, o, m, q)).length c5) := ⟨_, rfl⟩
    have hs6 : Var w6 (w.heap.size + 2) 52 [.string X, .int .i64 (m : Int), .bool D1, .bool D2, .slice A5 (trL (s, o, m, q)).length c5] := by
      rw [hw6]; exact (HS1.out.below_all hb5).set 4 _
    have hc6 : Chg (fun q => q = w.heap.size + 2) w5 w6 := by
      rw [hw6]; exact (show Chg (fun q => q = w.heap.size + 2) w5 w5 from Chg.refl _ w5).setCell (p := ⟨w.heap.size + 2, 4, none⟩) (fun _ => rfl) _
    have hv6 : Var w6 w.heap.size 52 [.string ⟨#[]⟩, .int .i64 0, .bool false, .bool false, .slice none 0 0] := (HV1.out.below_all hb5).chg hc6 (by omega)
    have hr6 : Rdr w6 (w.heap.size + 1) (w.heap.size + 1) s vl vt := (HRR.out.below hb5).chg hc6 (fun q hq e => by subst e; exact foot_far HNL.out HNT.out (.inl rfl) hq)
    have hb6 : Below w.heap.size w w6 := (HBL.out.trans (hb5.mono HBL.out.size)).trans (hc6.below (by have := HBL.out.size; have := hb5.size; omega) (fun q e => by omega))
    have hw5 : Row w6 w.heap.size 2 (.slice A5 (trL (s, o, m, q)).length c5) (trL (s, o, m, q)).length (fieldsV (flB (trL (s, o, m, q)))) := (hrow5.chg hc6 (fun g hg e => by have := (hrow5.lt _ hg).1; have := HS1.out.lt; omega)).mono HBL.out.size
    have hfar : ∀ g, (Value.slice A5 (trL (s, o, m, q)).length c5).ownBlock = some g → w.heap.size + 2 < g := fun g hg => by have := (hrow5.lt _ hg).1; have := HS1.out.lt; omega
    have HFAR := Lib.hid hfar
    have HS6 := Lib.hid hs6
    have HV6 := Lib.hid hv6
    have HR6 := Lib.hid hr6
    have HB6 := Lib.hid hb6
    have HW6 := Lib.hid hw5
    rw [← hw6]
    obtain ⟨nt, hnt⟩ : ∃ nt, nt = (trL (s, o, m, q)).length := ⟨_, rfl⟩
    have HNTL := Lib.hid hnt
    rw [← hnt] at HS6 HW6 HFAR ⊢
    clear y4 x4 hb5 hrow5 hs6 hc6 hv6 hr6 hb6 hw5 hw6 hfar hnt HS1 HV1 HRR HBL HCT HB5 HRW
    have HK : Hid (∀ w' : World, Var w' (w.heap.size + 2) 52 [.string X, .int .i64 (m : Int), .bool D1, .bool D2, .slice A5 nt c5] → (w'.cell? ⟨w.heap.size + 2, 0, none⟩ = some (.string X) ∧ w'.cell? ⟨w.heap.size + 2, 1, none⟩ = some (.int .i64 (m : Int)) ∧ w'.cell? ⟨w.heap.size + 2, 2, none⟩ = some (.bool D1) ∧ w'.cell? ⟨w.heap.size + 2, 3, none⟩ = some (.bool D2) ∧ w'.cell? ⟨w.heap.size + 2, 4, none⟩ = some (.slice A5 nt c5))) := Lib.hid (fun w' a => ⟨a.cell (j := 0) rfl, a.cell (j := 1) rfl, a.cell (j := 2) rfl, a.cell (j := 3) rfl, a.cell (j := 4) rfl⟩)
    have u0 := HV6.out.cell (j := 0) rfl
    have u1 := HV6.out.cell (j := 1) rfl
    have u2 := HV6.out.cell (j := 2) rfl
    have u3 := HV6.out.cell (j := 3) rfl
    have u4 := HV6.out.cell (j := 4) rfl
    have y0 := HV6.out.frozen 0
    have y1 := HV6.out.frozen 1
    have y2 := HV6.out.frozen 2
    have y3 := HV6.out.frozen 3
    have y4 := HV6.out.frozen 4
    refine wp_region_held_drew (S := (fun w' => w'.cell? ⟨w.heap.size + 2, 0, none⟩ = some (.string X) ∧ w'.cell? ⟨w.heap.size + 2, 1, none⟩ = some (.int .i64 (m : Int)) ∧ w'.cell? ⟨w.heap.size + 2, 2, none⟩ = some (.bool D1) ∧ w'.cell? ⟨w.heap.size + 2, 3, none⟩ = some (.bool D2) ∧ w'.cell? ⟨w.heap.size + 2, 4, none⟩ = some (.slice A5 nt c5))) (by as_aux_lemma => kernel_rfl) ?_ (fun hHeld => ?_)
    · exact HK.out _ HS6.out.drew
    refine wpAnyH_take (i := 0) (v := ?_) (by simp only [List.getElem?_toArray, List.getElem?_cons_zero]; exact rfl) (by as_aux_lemma => kernel_rfl) (by as_aux_lemma => kernel_rfl) (by as_aux_lemma => kernel_rfl) (by exact fun _ _ _ h => h) (Or.inl ⟨by rfl, ?_⟩) (by assumption) ?_
    rotate_left
    · intro w hSw
      (try dsimp only at hSw)
      go_simp
      try with_reducible rfl
    (try simp only [Act.put, List.setIfInBounds_toArray, List.set_cons_zero, List.set_cons_succ])
    refine wpAnyH_take (i := 1) (v := ?_) (by simp only [List.getElem?_toArray, List.getElem?_cons_succ, List.getElem?_cons_zero]; exact rfl) (by as_aux_lemma => kernel_rfl) (by as_aux_lemma => kernel_rfl) (by as_aux_lemma => kernel_rfl) (by exact fun _ _ _ h => h) (Or.inl ⟨by rfl, ?_⟩) (by assumption) ?_
    rotate_left
    · intro w hSw
      (try dsimp only at hSw)
      go_simp
      try with_reducible rfl
    (try simp only [Act.put, List.setIfInBounds_toArray, List.set_cons_zero, List.set_cons_succ])
    refine wpAnyH_take (i := 3) (v := ?_) (by simp only [List.getElem?_toArray, List.getElem?_cons_succ, List.getElem?_cons_zero]; exact rfl) (by as_aux_lemma => kernel_rfl) (by as_aux_lemma => kernel_rfl) (by as_aux_lemma => kernel_rfl) (by exact fun _ _ _ h => h) (Or.inl ⟨by rfl, ?_⟩) (by assumption) ?_
    rotate_left
    · intro w hSw
      (try dsimp only at hSw)
      go_simp
      try with_reducible rfl
    (try simp only [Act.put, List.setIfInBounds_toArray, List.set_cons_zero, List.set_cons_succ])
    refine wpAnyH_take (i := 4) (v := ?_) (by simp only [List.getElem?_toArray, List.getElem?_cons_succ, List.getElem?_cons_zero]; exact rfl) (by as_aux_lemma => kernel_rfl) (by as_aux_lemma => kernel_rfl) (by as_aux_lemma => kernel_rfl) (by exact fun _ _ _ h => h) (Or.inl ⟨by rfl, ?_⟩) (by assumption) ?_
    rotate_left
    · intro w hSw
      (try dsimp only at hSw)
      go_simp
      try with_reducible rfl
    (try simp only [Act.put, List.setIfInBounds_toArray, List.set_cons_zero, List.set_cons_succ])
    refine wpAnyH_take (i := 5) (v := ?_) (by simp only [List.getElem?_toArray, List.getElem?_cons_succ, List.getElem?_cons_zero]; exact rfl) (by as_aux_lemma => kernel_rfl) (by as_aux_lemma => kernel_rfl) (by as_aux_lemma => kernel_rfl) (by exact fun _ _ _ h => h) (Or.inl ⟨by rfl, ?_⟩) (by assumption) ?_
    rotate_left
    · intro w hSw
      (try dsimp only at hSw)
      go_simp
      try with_reducible rfl
    (try simp only [Act.put, List.setIfInBounds_toArray, List.set_cons_zero, List.set_cons_succ])
    refine wpAnyH_ready (rs := [2]) (by as_aux_lemma => kernel_rfl) (by simp) ?_
    refine AllReadyH.cons (by simp only [List.getElem?_toArray, List.getElem?_cons_succ, List.getElem?_cons_zero]; exact rfl) (fun K hK => ?_) AllReadyH.nil
    go_simp
    (go_at_call 69; refine (HTOT.out _ (HR6.out.chg ((Chg.refl (fun _ => False) _).drew) (fun _ _ e => e))).mono ?_; rintro _ _ ⟨rfl, rfl⟩)
    refine hK.out _ _ ?_ (fun hHeld => ?_)
    · (try dsimp only)
      exact HK.out _ HS6.out.drew
    clear hK K
    (try simp only [Act.put, List.setIfInBounds_toArray, List.set_cons_zero, List.set_cons_succ])
    refine wpAnyH_take (i := 6) (v := ?_) (by simp only [List.getElem?_toArray, List.getElem?_cons_succ, List.getElem?_cons_zero]; exact rfl) (by as_aux_lemma => kernel_rfl) (by as_aux_lemma => kernel_rfl) (by as_aux_lemma => kernel_rfl) (by exact fun _ _ _ h => h) (Or.inl ⟨by rfl, ?_⟩) (by assumption) ?_
    rotate_left
    · intro w hSw
      (try dsimp only at hSw)
      go_simp
      try with_reducible rfl
    (try simp only [Act.put, List.setIfInBounds_toArray, List.set_cons_zero, List.set_cons_succ])
    refine wpAnyH_ready (rs := [7]) (by as_aux_lemma => kernel_rfl) (by simp) ?_
    refine AllReadyH.cons (by simp only [List.getElem?_toArray, List.getElem?_cons_succ, List.getElem?_cons_zero]; exact rfl) (fun K hK => ?_) AllReadyH.nil
    go_simp
    refine hK.out _ _ ?_ (fun hHeld => ?_)
    · (try dsimp only)
      exact HK.out _ (fed_put HV6.out HS6.out _ _ _ _ _).2.1
    clear hK K
    refine wpAnyH_take (i := 8) (v := ?_) (by simp only [List.getElem?_toArray, List.getElem?_cons_succ, List.getElem?_cons_zero]; exact rfl) (by as_aux_lemma => kernel_rfl) (by as_aux_lemma => kernel_rfl) (by as_aux_lemma => kernel_rfl) (by exact fun _ _ _ h => h) (Or.inl ⟨by rfl, ?_⟩) (by assumption) ?_
    rotate_left
    · intro w hSw
      (try dsimp only at hSw)
      go_simp
      try with_reducible rfl
    (try simp only [Act.put, List.setIfInBounds_toArray, List.set_cons_zero, List.set_cons_succ])
    refine wpAnyH_done (by as_aux_lemma => kernel_rfl) ?_ _
    clear u0 u1 u2 u3 u4 y0 y1 y2 y3 y4
    have HP := Lib.hid (fed_put HV6.out HS6.out (.string X) (.int .i64 (m : Int)) (.bool D1) (.bool D2) (.slice A5 nt c5))
    go_wp2
    refine bodyPost_ret (results_var rfl _ _ rfl HP.out.1 Tryd.underlying52 rfl (by kernel_rfl)) rfl ?_
    rw [HFE.out]
    have hc := HP.out.2.2
    refine ⟨.slice A5 nt c5, by rw [HSU.out]; rfl, ?_, ?_⟩
    · rw [← HNTL.out]
      exact HW6.out.chg hc (fun g hg e => by have := HFAR.out g hg; omega)
    · exact Below.chg HB6.out hc HB6.out.size (fun q e => by omega)
end Go.Proofs.YtabecgdaiakgiaaDoor
