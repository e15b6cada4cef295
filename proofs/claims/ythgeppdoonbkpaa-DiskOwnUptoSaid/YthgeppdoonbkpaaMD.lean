/- A disk that a law holds while other blocks stay as they were in a world Z.1: its calls. Printed by gen_livek.py. Conditions: sizes. | does: an Op played at a disk beside blocks that stay. Printed by gen_livek.py. Conditions: sizes. | Two disks that share what nobody writes, and a law's own rows in families. No condition. | Appending to a row: what was the row before reads as it did. No condition. | The law DiskOwn's own memory: lists of names, lists of bytes, beside a disk and its copy. No condition. -/
import Derived.Test.YthgeppdoonbkpaaDskDo
import Derived.Test.YthgeppdoonbkpaaDskCd
import Derived.Test.YthgeppdoonbkpaaMA
namespace Go.Proofs.Ythgeppdoonbkpaa
open Go.RowKit Go.Maps Go.WideMaps
theorem Mem.stays {w w' : World} {db : Nat} {F : Nat → Nat} {ρ : Roles} {s : Dsk.St} {T : Nat} (h : Mem w db F ρ s T) (hs : Lies ρ ρ (fun _ => False) w w') : Mem w' db F ρ s T := by
  obtain ⟨lb, nb, ln, nn, vl, va, hv, ⟨l1, l2, l3⟩, ⟨n1, n2, n3⟩, ⟨m1, m2⟩, ha⟩ := h.get
  exact ⟨fun b r e => Nat.lt_of_lt_of_le (h.lt b r e) hs.size, h.disk, ⟨lb, nb, ln, nn, vl, va, (hs.block hv.lt h.disk id).trans hv, ⟨l1, l2.keep hs l1 id, l3⟩, ⟨n1, n2.keep hs n1 id, n3⟩, ⟨m1.block_eq (fun b hb => hs.block (m1.lt b hb).2 (m2 b hb) id), m2⟩, ha.keep hs id id⟩, fun i hi => (h.file i hi).keep hs id id id, h.fit⟩
/-- a disk in memory that came since w0; O: the law's own blocks; Z: blocks that stay as they were in a world -/
def LiveK (Z : World × (Nat → Prop)) (w0 : World) (O : Nat → Prop) (W : World) (db : Nat) (s : Dsk.St) (T : Nat) : Prop :=
  ∃ F ρ, Mem W db F ρ s T ∧ Below w0.heap.size w0 W ∧ (∀ b r, ρ b = some r → Mut r → w0.heap.size ≤ b) ∧ (∀ b, O b → b < W.heap.size ∧ ρ b = none ∧ ¬ Z.2 b) ∧ Z.1.heap.size ≤ W.heap.size ∧ ∀ b, Z.2 b → b < Z.1.heap.size ∧ W.heap[b]? = Z.1.heap[b]? ∧ (ρ b = none ∨ ρ b = some .data)
section
variable {Z : World × (Nat → Prop)} {w0 W W' : World} {O O' : Nat → Prop} {db : Nat} {s s' : Dsk.St} {T T' : Nat}
theorem LiveK.bel (h : LiveK Z w0 O W db s T) : Below w0.heap.size w0 W := by obtain ⟨F, ρ, _, hb, _⟩ := h; exact hb
theorem LiveK.fit (h : LiveK Z w0 O W db s T) : Dsk.Fit s T := by obtain ⟨F, ρ, hm, _⟩ := h; exact hm.fit
theorem LiveK.olt (h : LiveK Z w0 O W db s T) {b : Nat} (hb : O b) : b < W.heap.size := by obtain ⟨F, ρ, _, _, _, h3, _⟩ := h; exact (h3 b hb).1
theorem LiveK.zsz (h : LiveK Z w0 O W db s T) : Z.1.heap.size ≤ W.heap.size := by obtain ⟨F, ρ, _, _, _, _, h4, _⟩ := h; exact h4
theorem LiveK.zlt (h : LiveK Z w0 O W db s T) {b : Nat} (hb : Z.2 b) : b < Z.1.heap.size := by obtain ⟨F, ρ, _, _, _, _, _, h5⟩ := h; exact (h5 b hb).1
theorem LiveK.zeq (h : LiveK Z w0 O W db s T) {b : Nat} (hb : Z.2 b) : W.heap[b]? = Z.1.heap[b]? := by obtain ⟨F, ρ, _, _, _, _, _, h5⟩ := h; exact (h5 b hb).2.1
theorem LiveK.nz (h : LiveK Z w0 O W db s T) {b : Nat} (hb : W.heap.size ≤ b) : ¬ Z.2 b := fun e => by have := h.zlt e; have := h.zsz; omega
theorem LiveK.grow (h : LiveK Z w0 O W db s T) (hb : Below W.heap.size W W') : LiveK Z w0 O W' db s T := by
  have hz := h.zsz
  obtain ⟨F, ρ, hm, h1, h2, h3, h4, h5⟩ := h
  exact ⟨F, ρ, hm.below hb, h1.trans (hb.mono h1.size), h2, fun b hb' => ⟨Nat.lt_of_lt_of_le (h3 b hb').1 hb.size, (h3 b hb').2⟩, Nat.le_trans hz hb.size, fun b hb' => ⟨(h5 b hb').1, (hb.block b (Nat.lt_of_lt_of_le (h5 b hb').1 hz)).trans (h5 b hb').2.1, (h5 b hb').2.2⟩⟩
/-- the law's own blocks, new ones or fewer -/
theorem LiveK.turn (h : LiveK Z w0 O W db s T) {S : Nat → Prop} (hc : Chg S W W') (hS : ∀ b, b < W.heap.size → S b → O b ∧ w0.heap.size ≤ b) (hO : ∀ b, O' b → O b ∨ (W.heap.size ≤ b ∧ b < W'.heap.size)) : LiveK Z w0 O' W' db s T := by
  have hz := h.zsz
  have hn := @LiveK.nz _ _ _ _ _ _ _ h
  obtain ⟨F, ρ, hm, h1, h2, h3, h4, h5⟩ := h
  refine ⟨F, ρ, hm.keep hc (fun b hb hs => (h3 b (hS b hb hs).1).2.1), ?_, h2, fun b hb' => ?_, Nat.le_trans hz hc.size, fun b hb' => ⟨(h5 b hb').1, (hc.block b (Nat.lt_of_lt_of_le (h5 b hb').1 hz) (fun e => (h3 b (hS b (Nat.lt_of_lt_of_le (h5 b hb').1 hz) e).1).2.2 hb')).trans (h5 b hb').2.1, (h5 b hb').2.2⟩⟩
  · exact ⟨hc.os.trans h1.os, hc.tape.trans h1.tape, hc.output.trans h1.output, Nat.le_trans h1.size hc.size, fun k hk => (hc.block k (Nat.lt_of_lt_of_le hk h1.size) (fun hs => by have := (hS k (Nat.lt_of_lt_of_le hk h1.size) hs).2; omega)).trans (h1.block k hk)⟩
  · rcases hO b hb' with h6 | h6
    · exact ⟨Nat.lt_of_lt_of_le (h3 b h6).1 hc.size, (h3 b h6).2⟩
    · refine ⟨h6.2, ?_, hn h6.1⟩
      cases hr : ρ b with
      | none => rfl
      | some r => have := hm.lt b r hr; omega
theorem LiveK.own (h : LiveK Z w0 O W db s T) (hb : Below W.heap.size W W') (hO : ∀ b, O' b → O b ∨ (W.heap.size ≤ b ∧ b < W'.heap.size)) : LiveK Z w0 O' W' db s T :=
  h.turn (S := fun _ => False) (Chg.of_below hb) (fun _ _ e => e.elim) hO
theorem LiveK.less (h : LiveK Z w0 O W db s T) (hO : ∀ b, O' b → O b) : LiveK Z w0 O' W db s T := h.turn (S := fun _ => False) (Chg.refl _ _) (fun _ _ e => e.elim) (fun b e => .inl (hO b e))
theorem LiveK.wrote (h : LiveK Z w0 O W db s T) {S : Nat → Prop} (hc : Chg S W W') (hS : ∀ b, b < W.heap.size → S b → O b ∧ w0.heap.size ≤ b) : LiveK Z w0 O W' db s T := h.turn hc hS (fun _ e => .inl e)
theorem LiveK.more (h : LiveK Z w0 O W db s T) (hT : T ≤ T') : LiveK Z w0 O W db s T' := by
  obtain ⟨F, ρ, hm, h1⟩ := h
  exact ⟨F, ρ, hm.more hT, h1⟩
theorem LiveK.out {F : Nat → Nat} {ρ : Roles} (_hm : Mem W db F ρ s T) (h1 : Below w0.heap.size w0 W) (h2 : ∀ b r, ρ b = some r → Mut r → w0.heap.size ≤ b) (h3 : ∀ b, O b → b < W.heap.size ∧ ρ b = none ∧ ¬ Z.2 b) (h4 : Z.1.heap.size ≤ W.heap.size) (h5 : ∀ b, Z.2 b → b < Z.1.heap.size ∧ W.heap[b]? = Z.1.heap[b]? ∧ (ρ b = none ∨ ρ b = some .data)) (ho : Out W db ρ s' T' W') : LiveK Z w0 O W' db s' T' ∧ Kept O W W' := by
  obtain ⟨F', ρ', hm', hs⟩ := ho
  have hnew : ∀ b, b < W.heap.size → ρ' b = ρ b := hs.ext
  have hb : Below w0.heap.size w0 W' := ⟨hs.chg.os.trans h1.os, hs.chg.tape.trans h1.tape, hs.chg.output.trans h1.output, Nat.le_trans h1.size hs.chg.size, fun k hk => (hs.chg.block k (Nat.lt_of_lt_of_le hk h1.size) (fun ⟨r, e, q⟩ => by have := h2 k r e q; omega)).trans (h1.block k hk)⟩
  refine ⟨⟨F', ρ', hm', hb, fun b r e q => ?_, fun b hb' => ⟨Nat.lt_of_lt_of_le (h3 b hb').1 hs.chg.size, (hnew b (h3 b hb').1).trans (h3 b hb').2.1, (h3 b hb').2.2⟩, Nat.le_trans h4 hs.chg.size, fun b hb' => ?_⟩, hs.chg.size, fun b hb' => ?_⟩
  · by_cases hlt : b < W.heap.size
    · rw [hnew b hlt] at e; exact h2 b r e q
    · have := h1.size; omega
  · have hlt := Nat.lt_of_lt_of_le (h5 b hb').1 h4
    refine ⟨(h5 b hb').1, (hs.chg.block b hlt (fun ⟨r, e, q⟩ => ?_)).trans (h5 b hb').2.1, by rw [hnew b hlt]; exact (h5 b hb').2.2⟩
    rcases (h5 b hb').2.2 with h6 | h6
    · rw [h6] at e; cases e
    · rw [h6] at e; injection e with e; exact q e.symm
  · exact hs.chg.block b (h3 b hb').1 (fun ⟨r, e, _⟩ => by rw [(h3 b hb').2.1] at e; cases e)
theorem LiveK.call (h : LiveK Z w0 O W db s T) {f : Nat} {args : Array Value} {e0 : Ending} (hop : ∀ F ρ, Mem W db F ρ s T → (∀ b, O b → ρ b = none) → Calls Try.prog f args W fun e w' => e = e0 ∧ Out W db ρ s' T' w') :
    Calls Try.prog f args W fun e w' => e = e0 ∧ LiveK Z w0 O w' db s' T' ∧ Kept O W w' := by
  obtain ⟨F, ρ, hm, h1, h2, h3, h4, h5⟩ := h
  refine (hop F ρ hm (fun b hb => (h3 b hb).2.1)).mono ?_
  rintro e w' ⟨he, ho⟩
  exact ⟨he, LiveK.out hm h1 h2 h3 h4 h5 ho⟩
theorem LiveK.ask (h : LiveK Z w0 O W db s T) {f : Nat} {args : Array Value} {R : Ending → World → Prop} (hop : ∀ F ρ, Mem W db F ρ s T → Calls Try.prog f args W fun e w' => R e w' ∧ Below W.heap.size W w') :
    Calls Try.prog f args W fun e w' => R e w' ∧ LiveK Z w0 O w' db s T ∧ Below W.heap.size W w' := by
  have hh := h
  obtain ⟨F, ρ, hm, _⟩ := h
  refine (hop F ρ hm).mono ?_
  rintro e w' ⟨he, hb⟩
  exact ⟨he, hh.grow hb, hb⟩
theorem LiveK.first (h : LiveK Z w0 O W db s T) {b o : Nat} {u : Value} (hc : w0.cell? ⟨b, o, none⟩ = some u) : W.cell? ⟨b, o, none⟩ = some u := (h.bel.cell (p := ⟨b, o, none⟩) (cell_lt hc)).trans hc
theorem LiveK.firstRd (h : LiveK Z w0 O W db s T) {sz n : Nat} {A : Option Addr} {xs : List Value} (hr : Rd w0 w0.heap.size sz A n xs) : Rd W W.heap.size sz A n xs := (hr.below h.bel).more h.bel.size
theorem kcreate (h : LiveK Z w0 O W db s T) (hT : T ≤ 99999) (n : Bs) (hn : n.length ≤ 1000000000) : Calls Try.prog 9 #[.pointer (some ⟨db, 0, none⟩), .string (strB n)] W fun e w' => e = .returned (.int .i64 ((Dsk.create s n).2 : Nat)) ∧ LiveK Z w0 O w' db (Dsk.create s n).1 (T + 1) ∧ Kept O W w' := h.call fun _ _ hm _ => dcreate_any hm hT n hn
theorem krename (h : LiveK Z w0 O W db s T) (hT : T ≤ 99999) (a b : Bs) (ha : a.length ≤ 1000000000) (hb : b.length ≤ 1000000000) : Calls Try.prog 17 #[.pointer (some ⟨db, 0, none⟩), .string (strB a), .string (strB b)] W fun e w' => e = .returned (.int .i64 ((Dsk.rename s a b).2 : Nat)) ∧ LiveK Z w0 O w' db (Dsk.rename s a b).1 (T + 1) ∧ Kept O W w' := h.call fun _ _ hm _ => drename_any hm hT a b ha hb
theorem kremove (h : LiveK Z w0 O W db s T) (hT : T ≤ 99999) (n : Bs) (hn : n.length ≤ 1000000000) : Calls Try.prog 50 #[.pointer (some ⟨db, 0, none⟩), .string (strB n)] W fun e w' => e = .returned (.int .i64 ((Dsk.remove s n).2 : Nat)) ∧ LiveK Z w0 O w' db (Dsk.remove s n).1 (T + 1) ∧ Kept O W w' := h.call fun _ _ hm _ => dremove_any hm hT n hn
theorem ksync (h : LiveK Z w0 O W db s T) (hT : T ≤ 99999) (n : Bs) (hn : n.length ≤ 1000000000) : Calls Try.prog 12 #[.pointer (some ⟨db, 0, none⟩), .string (strB n)] W fun e w' => e = .returned (.int .i64 ((Dsk.sync s n).2 : Nat)) ∧ LiveK Z w0 O w' db (Dsk.sync s n).1 (T + 1) ∧ Kept O W w' := h.call fun _ _ hm _ => dsync_any hm hT n hn
theorem ksyncDir (h : LiveK Z w0 O W db s T) (hT : T ≤ 99999) : Calls Try.prog 13 #[.pointer (some ⟨db, 0, none⟩)] W fun e w' => e = .returned (.int .i64 ((Dsk.syncDir s).2 : Nat)) ∧ LiveK Z w0 O w' db (Dsk.syncDir s).1 (T + 1) ∧ Kept O W w' := h.call fun _ _ hm _ => dsyncDir_any hm hT
theorem kcut (h : LiveK Z w0 O W db s T) (hT : T ≤ 99999) (n : Bs) (hn : n.length ≤ 1000000000) (k : Int) : Calls Try.prog 22 #[.pointer (some ⟨db, 0, none⟩), .string (strB n), .int .i64 k] W fun e w' => e = .returned (.int .i64 ((Dsk.cut s n k).2 : Nat)) ∧ LiveK Z w0 O w' db (Dsk.cut s n k).1 (T + 1) ∧ Kept O W w' := h.call fun _ _ hm _ => dcut_any hm hT n hn k
theorem kwrite (h : LiveK Z w0 O W db s T) (hT : T ≤ 99999) (n : Bs) (hn : n.length ≤ 1000000000) (a : Int) {A : Option Addr} {q c : Nat} {p : Bs} (hA : A = none → q = 0 ∧ c = 0) (hrd : Rd W W.heap.size 1 A q (bytesV p)) (hq : q ≤ 10000000) : Calls Try.prog 10 #[.pointer (some ⟨db, 0, none⟩), .string (strB n), .int .i64 a, .slice A q c] W fun e w' => e = .returned (.int .i64 ((Dsk.write s n a p).2 : Nat)) ∧ LiveK Z w0 O w' db (Dsk.write s n a p).1 (T + 1) ∧ Kept O W w' := h.call fun _ _ hm _ => dwrite_any hm hT n hn a hA hrd hq
theorem kcrash (h : LiveK Z w0 O W db s T) (hT : T ≤ 99999) {A : Option Addr} {n c : Nat} {cs : List Int} (hrd : Rd W W.heap.size 1 A n (intsV cs)) (hnc : n ≤ c) (hcs : n ≤ 16777216) (hP : 0 < n → ∀ g o, A = some ⟨g, o, none⟩ → O g) : Calls Try.prog 18 #[.pointer (some ⟨db, 0, none⟩), .slice A n c] W fun e w' => e = .returned (.tuple #[]) ∧ LiveK Z w0 O w' db (Dsk.crash s cs) (T + 1) ∧ Kept O W w' := h.call fun _ _ hm ho => dcrash_any hm hT hrd hnc hcs (fun h0 g o e => ho g (hP h0 g o e))
theorem karm (h : LiveK Z w0 O W db s T) (a : Int) (ha : a ≤ 9223372036854775807) {A : Option Addr} {n c : Nat} {cs : List Int} (hA : A = none → n = 0 ∧ c = 0) (hrd : Rd W W.heap.size 1 A n (intsV cs)) (hcs : n ≤ 16777216) : Calls Try.prog 14 #[.pointer (some ⟨db, 0, none⟩), .int .i64 a, .slice A n c] W fun e w' => e = .returned (.tuple #[]) ∧ LiveK Z w0 O w' db (Dsk.armed s a cs) T ∧ Kept O W w' := h.call fun _ _ hm _ => darm_any hm a ha hA hrd hcs
theorem kup (h : LiveK Z w0 O W db s T) : Calls Try.prog 20 #[.pointer (some ⟨db, 0, none⟩)] W fun e w' => e = .returned (.tuple #[]) ∧ LiveK Z w0 O w' db (Dsk.up s) T ∧ Kept O W w' := h.call fun _ _ hm _ => dup_any hm
end
end Go.Proofs.Ythgeppdoonbkpaa

namespace Go.Proofs.Ythgeppdoonbkpaa
open Go.RowKit
set_option maxHeartbeats 4000000 in
set_option maxRecDepth 100000 in
theorem kdoes_any {Z : World × (Nat → Prop)} {w0 W : World} {O : Nat → Prop} {db : Nat} {s : Dsk.St} {T : Nat} (h : LiveK Z w0 O W db s T) (hT : T ≤ 99999) (kd : Int) (nm tt : Bs) (nn : Int) (dA : Option Addr) (dn dc : Nat) (d : Bs) (cA : Option Addr) (cn cc : Nat) (cs : List Int) (onb : Bool)
    (hin : OpIn w0 ⟨kd, nm, tt, nn, dA, dn, dc, d, cA, cn, cc, cs, onb⟩) (h1 : nm.length ≤ 1000000000) (h2 : tt.length ≤ 1000000000) (h3 : dn ≤ 10000000) (h4 : cn ≤ 10000000) :
    Calls Try.prog 28 #[.pointer (some ⟨db, 0, none⟩), .agg #[.int .i64 kd, .string (strB nm), .string (strB tt), .int .i64 nn, .slice dA dn dc, .slice cA cn cc, .bool onb]] W fun e w' => e = .returned (.tuple #[.int .i64 ((step s ⟨kd, nm, tt, nn, dA, dn, dc, d, cA, cn, cc, cs, onb⟩).2 : Nat), .bool true]) ∧ LiveK Z w0 O w' db (step s ⟨kd, nm, tt, nn, dA, dn, dc, d, cA, cn, cc, cs, onb⟩).1 (T + 1) ∧ Kept O W w' := by
  obtain ⟨wx, hwx⟩ : ∃ wx, wx = W.alloc (.cells #[.int .i64 kd, .string (strB nm), .string (strB tt), .int .i64 nn, .slice dA dn dc, .slice cA cn cc, .bool onb] 47) := ⟨_, rfl⟩
  have hbx : Below W.heap.size W wx := by rw [hwx]; exact (Below.refl _ _).alloc (Nat.le_refl _) _
  have hvx : Var wx W.heap.size 47 [.int .i64 kd, .string (strB nm), .string (strB tt), .int .i64 nn, .slice dA dn dc, .slice cA cn cc, .bool onb] := by rw [hwx]; exact Var.new _ _ _
  obtain ⟨bx, hbxe⟩ : ∃ bx, bx = W.heap.size := ⟨_, rfl⟩
  have HBX := Lib.hid hbx
  have HBE := Lib.hid hbxe
  have HVX : Hid (Var wx bx 47 [.int .i64 kd, .string (strB nm), .string (strB tt), .int .i64 nn, .slice dA dn dc, .slice cA cn cc, .bool onb]) := Lib.hid (by rw [hbxe]; exact hvx)
  have HLT := Lib.hid (fun b (hb : O b) => h.olt hb)
  have HNE := Lib.hid (fun b (hb : O b) => (show b ≠ bx by have := h.olt hb; omega))
  have LX := Lib.hid (h.own (O' := fun b => O b ∨ b = bx) hbx (fun b e => e.imp id (fun e => by subst e; exact ⟨by omega, by rw [hbxe]; exact hvx.lt⟩)))
  have HW0 := Lib.hid (show w0.heap.size ≤ bx by rw [hbxe]; exact h.bel.size)
  have HIN := Lib.hid hin
  have HWX := Lib.hid hwx
  clear hvx hbx h hin
  go_enter Try.func28, Try.ntmps28
  go_upto_region 1 with (fail)
  rw [← hwx, ← hbxe]
  clear hwx hbxe
  have x0 := HVX.out.cell (j := 0) rfl
  have x1 := HVX.out.cell (j := 1) rfl
  have x2 := HVX.out.cell (j := 2) rfl
  have x3 := HVX.out.cell (j := 3) rfl
  have x4 := HVX.out.cell (j := 4) rfl
  have x5 := HVX.out.cell (j := 5) rfl
  by_cases e0 : kd = 0
  · subst e0
    have CC := Lib.hid (kcreate LX.out hT nm h1)
    clear x0
    have x0 := HVX.out.cell (j := 0) rfl
    go_wp2_with (first
      | (go_at_call 9; go_must (refine CC.out.mono ?_; rintro _ w1 ⟨rfl, l1, k1⟩))
      | fail)
    go_ret2
    exact ⟨rfl, l1.less (fun b hb => .inl hb), k1.from HBX.out HLT.out (fun b hb => .inl hb)⟩
  have n0 : (kd == 0) = false := by rw [beq_eq_false_iff_ne]; exact e0
  by_cases e1 : kd = 1
  · subst e1
    have CL := Lib.hid (dlent_any dA dn dc d wx (fun e => (HIN.out.dnil e).1) (LX.out.firstRd HIN.out.drd) (by omega))
    have HDL := Lib.hid (show d.length = dn by have := HIN.out.drd.1; rw [bytesV_len] at this; dsimp only at this; omega)
    clear x0
    have x0 := HVX.out.cell (j := 0) rfl
    go_upto_region 6 with (first
      | (go_at_call 11; go_must (refine CL.out.mono ?_; rintro _ w1 ⟨gp, op, cp, rfl, hg1, hg2, hcp, hcm, hr1, hb1⟩))
      | fail)
    have LP := Lib.hid (LX.out.own (O' := fun b => (O b ∨ b = bx) ∨ b = gp) hb1 (fun b e => e.imp id (fun e => by subst e; exact ⟨hg1, hg2⟩)))
    have HVP := Lib.hid (HVX.out.below_all hb1)
    have HRP := Lib.hid hr1
    have HGP := Lib.hid (show wx.heap.size ≤ gp from hg1)
    have HB1 := Lib.hid hb1
    have CW := Lib.hid (kwrite LP.out hT nm h1 nn (c := cp) (p := d) (fun e => by cases e) (lent_rd HDL.out hr1) (by omega))
    clear x0 x1 x2 x3 x4 x5 hg1 hg2 hcm hr1 hb1
    have x1 := HVP.out.cell (j := 1) rfl
    have x3 := HVP.out.cell (j := 3) rfl
    go_upto_region 7 with (first
      | (go_at_call 10; go_must (refine CW.out.mono ?_; rintro _ w2 ⟨rfl, l2, k2⟩))
      | fail)
    obtain ⟨s9, hs9⟩ : ∃ s9, s9 = (Dsk.write s nm nn d).1 := ⟨_, rfl⟩
    rw [← hs9] at l2
    have L2 := Lib.hid l2
    have K2 := Lib.hid k2
    have HS9 := Lib.hid hs9
    have HV2 : Hid (Var w2 bx 47 [.int .i64 1, .string (strB nm), .string (strB tt), .int .i64 nn, .slice dA dn dc, .slice cA cn cc, .bool onb]) := Lib.hid ((k2.2 bx (.inl (.inr rfl))).trans HVP.out)
    have HR2 : Hid (Row w2 wx.heap.size 1 (.slice (some ⟨gp, op, none⟩) (dn + 2) cp) (dn + 2) (bytesV (d ++ [201, 202]))) := Lib.hid (HRP.out.block_eq (fun b hb => k2.2 b (.inr (by simpa [Value.ownBlock] using hb.symm))))
    obtain ⟨_, _, er, _, _, _, hrd2⟩ := HR2.out.form
    injection er with er xa1 xa2
    subst er
    clear xa1 xa2
    have CK := Lib.hid (dkept_any gp op dn cp dA dc d w2 hcp hrd2 (L2.out.firstRd HIN.out.drd) (fun e => (HIN.out.dnil e).1) (by omega))
    have HKE : Hid (Kept O W w2) := Lib.hid ((k2.less (O := O) (fun b hb => .inl (.inl hb))).from (HBX.out.trans (HB1.out.mono HBX.out.size)) HLT.out (fun b hb => hb))
    clear x1 x3 l2 k2 hs9 hrd2
    have x4 := HV2.out.cell (j := 4) rfl
    go_upto_region 8 with (first
      | (go_at_call 49; go_must (refine CK.out.mono ?_; rintro _ _ ⟨rfl, rfl⟩))
      | fail)
    go_wp2
    go_loopw [9] (fun kk wr => ∃ (i : Nat) (xs : List Value), i ≤ dn ∧ kk = .int .i64 i ∧ xs.length = dn + 2 ∧ (∀ j, j < dn + 2 → ∃ z : Int, xs[j]? = some (.int .u8 z)) ∧ Row wr wx.heap.size 1 (.slice (some ⟨gp, op, none⟩) (dn + 2) cp) (dn + 2) xs ∧ LiveK Z w0 (fun b => (O b ∨ b = bx) ∨ b = gp) wr db s9 (T + 1) ∧ Kept O W wr) (fun kk _ => dn - (intOf kk).toNat)
    case atStart => exact ⟨0, _, Nat.zero_le _, rfl, by rw [bytesV_len, List.length_append, HDL.out]; rfl, (fun j hj => ⟨_, by unfold bytesV; rw [List.getElem?_map, List.getElem?_eq_getElem (by rw [List.length_append, HDL.out]; exact hj)]; rfl⟩), HR2.out, L2.out, HKE.out⟩
    case round =>
      obtain ⟨i, xs, hi, rfl, hxl, hxz, hrow, hlv, hke⟩ := hrel
      have HXL := Lib.hid hxl
      have HXZ := Lib.hid hxz
      have HRW := Lib.hid hrow
      have LV := Lib.hid hlv
      have KE := Lib.hid hke
      clear hlv hke
      obtain ⟨wo, rfl⟩ : ∃ wo : World, wo = wr := ⟨_, rfl⟩
      by_cases hlt : i < dn
      · have hlti : (i : Int) < (dn : Int) := by omega
        obtain ⟨z, hz⟩ := hxz i (by omega)
        obtain ⟨g', o', e, hgw, hgl, hcell, hfr⟩ := hrow.own (by omega)
        injection e with e
        injection e with ea eb _
        subst ea eb
        have d1 := hcell i _ hz
        have f1 := hfr i (by omega)
        clear hxl hxz hrow hcell hfr hz hgw hgl
        go_wp2
        have hset := HRW.out.set (j := i) (u := .int .u8 (IntKind.u8.wrap (z + 91))) (by rw [HXL.out]; omega)
        have hcg : Chg (fun k => k = gp) wo (wo.setCell ⟨gp, op + i, none⟩ (.int .u8 (IntKind.u8.wrap (z + 91)))) := (Chg.refl (fun k => k = gp) wo).setCell (p := ⟨gp, op + i, none⟩) (fun _ => rfl) _
        go_roundw
        case rel => exact ⟨i + 1, _, by omega, by go_num, by rw [List.length_set]; exact HXL.out, (fun j hj => by
            by_cases hji : i = j
            · subst hji
              exact ⟨_, by rw [List.getElem?_set_self (by rw [HXL.out]; exact hj)]⟩
            · rw [List.getElem?_set_ne hji]; exact HXZ.out j hj), hset, LV.out.wrote hcg (fun b _ e => ⟨.inr e, by subst e; have := HGP.out; have := HBX.out.size; have := HW0.out; have := HBE.out; omega⟩), KE.out.chg hcg (fun b hb e => by subst e; have := HLT.out _ hb; have := HGP.out; have := HBX.out.size; omega) HLT.out⟩
        case measure => simp [intOf]; omega
      · obtain rfl : i = dn := by omega
        have hnlt : ¬ (i : Int) < (i : Int) := by omega
        clear hxl hxz hrow
        go_wp2
        go_ret2
        refine ⟨rfl, ?_, KE.out⟩
        have e : (step s ⟨1, nm, tt, nn, dA, i, dc, d, cA, cn, cc, cs, onb⟩).1 = s9 := HS9.out.symm
        rw [e]
        exact LV.out.less (fun b hb => .inl (.inl hb))
  have n1 : (kd == 1) = false := by rw [beq_eq_false_iff_ne]; exact e1
  by_cases e2 : kd = 2
  · subst e2
    have CC := Lib.hid (kcut LX.out hT nm h1 nn)
    clear x0
    have x0 := HVX.out.cell (j := 0) rfl
    go_wp2_with (first
      | (go_at_call 22; go_must (refine CC.out.mono ?_; rintro _ w1 ⟨rfl, l1, k1⟩))
      | fail)
    go_ret2
    exact ⟨rfl, l1.less (fun b hb => .inl hb), k1.from HBX.out HLT.out (fun b hb => .inl hb)⟩
  have n2 : (kd == 2) = false := by rw [beq_eq_false_iff_ne]; exact e2
  by_cases e3 : kd = 3
  · subst e3
    have CC := Lib.hid (ksync LX.out hT nm h1)
    clear x0
    have x0 := HVX.out.cell (j := 0) rfl
    go_wp2_with (first
      | (go_at_call 12; go_must (refine CC.out.mono ?_; rintro _ w1 ⟨rfl, l1, k1⟩))
      | fail)
    go_ret2
    exact ⟨rfl, l1.less (fun b hb => .inl hb), k1.from HBX.out HLT.out (fun b hb => .inl hb)⟩
  have n3 : (kd == 3) = false := by rw [beq_eq_false_iff_ne]; exact e3
  by_cases e4 : kd = 4
  · subst e4
    have CC := Lib.hid (krename LX.out hT nm tt h1 h2)
    clear x0
    have x0 := HVX.out.cell (j := 0) rfl
    go_wp2_with (first
      | (go_at_call 17; go_must (refine CC.out.mono ?_; rintro _ w1 ⟨rfl, l1, k1⟩))
      | fail)
    go_ret2
    exact ⟨rfl, l1.less (fun b hb => .inl hb), k1.from HBX.out HLT.out (fun b hb => .inl hb)⟩
  have n4 : (kd == 4) = false := by rw [beq_eq_false_iff_ne]; exact e4
  by_cases e5 : kd = 5
  · subst e5
    have CC := Lib.hid (kremove LX.out hT nm h1)
    clear x0
    have x0 := HVX.out.cell (j := 0) rfl
    go_wp2_with (first
      | (go_at_call 50; go_must (refine CC.out.mono ?_; rintro _ w1 ⟨rfl, l1, k1⟩))
      | fail)
    go_ret2
    exact ⟨rfl, l1.less (fun b hb => .inl hb), k1.from HBX.out HLT.out (fun b hb => .inl hb)⟩
  have n5 : (kd == 5) = false := by rw [beq_eq_false_iff_ne]; exact e5
  by_cases e6 : kd = 6
  · subst e6
    have CC := Lib.hid (ksyncDir LX.out hT)
    clear x0
    have x0 := HVX.out.cell (j := 0) rfl
    go_wp2_with (first
      | (go_at_call 13; go_must (refine CC.out.mono ?_; rintro _ w1 ⟨rfl, l1, k1⟩))
      | fail)
    go_ret2
    exact ⟨rfl, l1.less (fun b hb => .inl hb), k1.from HBX.out HLT.out (fun b hb => .inl hb)⟩
  have n6 : (kd == 6) = false := by rw [beq_eq_false_iff_ne]; exact e6
  by_cases e7 : kd = 7
  · subst e7
    have HCL := Lib.hid (show cs.length = cn by have := HIN.out.crd.1; rw [intsV_len] at this; dsimp only at this; omega)
    have CI := Lib.hid (dints_any cA cn cc cs wx (fun e => (HIN.out.cnil e).1) (LX.out.firstRd HIN.out.crd) (by omega))
    clear x0
    have x0 := HVX.out.cell (j := 0) rfl
    go_upto_region 26 with (first
      | (go_at_call 15; go_must (refine CI.out.mono ?_; rintro _ w1 ⟨gp, op, cp, rfl, hg1, hg2, hcp, hcm, hr1, hb1⟩))
      | fail)
    have LP := Lib.hid (LX.out.own (O' := fun b => (O b ∨ b = bx) ∨ b = gp) hb1 (fun b e => e.imp id (fun e => by subst e; exact ⟨hg1, hg2⟩)))
    have HVP := Lib.hid (HVX.out.below_all hb1)
    have HRP := Lib.hid hr1
    have HGP := Lib.hid (show wx.heap.size ≤ gp from hg1)
    have HB1 := Lib.hid hb1
    have CW := Lib.hid (kcrash LP.out hT (c := cp) (cs := cs) (ints_rd HCL.out hr1) (by omega) (by omega) (fun _ g o e => by injection e with e; injection e with e _ _; exact .inr e.symm))
    clear x0 x1 x2 x3 x4 x5 hg1 hg2 hcm hr1 hb1
    have x0 := HVP.out.cell (j := 0) rfl
    have x3 := HVP.out.cell (j := 3) rfl
    go_upto_region 29 with (first
      | (go_at_call 18; go_must (refine CW.out.mono ?_; rintro _ w2 ⟨rfl, l2, k2⟩))
      | fail)
    obtain ⟨s9, hs9⟩ : ∃ s9, s9 = Dsk.crash s cs := ⟨_, rfl⟩
    rw [← hs9] at l2
    have L2 := Lib.hid (l2.more (T' := T + 1) (by omega))
    have K2 := Lib.hid k2
    have HS9 := Lib.hid hs9
    have HV2 : Hid (Var w2 bx 47 [.int .i64 7, .string (strB nm), .string (strB tt), .int .i64 nn, .slice dA dn dc, .slice cA cn cc, .bool onb]) := Lib.hid ((k2.2 bx (.inl (.inr rfl))).trans HVP.out)
    have HR2 : Hid (Row w2 wx.heap.size 1 (.slice (some ⟨gp, op, none⟩) (cn + 1) cp) (cn + 1) (intsV (cs ++ [-77]))) := Lib.hid (HRP.out.block_eq (fun b hb => k2.2 b (.inr (by simpa [Value.ownBlock] using hb.symm))))
    obtain ⟨_, _, er, _, _, _, hrd2⟩ := HR2.out.form
    injection er with er xa1 xa2
    subst er
    clear xa1 xa2
    have CK := Lib.hid (dstay_any gp op cn cp cA cc cs w2 hcp hrd2 (L2.out.firstRd HIN.out.crd) (by omega))
    have HKE : Hid (Kept O W w2) := Lib.hid ((k2.less (O := O) (fun b hb => .inl (.inl hb))).from (HBX.out.trans (HB1.out.mono HBX.out.size)) HLT.out (fun b hb => hb))
    clear x0 x3 l2 k2 hs9 hrd2
    have x5 := HV2.out.cell (j := 5) rfl
    go_upto_region 30 with (first
      | (go_at_call 51; go_must (refine CK.out.mono ?_; rintro _ w3 ⟨rfl, hb3⟩))
      | fail)
    have L3 := Lib.hid (L2.out.grow hb3)
    have HR3 := Lib.hid (HR2.out.below_all hb3)
    have KE3 := Lib.hid (HKE.out.past hb3 HLT.out)
    clear hb3 x5
    go_wp2
    go_loopw [12] (fun kk wr => ∃ (i : Nat) (xs : List Value), i ≤ cn ∧ kk = .int .i64 i ∧ xs.length = cn + 1 ∧ (∀ j, j < cn + 1 → ∃ z : Int, xs[j]? = some (.int .i64 z)) ∧ Row wr wx.heap.size 1 (.slice (some ⟨gp, op, none⟩) (cn + 1) cp) (cn + 1) xs ∧ LiveK Z w0 (fun b => (O b ∨ b = bx) ∨ b = gp) wr db s9 (T + 1) ∧ Kept O W wr) (fun kk _ => cn - (intOf kk).toNat)
    case atStart => exact ⟨0, _, Nat.zero_le _, rfl, by rw [intsV_len, List.length_append, HCL.out]; rfl, (fun j hj => ⟨_, intsV_get (by rw [List.length_append, HCL.out]; exact hj)⟩), HR3.out, L3.out, KE3.out⟩
    case round =>
      obtain ⟨i, xs, hi, rfl, hxl, hxz, hrow, hlv, hke⟩ := hrel
      have HXL := Lib.hid hxl
      have HXZ := Lib.hid hxz
      have HRW := Lib.hid hrow
      have LV := Lib.hid hlv
      have KE := Lib.hid hke
      clear hlv hke
      obtain ⟨wo, rfl⟩ : ∃ wo : World, wo = wr := ⟨_, rfl⟩
      by_cases hlt : i < cn
      · have hlti : (i : Int) < (cn : Int) := by omega
        obtain ⟨z, hz⟩ := hxz i (by omega)
        obtain ⟨g', o', e, hgw, hgl, hcell, hfr⟩ := hrow.own (by omega)
        injection e with e
        injection e with ea eb _
        subst ea eb
        have d1 := hcell i _ hz
        have f1 := hfr i (by omega)
        clear hxl hxz hrow hcell hfr hz hgw hgl
        go_wp2
        have hset := HRW.out.set (j := i) (u := .int .i64 (wrap64 (z + 91))) (by rw [HXL.out]; omega)
        have hcg : Chg (fun k => k = gp) wo (wo.setCell ⟨gp, op + i, none⟩ (.int .i64 (wrap64 (z + 91)))) := (Chg.refl (fun k => k = gp) wo).setCell (p := ⟨gp, op + i, none⟩) (fun _ => rfl) _
        go_roundw
        case rel => exact ⟨i + 1, _, by omega, by go_num, by rw [List.length_set]; exact HXL.out, (fun j hj => by
            by_cases hji : i = j
            · subst hji
              exact ⟨_, by rw [List.getElem?_set_self (by rw [HXL.out]; exact hj)]⟩
            · rw [List.getElem?_set_ne hji]; exact HXZ.out j hj), hset, LV.out.wrote hcg (fun b _ e => ⟨.inr e, by subst e; have := HGP.out; have := HBX.out.size; have := HW0.out; have := HBE.out; omega⟩), KE.out.chg hcg (fun b hb e => by subst e; have := HLT.out _ hb; have := HGP.out; have := HBX.out.size; omega) HLT.out⟩
        case measure => simp [intOf]; omega
      · obtain rfl : i = cn := by omega
        have hnlt : ¬ (i : Int) < (i : Int) := by omega
        clear hxl hxz hrow
        go_wp2
        go_ret2
        refine ⟨rfl, ?_, KE.out⟩
        have e : (step s ⟨7, nm, tt, nn, dA, dn, dc, d, cA, i, cc, cs, onb⟩).1 = s9 := HS9.out.symm
        rw [e]
        exact LV.out.less (fun b hb => .inl (.inl hb))
  have n7 : (kd == 7) = false := by rw [beq_eq_false_iff_ne]; exact e7
  by_cases e8 : kd = 8
  · subst e8
    have HCL := Lib.hid (show cs.length = cn by have := HIN.out.crd.1; rw [intsV_len] at this; dsimp only at this; omega)
    have CI := Lib.hid (dints_any cA cn cc cs wx (fun e => (HIN.out.cnil e).1) (LX.out.firstRd HIN.out.crd) (by omega))
    clear x0
    have x0 := HVX.out.cell (j := 0) rfl
    go_upto_region 26 with (first
      | (go_at_call 15; go_must (refine CI.out.mono ?_; rintro _ w1 ⟨gp, op, cp, rfl, hg1, hg2, hcp, hcm, hr1, hb1⟩))
      | fail)
    have LP := Lib.hid (LX.out.own (O' := fun b => (O b ∨ b = bx) ∨ b = gp) hb1 (fun b e => e.imp id (fun e => by subst e; exact ⟨hg1, hg2⟩)))
    have HVP := Lib.hid (HVX.out.below_all hb1)
    have HRP := Lib.hid hr1
    have HGP := Lib.hid (show wx.heap.size ≤ gp from hg1)
    have HB1 := Lib.hid hb1
    have CW := Lib.hid (karm LP.out nn HIN.out.nwf.2 (c := cp) (cs := cs) (fun e => by cases e) (ints_rd HCL.out hr1) (by omega))
    clear x0 x1 x2 x3 x4 x5 hg1 hg2 hcm hr1 hb1
    have x0 := HVP.out.cell (j := 0) rfl
    have x3 := HVP.out.cell (j := 3) rfl
    go_upto_region 29 with (first
      | (go_at_call 14; go_must (refine CW.out.mono ?_; rintro _ w2 ⟨rfl, l2, k2⟩))
      | fail)
    obtain ⟨s9, hs9⟩ : ∃ s9, s9 = Dsk.armed s nn cs := ⟨_, rfl⟩
    rw [← hs9] at l2
    have L2 := Lib.hid (l2.more (T' := T + 1) (by omega))
    have K2 := Lib.hid k2
    have HS9 := Lib.hid hs9
    have HV2 : Hid (Var w2 bx 47 [.int .i64 8, .string (strB nm), .string (strB tt), .int .i64 nn, .slice dA dn dc, .slice cA cn cc, .bool onb]) := Lib.hid ((k2.2 bx (.inl (.inr rfl))).trans HVP.out)
    have HR2 : Hid (Row w2 wx.heap.size 1 (.slice (some ⟨gp, op, none⟩) (cn + 1) cp) (cn + 1) (intsV (cs ++ [-77]))) := Lib.hid (HRP.out.block_eq (fun b hb => k2.2 b (.inr (by simpa [Value.ownBlock] using hb.symm))))
    obtain ⟨_, _, er, _, _, _, hrd2⟩ := HR2.out.form
    injection er with er xa1 xa2
    subst er
    clear xa1 xa2
    have CK := Lib.hid (dstay_any gp op cn cp cA cc cs w2 hcp hrd2 (L2.out.firstRd HIN.out.crd) (by omega))
    have HKE : Hid (Kept O W w2) := Lib.hid ((k2.less (O := O) (fun b hb => .inl (.inl hb))).from (HBX.out.trans (HB1.out.mono HBX.out.size)) HLT.out (fun b hb => hb))
    clear x0 x3 l2 k2 hs9 hrd2
    have x5 := HV2.out.cell (j := 5) rfl
    go_upto_region 30 with (first
      | (go_at_call 51; go_must (refine CK.out.mono ?_; rintro _ w3 ⟨rfl, hb3⟩))
      | fail)
    have L3 := Lib.hid (L2.out.grow hb3)
    have HR3 := Lib.hid (HR2.out.below_all hb3)
    have KE3 := Lib.hid (HKE.out.past hb3 HLT.out)
    clear hb3 x5
    go_wp2
    go_loopw [12] (fun kk wr => ∃ (i : Nat) (xs : List Value), i ≤ cn ∧ kk = .int .i64 i ∧ xs.length = cn + 1 ∧ (∀ j, j < cn + 1 → ∃ z : Int, xs[j]? = some (.int .i64 z)) ∧ Row wr wx.heap.size 1 (.slice (some ⟨gp, op, none⟩) (cn + 1) cp) (cn + 1) xs ∧ LiveK Z w0 (fun b => (O b ∨ b = bx) ∨ b = gp) wr db s9 (T + 1) ∧ Kept O W wr) (fun kk _ => cn - (intOf kk).toNat)
    case atStart => exact ⟨0, _, Nat.zero_le _, rfl, by rw [intsV_len, List.length_append, HCL.out]; rfl, (fun j hj => ⟨_, intsV_get (by rw [List.length_append, HCL.out]; exact hj)⟩), HR3.out, L3.out, KE3.out⟩
    case round =>
      obtain ⟨i, xs, hi, rfl, hxl, hxz, hrow, hlv, hke⟩ := hrel
      have HXL := Lib.hid hxl
      have HXZ := Lib.hid hxz
      have HRW := Lib.hid hrow
      have LV := Lib.hid hlv
      have KE := Lib.hid hke
      clear hlv hke
      obtain ⟨wo, rfl⟩ : ∃ wo : World, wo = wr := ⟨_, rfl⟩
      by_cases hlt : i < cn
      · have hlti : (i : Int) < (cn : Int) := by omega
        obtain ⟨z, hz⟩ := hxz i (by omega)
        obtain ⟨g', o', e, hgw, hgl, hcell, hfr⟩ := hrow.own (by omega)
        injection e with e
        injection e with ea eb _
        subst ea eb
        have d1 := hcell i _ hz
        have f1 := hfr i (by omega)
        clear hxl hxz hrow hcell hfr hz hgw hgl
        go_wp2
        have hset := HRW.out.set (j := i) (u := .int .i64 (wrap64 (z + 91))) (by rw [HXL.out]; omega)
        have hcg : Chg (fun k => k = gp) wo (wo.setCell ⟨gp, op + i, none⟩ (.int .i64 (wrap64 (z + 91)))) := (Chg.refl (fun k => k = gp) wo).setCell (p := ⟨gp, op + i, none⟩) (fun _ => rfl) _
        go_roundw
        case rel => exact ⟨i + 1, _, by omega, by go_num, by rw [List.length_set]; exact HXL.out, (fun j hj => by
            by_cases hji : i = j
            · subst hji
              exact ⟨_, by rw [List.getElem?_set_self (by rw [HXL.out]; exact hj)]⟩
            · rw [List.getElem?_set_ne hji]; exact HXZ.out j hj), hset, LV.out.wrote hcg (fun b _ e => ⟨.inr e, by subst e; have := HGP.out; have := HBX.out.size; have := HW0.out; have := HBE.out; omega⟩), KE.out.chg hcg (fun b hb e => by subst e; have := HLT.out _ hb; have := HGP.out; have := HBX.out.size; omega) HLT.out⟩
        case measure => simp [intOf]; omega
      · obtain rfl : i = cn := by omega
        have hnlt : ¬ (i : Int) < (i : Int) := by omega
        clear hxl hxz hrow
        go_wp2
        go_ret2
        refine ⟨rfl, ?_, KE.out⟩
        have e : (step s ⟨8, nm, tt, nn, dA, dn, dc, d, cA, i, cc, cs, onb⟩).1 = s9 := HS9.out.symm
        rw [e]
        exact LV.out.less (fun b hb => .inl (.inl hb))
  have n8 : (kd == 8) = false := by rw [beq_eq_false_iff_ne]; exact e8
  by_cases e9 : kd = 9
  · subst e9
    have CC := Lib.hid (kup LX.out)
    clear x0
    have x0 := HVX.out.cell (j := 0) rfl
    go_wp2_with (first
      | (go_at_call 20; go_must (refine CC.out.mono ?_; rintro _ w1 ⟨rfl, l1, k1⟩))
      | fail)
    go_ret2
    exact ⟨rfl, (l1.less (fun b hb => .inl hb)).more (by omega), k1.from HBX.out HLT.out (fun b hb => .inl hb)⟩
  have n9 : (kd == 9) = false := by rw [beq_eq_false_iff_ne]; exact e9
  have es : step s ⟨kd, nm, tt, nn, dA, dn, dc, d, cA, cn, cc, cs, onb⟩ = (s, 0) := by
    unfold step
    dsimp only
    rw [if_neg e0, if_neg e1, if_neg e2, if_neg e3, if_neg e4, if_neg e5, if_neg e6, if_neg e7, if_neg e8, if_neg e9]
  have HES := Lib.hid es
  clear es
  go_wp2
  go_ret2
  rw [HES.out]
  exact ⟨rfl, (LX.out.less (fun b hb => .inl hb)).more (by omega), (Kept.refl (fun b => O b ∨ b = bx) wx).from HBX.out HLT.out (fun b hb => .inl hb)⟩
end Go.Proofs.Ythgeppdoonbkpaa

namespace Go.Proofs.Ythgeppdoonbkpaa
open Go.RowKit Go.Maps Go.WideMaps
/-- a disk and its copy, that came since w0, and a law's own blocks -/
def Two (w0 W : World) (own : Roles) (db cb : Nat) (s : Dsk.St) (T : Nat) : Prop :=
  ∃ F ρ G κ, Mem W db F ρ s T ∧ Mem W cb G κ s T ∧ Below w0.heap.size w0 W ∧ (∀ b r, ρ b = some r → w0.heap.size ≤ b) ∧ (∀ b r, κ b = some r → w0.heap.size ≤ b) ∧ (∀ b r, κ b = some r → Mut r → ρ b = none) ∧
    ∀ b r, own b = some r → w0.heap.size ≤ b ∧ b < W.heap.size ∧ ρ b = none ∧ κ b = none
section
variable {w0 W W' : World} {own own' : Roles} {db cb xb : Nat} {s : Dsk.St} {T : Nat} {S O : Nat → Prop} {r : Role}
theorem Two.bel (h : Two w0 W own db cb s T) : Below w0.heap.size w0 W := by obtain ⟨F, ρ, G, κ, _, _, hb, _⟩ := h; exact hb
theorem Two.fit (h : Two w0 W own db cb s T) : Dsk.Fit s T := by obtain ⟨F, ρ, G, κ, hm, _⟩ := h; exact hm.fit
theorem Two.old (h : Two w0 W own db cb s T) {b : Nat} (hb : own b = some r) : w0.heap.size ≤ b ∧ b < W.heap.size := by obtain ⟨F, ρ, G, κ, _, _, _, _, _, _, h7⟩ := h; exact ⟨(h7 b r hb).1, (h7 b r hb).2.1⟩
theorem Two.told_le (h : Two w0 W own db cb s T) : (Dsk.told s).length ≤ T := by
  obtain ⟨F, ρ, G, κ, hm, _⟩ := h
  obtain ⟨nb, nn, _, hdm, hnn⟩ := hm.nowm
  have hll : (Dsk.dn s).length ≤ T := by have := World.ownsMap.size_le hdm; rw [Dsk.mapD_size] at this; omega
  unfold Dsk.told
  split
  · exact Nat.zero_le _
  · rw [List.length_map]; exact hll
/-- the law's own blocks turn, and come -/
theorem Two.turn (h : Two w0 W own db cb s T) (hc : Chg S W W') (hS : ∀ b, b < W.heap.size → S b → ∃ r, own b = some r) (hO : ∀ b r, own' b = some r → (∃ r', own b = some r') ∨ (W.heap.size ≤ b ∧ b < W'.heap.size)) : Two w0 W' own' db cb s T := by
  obtain ⟨F, ρ, G, κ, hm, hk, h1, h2, h3, h4, h5⟩ := h
  refine ⟨F, ρ, G, κ, hm.keep hc (fun b hb e => ?_), hk.keep hc (fun b hb e => ?_), ?_, h2, h3, h4, fun b r e => ?_⟩
  · obtain ⟨r, e⟩ := hS b hb e; exact (h5 b r e).2.2.1
  · obtain ⟨r, e⟩ := hS b hb e; exact (h5 b r e).2.2.2
  · exact ⟨hc.os.trans h1.os, hc.tape.trans h1.tape, hc.output.trans h1.output, Nat.le_trans h1.size hc.size, fun k hk => (hc.block k (Nat.lt_of_lt_of_le hk h1.size) (fun hs => by obtain ⟨r, e⟩ := hS k (Nat.lt_of_lt_of_le hk h1.size) hs; have := (h5 k r e).1; omega)).trans (h1.block k hk)⟩
  · rcases hO b r e with ⟨r', e'⟩ | ⟨e1, e2⟩
    · exact ⟨(h5 b r' e').1, Nat.lt_of_lt_of_le (h5 b r' e').2.1 hc.size, (h5 b r' e').2.2⟩
    · refine ⟨Nat.le_trans h1.size e1, e2, ?_, ?_⟩
      · cases hr : ρ b with
        | none => rfl
        | some q => have := hm.lt b q hr; omega
      · cases hr : κ b with
        | none => rfl
        | some q => have := hk.lt b q hr; omega
theorem Two.past (h : Two w0 W own db cb s T) (hb : Below W.heap.size W W') : Two w0 W' own db cb s T := h.turn (S := fun _ => False) (Chg.of_below hb) (fun _ _ e => e.elim) (fun b r e => .inl ⟨r, e⟩)
theorem grow_some {own : Roles} {a b c : Nat} {f : Nat → Role} {r : Role} (h : grow own a b f c = some r) : (∃ r', own c = some r') ∨ (a ≤ c ∧ c < b) := by
  unfold grow at h
  split at h
  · exact .inl ⟨r, h⟩
  · rename_i h1
    split at h
    · exact .inr ⟨by omega, by assumption⟩
    · cases h
theorem Two.grow (h : Two w0 W own db cb s T) (hb : Below W.heap.size W W') (f : Nat → Role) : Two w0 W' (_root_.Go.Proofs.Ythgeppdoonbkpaa.grow own W.heap.size W'.heap.size f) db cb s T := h.turn (S := fun _ => False) (Chg.of_below hb) (fun _ _ e => e.elim) (fun _b _r e => grow_some e)
theorem Two.push (h : Two w0 W own db cb s T) (hc : Chg S W W') (hS : ∀ b, S b → own b = some r) (f : Nat → Role) : Two w0 W' (_root_.Go.Proofs.Ythgeppdoonbkpaa.grow own W.heap.size W'.heap.size f) db cb s T := h.turn hc (fun b _ e => ⟨r, hS b e⟩) (fun _b _r e => grow_some e)
theorem Two.put (h : Two w0 W own db cb s T) (hc : Chg S W W') (hS : ∀ b, S b → own b = some r) : Two w0 W' own db cb s T := h.turn hc (fun b _ e => ⟨r, hS b e⟩) (fun b q e => .inl ⟨q, e⟩)
theorem Two.mem (h : Two w0 W own db cb s T) (hx : xb = db ∨ xb = cb) : ∃ F ρ, Mem W xb F ρ s T := by
  obtain ⟨F, ρ, G, κ, hm, hk, _⟩ := h
  rcases hx with rfl | rfl
  · exact ⟨F, ρ, hm⟩
  · exact ⟨G, κ, hk⟩
theorem tread (h : Two w0 W own db cb s T) (hx : xb = db ∨ xb = cb) (n : Bs) (hn : n.length ≤ 1000000000) : Calls Try.prog 21 #[.pointer (some ⟨xb, 0, none⟩), .string (strB n)] W fun e w' => ∃ v, e = .returned (.tuple #[v, .int .i64 ((Dsk.read s n).2 : Nat)]) ∧ RowB w' W.heap.size v (Dsk.read s n).1 ∧ Below W.heap.size W w' := by
  obtain ⟨F, ρ, hm⟩ := h.mem hx
  exact dread_any hm n hn
theorem tnames (h : Two w0 W own db cb s T) (hx : xb = db ∨ xb = cb) (hT : T ≤ 100000) : Calls Try.prog 26 #[.pointer (some ⟨xb, 0, none⟩)] W fun e w' => ∃ v, e = .returned v ∧ Row w' W.heap.size 1 v (Dsk.told s).length (namesV (Dsk.told s)) ∧ Below W.heap.size W w' := by
  obtain ⟨F, ρ, hm⟩ := h.mem hx
  refine (dnames_any hm hT).mono ?_
  rintro e w' ⟨v, h1, h2, _, h4⟩
  exact ⟨v, h1, h2, h4⟩
/-- a copy -/
theorem ltwo (h : Live w0 O W db s T) (hT : T ≤ 100000) : Calls Try.prog 27 #[.pointer (some ⟨db, 0, none⟩)] W fun e w' => ∃ cb, e = .returned (.pointer (some ⟨cb, 0, none⟩)) ∧ Two w0 w' (fun _ => none) db cb s T ∧ Below W.heap.size W w' := by
  obtain ⟨F, ρ, hm, h1, h2, _⟩ := h
  refine (dcopy_any hm hT).mono ?_
  rintro e w' ⟨cb, G, κ, rfl, hk, hb, ho⟩
  refine ⟨cb, rfl, ⟨F, ρ, G, κ, hm.below hb, hk, h1.trans (hb.mono h1.size), h2, fun b r e => ?_, fun b r e q => ?_, fun b r e => by cases e⟩, hb⟩
  · by_cases hlt : b < W.heap.size
    · rw [ho b hlt] at e
      exact h2 b .data (dataOf_some e).2
    · have := h1.size; omega
  · by_cases hlt : b < W.heap.size
    · rw [ho b hlt] at e
      exact absurd (dataOf_some e).1 q
    · cases hr : ρ b with
      | none => rfl
      | some x => have := hm.lt b x hr; omega
/-- the disk stays while its copy goes on -/
theorem Two.part (h : Two w0 W own db cb s T) : ∃ Z : World × (Nat → Prop), LiveK Z w0 (Own own) W cb s T ∧ ∀ W' O t T', LiveK Z w0 O W' cb t T' → Live w0 O W' db s T := by
  obtain ⟨F, ρ, G, κ, hm, hk, h1, h2, h3, h4, h5⟩ := h
  refine ⟨(W, fun b => ρ b ≠ none), ⟨G, κ, hk, h1, fun b r e _ => h3 b r e, fun b hb => ?_, Nat.le_refl _, fun b hb => ?_⟩, fun W' O t T' hl => ?_⟩
  · unfold Own at hb
    cases ho : own b with
    | none => exact absurd ho hb
    | some r => exact ⟨(h5 b r ho).2.1, (h5 b r ho).2.2.2, fun e => e (h5 b r ho).2.2.1⟩
  · cases hr : ρ b with
    | none => exact absurd hr hb
    | some r =>
      refine ⟨hm.lt b r hr, rfl, ?_⟩
      cases hq : κ b with
      | none => exact .inl rfl
      | some q =>
        right
        by_cases hd : q = .data
        · rw [hd]
        · have := h4 b q hq hd; rw [hr] at this; cases this
  · have hs : Lies ρ ρ (fun _ => False) W W' := ⟨hl.zsz, fun {b} _ {r} hr _ => hl.zeq (Z := (W, fun b => ρ b ≠ none)) (b := b) (by show ρ b ≠ none; rw [hr]; simp), fun _ _ => rfl⟩
    obtain ⟨_, _, _, hb, _, ho, _⟩ := hl
    refine ⟨F, ρ, hm.stays hs, hb, h2, fun b e => ⟨(ho b e).1, ?_⟩⟩
    have h6 := (ho b e).2.2
    cases hr : ρ b with
    | none => rfl
    | some x => exact absurd (by show ρ b ≠ none; rw [hr]; simp) h6
end
/-! ### families of rows -/
/-- values vs, each a row of the law's own: the rows Ls -/
structure Fam (w0 W : World) (own : Roles) (rr : Nat → Role) (vs : List Value) (Ls : List (List Value)) : Prop where
  len : vs.length = Ls.length
  row : ∀ i v L, vs[i]? = some v → Ls[i]? = some L → OwnRow w0 W own (rr i) 1 v L.length L
section
variable {w0 W W' : World} {own own' : Roles} {Q : Role → Prop} {rr : Nat → Role} {vs : List Value} {Ls : List (List Value)} {v : Value} {L : List Value}
theorem Fam.nil (w0 W : World) (own : Roles) (rr : Nat → Role) : Fam w0 W own rr [] [] := ⟨rfl, fun i v L h => by cases h⟩
theorem Fam.keep (h : Fam w0 W own rr vs Ls) (hl : Lies own own' Q W W') (hq : ∀ i, ¬ Q (rr i)) : Fam w0 W' own' rr vs Ls := ⟨h.len, fun i v L h1 h2 => (h.row i v L h1 h2).keep hl (hq i)⟩
theorem Fam.snoc (h : Fam w0 W own rr vs Ls) (hr : OwnRow w0 W own (rr vs.length) 1 v L.length L) : Fam w0 W own rr (vs ++ [v]) (Ls ++ [L]) := by
  refine ⟨by rw [List.length_append, List.length_append, h.len]; rfl, fun i u M h1 h2 => ?_⟩
  have hl := h.len
  by_cases hi : i < vs.length
  · rw [List.getElem?_append_left hi] at h1
    rw [List.getElem?_append_left (by omega)] at h2
    exact h.row i u M h1 h2
  · have hi2 : i = vs.length := by
      have := (List.getElem?_eq_some_iff.1 h1).1
      rw [List.length_append, List.length_singleton] at this
      omega
    subst hi2
    rw [List.getElem?_append_right (Nat.le_refl _), Nat.sub_self] at h1
    rw [hl, List.getElem?_append_right (Nat.le_refl _), Nat.sub_self] at h2
    injection h1 with h1
    injection h2 with h2
    subst h1 h2
    exact hr
/-- one row is written -/
theorem Fam.put (h : Fam w0 W own rr vs Ls) (hinj : ∀ i j, rr i = rr j → i = j) {i : Nat} (hl : Lies own own' (fun r => r = rr i) W W') {v' : Value} (hv : vs[i]? = some v') (hr : OwnRow w0 W' own' (rr i) 1 v' L.length L) : Fam w0 W' own' rr vs (Ls.set i L) := by
  refine ⟨by rw [List.length_set]; exact h.len, fun j u M h1 h2 => ?_⟩
  by_cases hij : i = j
  · subst hij
    have hlt := (List.getElem?_eq_some_iff.1 h1).1
    rw [List.getElem?_set_self (by rw [← h.len]; exact hlt)] at h2
    rw [hv] at h1
    injection h1 with h1
    injection h2 with h2
    subst h1 h2
    exact hr
  · rw [List.getElem?_set_ne hij] at h2
    exact (h.row j u M h1 h2).keep hl (fun e => hij (hinj j i e).symm)
theorem Fam.pick (h : Fam w0 W own rr vs Ls) {i : Nat} (hi : i < vs.length) : ∃ v L, vs[i]? = some v ∧ Ls[i]? = some L ∧ OwnRow w0 W own (rr i) 1 v L.length L := by
  have hl := h.len
  exact ⟨vs[i], Ls[i], List.getElem?_eq_getElem hi, List.getElem?_eq_getElem (by omega), h.row i _ _ (List.getElem?_eq_getElem hi) (List.getElem?_eq_getElem (by omega))⟩
theorem chg_inj (i j : Nat) (h : Role.chg i = Role.chg j) : i = j := by injection h
theorem file_inj (i j : Nat) (h : Role.file i = Role.file j) : i = j := by injection h
theorem bytesV_len' (l : Bs) : (bytesV l).length = l.length := bytesV_len l
end
end Go.Proofs.Ythgeppdoonbkpaa

namespace Go.Proofs.Ythgeppdoonbkpaa
open Go.RowKit

section
variable {P : Program} (w : World)
/-- THE LAW: append to a row. -/
theorem run_app2 (base : Nat) (ts tx ty e : TypeId) (i : TypeInfo) (z : Value) (size bytes : Nat) (ht : P.underlying ts = some (.slice e)) (hi : P.info? e = some i) (hz : i.zero = some z)
    (hsize : i.size = size) (hby : i.bytes = bytes) (hzs : z.cells.size = size)
    (v : Value) (n : Nat) (xs : List Value) (hown : Row w base size v n xs) (x : Value) (m : Nat) (news : List Value) (hx : Src P w tx size x m news)
    (hmax : n + m ≤ 140737488355328) (hbytes : (n + m) * bytes ≤ 140737488355328) (hb1 : 0 < bytes) (hbase : base ≤ w.heap.size) :
    ∃ v' w', (Builtin.append_ #[ts, tx] ty #[v, x]).run P w = .ok v' w' ∧ Row w' base size v' (n + m) (xs ++ news) ∧ w.grownBy w' v.ownBlock ∧
      (v'.ownBlock = v.ownBlock ∨ v'.ownBlock = some w.heap.size) ∧ Row w' base size v n xs := by
  subst hsize
  subst hby
  obtain ⟨d, hd, hdn⟩ := hx.noint
  have hlen : (xs ++ news).length = (n + m) * i.size := by rw [List.length_append, hown.1, hx.hl, Nat.add_mul]
  have grown : ∀ (old : Nat), old < n + m →
      Row (w.drew.alloc (.cells (xs.toArray ++ news.toArray ++ Builtin.zeroCells z.cells (grownCap w (n + m) old e - (n + m))) e)) base i.size
        (.slice (some ⟨w.heap.size, 0, none⟩) (n + m) (grownCap w (n + m) old e)) (n + m) (xs ++ news) := by
    intro old ho
    have hge := grownCap_ge w (n + m) old e
    have hcm : grownCap w (n + m) old e ≤ maxLen := grownCap_le_maxLen w (n + m) old e (by simp only [maxLen]; omega)
    refine ⟨hlen, .inr ⟨w.heap.size, 0, _, _, e, (0, 0), rfl, hbase, heap_alloc_new w.drew _, hge, hcm, ?_, by intro j _ _; simp, ?_⟩⟩
    · simp only [Array.size_append, List.size_toArray, size_zeroCells, hzs, hown.1, hx.hl, ← Nat.add_mul]
      have : n + m + (grownCap w (n + m) old e - (n + m)) = grownCap w (n + m) old e := by omega
      rw [this]
      omega
    · simp only [Array.toList_append, List.append_assoc, List.drop_zero]
      rw [← List.append_assoc, ← hlen]
      exact List.take_left
  have hgro : ∀ (old : Nat) (row : Option Nat), w.grownBy (w.drew.alloc (.cells (xs.toArray ++ news.toArray ++ Builtin.zeroCells z.cells (grownCap w (n + m) old e - (n + m))) e)) row :=
    fun old row => ⟨rfl, rfl, rfl, by simp, fun k hk _ => Below.heap_alloc w.drew _ k hk⟩
  have hfit : ∀ old, old < n + m → ¬ (281474976710656 < Builtin.nextslicecap (n + m) old * i.bytes) := fun old ho => by
    have := growslice_fits ho hbytes; omega
  have h63 : ¬ (9223372036854775807 < ((n : Int) + (m : Int))) := by omega
  have hf := hx.first
  have hfD := hx.firstD
  have hL := hx.len
  rcases hown.2 with ⟨rfl, rfl⟩ | ⟨g, o, cap, cur, t, fr, rfl, hbg, hg, hnc, hcm, hcs, hfr, htake⟩
  · have hx0 : xs = [] := List.eq_nil_of_length_eq_zero (by simpa using hown.1)
    subst hx0
    by_cases hm : m = 0
    · subst hm
      have hn : news = [] := List.eq_nil_of_length_eq_zero (by simpa using hx.hl)
      subst hn
      refine ⟨.slice none 0 0, w, ?_, Row.nil w base i.size, World.grownBy.refl w _, .inl rfl, hown⟩
      simp [Builtin.append_, run_underlying ht, run_underlying hd, sizeOf, typeInfo, hi, hL, hf]
    · have hf0 := hfit 0 (by omega)
      refine ⟨_, _, ?_, grown 0 (by omega), hgro 0 _, .inr rfl, Row.alloc (Row.drew hown) _⟩
      simp only [Nat.zero_add] at hf0 h63 ⊢
      have hb0 : ¬ i.bytes = 0 := by omega
      simp [Builtin.append_, run_underlying ht, run_underlying hd, sizeOf, typeInfo, zeroValue, hi, hz, hL, hm, hf0, hfD, Question.forced, newRow, grownCap, hb0, run_firstCells_none (P := P) w.drew]
  · by_cases hroom : n + m ≤ cap
    · have hcm2 : (n + m) * i.size ≤ cap * i.size := Nat.mul_le_mul_right _ hroom
      have hfit2 : o + n * i.size + news.length ≤ cur.size := by rw [hx.hl]; rw [Nat.add_mul] at hcm2; omega
      have hst := run_storeCells_fr P g (o + n * i.size) t fr news 0 cur w hg (by simpa using hfit2)
        (fun j h2 h3 => hfr j (by omega) (by rw [hx.hl] at h3; rw [Nat.add_mul] at hcm2; omega)) hx.one
      simp only [Nat.add_zero] at hst
      refine ⟨_, _, ?_, ⟨hlen, .inr ⟨g, o, cap, _, t, fr, rfl, hbg, setRow_heap w g cur (cur.toList.take (o + n * i.size) ++ news ++ cur.toList.drop (o + n * i.size + news.length)).toArray t _ hg, hroom, hcm, ?_, hfr, ?_⟩⟩, ⟨rfl, rfl, rfl, by simp, fun k _ hk => setRow_other w g k _ (fun e => hk (by simp [Value.ownBlock, e]))⟩, .inl rfl, ⟨hown.1, .inr ⟨g, o, cap, _, t, fr, rfl, hbg, setRow_heap w g cur (cur.toList.take (o + n * i.size) ++ news ++ cur.toList.drop (o + n * i.size + news.length)).toArray t _ hg, hnc, hcm, ?_, hfr, ?_⟩⟩⟩
      · simp [Builtin.append_, run_underlying ht, run_underlying hd, sizeOf, typeInfo, hi, hL, hroom, hf, Addr.add_lit, hst]
      · simp only [List.size_toArray, List.length_append, List.length_take, List.length_drop, Array.length_toList]
        omega
      · have e1 : (cur.toList.take (o + n * i.size) ++ news ++ cur.toList.drop (o + n * i.size + news.length)).toArray.toList.drop o = (cur.toList.drop o).take (n * i.size) ++ news ++ cur.toList.drop (o + n * i.size + news.length) := by
          simp only [List.append_assoc]
          rw [List.drop_append_of_le_length (by simp; omega), List.drop_take]
          simp
        rw [e1, htake, ← hlen]
        exact List.take_left
      · simp only [List.size_toArray, List.length_append, List.length_take, List.length_drop, Array.length_toList]
        omega
      · have e1 : (cur.toList.take (o + n * i.size) ++ news ++ cur.toList.drop (o + n * i.size + news.length)).toArray.toList.drop o = (cur.toList.drop o).take (n * i.size) ++ news ++ cur.toList.drop (o + n * i.size + news.length) := by
          simp only [List.append_assoc]
          rw [List.drop_append_of_le_length (by simp; omega), List.drop_take]
          simp
        rw [e1, htake, ← hown.1, List.append_assoc]
        exact List.take_left
    · have holds : ∀ j u, xs[j]? = some u → w.drew.cell? ((⟨g, o, none⟩ : Addr).add j) = some u := by
        intro j u hu
        rw [Addr.add_lit]
        show w.cell? _ = _
        rw [cell_of_row w g (o + j) cur t fr hg]
        rw [← htake, List.getElem?_take] at hu
        split at hu
        · rw [List.getElem?_drop] at hu; simpa using hu
        · cases hu
      have hfo := run_firstCells_some (P := P) w.drew i.size n ⟨g, o, none⟩ n cap xs hown.1 holds
      have hf0 := hfit cap (by omega)
      refine ⟨_, _, ?_, grown cap (by omega), hgro cap _, .inr rfl, Row.alloc (Row.drew hown) _⟩
      have hb0 : ¬ i.bytes = 0 := by omega
      simp [Builtin.append_, run_underlying ht, run_underlying hd, sizeOf, typeInfo, zeroValue, hi, hz, hL, hroom, hf0, hfD, hfo, Question.forced, newRow, grownCap, hb0]
      congr 2
      apply Array.ext'
      simp [List.append_assoc]

theorem wp_app2 {o : Oper} {a : Act} {K : Act → World → Prop} {Q : Exit → Act → World → Prop} (s x : Operand) (ts tx : TypeId)
    (ho : o.op = .call { callee := .builtin .append, args := #[s, x], argTypes := #[ts, tx] })
    (base : Nat) (e : TypeId) (i : TypeInfo) (z : Value) (size bytes : Nat) (ht : P.underlying ts = some (.slice e)) (hi : P.info? e = some i) (hz : i.zero = some z)
    (hsize : i.size = size) (hby : i.bytes = bytes) (hzs : z.cells.size = size)
    (v : Value) (n : Nat) (xs : List Value) (hs : a.eval s = v) (hown : Row w base size v n xs) (xv : Value) (m : Nat) (news : List Value) (hxv : a.eval x = xv) (hx : Src P w tx size xv m news)
    (hmax : n + m ≤ 140737488355328) (hbytes : (n + m) * bytes ≤ 140737488355328) (hb1 : 0 < bytes) (hbase : base ≤ w.heap.size)
    (h : ∀ v' w', Row w' base size v' (n + m) (xs ++ news) → w.grownBy w' v.ownBlock → (v'.ownBlock = v.ownBlock ∨ v'.ownBlock = some w.heap.size) → Row w' base size v n xs → K (a.put o.dst v') w') : o.wp P a w K Q := by
  obtain ⟨v', w', hrun, h2, h3, h4, h5⟩ := run_app2 (P := P) w base ts tx o.type e i z size bytes ht hi hz hsize hby hzs v n xs hown xv m news hx hmax hbytes hb1 hbase
  unfold Oper.wp execOp
  simp only [ho, resolve, invoke, builtin, Sem.run_bind, Sem.run_pure, Result.andThen_ok, List.map_toArray, List.map_cons, List.map_nil, hs, hxv, hrun]
  exact h v' w' h2 h3 h4 h5

theorem wpList_app2 {ops : Array Oper} {rest : List Oper} {o : Oper} {a : Act} {Q : Exit → Act → World → Prop} (hgd : o.guard = none) (s x : Operand) (ts tx : TypeId)
    (ho : o.op = .call { callee := .builtin .append, args := #[s, x], argTypes := #[ts, tx] })
    (base : Nat) (e : TypeId) (i : TypeInfo) (z : Value) (size bytes : Nat) (ht : P.underlying ts = some (.slice e)) (hi : P.info? e = some i) (hz : i.zero = some z)
    (hsize : i.size = size) (hby : i.bytes = bytes) (hzs : z.cells.size = size)
    (v : Value) (n : Nat) (xs : List Value) (hs : a.eval s = v) (hown : Row w base size v n xs) (xv : Value) (m : Nat) (news : List Value) (hxv : a.eval x = xv) (hx : Src P w tx size xv m news)
    (hmax : n + m ≤ 140737488355328) (hbytes : (n + m) * bytes ≤ 140737488355328) (hb1 : 0 < bytes) (hbase : base ≤ w.heap.size)
    (h : ∀ v' w', Row w' base size v' (n + m) (xs ++ news) → w.grownBy w' v.ownBlock → (v'.ownBlock = v.ownBlock ∨ v'.ownBlock = some w.heap.size) → Row w' base size v n xs → wpList P ops Q rest (a.put o.dst v') w') : wpList P ops Q (o :: rest) a w :=
  wpList_plain hgd fun _ hK => wp_app2 w s x ts tx ho base e i z size bytes ht hi hz hsize hby hzs v n xs hs hown xv m news hxv hx hmax hbytes hb1 hbase fun v' w' h2 h3 h4 h5 => hK _ _ (h v' w' h2 h3 h4 h5)
end
end Go.Proofs.Ythgeppdoonbkpaa

namespace Go.Proofs.Ythgeppdoonbkpaa
open Go.RowKit Go.Maps Go.WideMaps
theorem told_len64 {s : Dsk.St} {T : Nat} (h : Dsk.Fit s T) {n : Bs} (hn : n ∈ Dsk.told s) : n.length ≤ 64 := by
  unfold Dsk.told at hn
  split at hn
  · cases hn
  · obtain ⟨p, hp, rfl⟩ := List.mem_map.1 hn
    exact h.dn_len hp
theorem OwnRow.bytes {w0 W W' : World} {own : Roles} {r : Role} {v : Value} {l : Bs} (h : RowB W' W.heap.size v l) (hb : w0.heap.size ≤ W.heap.size) : OwnRow w0 W' (grow own W.heap.size W'.heap.size (fun _ => r)) r 1 v (bytesV l).length (bytesV l) := by
  rw [bytesV_len]
  exact OwnRow.made h hb
structure OwS (w0 W : World) (own : Roles) (db cb : Nat) (s : Dsk.St) (T : Nat) (tl : List Bs) (v11 v9 v10 : Value) (ns ls : List Value) (Ls : List (List Value)) : Prop where
  two : Two w0 W own db cb s T
  r11 : OwnRow w0 W own .moves 1 v11 tl.length (namesV tl)
  r9 : OwnRow w0 W own .now 1 v9 ns.length ns
  f9 : Fam w0 W own .file ns (List.replicate ns.length (namesV tl))
  r10 : OwnRow w0 W own .lasts 1 v10 ls.length ls
  f10 : Fam w0 W own .chg ls Ls
section
variable {w0 W W' w1 w3 : World} {own own' : Roles} {db cb : Nat} {s : Dsk.St} {T : Nat} {tl : List Bs} {v11 v9 v10 v v' : Value} {ns ls : List Value} {Ls : List (List Value)} {L : List Value}
theorem OwS.past (h : OwS w0 W own db cb s T tl v11 v9 v10 ns ls Ls) (hb : Below W.heap.size W W') : OwS w0 W' own db cb s T tl v11 v9 v10 ns ls Ls := by
  have hl : Lies own own (fun _ => False) W W' := below_lies hb
  exact ⟨h.two.past hb, h.r11.keep hl id, h.r9.keep hl id, h.f9.keep hl (fun _ => id), h.r10.keep hl id, h.f10.keep hl (fun _ => id)⟩
theorem OwS.grow (h : OwS w0 W own db cb s T tl v11 v9 v10 ns ls Ls) (hb : Below W.heap.size W W') (f : Nat → Role) : OwS w0 W' (_root_.Go.Proofs.Ythgeppdoonbkpaa.grow own W.heap.size W'.heap.size f) db cb s T tl v11 v9 v10 ns ls Ls := by
  have hl : Lies own (_root_.Go.Proofs.Ythgeppdoonbkpaa.grow own W.heap.size W'.heap.size f) (fun _ => False) W W' := grow_lies (below_lies hb) f
  exact ⟨h.two.grow hb f, h.r11.keep hl id, h.r9.keep hl id, h.f9.keep hl (fun _ => id), h.r10.keep hl id, h.f10.keep hl (fun _ => id)⟩
theorem rep_snoc {α : Type} (n : Nat) (a : α) : List.replicate (n + 1) a = List.replicate n a ++ [a] := List.replicate_succ'
/-- names = append(names, x.Names()) -/
theorem OwS.name (h : OwS w0 W own db cb s T tl v11 v9 v10 ns ls Ls) (hb : Below W.heap.size W w1) (hv : Row w1 W.heap.size 1 v tl.length (namesV tl)) (hc : Chg (fun k => v9.ownBlock = some k) w1 w3) (hr : Row w3 w0.heap.size 1 v' (ns.length + 1) (ns ++ [v])) (ho' : v'.ownBlock = v9.ownBlock ∨ ∀ b, v'.ownBlock = some b → w1.heap.size ≤ b) :
    ∃ own', OwS w0 w3 own' db cb s T tl v11 v' v10 (ns ++ [v]) ls Ls := by
  have h1 := h.grow hb (fun _ => .file ns.length)
  have hv1 : OwnRow w0 w1 (_root_.Go.Proofs.Ythgeppdoonbkpaa.grow own W.heap.size w1.heap.size (fun _ => .file ns.length)) (.file ns.length) 1 v tl.length (namesV tl) := OwnRow.made hv h.two.bel.size
  generalize _root_.Go.Proofs.Ythgeppdoonbkpaa.grow own W.heap.size w1.heap.size (fun _ => Role.file ns.length) = own1 at *
  have hl := push_lies hc h1.r9.role (fun _ => .now)
  refine ⟨_, h1.two.push hc h1.r9.role (fun _ => .now), h1.r11.keep hl (by simp), ?_, ?_, h1.r10.keep hl (by simp), h1.f10.keep hl (fun _ => by simp)⟩
  · rw [List.length_append, List.length_singleton]
    exact h1.r9.push hc hr ho'
  · rw [List.length_append, List.length_singleton, rep_snoc]
    exact Fam.snoc (h1.f9.keep hl (fun _ => by simp)) (by rw [namesV_len]; exact hv1.keep hl (by simp))
/-- lists = append(lists, a) -/
theorem OwS.list (h : OwS w0 W own db cb s T tl v11 v9 v10 ns ls Ls) (hv : OwnRow w0 W own (.chg ls.length) 1 v L.length L) (hc : Chg (fun k => v10.ownBlock = some k) W w3) (hr : Row w3 w0.heap.size 1 v' (ls.length + 1) (ls ++ [v])) (ho' : v'.ownBlock = v10.ownBlock ∨ ∀ b, v'.ownBlock = some b → W.heap.size ≤ b) :
    ∃ own', OwS w0 w3 own' db cb s T tl v11 v9 v' ns (ls ++ [v]) (Ls ++ [L]) ∧ Lies own own' (fun r => r = .lasts) W w3 := by
  have hl := push_lies hc h.r10.role (fun _ => .lasts)
  refine ⟨_, ⟨h.two.push hc h.r10.role (fun _ => .lasts), h.r11.keep hl (by simp), h.r9.keep hl (by simp), h.f9.keep hl (fun _ => by simp), ?_, Fam.snoc (h.f10.keep hl (fun _ => by simp)) (hv.keep hl (by simp))⟩, hl⟩
  rw [List.length_append, List.length_singleton]
  exact h.r10.push hc hr ho'
/-- a list is written -/
theorem OwS.mark (h : OwS w0 W own db cb s T tl v11 v9 v10 ns ls Ls) {i : Nat} (hv : ls[i]? = some v) (hc : Chg (fun k => v.ownBlock = some k) W W') (hro : ∀ b, v.ownBlock = some b → own b = some (.chg i)) (hr : OwnRow w0 W' own (.chg i) 1 v L.length L) :
    OwS w0 W' own db cb s T tl v11 v9 v10 ns ls (Ls.set i L) := by
  have hl : Lies own own (fun r => r = .chg i) W W' := put_lies hc hro
  exact ⟨h.two.put hc hro, h.r11.keep hl (by simp), h.r9.keep hl (by simp), h.f9.keep hl (fun _ => by simp), h.r10.keep hl (by simp), h.f10.put chg_inj hl hv hr⟩
/-- another row of the law's own turns -/
theorem OwS.side (h : OwS w0 W own db cb s T tl v11 v9 v10 ns ls Ls) {r : Role} {S : Nat → Prop} (hc : Chg S W W') (hS : ∀ b, S b → own b = some r) (h1 : r ≠ .moves) (h2 : r ≠ .now) (h3 : r ≠ .lasts) (h4 : ∀ i, r ≠ .file i) (h5 : ∀ i, r ≠ .chg i) (f : Nat → Role) :
    OwS w0 W' (_root_.Go.Proofs.Ythgeppdoonbkpaa.grow own W.heap.size W'.heap.size f) db cb s T tl v11 v9 v10 ns ls Ls := by
  have hl := push_lies hc hS f
  exact ⟨h.two.push hc hS f, h.r11.keep hl (fun e => h1 e.symm), h.r9.keep hl (fun e => h2 e.symm), h.f9.keep hl (fun i e => h4 i e.symm), h.r10.keep hl (fun e => h3 e.symm), h.f10.keep hl (fun i e => h5 i e.symm)⟩
/-- what a row reads -/
theorem OwnRow.at {r : Role} {A : Option Addr} {n c : Nat} {xs : List Value} (h : OwnRow w0 W own r 1 (.slice A n c) n xs) {i : Nat} {u : Value} (hi : xs[i]? = some u) : ∃ g o, A = some ⟨g, o, none⟩ ∧ g < W.heap.size ∧ i < n ∧ W.cell? ⟨g, o + i, none⟩ = some u := by
  obtain ⟨A', c', e, _, _, _, hrd⟩ := h.row.form
  injection e with e _ _
  subst e
  have hlt := (List.getElem?_eq_some_iff.1 hi).1
  have hl := hrd.1
  obtain ⟨g, o, e, hg, hc⟩ := hrd.2 (by omega)
  exact ⟨g, o, e, hg, by omega, hc i u hi⟩
theorem Fam.keepLt {Q : Role → Prop} {rr : Nat → Role} {vs : List Value} {Ms : List (List Value)} (h : Fam w0 W own rr vs Ms) (hl : Lies own own' Q W W') (hq : ∀ i, i < vs.length → ¬ Q (rr i)) : Fam w0 W' own' rr vs Ms :=
  ⟨h.len, fun i v L h1 h2 => (h.row i v L h1 h2).keep hl (hq i (List.getElem?_eq_some_iff.1 h1).1)⟩
/-- a list is appended to: it reads as it did -/
theorem OwS.ext2 (h : OwS w0 W own db cb s T tl v11 v9 v10 ns ls Ls) {i : Nat} (hv : ls[i]? = some v) (hL : Ls[i]? = some L) (hc : Chg (fun k => v.ownBlock = some k) W W') (hold : Row W' w0.heap.size 1 v L.length L) :
    OwS w0 W' (_root_.Go.Proofs.Ythgeppdoonbkpaa.grow own W.heap.size W'.heap.size (fun _ => .chg i)) db cb s T tl v11 v9 v10 ns ls Ls ∧ Lies own (_root_.Go.Proofs.Ythgeppdoonbkpaa.grow own W.heap.size W'.heap.size (fun _ => .chg i)) (fun r => r = .chg i) W W' := by
  have hro := (h.f10.row i v L hv hL).role
  have hl := push_lies hc hro (fun _ => .chg i)
  refine ⟨⟨h.two.push hc hro _, h.r11.keep hl (by simp), h.r9.keep hl (by simp), h.f9.keep hl (fun _ => by simp), h.r10.keep hl (by simp), ⟨h.f10.len, fun j u M h1 h2 => ?_⟩⟩, hl⟩
  by_cases hij : j = i
  · subst hij
    rw [hv] at h1
    rw [hL] at h2
    injection h1 with h1
    injection h2 with h2
    subst h1 h2
    exact ⟨hold, fun b e => (hl.ext b ((h.f10.row j v L hv hL).row.lt b e).2).trans (hro b e)⟩
  · exact (h.f10.row j u M h1 h2).keep hl (fun e => hij (chg_inj _ _ e))
theorem own_new {v v' : Value} {w : World} {o : Obj} (h : v'.ownBlock = v.ownBlock ∨ v'.ownBlock = some (w.alloc o).heap.size) : v'.ownBlock = v.ownBlock ∨ ∀ b, v'.ownBlock = some b → w.heap.size ≤ b := h.imp id (fun e b hb => by rw [e] at hb; injection hb with hb; rw [← hb]; simp)
end
end Go.Proofs.Ythgeppdoonbkpaa
