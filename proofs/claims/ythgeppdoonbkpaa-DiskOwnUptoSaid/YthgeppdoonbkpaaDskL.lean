/- A disk that a law holds: its calls. Conditions: sizes. -/
import Derived.Test.YthgeppdoonbkpaaDskZd
namespace Go.Proofs.Ythgeppdoonbkpaa
open Go.RowKit Go.Maps Go.WideMaps
/-- a disk in memory that came since w0; O: the law's own blocks -/
def Live (w0 : World) (O : Nat → Prop) (W : World) (db : Nat) (s : Dsk.St) (T : Nat) : Prop :=
  ∃ F ρ, Mem W db F ρ s T ∧ Below w0.heap.size w0 W ∧ (∀ b r, ρ b = some r → w0.heap.size ≤ b) ∧ ∀ b, O b → b < W.heap.size ∧ ρ b = none
/-- what the law's own blocks hold stays -/
def Kept (O : Nat → Prop) (W W' : World) : Prop := W.heap.size ≤ W'.heap.size ∧ ∀ b, O b → W'.heap[b]? = W.heap[b]?
section
variable {w0 W W' : World} {O O' : Nat → Prop} {db : Nat} {s s' : Dsk.St} {T T' : Nat}
theorem Live.bel (h : Live w0 O W db s T) : Below w0.heap.size w0 W := by obtain ⟨F, ρ, _, hb, _⟩ := h; exact hb
theorem Live.grow (h : Live w0 O W db s T) (hb : Below W.heap.size W W') : Live w0 O W' db s T := by
  obtain ⟨F, ρ, hm, h1, h2, h3⟩ := h
  exact ⟨F, ρ, hm.below hb, h1.trans (hb.mono h1.size), h2, fun b hb' => ⟨Nat.lt_of_lt_of_le (h3 b hb').1 hb.size, (h3 b hb').2⟩⟩
/-- a new block is the law's own -/
theorem Live.own (h : Live w0 O W db s T) (hb : Below W.heap.size W W') (hO : ∀ b, O' b → O b ∨ (W.heap.size ≤ b ∧ b < W'.heap.size)) : Live w0 O' W' db s T := by
  obtain ⟨F, ρ, hm, h1, h2, h3⟩ := h
  refine ⟨F, ρ, hm.below hb, h1.trans (hb.mono h1.size), h2, fun b hb' => ?_⟩
  rcases hO b hb' with h4 | h4
  · exact ⟨Nat.lt_of_lt_of_le (h3 b h4).1 hb.size, (h3 b h4).2⟩
  · refine ⟨h4.2, ?_⟩
    cases hr : ρ b with
    | none => rfl
    | some r => have := hm.lt b r hr; omega
theorem Live.less (h : Live w0 O W db s T) (hO : ∀ b, O' b → O b) : Live w0 O' W db s T := by
  obtain ⟨F, ρ, hm, h1, h2, h3⟩ := h
  exact ⟨F, ρ, hm, h1, h2, fun b hb' => h3 b (hO b hb')⟩
/-- the law writes into what is its own -/
theorem Live.wrote (h : Live w0 O W db s T) {S : Nat → Prop} (hc : Chg S W W') (hS : ∀ b, b < W.heap.size → S b → O b ∧ w0.heap.size ≤ b) : Live w0 O W' db s T := by
  obtain ⟨F, ρ, hm, h1, h2, h3⟩ := h
  refine ⟨F, ρ, hm.keep hc (fun b hb hs => (h3 b (hS b hb hs).1).2), ?_, h2, fun b hb' => ⟨Nat.lt_of_lt_of_le (h3 b hb').1 hc.size, (h3 b hb').2⟩⟩
  exact ⟨hc.os.trans h1.os, hc.tape.trans h1.tape, hc.output.trans h1.output, Nat.le_trans h1.size hc.size, fun k hk => (hc.block k (Nat.lt_of_lt_of_le hk h1.size) (fun hs => by have := (hS k (Nat.lt_of_lt_of_le hk h1.size) hs).2; omega)).trans (h1.block k hk)⟩
theorem Live.more (h : Live w0 O W db s T) (hT : T ≤ T') : Live w0 O W db s T' := by
  obtain ⟨F, ρ, hm, h1⟩ := h
  exact ⟨F, ρ, hm.more hT, h1⟩
theorem Live.fit (h : Live w0 O W db s T) : Dsk.Fit s T := by obtain ⟨F, ρ, hm, _⟩ := h; exact hm.fit
theorem Live.out {F : Nat → Nat} {ρ : Roles} (_hm : Mem W db F ρ s T) (h1 : Below w0.heap.size w0 W) (h2 : ∀ b r, ρ b = some r → w0.heap.size ≤ b) (h3 : ∀ b, O b → b < W.heap.size ∧ ρ b = none) (ho : Out W db ρ s' T' W') : Live w0 O W' db s' T' ∧ Kept O W W' := by
  obtain ⟨F', ρ', hm', hs⟩ := ho
  have hnew : ∀ b, b < W.heap.size → ρ' b = ρ b := hs.ext
  have hb : Below w0.heap.size w0 W' := ⟨hs.chg.os.trans h1.os, hs.chg.tape.trans h1.tape, hs.chg.output.trans h1.output, Nat.le_trans h1.size hs.chg.size, fun k hk => (hs.chg.block k (Nat.lt_of_lt_of_le hk h1.size) (fun ⟨r, e, _⟩ => by have := h2 k r e; omega)).trans (h1.block k hk)⟩
  refine ⟨⟨F', ρ', hm', hb, fun b r e => ?_, fun b hb' => ⟨Nat.lt_of_lt_of_le (h3 b hb').1 hs.chg.size, (hnew b (h3 b hb').1).trans (h3 b hb').2⟩⟩, hs.chg.size, fun b hb' => ?_⟩
  · by_cases hlt : b < W.heap.size
    · rw [hnew b hlt] at e; exact h2 b r e
    · have := h1.size; omega
  · exact hs.chg.block b (h3 b hb').1 (fun ⟨r, e, _⟩ => by rw [(h3 b hb').2] at e; cases e)
/-- a call of the disk -/
theorem Live.call (h : Live w0 O W db s T) {f : Nat} {args : Array Value} {e0 : Ending} (hop : ∀ F ρ, Mem W db F ρ s T → (∀ b, O b → ρ b = none) → Calls Try.prog f args W fun e w' => e = e0 ∧ Out W db ρ s' T' w') :
    Calls Try.prog f args W fun e w' => e = e0 ∧ Live w0 O w' db s' T' ∧ Kept O W w' := by
  obtain ⟨F, ρ, hm, h1, h2, h3⟩ := h
  refine (hop F ρ hm (fun b hb => (h3 b hb).2)).mono ?_
  rintro e w' ⟨he, ho⟩
  exact ⟨he, Live.out hm h1 h2 h3 ho⟩
theorem Kept.refl (O : Nat → Prop) (W : World) : Kept O W W := ⟨Nat.le_refl _, fun _ _ => rfl⟩
theorem Kept.trans {W1 : World} (h : Kept O W W1) (k : Kept O W1 W') : Kept O W W' := ⟨Nat.le_trans h.1 k.1, fun b hb => (k.2 b hb).trans (h.2 b hb)⟩
/-- a call that only asks -/
theorem Live.ask (h : Live w0 O W db s T) {f : Nat} {args : Array Value} {R : Ending → World → Prop} (hop : ∀ F ρ, Mem W db F ρ s T → Calls Try.prog f args W fun e w' => R e w' ∧ Below W.heap.size W w') :
    Calls Try.prog f args W fun e w' => R e w' ∧ Live w0 O w' db s T ∧ Below W.heap.size W w' := by
  have hh := h
  obtain ⟨F, ρ, hm, _⟩ := h
  refine (hop F ρ hm).mono ?_
  rintro e w' ⟨he, hb⟩
  exact ⟨he, hh.grow hb, hb⟩
theorem lnew (w0 W : World) (O : Nat → Prop) (hb : Below w0.heap.size w0 W) (hO : ∀ b, O b → b < W.heap.size) (room : Int) (hr : room ≤ 9223372036854775807) :
    Calls Try.prog 8 #[.int .i64 room] W fun e w' => ∃ db, e = .returned (.pointer (some ⟨db, 0, none⟩)) ∧ Live w0 O w' db (Dsk.new room) 0 ∧ Below W.heap.size W w' := by
  refine (dnew_any W room hr).mono ?_
  rintro e w' ⟨db, F, ρ, he, hm, hb2, hl⟩
  refine ⟨db, he, ⟨F, ρ, hm, hb.trans (hb2.mono hb.size), fun b r e => Nat.le_trans hb.size (hl b r e), fun b hb' => ⟨Nat.lt_of_lt_of_le (hO b hb') hb2.size, ?_⟩⟩, hb2⟩
  cases hr : ρ b with
  | none => rfl
  | some r => have := hl b r hr; have := hO b hb'; omega
theorem lcreate (h : Live w0 O W db s T) (hT : T ≤ 99999) (n : Bs) (hn : n.length ≤ 1000000000) : Calls Try.prog 9 #[.pointer (some ⟨db, 0, none⟩), .string (strB n)] W fun e w' => e = .returned (.int .i64 ((Dsk.create s n).2 : Nat)) ∧ Live w0 O w' db (Dsk.create s n).1 (T + 1) ∧ Kept O W w' := h.call fun _ _ hm _ => dcreate_any hm hT n hn
theorem lrename (h : Live w0 O W db s T) (hT : T ≤ 99999) (a b : Bs) (ha : a.length ≤ 1000000000) (hb : b.length ≤ 1000000000) : Calls Try.prog 17 #[.pointer (some ⟨db, 0, none⟩), .string (strB a), .string (strB b)] W fun e w' => e = .returned (.int .i64 ((Dsk.rename s a b).2 : Nat)) ∧ Live w0 O w' db (Dsk.rename s a b).1 (T + 1) ∧ Kept O W w' := h.call fun _ _ hm _ => drename_any hm hT a b ha hb
theorem lremove (h : Live w0 O W db s T) (hT : T ≤ 99999) (n : Bs) (hn : n.length ≤ 1000000000) : Calls Try.prog 50 #[.pointer (some ⟨db, 0, none⟩), .string (strB n)] W fun e w' => e = .returned (.int .i64 ((Dsk.remove s n).2 : Nat)) ∧ Live w0 O w' db (Dsk.remove s n).1 (T + 1) ∧ Kept O W w' := h.call fun _ _ hm _ => dremove_any hm hT n hn
theorem lsync (h : Live w0 O W db s T) (hT : T ≤ 99999) (n : Bs) (hn : n.length ≤ 1000000000) : Calls Try.prog 12 #[.pointer (some ⟨db, 0, none⟩), .string (strB n)] W fun e w' => e = .returned (.int .i64 ((Dsk.sync s n).2 : Nat)) ∧ Live w0 O w' db (Dsk.sync s n).1 (T + 1) ∧ Kept O W w' := h.call fun _ _ hm _ => dsync_any hm hT n hn
theorem lsyncDir (h : Live w0 O W db s T) (hT : T ≤ 99999) : Calls Try.prog 13 #[.pointer (some ⟨db, 0, none⟩)] W fun e w' => e = .returned (.int .i64 ((Dsk.syncDir s).2 : Nat)) ∧ Live w0 O w' db (Dsk.syncDir s).1 (T + 1) ∧ Kept O W w' := h.call fun _ _ hm _ => dsyncDir_any hm hT
theorem lcut (h : Live w0 O W db s T) (hT : T ≤ 99999) (n : Bs) (hn : n.length ≤ 1000000000) (k : Int) : Calls Try.prog 22 #[.pointer (some ⟨db, 0, none⟩), .string (strB n), .int .i64 k] W fun e w' => e = .returned (.int .i64 ((Dsk.cut s n k).2 : Nat)) ∧ Live w0 O w' db (Dsk.cut s n k).1 (T + 1) ∧ Kept O W w' := h.call fun _ _ hm _ => dcut_any hm hT n hn k
theorem lwrite (h : Live w0 O W db s T) (hT : T ≤ 99999) (n : Bs) (hn : n.length ≤ 1000000000) (a : Int) {A : Option Addr} {q c : Nat} {p : Bs} (hA : A = none → q = 0 ∧ c = 0) (hrd : Rd W W.heap.size 1 A q (bytesV p)) (hq : q ≤ 10000000) : Calls Try.prog 10 #[.pointer (some ⟨db, 0, none⟩), .string (strB n), .int .i64 a, .slice A q c] W fun e w' => e = .returned (.int .i64 ((Dsk.write s n a p).2 : Nat)) ∧ Live w0 O w' db (Dsk.write s n a p).1 (T + 1) ∧ Kept O W w' := h.call fun _ _ hm _ => dwrite_any hm hT n hn a hA hrd hq
theorem lcrash (h : Live w0 O W db s T) (hT : T ≤ 99999) {A : Option Addr} {n c : Nat} {cs : List Int} (hrd : Rd W W.heap.size 1 A n (intsV cs)) (hnc : n ≤ c) (hcs : n ≤ 16777216) (hP : 0 < n → ∀ g o, A = some ⟨g, o, none⟩ → O g) : Calls Try.prog 18 #[.pointer (some ⟨db, 0, none⟩), .slice A n c] W fun e w' => e = .returned (.tuple #[]) ∧ Live w0 O w' db (Dsk.crash s cs) (T + 1) ∧ Kept O W w' := h.call fun _ _ hm ho => dcrash_any hm hT hrd hnc hcs (fun h0 g o e => ho g (hP h0 g o e))
theorem larm (h : Live w0 O W db s T) (a : Int) (ha : a ≤ 9223372036854775807) {A : Option Addr} {n c : Nat} {cs : List Int} (hA : A = none → n = 0 ∧ c = 0) (hrd : Rd W W.heap.size 1 A n (intsV cs)) (hcs : n ≤ 16777216) : Calls Try.prog 14 #[.pointer (some ⟨db, 0, none⟩), .int .i64 a, .slice A n c] W fun e w' => e = .returned (.tuple #[]) ∧ Live w0 O w' db (Dsk.armed s a cs) T ∧ Kept O W w' := h.call fun _ _ hm _ => darm_any hm a ha hA hrd hcs
theorem lup (h : Live w0 O W db s T) : Calls Try.prog 20 #[.pointer (some ⟨db, 0, none⟩)] W fun e w' => e = .returned (.tuple #[]) ∧ Live w0 O w' db (Dsk.up s) T ∧ Kept O W w' := h.call fun _ _ hm _ => dup_any hm
theorem ldown (h : Live w0 O W db s T) : Calls Try.prog 19 #[.pointer (some ⟨db, 0, none⟩)] W fun e w' => e = .returned (.bool s.down) ∧ Live w0 O w' db s T ∧ Below W.heap.size W w' := h.ask (R := fun e _ => e = .returned (.bool s.down)) fun _ _ hm => ddown_any hm
theorem lread (h : Live w0 O W db s T) (n : Bs) (hn : n.length ≤ 1000000000) : Calls Try.prog 21 #[.pointer (some ⟨db, 0, none⟩), .string (strB n)] W fun e w' => ∃ v, e = .returned (.tuple #[v, .int .i64 ((Dsk.read s n).2 : Nat)]) ∧ RowB w' W.heap.size v (Dsk.read s n).1 ∧ Live w0 O w' db s T ∧ Below W.heap.size W w' := by
  refine (h.ask (R := fun e w' => ∃ v, e = .returned (.tuple #[v, .int .i64 ((Dsk.read s n).2 : Nat)]) ∧ RowB w' W.heap.size v (Dsk.read s n).1) fun _ _ hm => (dread_any hm n hn).mono ?_).mono ?_
  · rintro e w' ⟨v, h1, h2, h3⟩
    exact ⟨⟨v, h1, h2⟩, h3⟩
  · rintro e w' ⟨⟨v, h1, h2⟩, h3, h4⟩
    exact ⟨v, h1, h2, h3, h4⟩
theorem lloose (h : Live w0 O W db s T) (hT : T ≤ 100000) (n : Bs) (hn : n.length ≤ 1000000000) : Calls Try.prog 24 #[.pointer (some ⟨db, 0, none⟩), .string (strB n)] W fun e w' => e = .returned (.int .i64 (Dsk.looseOf s n : Nat)) ∧ Live w0 O w' db s T ∧ Below W.heap.size W w' := h.ask (R := fun e _ => e = .returned (.int .i64 (Dsk.looseOf s n : Nat))) fun _ _ hm => dloose_any hm hT n hn
theorem lnames (h : Live w0 O W db s T) (hT : T ≤ 100000) : Calls Try.prog 26 #[.pointer (some ⟨db, 0, none⟩)] W fun e w' => ∃ v, e = .returned v ∧ Row w' W.heap.size 1 v (Dsk.told s).length (namesV (Dsk.told s)) ∧ (Dsk.told s = [] → v = .slice none 0 0) ∧ Live w0 O w' db s T ∧ Below W.heap.size W w' := by
  refine (h.ask (R := fun e w' => ∃ v, e = .returned v ∧ Row w' W.heap.size 1 v (Dsk.told s).length (namesV (Dsk.told s)) ∧ (Dsk.told s = [] → v = .slice none 0 0)) fun _ _ hm => (dnames_any hm hT).mono ?_).mono ?_
  · rintro e w' ⟨v, h1, h2, h3, h4⟩
    exact ⟨⟨v, h1, h2, h3⟩, h4⟩
  · rintro e w' ⟨⟨v, h1, h2, h3⟩, h4, h5⟩
    exact ⟨v, h1, h2, h3, h4, h5⟩
end
end Go.Proofs.Ythgeppdoonbkpaa
