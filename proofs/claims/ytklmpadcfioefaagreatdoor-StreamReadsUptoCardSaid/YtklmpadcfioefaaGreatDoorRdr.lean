/- A chunk reader in memory. No condition. -/
import Derived.Test.YtklmpadcfioefaaGreatDoorCByte
import Derived.Test.YtklmpadcfioefaaGreatDoorMA
import Derived.Test.YtklmpadcfioefaaGreatDoorMB
import Derived.Test.YtklmpadcfioefaaGreatDoorParse
import Derived.IntWalk
import Derived.OpenShut
import Derived.Lib.SmallJoins
import Derived.Deep.DeepCutAuto
import Derived.Deep.RegionHeld3
namespace Go.Proofs.YtklmpadcfioefaaGreatDoor
open Go.RowKit

theorem token_any (c : UInt8) (w : World) : Calls Tryz.prog 168 #[.int .u8 (c.toNat : Int)] w fun e w' => e = .returned (.bool (isTok c)) ∧ Below w.heap.size w w' := by
  have hx : c.toNat < 256 := UInt8.toNat_lt c
  have hcv := conv_one (w.alloc (.cells #[.int .u8 (c.toNat : Int)] 5)) w.heap.size (c.toNat : Int) (by omega) (by omega) ((Var.new w 5 [.int .u8 (c.toNat : Int)]).cell (j := 0) rfl)
  have e : (⟨#[UInt8.ofNat (c.toNat : Int).toNat]⟩ : ByteArray) = ⟨#[c]⟩ := by simp
  rw [e] at hcv
  have HT : Hid (token (⟨#[c]⟩ : ByteArray).data.toList = isTok c) := Lib.hid (by simp [token])
  clear e
  go_enter Tryz.func168, Tryz.ntmps168
  go_wp2_with (go_at_call 47; (refine (hToken_any ⟨#[c]⟩ _ (show 1 ≤ 9223372036854775807 by omega)).mono ?_; rintro _ _ ⟨rfl, rfl⟩; rw [HT.out]))
  go_ret
  exact ⟨rfl, (Below.refl _ _).alloc (Nat.le_refl _) _⟩
theorem qtoken_any (c : UInt8) (w : World) : Calls Tryz.prog 137 #[.int .u8 (c.toNat : Int)] w fun e w' => e = .returned (.bool (isTok c)) ∧ Below w.heap.size w w' := by
  have hx : c.toNat < 256 := UInt8.toNat_lt c
  have hcv := conv_one (w.alloc (.cells #[.int .u8 (c.toNat : Int)] 5)) w.heap.size (c.toNat : Int) (by omega) (by omega) ((Var.new w 5 [.int .u8 (c.toNat : Int)]).cell (j := 0) rfl)
  have e : (⟨#[UInt8.ofNat (c.toNat : Int).toNat]⟩ : ByteArray) = ⟨#[c]⟩ := by simp
  rw [e] at hcv
  have HT : Hid (token (⟨#[c]⟩ : ByteArray).data.toList = isTok c) := Lib.hid (by simp [token])
  clear e
  go_enter Tryz.func137, Tryz.ntmps137
  go_wp2_with (go_at_call 99; (refine (rToken_any ⟨#[c]⟩ _ (show 1 ≤ 9223372036854775807 by omega)).mono ?_; rintro _ _ ⟨rfl, rfl⟩; rw [HT.out]))
  go_ret
  exact ⟨rfl, (Below.refl _ _).alloc (Nat.le_refl _) _⟩

/-- the cells of a reader -/
def rcs (s : Chunk.St) (vl vt : Value) : List Value := [.int .i64 s.at_, .int .i64 s.left, vl, .int .i64 s.long, .int .i64 s.digits, .int .i64 s.read, .int .i64 s.total, vt]
/-- the blocks of a reader -/
def foot (b : Nat) (vl vt : Value) (k : Nat) : Prop := k = b ∨ vl.ownBlock = some k ∨ vt.ownBlock = some k
/-- a reader's block and its two lists, on the way; S: the blocks that may be turned; w0: the world in which it began -/
structure Mid (S : Nat → Prop) (w0 w : World) (base b : Nat) (cs : List Value) (vl : Value) (L : Bs) (vt : Value) (tr : List (Bs × Bs)) : Prop where
  var : Var w b 111 cs
  line : Row w base 1 vl L.length (bytesV L)
  tr : Row w base 2 vt tr.length (fieldsV (flB tr))
  chg : Chg S w0 w
  mine : S b
  nl : vl.ownBlock ≠ some b
  nt : vt.ownBlock ≠ some b
  lt : ∀ k, vl.ownBlock = some k → vt.ownBlock ≠ some k
  le : base ≤ b
/-- a reader: its state is s, its lists are at vl, vt -/
def Rdr (w : World) (base b : Nat) (s : Chunk.St) (vl vt : Value) : Prop := Mid (foot b vl vt) w w base b (rcs s vl vt) vl s.line vt s.trailers

section
variable {S S' : Nat → Prop} {w0 w w' : World} {base b j : Nat} {cs : List Value} {vl vt vl' vt' u : Value} {L L' : Bs} {tr : List (Bs × Bs)} {s s' : Chunk.St}
theorem Mid.set (h : Mid S w0 w base b cs vl L vt tr) (j : Nat) (u : Value) : Mid S w0 (w.setCell ⟨b, j, none⟩ u) base b (cs.set j u) vl L vt tr :=
  ⟨h.var.set j u, h.line.setCell h.nl u, h.tr.setCell h.nt u, h.chg.setCell (fun _ => h.mine) u, h.mine, h.nl, h.nt, h.lt, h.le⟩
theorem Mid.drewN (h : Mid S w0 w base b cs vl L vt tr) (q : Nat) : Mid S w0 (w.drewN q) base b cs vl L vt tr :=
  ⟨h.var, h.line, h.tr, h.chg.drewN q, h.mine, h.nl, h.nt, h.lt, h.le⟩
theorem Mid.drew (h : Mid S w0 w base b cs vl L vt tr) : Mid S w0 w.drew base b cs vl L vt tr :=
  ⟨h.var, h.line, h.tr, h.chg.drew, h.mine, h.nl, h.nt, h.lt, h.le⟩
theorem Mid.alloc (h : Mid S w0 w base b cs vl L vt tr) (o : Obj) : Mid S w0 (w.alloc o) base b cs vl L vt tr :=
  ⟨h.var.alloc o, h.line.alloc o, h.tr.alloc o, h.chg.alloc o, h.mine, h.nl, h.nt, h.lt, h.le⟩
theorem Mid.below (h : Mid S w0 w base b cs vl L vt tr) (hb : Below w.heap.size w w') : Mid S w0 w' base b cs vl L vt tr :=
  ⟨h.var.below_all hb, h.line.below_all hb, h.tr.below_all hb, h.chg.then_below hb, h.mine, h.nl, h.nt, h.lt, h.le⟩
theorem Mid.size (h : Mid S w0 w base b cs vl L vt tr) : w0.heap.size ≤ w.heap.size := h.chg.size
theorem Mid.at_ (h : Mid S w0 w base b cs vl L vt tr) : Mid S w w base b cs vl L vt tr := ⟨h.var, h.line, h.tr, Chg.refl _ _, h.mine, h.nl, h.nt, h.lt, h.le⟩
theorem Rdr.mid (h : Rdr w base b s vl vt) : Mid (foot b vl vt) w w base b (rcs s vl vt) vl s.line vt s.trailers := h
/-- a line is put in another's place -/
theorem Mid.line_put (h : Mid S w0 w base b cs vl L vt tr) (h1 : Row w base 1 vl' L'.length (bytesV L')) (n1 : vl'.ownBlock ≠ some b) (n2 : ∀ k, vl'.ownBlock = some k → vt.ownBlock ≠ some k) : Mid S w0 w base b cs vl' L' vt tr :=
  ⟨h.var, h1, h.tr, h.chg, h.mine, n1, h.nt, n2, h.le⟩
theorem Mid.line_nil (h : Mid S w0 w base b cs vl L vt tr) : Mid S w0 w base b cs (.slice none 0 0) [] vt tr :=
  h.line_put (Row.nil _ _ _) (by simp [Value.ownBlock]) (fun k hk => by simp [Value.ownBlock] at hk)
end
/-- what a byte's function leaves -/
def StepPost (w : World) (base b : Nat) (vl vt : Value) (r : Chunk.St × Bool) (e : Ending) (w' : World) : Prop :=
  e = .returned (.bool r.2) ∧ ∃ vl' vt', Rdr w' base b r.1 vl' vt' ∧ Chg (foot b vl vt) w w' ∧ (∀ k, vl'.ownBlock = some k → vl.ownBlock = some k ∨ w.heap.size ≤ k) ∧ (∀ k, vt'.ownBlock = some k → vt.ownBlock = some k ∨ w.heap.size ≤ k)
theorem step_post {w w' : World} {base b : Nat} {cs : List Value} {vl vt vl' vt' : Value} {L : Bs} {tr : List (Bs × Bs)} {r : Chunk.St × Bool} {s' : Chunk.St} {ok : Bool} (h : Mid (foot b vl vt) w w' base b cs vl' L vt' tr) (hr : r = (s', ok)) (hc : cs = rcs s' vl' vt') (hL : L = s'.line) (ht : tr = s'.trailers)
    (k1 : ∀ k, vl'.ownBlock = some k → vl.ownBlock = some k ∨ w.heap.size ≤ k) (k2 : ∀ k, vt'.ownBlock = some k → vt.ownBlock = some k ∨ w.heap.size ≤ k) : StepPost w base b vl vt r (.returned (.bool ok)) w' := by
  subst hr hc hL ht
  exact ⟨rfl, vl', vt', ⟨h.var, h.line, h.tr, Chg.refl _ _, Or.inl rfl, h.nl, h.nt, h.lt, h.le⟩, h.chg, k1, k2⟩


theorem hex_neg {c : UInt8} (hd : ¬ 0 ≤ Chunk.hexI c) : Chunk.hexI c = -1 := by
  rw [hexI_eq] at hd ⊢
  unfold hexN at hd ⊢
  by_cases h1 : 48 ≤ c.toNat ∧ c.toNat ≤ 57
  · rw [if_pos h1] at hd; omega
  · rw [if_neg h1] at hd ⊢
    by_cases h2 : 97 ≤ c.toNat ∧ c.toNat ≤ 102
    · rw [if_pos h2] at hd; omega
    · rw [if_neg h2] at hd ⊢
      by_cases h3 : 65 ≤ c.toNat ∧ c.toNat ≤ 70
      · rw [if_pos h3] at hd; omega
      · rw [if_neg h3]

set_option maxHeartbeats 1000000 in
theorem sized_any {s : Chunk.St} {T : Nat} (c : UInt8) {w : World} {base b : Nat} {vl vt : Value} (h : Rdr w base b s vl vt) (hok : Chunk.Ok s T) (h0 : s.at_ = 0) :
    Calls Tryz.prog 155 #[.pointer (some ⟨b, 0, none⟩), .int .u8 (c.toNat : Int)] w (StepPost w base b vl vt (Chunk.sized s c)) := by
  have HM := Lib.hid h.mid
  have hx : c.toNat < 256 := UInt8.toNat_lt c
  have b1 : s.left ≤ 2147483647 := hok.left
  have b2 := hok.digits
  have b3 : s.long ≤ 4096 := hok.long
  have b4 := Chunk.hexI_le c
  obtain ⟨at_, left, line, long, digits, read, total, trailers⟩ := s
  simp only at b1 b2 b3 h0
  subst h0
  have c0 := HM.out.var.cell (j := 0) rfl
  have c1 := HM.out.var.cell (j := 1) rfl
  have c2 := HM.out.var.cell (j := 2) rfl
  have c3 := HM.out.var.cell (j := 3) rfl
  have c4 := HM.out.var.cell (j := 4) rfl
  have c5 := HM.out.var.cell (j := 5) rfl
  have c6 := HM.out.var.cell (j := 6) rfl
  have c7 := HM.out.var.cell (j := 7) rfl
  have q0 := HM.out.var.frozen 0
  have q1 := HM.out.var.frozen 1
  have q2 := HM.out.var.frozen 2
  have q3 := HM.out.var.frozen 3
  have q4 := HM.out.var.frozen 4
  have q5 := HM.out.var.frozen 5
  have q6 := HM.out.var.frozen 6
  have q7 := HM.out.var.frozen 7
  by_cases hd : 0 ≤ Chunk.hexI c
  · obtain ⟨d, hd2⟩ : ∃ d : Nat, Chunk.hexI c = d := ⟨(Chunk.hexI c).toNat, by omega⟩
    have b5 : d ≤ 15 := by omega
    have HX : Hid (∀ W : World, Calls Tryz.prog 167 #[.int .u8 (c.toNat : Int)] W fun e w' => e = .returned (.int .i64 (d : Int)) ∧ W = w') := Lib.hid (fun W => by have := hex_any c W; rw [hd2] at this; exact this)
    by_cases h1 : digits < 8 ∧ left * 16 + d ≤ 2147483647
    · have HR : Hid (Chunk.sized ⟨0, left, line, long, digits, read, total, trailers⟩ c = (⟨0, left * 16 + d, line, long + 1, digits + 1, read, total, trailers⟩, true)) := Lib.hid (by
        simp only [Chunk.sized, hd2, Int.toNat_natCast]
        rw [if_pos ⟨by omega, h1.1, h1.2⟩])
      obtain ⟨e1, e2⟩ := h1
      clear hd hd2 b4
      go_enter Tryz.func155, Tryz.ntmps155
      go_wp2_with (go_at_call 167; (refine (HX.out _).mono ?_; rintro _ _ ⟨rfl, rfl⟩))
      go_ret
      exact step_post (((HM.out.set 1 _).set 4 _).set 3 _) HR.out (by simp [rcs]) rfl rfl (fun k hk => Or.inl hk) (fun k hk => Or.inl hk)
    · have HR : Hid (Chunk.sized ⟨0, left, line, long, digits, read, total, trailers⟩ c = (⟨0, left, line, long, digits, read, total, trailers⟩, false)) := Lib.hid (by
        simp only [Chunk.sized, hd2, Int.toNat_natCast]
        rw [if_neg (fun x => h1 ⟨x.2.1, x.2.2⟩), if_pos (Or.inl (by omega))])
      clear hd hd2 b4
      by_cases e1 : digits < 8
      · have e2 : ¬ left * 16 + d ≤ 2147483647 := fun x => h1 ⟨e1, x⟩
        clear h1
        go_enter Tryz.func155, Tryz.ntmps155
        go_wp2_with (go_at_call 167; (refine (HX.out _).mono ?_; rintro _ _ ⟨rfl, rfl⟩))
        go_ret
        exact step_post HM.out HR.out rfl rfl rfl (fun k hk => Or.inl hk) (fun k hk => Or.inl hk)
      · clear h1
        go_enter Tryz.func155, Tryz.ntmps155
        go_wp2_with (go_at_call 167; (refine (HX.out _).mono ?_; rintro _ _ ⟨rfl, rfl⟩))
        go_ret
        exact step_post HM.out HR.out rfl rfl rfl (fun k hk => Or.inl hk) (fun k hk => Or.inl hk)
  · have hm : Chunk.hexI c = -1 := hex_neg hd
    have HX : Hid (∀ W : World, Calls Tryz.prog 167 #[.int .u8 (c.toNat : Int)] W fun e w' => e = .returned (.int .i64 (-1)) ∧ W = w') := Lib.hid (fun W => by have := hex_any c W; rw [hm] at this; exact this)
    by_cases h1 : digits = 0
    · subst h1
      have HR : Hid (Chunk.sized ⟨0, left, line, long, 0, read, total, trailers⟩ c = (⟨0, left, line, long, 0, read, total, trailers⟩, false)) := Lib.hid (by
        simp [Chunk.sized, hm])
      clear hd hm b4
      go_enter Tryz.func155, Tryz.ntmps155
      go_wp2_with (go_at_call 167; (refine (HX.out _).mono ?_; rintro _ _ ⟨rfl, rfl⟩))
      go_ret
      exact step_post HM.out HR.out rfl rfl rfl (fun k hk => Or.inl hk) (fun k hk => Or.inl hk)
    · by_cases h2 : c = 59
      · subst h2
        have HR : Hid (Chunk.sized ⟨0, left, line, long, digits, read, total, trailers⟩ 59 = (⟨1, left, line, long + 1, digits, read, total, trailers⟩, true)) := Lib.hid (by
          simp [Chunk.sized, hm, h1])
        clear hd hm b4
        have HX2 : Hid (∀ W : World, Calls Tryz.prog 167 #[.int .u8 59] W fun e w' => e = .returned (.int .i64 (-1)) ∧ W = w') := Lib.hid HX.out
        go_enter Tryz.func155, Tryz.ntmps155
        go_wp2_with (go_at_call 167; (refine (HX2.out _).mono ?_; rintro _ _ ⟨rfl, rfl⟩))
        go_ret
        exact step_post ((HM.out.set 0 _).set 3 _) HR.out (by simp [rcs]) rfl rfl (fun k hk => Or.inl hk) (fun k hk => Or.inl hk)
      · have h2n : ¬ c.toNat = 59 := fun e => h2 (UInt8.toNat_inj.mp (by rw [e]; rfl))
        have HR : Hid (Chunk.sized ⟨0, left, line, long, digits, read, total, trailers⟩ c = (⟨2, left, line, long, digits, read, total, trailers⟩, c == 13)) := Lib.hid (by
          simp only [Chunk.sized]
          rw [if_neg (fun x => hd x.1), if_neg (by rintro (x | x); exact hd x; exact h1 x), if_neg h2])
        have HB : Hid (((c.toNat : Int) == 13) = (c == 13)) := Lib.hid (by
          rw [Bool.eq_iff_iff]; simp only [beq_iff_eq]
          exact ⟨fun e => UInt8.toNat_inj.mp (by have e2 : c.toNat = 13 := by omega
                                                 rw [e2]; rfl), fun e => by rw [e]; rfl⟩)
        clear hd hm b4 h2
        go_enter Tryz.func155, Tryz.ntmps155
        go_wp2_with (go_at_call 167; (refine (HX.out _).mono ?_; rintro _ _ ⟨rfl, rfl⟩))
        go_ret
        rw [HB.out]
        exact step_post (HM.out.set 0 _) HR.out (by simp [rcs]) rfl rfl (fun k hk => Or.inl hk) (fun k hk => Or.inl hk)
end Go.Proofs.YtklmpadcfioefaaGreatDoor
