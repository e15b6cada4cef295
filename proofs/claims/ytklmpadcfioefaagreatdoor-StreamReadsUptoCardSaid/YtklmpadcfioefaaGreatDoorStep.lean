/- chunk's step: a byte that is none of a chunk's. Condition: the world's shape. -/
import Derived.Test.YtklmpadcfioefaaGreatDoorEnded
namespace Go.Proofs.YtklmpadcfioefaaGreatDoor
open Go.RowKit

/-- the world has grown out of a shaped one, whose blocks lie below base -/
def Shp (base : Nat) (w : World) : Prop := ∃ w0 : World, w0.ShapedOpen Tryz.prog ∧ w0.heap.size ≤ base ∧ Below w0.heap.size w0 w
theorem Shp.shaped {base : Nat} {w : World} (h : Shp base w) : w.ShapedOpen Tryz.prog := by
  obtain ⟨w0, h1, _, h2⟩ := h
  exact shaped_below h1 h2
theorem Shp.chg {base : Nat} {S : Nat → Prop} {w w' : World} (h : Shp base w) (hc : Chg S w w') (hS : ∀ k, S k → base ≤ k) : Shp base w' := by
  obtain ⟨w0, h1, h2, h3⟩ := h
  exact ⟨w0, h1, h2, Below.chg h3 hc h3.size (fun k hk => by have := hS k hk; omega)⟩
theorem Shp.below {base : Nat} {w w' : World} (h : Shp base w) (hb : Below w.heap.size w w') : Shp base w' := by
  obtain ⟨w0, h1, h2, h3⟩ := h
  exact ⟨w0, h1, h2, h3.trans (hb.mono h3.size)⟩
theorem Shp.of {w : World} (h : w.ShapedOpen Tryz.prog) : Shp w.heap.size w := ⟨w, h, Nat.le_refl _, Below.refl _ _⟩
theorem Mid.foot_ge {S : Nat → Prop} {w0 w : World} {base b : Nat} {cs : List Value} {vl vt : Value} {L : Bs} {tr : List (Bs × Bs)} (h : Mid S w0 w base b cs vl L vt tr) : ∀ k, foot b vl vt k → base ≤ k := by
  intro k hk
  rcases hk with x | x | x
  · rw [x]; exact h.le
  · exact (h.line.lt k x).1
  · exact (h.tr.lt k x).1

set_option maxHeartbeats 4000000 in
set_option maxRecDepth 100000 in
theorem step_any {s : Chunk.St} {T : Nat} (c : UInt8) {w : World} {base b : Nat} {vl vt : Value} (hsh : Shp base w) (h : Rdr w base b s vl vt) (hok : Chunk.Ok s T) (h3 : s.at_ ≠ 3) (h11 : s.at_ ≠ 11) :
    Calls Tryz.prog 132 #[.pointer (some ⟨b, 0, none⟩), .int .u8 (c.toNat : Int)] w (StepPost w base b vl vt (Chunk.step s c)) := by
  have HM := Lib.hid h.mid
  have HS := Lib.hid hsh
  have hx : c.toNat < 256 := UInt8.toNat_lt c
  have hb13 : ((c.toNat : Int) == 13) = (c == 13) := by
    rw [Bool.eq_iff_iff]; simp only [beq_iff_eq]
    exact ⟨fun e => (u8_eq (n := 13) (by omega)).1 (by omega), fun e => by rw [e]; rfl⟩
  have hb10 : ((c.toNat : Int) == 10) = (c == 10) := by
    rw [Bool.eq_iff_iff]; simp only [beq_iff_eq]
    exact ⟨fun e => (u8_eq (n := 10) (by omega)).1 (by omega), fun e => by rw [e]; rfl⟩
  have HB13 := Lib.hid hb13
  have HB10 := Lib.hid hb10
  clear hb13 hb10
  have a12 := hok.at_
  have b1 : s.read ≤ 16384 := hok.read
  have b2 : s.line.length ≤ 4096 := hok.line
  have b3 : s.long ≤ 4096 := hok.long
  have b4 := hok.name
  have HOK := Lib.hid hok
  have HRD := Lib.hid h
  have hbs := HM.out.le
  have hlt := HM.out.var.lt
  clear h hok hsh
  obtain ⟨⟨s1, ok⟩, hz⟩ : ∃ z, z = Chunk.step s c := ⟨_, rfl⟩
  have HZ : Hid (Chunk.step s c = (s1, ok)) := Lib.hid hz.symm
  by_cases e0 : s.at_ = 0
  · have HC : Hid (Calls Tryz.prog 155 #[.pointer (some ⟨b, 0, none⟩), .int .u8 (c.toNat : Int)] w (StepPost w base b vl vt (s1, ok))) := Lib.hid (by
      have hq := sized_any c HRD.out HOK.out e0
      rw [← HZ.out, Chunk.step, if_pos e0]; exact hq)
    obtain ⟨at_, left, line, long, digits, read, total, trailers⟩ := s
    simp only at e0
    subst e0
    have c0 := HM.out.var.cell (j := 0) rfl
    clear hz
    go_enter Tryz.func132, Tryz.ntmps132
    go_wp2
    refine wp_scope_to 0 rfl ?_
    intro J hJ
    go_wp2_with (first
      | (go_at_call 155; go_must (refine HC.out.mono ?_; rintro _ w1 ⟨rfl, vl1, vt1, hr1, hc1, k1, k2⟩))
      | fail)
    (try simp only [jump_ret])
    go_ret
    rw [HZ.out]
    exact ⟨rfl, vl1, vt1, hr1, hc1, k1, k2⟩
  · by_cases e6 : s.at_ = 6 ∨ s.at_ = 7 ∨ s.at_ = 8
    · have HC : Hid (Calls Tryz.prog 156 #[.pointer (some ⟨b, 0, none⟩), .int .u8 (c.toNat : Int)] w (StepPost w base b vl vt (s1, ok))) := Lib.hid (by
        have hq := lined_any c HRD.out HOK.out e6
        rw [← HZ.out, Chunk.step, if_neg e0, if_neg (by omega), if_pos e6]; exact hq)
      obtain ⟨at_, left, line, long, digits, read, total, trailers⟩ := s
      simp only at e6 e0
      have c0 := HM.out.var.cell (j := 0) rfl
      clear hz
      rcases e6 with rfl | rfl | rfl
      all_goals
        go_enter Tryz.func132, Tryz.ntmps132
        go_wp2
        refine wp_scope_to 0 rfl ?_
        intro J hJ
        go_wp2_with (first
          | (go_at_call 156; go_must (refine HC.out.mono ?_; rintro _ w1 ⟨rfl, vl1, vt1, hr1, hc1, k1, k2⟩))
          | fail)
        (try simp only [jump_ret])
        go_ret
        rw [HZ.out]
        exact ⟨rfl, vl1, vt1, hr1, hc1, k1, k2⟩
    · clear hz HZ
      clear s1 ok
      by_cases e1 : s.at_ = 1
      · obtain ⟨at_, left, line, long, digits, read, total, trailers⟩ := s
        simp only at e1 b3
        subst e1
        have c0 := HM.out.var.cell (j := 0) rfl
        have c1 := HM.out.var.cell (j := 1) rfl
        have c2 := HM.out.var.cell (j := 2) rfl
        have c3 := HM.out.var.cell (j := 3) rfl
        have c4 := HM.out.var.cell (j := 4) rfl
        have c5 := HM.out.var.cell (j := 5) rfl
        have c6 := HM.out.var.cell (j := 6) rfl
        have c7 := HM.out.var.cell (j := 7) rfl
        have q0 := HM.out.var.frozen 0
        have q1 := HM.out.var.frozen 1
        have q2 := HM.out.var.frozen 2
        have q3 := HM.out.var.frozen 3
        have q4 := HM.out.var.frozen 4
        have q5 := HM.out.var.frozen 5
        have q6 := HM.out.var.frozen 6
        have q7 := HM.out.var.frozen 7
        by_cases e13 : c = 13
        · subst e13
          have HR : Hid (Chunk.step ⟨1, left, line, long, digits, read, total, trailers⟩ 13 = (⟨2, left, line, long, digits, read, total, trailers⟩, true)) := Lib.hid (by simp [Chunk.step])
          go_enter Tryz.func132, Tryz.ntmps132
          go_wp2
          refine wp_scope_to 0 rfl ?_
          intro J hJ
          go_wp2_with (first
            | (go_step3; (try simp only [Exit.then, Exit.inBlock, jump_goto]); refine hJ _ _ ?_)
            | fail)
          (try simp only [jump_ret])
          go_ret
          exact step_post (HM.out.set 0 _) HR.out (by simp [rcs]) rfl rfl (fun k hk => Or.inl hk) (fun k hk => Or.inl hk)
        · have e13n : ¬ c.toNat = 13 := fun e => e13 ((u8_eq (n := 13) (by omega)).1 e)
          have e13b : ((c.toNat : Int) == 13) = false := by simp; omega
          have HR : Hid (Chunk.step ⟨1, left, line, long, digits, read, total, trailers⟩ c = (⟨1, left, line, long + 1, digits, read, total, trailers⟩, Chunk.plain c && decide (long + 1 ≤ 4096))) := Lib.hid (by simp [Chunk.step, e13])
          clear e13
          by_cases hp : Chunk.plain c = true
          · have HP := Lib.hid hp
            by_cases hl : long + 1 ≤ 4096
            · have HR2 : Hid (Chunk.step ⟨1, left, line, long, digits, read, total, trailers⟩ c = (⟨1, left, line, long + 1, digits, read, total, trailers⟩, true)) := Lib.hid (by rw [HR.out, HP.out]; simp [hl])
              have hli : decide ((long : Int) + 1 ≤ 4096) = true := by simp; omega
              clear hp HR
              go_enter Tryz.func132, Tryz.ntmps132
              go_wp2
              refine wp_scope_to 0 rfl ?_
              intro J hJ
              go_wp2_with (first
                | (go_step3; (try simp only [Exit.then, Exit.inBlock, jump_goto]); refine hJ _ _ ?_)
                | (go_at_call 158; go_must (refine (plain_any c _).mono ?_; rintro _ _ ⟨rfl, rfl⟩; rw [HP.out]))
                | fail)
              (try simp only [jump_ret])
              go_ret
              exact step_post (HM.out.set 3 _) HR2.out (by simp [rcs]) rfl rfl (fun k hk => Or.inl hk) (fun k hk => Or.inl hk)
            · have HR2 : Hid (Chunk.step ⟨1, left, line, long, digits, read, total, trailers⟩ c = (⟨1, left, line, long + 1, digits, read, total, trailers⟩, false)) := Lib.hid (by rw [HR.out, HP.out]; simp [hl])
              have hli : decide ((long : Int) + 1 ≤ 4096) = false := by simp; omega
              clear hp HR
              go_enter Tryz.func132, Tryz.ntmps132
              go_wp2
              refine wp_scope_to 0 rfl ?_
              intro J hJ
              go_wp2_with (first
                | (go_step3; (try simp only [Exit.then, Exit.inBlock, jump_goto]); refine hJ _ _ ?_)
                | (go_at_call 158; go_must (refine (plain_any c _).mono ?_; rintro _ _ ⟨rfl, rfl⟩; rw [HP.out]))
                | fail)
              (try simp only [jump_ret])
              go_ret
              exact step_post (HM.out.set 3 _) HR2.out (by simp [rcs]) rfl rfl (fun k hk => Or.inl hk) (fun k hk => Or.inl hk)
          · have hp' : Chunk.plain c = false := by simpa using hp
            have HP := Lib.hid hp'
            have HR2 : Hid (Chunk.step ⟨1, left, line, long, digits, read, total, trailers⟩ c = (⟨1, left, line, long + 1, digits, read, total, trailers⟩, false)) := Lib.hid (by rw [HR.out, HP.out]; simp)
            clear hp hp' HR
            go_enter Tryz.func132, Tryz.ntmps132
            go_wp2
            refine wp_scope_to 0 rfl ?_
            intro J hJ
            go_wp2_with (first
              | (go_step3; (try simp only [Exit.then, Exit.inBlock, jump_goto]); refine hJ _ _ ?_)
              | (go_at_call 158; go_must (refine (plain_any c _).mono ?_; rintro _ _ ⟨rfl, rfl⟩; rw [HP.out]))
              | fail)
            (try simp only [jump_ret])
            go_ret
            exact step_post (HM.out.set 3 _) HR2.out (by simp [rcs]) rfl rfl (fun k hk => Or.inl hk) (fun k hk => Or.inl hk)
      · by_cases e4 : s.at_ = 4
        · obtain ⟨at_, left, line, long, digits, read, total, trailers⟩ := s
          simp only at e4
          subst e4
          have c0 := HM.out.var.cell (j := 0) rfl
          have c1 := HM.out.var.cell (j := 1) rfl
          have c2 := HM.out.var.cell (j := 2) rfl
          have c3 := HM.out.var.cell (j := 3) rfl
          have c4 := HM.out.var.cell (j := 4) rfl
          have c5 := HM.out.var.cell (j := 5) rfl
          have c6 := HM.out.var.cell (j := 6) rfl
          have c7 := HM.out.var.cell (j := 7) rfl
          have q0 := HM.out.var.frozen 0
          have q1 := HM.out.var.frozen 1
          have q2 := HM.out.var.frozen 2
          have q3 := HM.out.var.frozen 3
          have q4 := HM.out.var.frozen 4
          have q5 := HM.out.var.frozen 5
          have q6 := HM.out.var.frozen 6
          have q7 := HM.out.var.frozen 7
          have HR : Hid (Chunk.step ⟨4, left, line, long, digits, read, total, trailers⟩ c = (⟨5, left, line, long, digits, read, total, trailers⟩, c == 13)) := Lib.hid (by simp [Chunk.step])
          go_enter Tryz.func132, Tryz.ntmps132
          go_wp2
          refine wp_scope_to 0 rfl ?_
          intro J hJ
          go_wp2
          (try simp only [jump_ret])
          go_ret
          rw [HB13.out]
          exact step_post (HM.out.set 0 _) HR.out (by simp [rcs]) rfl rfl (fun k hk => Or.inl hk) (fun k hk => Or.inl hk)
        · by_cases e2 : s.at_ = 2
          · obtain ⟨at_, left, line, long, digits, read, total, trailers⟩ := s
            simp only at e2
            subst e2
            have c0 := HM.out.var.cell (j := 0) rfl
            have c1 := HM.out.var.cell (j := 1) rfl
            have c2 := HM.out.var.cell (j := 2) rfl
            have c3 := HM.out.var.cell (j := 3) rfl
            have c4 := HM.out.var.cell (j := 4) rfl
            have c5 := HM.out.var.cell (j := 5) rfl
            have c6 := HM.out.var.cell (j := 6) rfl
            have c7 := HM.out.var.cell (j := 7) rfl
            have q0 := HM.out.var.frozen 0
            have q1 := HM.out.var.frozen 1
            have q2 := HM.out.var.frozen 2
            have q3 := HM.out.var.frozen 3
            have q4 := HM.out.var.frozen 4
            have q5 := HM.out.var.frozen 5
            have q6 := HM.out.var.frozen 6
            have q7 := HM.out.var.frozen 7
            by_cases hl : left = 0
            · subst hl
              have HR : Hid (Chunk.step ⟨2, 0, line, long, digits, read, total, trailers⟩ c = (⟨6, 0, line, 0, 0, read, total, trailers⟩, c == 10)) := Lib.hid (by simp [Chunk.step])
              go_enter Tryz.func132, Tryz.ntmps132
              go_wp2
              refine wp_scope_to 0 rfl ?_
              intro J hJ
              go_wp2
              (try simp only [jump_ret])
              go_ret
              rw [HB10.out]
              exact step_post ((((HM.out.set 0 _).set 4 _).set 3 _).set 0 _) HR.out (by simp [rcs]) rfl rfl (fun k hk => Or.inl hk) (fun k hk => Or.inl hk)
            · have hl0 : 0 < left := by omega
              have hlb : ((left : Int) == 0) = false := by simp; omega
              have HR : Hid (Chunk.step ⟨2, left, line, long, digits, read, total, trailers⟩ c = (⟨3, left, line, 0, 0, read, total, trailers⟩, c == 10)) := Lib.hid (by simp [Chunk.step, hl])
              clear hl
              go_enter Tryz.func132, Tryz.ntmps132
              go_wp2
              refine wp_scope_to 0 rfl ?_
              intro J hJ
              go_wp2
              (try simp only [jump_ret])
              go_ret
              rw [HB10.out]
              exact step_post (((HM.out.set 0 _).set 4 _).set 3 _) HR.out (by simp [rcs]) rfl rfl (fun k hk => Or.inl hk) (fun k hk => Or.inl hk)
          · by_cases e5 : s.at_ = 5
            · obtain ⟨at_, left, line, long, digits, read, total, trailers⟩ := s
              simp only at e5
              subst e5
              have c0 := HM.out.var.cell (j := 0) rfl
              have c1 := HM.out.var.cell (j := 1) rfl
              have c2 := HM.out.var.cell (j := 2) rfl
              have c3 := HM.out.var.cell (j := 3) rfl
              have c4 := HM.out.var.cell (j := 4) rfl
              have c5 := HM.out.var.cell (j := 5) rfl
              have c6 := HM.out.var.cell (j := 6) rfl
              have c7 := HM.out.var.cell (j := 7) rfl
              have q0 := HM.out.var.frozen 0
              have q1 := HM.out.var.frozen 1
              have q2 := HM.out.var.frozen 2
              have q3 := HM.out.var.frozen 3
              have q4 := HM.out.var.frozen 4
              have q5 := HM.out.var.frozen 5
              have q6 := HM.out.var.frozen 6
              have q7 := HM.out.var.frozen 7
              have HR : Hid (Chunk.step ⟨5, left, line, long, digits, read, total, trailers⟩ c = (⟨0, left, line, long, digits, read, total, trailers⟩, c == 10)) := Lib.hid (by simp [Chunk.step])
              go_enter Tryz.func132, Tryz.ntmps132
              go_wp2
              refine wp_scope_to 0 rfl ?_
              intro J hJ
              go_wp2
              (try simp only [jump_ret])
              go_ret
              rw [HB10.out]
              exact step_post (HM.out.set 0 _) HR.out (by simp [rcs]) rfl rfl (fun k hk => Or.inl hk) (fun k hk => Or.inl hk)
            · by_cases e10 : s.at_ = 10
              · obtain ⟨at_, left, line, long, digits, read, total, trailers⟩ := s
                simp only at e10
                subst e10
                have c0 := HM.out.var.cell (j := 0) rfl
                have c1 := HM.out.var.cell (j := 1) rfl
                have c2 := HM.out.var.cell (j := 2) rfl
                have c3 := HM.out.var.cell (j := 3) rfl
                have c4 := HM.out.var.cell (j := 4) rfl
                have c5 := HM.out.var.cell (j := 5) rfl
                have c6 := HM.out.var.cell (j := 6) rfl
                have c7 := HM.out.var.cell (j := 7) rfl
                have q0 := HM.out.var.frozen 0
                have q1 := HM.out.var.frozen 1
                have q2 := HM.out.var.frozen 2
                have q3 := HM.out.var.frozen 3
                have q4 := HM.out.var.frozen 4
                have q5 := HM.out.var.frozen 5
                have q6 := HM.out.var.frozen 6
                have q7 := HM.out.var.frozen 7
                have HR : Hid (Chunk.step ⟨10, left, line, long, digits, read, total, trailers⟩ c = (⟨11, left, line, long, digits, read, total, trailers⟩, c == 10)) := Lib.hid (by simp [Chunk.step])
                go_enter Tryz.func132, Tryz.ntmps132
                go_wp2
                refine wp_scope_to 0 rfl ?_
                intro J hJ
                go_wp2
                (try simp only [jump_ret])
                go_ret
                rw [HB10.out]
                exact step_post (HM.out.set 0 _) HR.out (by simp [rcs]) rfl rfl (fun k hk => Or.inl hk) (fun k hk => Or.inl hk)
              · have e9 : s.at_ = 9 := by omega
                have hb4 := b4 (by omega)
                obtain ⟨at_, left, line, long, digits, read, total, trailers⟩ := s
                simp only at e9 b1 b2 hb4
                subst e9
                have c0 := HM.out.var.cell (j := 0) rfl
                have c1 := HM.out.var.cell (j := 1) rfl
                have c2 := HM.out.var.cell (j := 2) rfl
                have c3 := HM.out.var.cell (j := 3) rfl
                have c4 := HM.out.var.cell (j := 4) rfl
                have c5 := HM.out.var.cell (j := 5) rfl
                have c6 := HM.out.var.cell (j := 6) rfl
                have c7 := HM.out.var.cell (j := 7) rfl
                have q0 := HM.out.var.frozen 0
                have q1 := HM.out.var.frozen 1
                have q2 := HM.out.var.frozen 2
                have q3 := HM.out.var.frozen 3
                have q4 := HM.out.var.frozen 4
                have q5 := HM.out.var.frozen 5
                have q6 := HM.out.var.frozen 6
                have q7 := HM.out.var.frozen 7
                by_cases hr : read = 16384
                · subst hr
                  have HR : Hid (Chunk.step ⟨9, left, line, long, digits, 16384, total, trailers⟩ c = (⟨6, left, line, long, digits, 16384, total, trailers⟩, false)) := Lib.hid (by simp [Chunk.step])
                  go_enter Tryz.func132, Tryz.ntmps132
                  go_wp2
                  refine wp_scope_to 0 rfl ?_
                  intro J hJ
                  go_wp2
                  (try simp only [jump_ret])
                  go_ret
                  exact step_post (HM.out.set 0 _) HR.out (by simp [rcs]) rfl rfl (fun k hk => Or.inl hk) (fun k hk => Or.inl hk)
                · have hrb : ((read : Int) == 16384) = false := by simp; omega
                  have HM1 := Lib.hid ((HM.out.set 0 (.int .i64 6)).set 5 (.int .i64 ((read : Int) + 1)))
                  have HRD1 : Hid (Rdr ((w.setCell ⟨b, 0, none⟩ (.int .i64 6)).setCell ⟨b, 5, none⟩ (.int .i64 ((read : Int) + 1))) base b ⟨6, left, line, long, digits, read + 1, total, trailers⟩ vl vt) := Lib.hid (by
                    have := HM1.out.at_
                    exact this)
                  have HSH : Hid (((w.setCell ⟨b, 0, none⟩ (.int .i64 6)).setCell ⟨b, 5, none⟩ (.int .i64 ((read : Int) + 1))).ShapedOpen Tryz.prog) := Lib.hid (HS.out.chg HM1.out.chg HM1.out.foot_ge).shaped
                  have HC := Lib.hid (ended_any HSH.out HRD1.out b2 hb4)
                  have HR : Hid (Chunk.step ⟨9, left, line, long, digits, read, total, trailers⟩ c = (Chunk.ended ⟨6, left, line, long, digits, read + 1, total, trailers⟩, c == 10)) := Lib.hid (by simp [Chunk.step, hr])
                  generalize Chunk.ended ⟨6, left, line, long, digits, read + 1, total, trailers⟩ = s9 at HC HR
                  clear hr
                  go_enter Tryz.func132, Tryz.ntmps132
                  go_wp2
                  refine wp_scope_to 0 rfl ?_
                  intro J hJ
                  go_wp2_with (first
                    | (go_at_call 157; go_must (refine HC.out.mono ?_; rintro _ w1 ⟨rfl, vl1, vt1, hr1, hc1, k1, k2⟩))
                    | fail)
                  (try simp only [jump_ret])
                  go_ret
                  rw [HB10.out, HR.out]
                  refine ⟨rfl, vl1, vt1, hr1, HM1.out.chg.trans hc1 (fun _ _ x => x), ?_, ?_⟩
                  · intro k hk; rcases k1 k hk with x | x; exact Or.inl x; right; simpa using x
                  · intro k hk; rcases k2 k hk with x | x; exact Or.inl x; right; simpa using x
end Go.Proofs.YtklmpadcfioefaaGreatDoor
