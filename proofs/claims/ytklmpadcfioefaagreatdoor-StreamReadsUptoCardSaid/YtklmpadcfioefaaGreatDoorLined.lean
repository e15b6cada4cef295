/- chunk's lined: a byte of a field line. No condition. -/
import Derived.Test.YtklmpadcfioefaaGreatDoorRdr
import Derived.Test.YtklmpadcfioefaaGreatDoorMB
namespace Go.Proofs.YtklmpadcfioefaaGreatDoor
open Go.RowKit

section
variable {S : Nat → Prop} {w0 w w' : World} {base b : Nat} {cs : List Value} {vl vt vl' vt' : Value} {L L' : Bs} {tr tr' : List (Bs × Bs)}
theorem SrcB.built_at (w : World) (M : Bs) (us : List Value) (hu : us = bytesV M) (k : Nat) (hk : w.heap.size = k) : SrcB (w.alloc (.cells us.toArray 5)) 26 (.slice (some ⟨k, 0, none⟩) M.length M.length) M := by
  subst hk
  exact SrcB.built M us hu
/-- the line has grown -/
theorem Mid.line_grow (h : Mid S w0 w base b cs vl L vt tr) (hg : w.grownBy w' vl.ownBlock) (hr : Row w' base 1 vl' L'.length (bytesV L')) (hv : vl'.ownBlock = vl.ownBlock ∨ vl'.ownBlock = some w.heap.size) (hS : ∀ k, vl.ownBlock = some k → S k ∨ w0.heap.size ≤ k) : Mid S w0 w' base b cs vl' L' vt tr := by
  have hb := h.var.lt
  refine ⟨h.var.grown hg h.nl, hr, h.tr.kept hg ?_, h.chg.grown hg (fun k hk e => by rcases hS k e with x | x; exact x; omega), h.mine, ?_, h.nt, ?_, h.le⟩
  · cases hvt : vt.ownBlock with
    | none => exact Or.inl rfl
    | some k => exact Or.inr (fun e => h.lt k e.symm hvt)
  · rcases hv with e | e
    · rw [e]; exact h.nl
    · rw [e]; intro x; injection x with x; omega
  · intro k hk e
    rcases hv with x | x
    · exact h.lt k (by rw [← x]; exact hk) e
    · rw [x] at hk; injection hk with hk; have := (h.tr.lt k e).2; omega
/-- the trailers have grown -/
theorem Mid.tr_grow (h : Mid S w0 w base b cs vl L vt tr) (hg : w.grownBy w' vt.ownBlock) (hr : Row w' base 2 vt' tr'.length (fieldsV (flB tr'))) (hv : vt'.ownBlock = vt.ownBlock ∨ vt'.ownBlock = some w.heap.size) (hS : ∀ k, vt.ownBlock = some k → S k ∨ w0.heap.size ≤ k) : Mid S w0 w' base b cs vl L vt' tr' := by
  have hb := h.var.lt
  refine ⟨h.var.grown hg h.nt, h.line.kept hg ?_, hr, h.chg.grown hg (fun k hk e => by rcases hS k e with x | x; exact x; omega), h.mine, h.nl, ?_, ?_, h.le⟩
  · cases hvt : vl.ownBlock with
    | none => exact Or.inl rfl
    | some k => exact Or.inr (fun e => h.lt k hvt e.symm)
  · rcases hv with e | e
    · rw [e]; exact h.nt
    · rw [e]; intro x; injection x with x; omega
  · intro k hk e
    rcases hv with x | x
    · exact h.lt k hk (by rw [← x]; exact e)
    · rw [x] at e; injection e with e; have := (h.line.lt k hk).2; omega
end
theorem own_new {vl vl1 vl2 : Value} {n m : Nat} (h : ∀ k, vl1.ownBlock = some k → vl.ownBlock = some k ∨ n ≤ k) (hv : vl2.ownBlock = vl1.ownBlock ∨ vl2.ownBlock = some m) (hm : n ≤ m) (k : Nat) (hk : vl2.ownBlock = some k) : vl.ownBlock = some k ∨ n ≤ k := by
  rcases hv with e | e
  · exact h k (e ▸ hk)
  · rw [e] at hk; injection hk with hk; omega
theorem u8_eq {c : UInt8} {n : Nat} (h : n < 256) : (c.toNat = n) ↔ c = UInt8.ofNat n := by
  constructor
  · intro e; rw [← e]; simp
  · intro e; rw [e, UInt8.toNat_ofNat', Nat.mod_eq_of_lt h]


set_option maxHeartbeats 4000000 in
set_option maxRecDepth 100000 in
theorem lined_any {s : Chunk.St} {T : Nat} (c : UInt8) {w : World} {base b : Nat} {vl vt : Value} (h : Rdr w base b s vl vt) (hok : Chunk.Ok s T) (h0 : s.at_ = 6 ∨ s.at_ = 7 ∨ s.at_ = 8) :
    Calls Tryz.prog 156 #[.pointer (some ⟨b, 0, none⟩), .int .u8 (c.toNat : Int)] w (StepPost w base b vl vt (Chunk.lined s c)) := by
  have HM := Lib.hid h.mid
  have hx : c.toNat < 256 := UInt8.toNat_lt c
  have b1 : s.read ≤ 16384 := hok.read
  have b2 : s.line.length ≤ 4096 := hok.line
  have b3 : s.trailers.length ≤ 64 := hok.trailers
  have hbs := HM.out.le
  have hlt := HM.out.var.lt
  clear h hok
  obtain ⟨Av, cv, hvt, _, _, _, _⟩ := HM.out.tr.form
  obtain ⟨at_, left, line, long, digits, read, total, trailers⟩ := s
  simp only at b1 b2 b3 h0 hvt
  subst hvt
  have c0 := HM.out.var.cell (j := 0) rfl
  have c1 := HM.out.var.cell (j := 1) rfl
  have c2 := HM.out.var.cell (j := 2) rfl
  have c3 := HM.out.var.cell (j := 3) rfl
  have c4 := HM.out.var.cell (j := 4) rfl
  have c5 := HM.out.var.cell (j := 5) rfl
  have c6 := HM.out.var.cell (j := 6) rfl
  have c7 := HM.out.var.cell (j := 7) rfl
  have q0 := HM.out.var.frozen 0
  have q1 := HM.out.var.frozen 1
  have q2 := HM.out.var.frozen 2
  have q3 := HM.out.var.frozen 3
  have q4 := HM.out.var.frozen 4
  have q5 := HM.out.var.frozen 5
  have q6 := HM.out.var.frozen 6
  have q7 := HM.out.var.frozen 7
  by_cases hA : at_ = 6 ∧ c = 13
  · obtain ⟨rfl, rfl⟩ := hA
    have HR : Hid (Chunk.lined ⟨6, left, line, long, digits, read, total, trailers⟩ 13 = (⟨10, left, line, long, digits, read, total, trailers⟩, true)) := Lib.hid (by simp [Chunk.lined])
    go_enter Tryz.func156, Tryz.ntmps156
    go_wp2
    go_ret
    exact step_post (HM.out.set 0 _) HR.out (by simp [rcs]) rfl rfl (fun k hk => Or.inl hk) (fun k hk => Or.inl hk)
  · by_cases hB : at_ = 6 ∧ trailers.length = 64
    · obtain ⟨rfl, h64⟩ := hB
      have h13 : ¬ c = 13 := fun e => hA ⟨rfl, e⟩
      have h13n : ¬ c.toNat = 13 := fun e => h13 ((u8_eq (n := 13) (by omega)).1 e)
      have HR : Hid (Chunk.lined ⟨6, left, line, long, digits, read, total, trailers⟩ c = (⟨6, left, line, long, digits, read, total, trailers⟩, false)) := Lib.hid (by simp [Chunk.lined, h13, h64])
      have e64 : ((trailers.length : Int) == 64) = true := by simp; omega
      clear h64 hA h13
      go_enter Tryz.func156, Tryz.ntmps156
      go_wp2
      go_ret
      exact step_post HM.out HR.out rfl rfl rfl (fun k hk => Or.inl hk) (fun k hk => Or.inl hk)
    · obtain ⟨s1, hs1⟩ : ∃ s1 : Chunk.St, s1 = (if at_ = 6 then ⟨7, left, [], long, digits, read, total, trailers⟩ else ⟨at_, left, line, long, digits, read, total, trailers⟩ : Chunk.St) := ⟨_, rfl⟩
      have HR0 : Hid (Chunk.lined ⟨at_, left, line, long, digits, read, total, trailers⟩ c = Chunk.lined2 s1 c) := Lib.hid (by
        rw [hs1, Chunk.lined]
        by_cases e : at_ = 6
        · simp only [e, if_true]
          rw [if_neg (fun x => hA ⟨e, x⟩), if_neg (fun x => hB ⟨e, x⟩)]
        · simp only [e, if_false])
      have HS1 := Lib.hid hs1
      have h78 : s1.at_ = 7 ∨ s1.at_ = 8 := by
        rw [hs1]
        by_cases e : at_ = 6
        · rw [if_pos e]; exact Or.inl rfl
        · rw [if_neg e]; show at_ = 7 ∨ at_ = 8; omega
      have b4 : s1.line.length ≤ 4096 := by rw [hs1]; by_cases e : at_ = 6; rw [if_pos e]; exact Nat.zero_le _; rw [if_neg e]; exact b2
      have b5 : s1.read ≤ 16384 := by rw [hs1]; by_cases e : at_ = 6; rw [if_pos e]; exact b1; rw [if_neg e]; exact b1
      clear hs1
      go_enter Tryz.func156, Tryz.ntmps156
      go_upto_if 10 with (fail)
      go_cut [] (fun wx => ∃ vl1, Mid (foot b vl (.slice Av trailers.length cv)) w wx base b (rcs s1 vl1 (.slice Av trailers.length cv)) vl1 s1.line (.slice Av trailers.length cv) trailers ∧ s1.trailers = trailers ∧ (∀ k, vl1.ownBlock = some k → vl.ownBlock = some k ∨ w.heap.size ≤ k))
      case first =>
        by_cases h6 : at_ = 6
        · subst h6
          have HE : Hid (s1 = ⟨7, left, [], long, digits, read, total, trailers⟩) := Lib.hid (by rw [HS1.out, if_pos rfl])
          have h13 : ¬ c = 13 := fun e => hA ⟨rfl, e⟩
          have h13n : ¬ c.toNat = 13 := fun e => h13 ((u8_eq (n := 13) (by omega)).1 e)
          have e64 : ¬ trailers.length = 64 := fun e => hB ⟨rfl, e⟩
          clear hA hB h13 HS1
          go_wp2
          all_goals go_meet
          all_goals exact ⟨.slice none 0 0, by rw [HE.out]; exact ((HM.out.set 0 (.int .i64 7)).set 2 (.slice none 0 0)).line_nil, by rw [HE.out], fun k hk => by simp [Value.ownBlock] at hk⟩
        · have HE : Hid (s1 = ⟨at_, left, line, long, digits, read, total, trailers⟩) := Lib.hid (by rw [HS1.out, if_neg h6])
          clear hA hB HS1
          go_wp2
          all_goals go_meet
          all_goals exact ⟨vl, by rw [HE.out]; exact HM.out, by rw [HE.out], fun k hk => Or.inl hk⟩
      case rest =>
        obtain ⟨vl1, hm, ht1, k1⟩ := hcut
        have HM1 := Lib.hid hm
        have K1 := Lib.hid k1
        have HT1 := Lib.hid ht1
        clear hm k1 ht1 c0 c1 c2 c3 c4 c5 c6 c7 q0 q1 q2 q3 q4 q5 q6 q7 hA hB HS1
        obtain ⟨Al, cl, hvl, _, _, _, _⟩ := HM1.out.line.form
        have hlt1 := HM1.out.var.lt
        obtain ⟨at1, left1, line1, long1, digits1, read1, total1, trailers1⟩ := s1
        simp only at h78 b4 b5 hvl
        subst hvl
        obtain rfl := HT1.out
        have c0 := HM1.out.var.cell (j := 0) rfl
        have c1 := HM1.out.var.cell (j := 1) rfl
        have c2 := HM1.out.var.cell (j := 2) rfl
        have c3 := HM1.out.var.cell (j := 3) rfl
        have c4 := HM1.out.var.cell (j := 4) rfl
        have c5 := HM1.out.var.cell (j := 5) rfl
        have c6 := HM1.out.var.cell (j := 6) rfl
        have c7 := HM1.out.var.cell (j := 7) rfl
        have q0 := HM1.out.var.frozen 0
        have q1 := HM1.out.var.frozen 1
        have q2 := HM1.out.var.frozen 2
        have q3 := HM1.out.var.frozen 3
        have q4 := HM1.out.var.frozen 4
        have q5 := HM1.out.var.frozen 5
        have q6 := HM1.out.var.frozen 6
        have q7 := HM1.out.var.frozen 7
        have HR1 : Hid (Chunk.lined ⟨at_, left, line, long, digits, read, total, trailers1⟩ c = Chunk.lined2 ⟨at1, left1, line1, long1, digits1, read1, total1, trailers1⟩ c) := HR0
        clear HR0
        by_cases r1 : read1 = 16384
        · subst r1
          have HR : Hid (Chunk.lined ⟨at_, left, line, long, digits, read, total, trailers1⟩ c = (⟨at1, left1, line1, long1, digits1, 16384, total1, trailers1⟩, false)) := Lib.hid (by rw [HR1.out]; simp [Chunk.lined2])
          go_wp2
          go_ret
          exact step_post HM1.out HR.out rfl rfl rfl K1.out (fun k hk => Or.inl hk)
        · have b6 : read1 < 16384 := by omega
          have er : ((read1 : Int) == 16384) = false := by simp; omega
          by_cases r2 : c = 13
          · subst r2
            have HR : Hid (Chunk.lined ⟨at_, left, line, long, digits, read, total, trailers1⟩ 13 = (⟨9, left1, line1, long1, digits1, read1 + 1, total1, trailers1⟩, at1 == 8)) := Lib.hid (by rw [HR1.out]; simp [Chunk.lined2, r1])
            rcases h78 with rfl | rfl
            · go_wp2
              go_ret
              exact step_post ((HM1.out.set 5 _).set 0 _) HR.out (by simp [rcs]) rfl rfl K1.out (fun k hk => Or.inl hk)
            · go_wp2
              go_ret
              exact step_post ((HM1.out.set 5 _).set 0 _) HR.out (by simp [rcs]) rfl rfl K1.out (fun k hk => Or.inl hk)
          · have r2n : ¬ c.toNat = 13 := fun e => r2 ((u8_eq (n := 13) (by omega)).1 e)
            have ec : ((c.toNat : Int) == 13) = false := by simp; omega
            have ec' : ((c.toNat : Int) != 13) = true := by simp; omega
            by_cases r3 : line1.length = 4096
            · have HR : Hid (Chunk.lined ⟨at_, left, line, long, digits, read, total, trailers1⟩ c = (⟨at1, left1, line1, long1, digits1, read1, total1, trailers1⟩, false)) := Lib.hid (by rw [HR1.out]; simp [Chunk.lined2, r2, r3])
              have b7 : 4096 ≤ line1.length := by omega
              have e1 : ((line1.length : Int) == 4096) = true := by simp; omega
              clear r3 r2
              go_wp2
              go_ret
              exact step_post HM1.out HR.out rfl rfl rfl K1.out (fun k hk => Or.inl hk)
            · have b7 : line1.length < 4096 := by omega
              have el : ((line1.length : Int) == 4096) = false := by simp; omega
              have HQ : Hid (Chunk.lined ⟨at_, left, line, long, digits, read, total, trailers1⟩ c = (if at1 = 7 ∧ c = 58 then (if line1 = [] then (⟨8, left1, line1, long1, digits1, read1 + 1, total1, trailers1⟩, false) else (⟨8, left1, line1 ++ [c], long1, digits1, read1 + 1, total1, trailers1⟩, true)) else if (at1 = 7 ∧ isTok c = false) ∨ (at1 = 8 ∧ Chunk.plain c = false) then (⟨at1, left1, line1, long1, digits1, read1 + 1, total1, trailers1⟩, false) else (⟨at1, left1, line1 ++ [c], long1, digits1, read1 + 1, total1, trailers1⟩, true))) := Lib.hid (by
                rw [HR1.out, Chunk.lined2, if_neg (by rintro (x | x); exact r1 x; exact r3 x.2)]
                simp only [if_neg r2])
              clear HR1 r1 r2 r3
              have HMA := Lib.hid (HM1.out.set 5 (.int .i64 ((read1 : Int) + 1)))
              rcases h78 with rfl | rfl
              · by_cases r4 : c = 58
                · subst r4
                  have HMB := Lib.hid (HMA.out.set 0 (.int .i64 8))
                  by_cases r5 : line1 = []
                  · subst r5
                    have HR : Hid (Chunk.lined ⟨at_, left, line, long, digits, read, total, trailers1⟩ 58 = (⟨8, left1, [], long1, digits1, read1 + 1, total1, trailers1⟩, false)) := Lib.hid (by rw [HQ.out]; simp)
                    clear HQ
                    go_wp2
                    go_ret
                    exact step_post HMB.out HR.out (by simp [rcs]) rfl rfl K1.out (fun k hk => Or.inl hk)
                  · have HR : Hid (Chunk.lined ⟨at_, left, line, long, digits, read, total, trailers1⟩ 58 = (⟨8, left1, line1 ++ [58], long1, digits1, read1 + 1, total1, trailers1⟩, true)) := Lib.hid (by rw [HQ.out]; simp [r5])
                    have b8 : 0 < line1.length := by cases line1 with
                      | nil => exact absurd rfl r5
                      | cons a r => simp
                    have e0 : ((line1.length : Int) == 0) = false := by simp; omega
                    have HMC := Lib.hid (HMB.out.alloc (.cells #[.int .u8 58] 5))
                    clear HQ r5
                    go_wp2_with (at_builtin; go_must (refine wpList_appB (L := line1) (M := [58]) rfl (.tmp 110) (.tmp 112) 26 rfl base rfl (HMC.out.line) rfl (SrcB.built_at _ [58] [.int .u8 58] rfl wc.heap.size (by simp)) (show line1.length + 1 ≤ 134217728 by omega) (by have := HMC.out.size; omega) ?_); go_must (intro vl2 w2 hrow2 hb2 hg2 hv2; obtain ⟨A2, k2, rfl, _, _, _, _⟩ := RowB.form hrow2; have HM2 := HMC.out.line_grow hg2 hrow2 hv2 (fun k hk => by rcases K1.out k hk with x | x; exact Or.inl (Or.inr (Or.inl x)); exact Or.inr x); have y2 := HM2.var.cell (j := 2) rfl; have z2 := HM2.var.frozen 2))
                    go_ret
                    exact step_post (HM2.set 2 _) HR.out (by simp [rcs]) rfl rfl (fun k hk => own_new K1.out hv2 (by have := HMC.out.size; omega) k hk) (fun k hk => Or.inl hk)
                · have r4n : ¬ c.toNat = 58 := fun e => r4 ((u8_eq (n := 58) (by omega)).1 e)
                  have r4b : ((c.toNat : Int) == 58) = false := by simp; omega
                  by_cases r6 : isTok c = true
                  · have HR : Hid (Chunk.lined ⟨at_, left, line, long, digits, read, total, trailers1⟩ c = (⟨7, left1, line1 ++ [c], long1, digits1, read1 + 1, total1, trailers1⟩, true)) := Lib.hid (by rw [HQ.out]; simp [r4, r6])
                    have R6 := Lib.hid r6
                    clear HQ r4 r6
                    go_wp2_with (first
                      | (go_at_call 168; go_must (refine (token_any c _).mono ?_; rintro _ w1 ⟨rfl, hb1⟩; rw [R6.out]; have HMC := Lib.hid ((HMA.out.below hb1).alloc (.cells #[.int .u8 (c.toNat : Int)] 5)); have d0 := (HMA.out.below hb1).var.cell (j := 0) rfl; have d2 := (HMA.out.below hb1).var.cell (j := 2) rfl))
                      | (at_builtin; go_must (refine wpList_appB (L := line1) (M := [c]) rfl (.tmp 110) (.tmp 112) 26 rfl base rfl (HMC.out.line) rfl (SrcB.built_at _ [c] [.int .u8 (c.toNat : Int)] rfl w1.heap.size rfl) (show line1.length + 1 ≤ 134217728 by omega) (by have := HMC.out.size; omega) ?_); go_must (intro vl2 w2 hrow2 hb2 hg2 hv2; obtain ⟨A2, k2, rfl, _, _, _, _⟩ := RowB.form hrow2; have HM2 := HMC.out.line_grow hg2 hrow2 hv2 (fun k hk => by rcases K1.out k hk with x | x; exact Or.inl (Or.inr (Or.inl x)); exact Or.inr x); have y2 := HM2.var.cell (j := 2) rfl; have z2 := HM2.var.frozen 2))
                      | fail)
                    go_ret
                    exact step_post (HM2.set 2 _) HR.out (by simp [rcs]) rfl rfl (fun k hk => own_new K1.out hv2 (by have := HMC.out.size; omega) k hk) (fun k hk => Or.inl hk)
                  · have r7 : isTok c = false := by simpa using r6
                    have HR : Hid (Chunk.lined ⟨at_, left, line, long, digits, read, total, trailers1⟩ c = (⟨7, left1, line1, long1, digits1, read1 + 1, total1, trailers1⟩, false)) := Lib.hid (by rw [HQ.out]; simp [r4, r7])
                    have R7 := Lib.hid r7
                    clear HQ r4 r6 r7
                    go_wp2_with (first
                      | (go_at_call 168; go_must (refine (token_any c _).mono ?_; rintro _ w1 ⟨rfl, hb1⟩; rw [R7.out]; have HMC := Lib.hid (HMA.out.below hb1); have d0 := (HMA.out.below hb1).var.cell (j := 0) rfl))
                      | fail)
                    go_ret
                    exact step_post HMC.out HR.out (by simp [rcs]) rfl rfl K1.out (fun k hk => Or.inl hk)
              · by_cases r6 : Chunk.plain c = true
                · have HR : Hid (Chunk.lined ⟨at_, left, line, long, digits, read, total, trailers1⟩ c = (⟨8, left1, line1 ++ [c], long1, digits1, read1 + 1, total1, trailers1⟩, true)) := Lib.hid (by rw [HQ.out]; simp [r6])
                  have R6 := Lib.hid r6
                  have HMC := Lib.hid (HMA.out.alloc (.cells #[.int .u8 (c.toNat : Int)] 5))
                  clear HQ r6
                  go_wp2_with (first
                    | (go_at_call 158; go_must (refine (plain_any c _).mono ?_; rintro _ _ ⟨rfl, rfl⟩; rw [R6.out]))
                    | (at_builtin; go_must (refine wpList_appB (L := line1) (M := [c]) rfl (.tmp 110) (.tmp 112) 26 rfl base rfl (HMC.out.line) rfl (SrcB.built_at _ [c] [.int .u8 (c.toNat : Int)] rfl wc.heap.size (by simp)) (show line1.length + 1 ≤ 134217728 by omega) (by have := HMC.out.size; omega) ?_); go_must (intro vl2 w2 hrow2 hb2 hg2 hv2; obtain ⟨A2, k2, rfl, _, _, _, _⟩ := RowB.form hrow2; have HM2 := HMC.out.line_grow hg2 hrow2 hv2 (fun k hk => by rcases K1.out k hk with x | x; exact Or.inl (Or.inr (Or.inl x)); exact Or.inr x); have y2 := HM2.var.cell (j := 2) rfl; have z2 := HM2.var.frozen 2))
                    | fail)
                  go_ret
                  exact step_post (HM2.set 2 _) HR.out (by simp [rcs]) rfl rfl (fun k hk => own_new K1.out hv2 (by have := HMC.out.size; omega) k hk) (fun k hk => Or.inl hk)
                · have r7 : Chunk.plain c = false := by simpa using r6
                  have HR : Hid (Chunk.lined ⟨at_, left, line, long, digits, read, total, trailers1⟩ c = (⟨8, left1, line1, long1, digits1, read1 + 1, total1, trailers1⟩, false)) := Lib.hid (by rw [HQ.out]; simp [r7])
                  have R7 := Lib.hid r7
                  clear HQ r6 r7
                  go_wp2_with (first
                    | (go_at_call 158; go_must (refine (plain_any c _).mono ?_; rintro _ _ ⟨rfl, rfl⟩; rw [R7.out]))
                    | fail)
                  go_ret
                  exact step_post HMA.out HR.out (by simp [rcs]) rfl rfl K1.out (fun k hk => Or.inl hk)
end Go.Proofs.YtklmpadcfioefaaGreatDoor
