/- The law DiskOwn, walked. Conditions: sizes. -/
import Derived.Test.YthgeppdoonbkpaaMD
import Derived.Test.YthgeppdoonbkpaaDskMd
import Derived.Deep.DeepCutAuto
import Derived.Deep.CutBlock
namespace Go.Proofs.Ythgeppdoonbkpaa
open Go.RowKit Go.Maps Go.WideMaps
theorem infoSs : (Try.prog.info? 53).map (fun i => (i.zero, i.size, i.bytes)) = some (some (.slice none 0 0), 1, 24) := by kernel_rfl
theorem infoBs : (Try.prog.info? 22).map (fun i => (i.zero, i.size, i.bytes)) = some (some (.slice none 0 0), 1, 24) := by kernel_rfl
def rdL (s : Dsk.St) (l : List Bs) : List (List Value) := l.flatMap fun n => [bytesV (Dsk.read s n).1, bytesV (Dsk.read s n).1]
def rdB (s : Dsk.St) (l : List Bs) : List Bs := l.flatMap fun n => [(Dsk.read s n).1, (Dsk.read s n).1]
theorem rdL_map (s : Dsk.St) (l : List Bs) : rdL s l = (rdB s l).map bytesV := by unfold rdL rdB; rw [List.map_flatMap]; rfl
theorem rdB_len (s : Dsk.St) (l : List Bs) : (rdB s l).length = 2 * l.length := by
  unfold rdB
  induction l with
  | nil => rfl
  | cons n l ih => rw [List.flatMap_cons, List.length_append, ih, List.length_cons]; simp; omega
theorem rdB_get (s : Dsk.St) : ∀ (l : List Bs) (i : Nat) (n : Bs), l[i]? = some n → (rdB s l)[2 * i]? = some (Dsk.read s n).1
  | [], _, _, h => by cases h
  | m :: l, 0, n, h => by injection h with h; subst h; rfl
  | m :: l, i + 1, n, h => by
    have := rdB_get s l i n (by simpa using h)
    rw [show 2 * (i + 1) = 2 * i + 2 by omega]
    exact this
theorem rdB_bound {s : Dsk.St} {T : Nat} (h : Dsk.Fit s T) {l : List Bs} {b : Bs} (hb : b ∈ rdB s l) : b.length ≤ 1048576 := by
  unfold rdB at hb
  obtain ⟨n, _, hb⟩ := List.mem_flatMap.1 hb
  have key : (Dsk.read s n).1.length ≤ 1048576 := by
    unfold Dsk.read
    split
    · exact Nat.zero_le _
    · rename_i hx
      exact (h.good _ (Dsk.find_reach (by simpa using hx))).now_len
  simp only [List.mem_cons, List.not_mem_nil, or_false] at hb
  rcases hb with rfl | rfl <;> exact key
theorem namesV_one (l : List Bs) (b : Bs) : namesV (l ++ [b]) = namesV l ++ [.string ⟨b.toArray⟩] := by unfold namesV strV; simp
def mkv (i : Nat) : Value := .int .u8 (3 * (i : Int) % 256)
def mk1 (i : Nat) : Value := .int .u8 ((3 * (i : Int) + 1) % 256)
theorem infoU8 : (Try.prog.info? 5).map (fun i => (i.zero, i.size, i.bytes)) = some (some (.int .u8 0), 1, 1) := by kernel_rfl
theorem fill_step {xs : List Value} {k : Nat} (m : Value) (h : k < xs.length) : (List.replicate k m ++ xs.drop k).set k m = List.replicate (k + 1) m ++ xs.drop (k + 1) := by
  rw [List.set_append_right _ _ (by simp), List.length_replicate, Nat.sub_self, List.drop_eq_getElem_cons h, List.set_cons_zero, List.replicate_succ', List.append_assoc]
  rfl
theorem rdL_snoc (s : Dsk.St) (l : List Bs) (n : Bs) : rdL s (l ++ [n]) = rdL s l ++ [bytesV (Dsk.read s n).1] ++ [bytesV (Dsk.read s n).1] := by unfold rdL; rw [List.flatMap_append]; simp
theorem rdL_len (s : Dsk.St) (l : List Bs) : (rdL s l).length = 2 * l.length := by
  unfold rdL
  induction l with
  | nil => rfl
  | cons n l ih => rw [List.flatMap_cons, List.length_append, ih, List.length_cons]; simp; omega
theorem rdL_get (s : Dsk.St) : ∀ (l : List Bs) (i : Nat) (n : Bs), l[i]? = some n → (rdL s l)[2 * i]? = some (bytesV (Dsk.read s n).1)
  | [], _, _, h => by cases h
  | m :: l, 0, n, h => by injection h with h; subst h; rfl
  | m :: l, i + 1, n, h => by
    have := rdL_get s l i n (by simpa using h)
    rw [show 2 * (i + 1) = 2 * i + 2 by omega]
    exact this
theorem twice_get {tl : List Bs} {t i : Nat} (ht : t < 2) (hi : i < tl.length) : (tl ++ tl)[t * tl.length + i]? = some tl[i] := by
  have h2 : t = 0 ∨ t = 1 := by omega
  rcases h2 with rfl | rfl
  · rw [Nat.zero_mul, Nat.zero_add, List.getElem?_append_left hi, List.getElem?_eq_getElem hi]
  · rw [Nat.one_mul, List.getElem?_append_right (by omega), Nat.add_sub_cancel_left, List.getElem?_eq_getElem hi]
def gone : Value := .string ⟨#[103, 111, 110, 101]⟩
/-- the names, of which the first i are spoilt -/
structure Nms (w W : World) (own : Roles) (db cb : Nat) (s : Dsk.St) (tl : List Bs) (v11 v19 v9 : Value) (WB : List Bs) (ns ns' : List Value) (i : Nat) : Prop where
  two : Two w W own db cb s 120
  r11 : OwnRow w W own .moves 1 v11 tl.length (namesV tl)
  r19 : OwnRow w W own .arm 1 v19 WB.length (namesV WB)
  r9 : OwnRow w W own .now 1 v9 4 ns'
  els : ∀ j v, i ≤ j → ns[j]? = some v → ns'[j]? = some v ∧ OwnRow w W own (.file j) 1 v tl.length (namesV tl)
set_option maxHeartbeats 8000000 in
set_option maxRecDepth 100000 in
theorem down_any (room : Int) (A1 : Option Addr) (n1 c1 : Nat) (os : List OpV) (A2 : Option Addr) (n2 c2 : Nat) (os2 : List OpV) (w : World) (hroom : room ≤ 9223372036854775807)
    (r1 : OpsIn w A1 n1 os) (hsz : ∀ o ∈ os, OpSz o) (r2 : OpsIn w A2 n2 os2) (hsz2 : ∀ o ∈ os2, OpSz o) :
    Calls Try.prog 6 #[.int .i64 room, .slice A1 n1 c1, .slice A2 n2 c2] w fun e w' => e = .returned (.bool true) ∧ Below w.heap.size w w' := by
  have R1 := Lib.hid r1
  have HSZ := Lib.hid hsz
  have R2 := Lib.hid r2
  have HSZ2 := Lib.hid hsz2
  have HAW := Lib.hid (dawake_any w)
  obtain ⟨j0, hj0, jz0, jz1, jz2⟩ := info_parts infoSs
  obtain ⟨i0, hi0, iz0, iz1, iz2⟩ := info_parts infoBs
  clear r1 r2 hsz hsz2
  go_enter Try.func6, Try.ntmps6
  go_upto_region 3 with (first
    | (go_at_call 7; go_must (refine HAW.out.mono ?_; rintro _ wa ⟨rfl, ba⟩))
    | fail)
  have HM := Lib.hid (dmade_any w wa room A1 n1 c1 os ba R1.out HSZ.out hroom)
  clear ba
  go_upto_region 4 with (first
    | (go_at_call 25; go_must (refine HM.out.mono ?_; rintro _ wb ⟨db, s, rfl, l0⟩))
    | fail)
  have HC := Lib.hid (ltwo l0 (by omega))
  clear l0
  go_upto_region 9 with (first
    | (go_at_call 27; go_must (refine HC.out.mono ?_; rintro _ wc ⟨cb, rfl, tw, _⟩))
    | fail)
  have TW := Lib.hid tw
  have HNM := Lib.hid (tnames tw (.inl rfl) (by omega))
  clear tw
  go_upto_region 10 with (first
    | (go_at_call 26; go_must (refine HNM.out.mono ?_; rintro _ wd ⟨v11, rfl, hr11, bd⟩))
    | fail)
  obtain ⟨tl, htl⟩ : ∃ tl, tl = Dsk.told s := ⟨_, rfl⟩
  have HTL := Lib.hid htl
  have hnl0 : (Dsk.told s).length ≤ 120 := TW.out.told_le
  rw [← htl] at hr11 hnl0
  clear htl
  have HOS : Hid (OwS w wd (grow (fun _ => none) wc.heap.size wd.heap.size (fun _ => .moves)) db cb s 120 tl v11 (.slice none 0 0) (.slice none 0 0) [] [] []) := Lib.hid ⟨TW.out.grow bd _, OwnRow.made hr11 TW.out.bel.size, OwnRow.nil _ _ _ _ _, Fam.nil _ _ _ _, OwnRow.nil _ _ _ _ _, Fam.nil _ _ _ _⟩
  obtain ⟨own0, hown0⟩ : ∃ own0, own0 = grow (fun _ => none) wc.heap.size wd.heap.size (fun _ => Role.moves) := ⟨_, rfl⟩
  rw [← hown0] at HOS
  obtain ⟨nl, hnl⟩ : ∃ nl, nl = tl.length := ⟨_, rfl⟩
  obtain ⟨A11, c11, rfl, _, _, _, _⟩ := Row.form hr11
  rw [← hnl] at HOS hnl0 ⊢
  have HNL := Lib.hid hnl
  clear hown0 bd hr11 hnl TW
  go_upto_block 0 with (fail)
  go_cut [9, 10] from 45 to 92 (fun v9 v10 wx => ∃ own ns ls Ls, OwS w wx own db cb s 120 tl (.slice A11 nl c11) v9 v10 ns ls Ls ∧ ns.length = 4 ∧ Ls = rdL s (tl ++ tl))
  case first =>
    go_wp2
    go_loopw [9, 10, 12] (fun v9 v10 tv wr => ∃ (t : Nat) (own : Roles) (ns ls : List Value) (Ls : List (List Value)), t ≤ 2 ∧ tv = .int .i64 (t : Nat) ∧ OwS w wr own db cb s 120 tl (.slice A11 nl c11) v9 v10 ns ls Ls ∧ ns.length = 2 * t ∧ Ls = rdL s ((tl ++ tl).take (t * nl))) (fun _ _ tv _ => 2 - (intOf tv).toNat)
    case atStart => exact ⟨0, own0, [], [], [], by omega, rfl, HOS.out, rfl, by rw [Nat.zero_mul, List.take_zero]; rfl⟩
    case round =>
      obtain ⟨t, own, ns, ls, Ls, ht, rfl, hos, hns, hLs⟩ := hrel
      have HO1 := Lib.hid hos
      have HNS := Lib.hid hns
      have HLS := Lib.hid hLs
      clear hos hns hLs
      obtain ⟨wo, rfl⟩ : ∃ wo : World, wo = wr := ⟨_, rfl⟩
      by_cases htl : t < 2
      · have htli : (t : Int) < 2 := by omega
        go_upto_if 51 with (fail)
        go_cut [13] (fun v wx => ∃ xb, v = .pointer (some ⟨xb, 0, none⟩) ∧ (xb = db ∨ xb = cb) ∧ wo = wx)
        case first =>
          by_cases ht1 : t = 1
          · subst ht1
            go_wp2
            go_meet
            exact ⟨cb, rfl, .inr rfl, rfl⟩
          · have ht1b : ((t : Int) == 1) = false := by rw [beq_eq_false_iff_ne]; omega
            have ht1i : ¬ (t : Int) = 1 := by omega
            go_wp2
            go_meet
            exact ⟨db, rfl, .inl rfl, rfl⟩
        case rest =>
        obtain ⟨xb, rfl, hxb, rfl⟩ := hcut
        have HXB := Lib.hid hxb
        clear hxb
        obtain ⟨B9, c9, rfl, _, _, _, _⟩ := HO1.out.r9.row.form
        obtain ⟨nn, hnn⟩ : ∃ nn, nn = ns.length := ⟨_, rfl⟩
        have HNN := Lib.hid hnn
        have hnnb : nn ≤ 4 := by rw [hnn, HNS.out]; omega
        have HTN := Lib.hid (fun (W : World) (own : Roles) (h : Two w W own db cb s 120) => tnames h HXB.out (by omega))
        rw [← HTL.out, ← HNL.out] at HTN
        have HN1 := Lib.hid (HTN.out _ _ HO1.out.two)
        have HR1 : Hid (∀ (W : World) (b : Below wo.heap.size wo W), Row W w.heap.size 1 (.slice B9 nn c9) nn ns) := Lib.hid (fun W b => by have h := (HO1.out.past b).r9.row; rw [← hnn] at h; exact h)
        rw [← hnn] at HO1 ⊢
        clear hnn
        have hwo := HO1.out.two.bel.size
        go_upto_region 17 with (first
          | (have hmid := HQ2.out; go_at_call 26; go_must (refine HN2.out.mono ?_; rintro _ w4 ⟨v4, rfl, hr4, hb4⟩; obtain ⟨A4, k4, rfl, _, _, _, _⟩ := hr4.form; have HR4 : Hid (Row w4 w.heap.size 1 (.slice B5 (nn + 1) c5) (nn + 1) (ns ++ [.slice A1' nl k1])) := Lib.hid (by have h := (HQ2.out.past hb4).r9.row; rw [List.length_append, ← HNN.out] at h; exact h); have hz4 := hb4.size; have hz5 := HQ2.out.two.bel.size))
          | (go_at_call 26; go_must (refine HN1.out.mono ?_; rintro _ w1 ⟨v1, rfl, hr1, hb1⟩; obtain ⟨A1', k1, rfl, _, _, _, _⟩ := hr1.form; have HR2 := Lib.hid (HR1.out _ hb1); have hz1 := hb1.size))
          | (have hmid := HR4.out; at_builtin; (refine wpList_app _ rfl (.tmp 57) (.tmp 60) 57 57 rfl w.heap.size 53 j0 (.slice none 0 0) 1 24 Try.underlying57 hj0 jz0 jz1 jz2 rfl (.slice B5 (nn + 1) c5) (nn + 1) (ns ++ [.slice A1' nl k1]) rfl (HR4.out.alloc _) _ 1 [.slice A4 nl k4] rfl (Src.built [.slice A4 nl k4] 53 Try.underlying57 rfl (by intro u hu; simp only [List.mem_cons, List.not_mem_nil, or_false] at hu; rcases hu with rfl; rfl)) (by omega) (by omega) (by omega) (by simp; omega) ?_); intro v6 w6 hr6 hg6 ho6)
          | (at_builtin; (refine wpList_app _ rfl (.tmp 53) (.tmp 56) 57 57 rfl w.heap.size 53 j0 (.slice none 0 0) 1 24 Try.underlying57 hj0 jz0 jz1 jz2 rfl (.slice B9 nn c9) nn ns rfl (HR2.out.alloc _) _ 1 [.slice A1' nl k1] rfl (Src.built [.slice A1' nl k1] 53 Try.underlying57 rfl (by intro u hu; simp only [List.mem_cons, List.not_mem_nil, or_false] at hu; rcases hu with rfl; rfl)) (by omega) (by omega) (by omega) (by simp; omega) ?_; intro v5 w5 hr5 hg5 ho5; obtain ⟨own5, hq5⟩ := HO1.out.name (v := .slice A1' nl k1) hb1 (by rw [← HNL.out]; exact hr1) (((Chg.refl _ _).alloc _).grown hg5 (fun k _ e => e)) (by rw [← HNN.out]; exact hr5) (own_new ho5); obtain ⟨B5, c5, rfl, _, _, _, _⟩ := hr5.form; have HQ2 := Lib.hid hq5; have HN2 := Lib.hid (HTN.out _ _ hq5.two); clear hr5 hg5 ho5 hq5 hr1 hb1))
          | fail)
        obtain ⟨own6, hq6⟩ := HQ2.out.name (v := .slice A4 nl k4) hb4 (by rw [← HNL.out]; exact hr4) (((Chg.refl _ _).alloc _).grown hg6 (fun k _ e => e)) (by rw [List.length_append, ← HNN.out]; exact hr6) (own_new ho6)
        have HQ6 := Lib.hid hq6
        obtain ⟨ns2, hns2⟩ : ∃ ns2, ns2 = ns ++ [.slice A1' nl k1] ++ [.slice A4 nl k4] := ⟨_, rfl⟩
        rw [← hns2] at HQ6
        have HNS2 : Hid (ns2.length = 2 * (t + 1)) := Lib.hid (by rw [hns2, List.length_append, List.length_append, HNS.out]; simp; omega)
        have HXT := Lib.hid (fun (W : World) (own : Roles) (nm : Bs) (h : Two w W own db cb s 120) (hl : nm.length ≤ 64) => tread h HXB.out nm (by omega))
        clear hq6 hns2 hr4 hb4 hr6 hg6 ho6 HR4 HQ2 HN2 HN1 HR1 HR2 HTN hz1 hz4 hz5 hmid
        go_wp2
        go_loopw [10, 14] (fun v10 iv wr => ∃ (i : Nat) (own : Roles) (ls : List Value) (Ls : List (List Value)), i ≤ nl ∧ iv = .int .i64 (i : Nat) ∧ OwS w wr own db cb s 120 tl (.slice A11 nl c11) v6 v10 ns2 ls Ls ∧ Ls = rdL s ((tl ++ tl).take (t * nl + i))) (fun _ iv _ => nl - (intOf iv).toNat)
        case atStart => exact ⟨0, own6, ls, Ls, Nat.zero_le _, rfl, HQ6.out, by rw [Nat.add_zero]; exact HLS.out⟩
        case round =>
          obtain ⟨i, own, ls, Ls, hi, rfl, hos, hLs⟩ := hrel
          have HO := Lib.hid hos
          have HLS2 := Lib.hid hLs
          clear hos hLs
          obtain ⟨wp, rfl⟩ : ∃ wp : World, wp = wr := ⟨_, rfl⟩
          by_cases hlt : i < nl
          · have hlti : (i : Int) < (nl : Int) := by omega
            have hil : i < tl.length := by rw [← HNL.out]; exact hlt
            obtain ⟨_, _, e8, _, _, _, hrd8⟩ := Row.form HO.out.r11.row
            injection e8 with e8 xa1 xa2
            subst e8
            clear xa1 xa2
            obtain ⟨g8, o8, rfl, hg8, hc8⟩ := hrd8.2 (by omega)
            have d8 := hc8 i _ (namesV_get hil)
            obtain ⟨nm, hnm⟩ : ∃ nm, nm = tl[i] := ⟨_, rfl⟩
            rw [← hnm] at d8
            have hnl64 : nm.length ≤ 64 := told_len64 HO.out.two.fit (by rw [← HTL.out, hnm]; exact List.getElem_mem _)
            have HTK : Hid ((tl ++ tl)[t * nl + i]? = some nm) := Lib.hid (by rw [HNL.out, twice_get htl hil, hnm])
            have CR1 := Lib.hid (HXT.out _ _ nm HO.out.two hnl64)
            obtain ⟨bb, er, hre⟩ : ∃ bb er, Dsk.read s nm = (bb, er) := ⟨_, _, rfl⟩
            rw [hre] at CR1
            have HRE := Lib.hid hre
            clear hrd8 hc8 hre hnm hil
            go_upto_region 21 with (first
              | (go_at_call 21; go_must (refine CR1.out.mono ?_; rintro _ w1 ⟨va, rfl, ra, ba⟩))
              | fail)
            obtain ⟨Aa, ca, rfl, _, _, _, _⟩ := RowB.form ra
            have HQ1 := Lib.hid (HO.out.grow ba (fun _ => .chg ls.length))
            have HV1 := Lib.hid (OwnRow.bytes (w0 := w) (own := own) (r := .chg ls.length) ra HO.out.two.bel.size)
            obtain ⟨own1, hown1⟩ : ∃ own1, own1 = grow own wp.heap.size w1.heap.size (fun _ => Role.chg ls.length) := ⟨_, rfl⟩
            rw [← hown1] at HQ1 HV1
            have d81 : w1.cell? ⟨g8, o8 + i, none⟩ = some (.string ⟨nm.toArray⟩) := (ba.cell (p := ⟨g8, o8 + i, none⟩) hg8).trans d8
            have hg81 : g8 < w1.heap.size := Nat.lt_of_lt_of_le hg8 ba.size
            have CR2 := Lib.hid (HXT.out _ _ nm HQ1.out.two hnl64)
            rw [HRE.out] at CR2
            clear hown1 d8 ba ra
            go_upto_region 22 with (first
              | (go_at_call 21; go_must (refine CR2.out.mono ?_; rintro _ w2 ⟨vb, rfl, rb, bb2⟩))
              | fail)
            obtain ⟨Ab, cb2, rfl, _, _, _, _⟩ := RowB.form rb
            have HQ2 := Lib.hid (HQ1.out.grow bb2 (fun _ => .chg (ls.length + 1)))
            have HV2 := Lib.hid (OwnRow.bytes (w0 := w) (own := own1) (r := .chg (ls.length + 1)) rb HQ1.out.two.bel.size)
            have HV12 := Lib.hid (HV1.out.keep (grow_lies (below_lies bb2) (fun _ => .chg (ls.length + 1))) id)
            obtain ⟨own2, hown2⟩ : ∃ own2, own2 = grow own1 w1.heap.size w2.heap.size (fun _ => Role.chg (ls.length + 1)) := ⟨_, rfl⟩
            rw [← hown2] at HQ2 HV2 HV12
            obtain ⟨B10, c10, rfl, _, _, _, _⟩ := HQ2.out.r10.row.form
            obtain ⟨nn, hnn⟩ : ∃ nn, nn = ls.length := ⟨_, rfl⟩
            have hnnb : nn ≤ 1000 := by
              have h1 := HQ2.out.f10.len
              rw [HLS2.out, rdL_len] at h1
              have h2 : ((tl ++ tl).take (t * nl + i)).length ≤ (tl ++ tl).length := by rw [List.length_take]; omega
              rw [List.length_append, ← HNL.out] at h2
              omega
            rw [← hnn] at HQ2 HV2 HV12 ⊢
            have HNN := Lib.hid hnn
            have HR10 : Hid (Row w2 w.heap.size 1 (.slice B10 nn c10) nn ls) := Lib.hid (by have h := HQ2.out.r10.row; rw [← hnn] at h; exact h)
            have hw2 := HQ2.out.two.bel.size
            clear hown2 rb bb2 hnn d81 hg81
            go_wp2_with (first
              | (have hmid := HR11.out; at_builtin; go_must (refine wpList_app _ rfl (.tmp 89) (.tmp 91) 45 45 rfl w.heap.size 22 i0 (.slice none 0 0) 1 24 Try.underlying45 hi0 iz0 iz1 iz2 rfl (.slice B11 (nn + 1) c11') (nn + 1) (ls ++ [.slice Aa bb.length ca]) rfl (HR11.out.alloc _) _ 1 [.slice Ab bb.length cb2] rfl (Src.built [.slice Ab bb.length cb2] 22 Try.underlying45 rfl (by intro u hu; simp only [List.mem_cons, List.not_mem_nil, or_false] at hu; rcases hu with rfl; rfl)) (by omega) (by omega) (by omega) (by simp; omega) ?_; intro v13 w4 hrw4 hgw4 how4))
              | (at_builtin; go_must (refine wpList_app _ rfl (.tmp 86) (.tmp 88) 45 45 rfl w.heap.size 22 i0 (.slice none 0 0) 1 24 Try.underlying45 hi0 iz0 iz1 iz2 rfl (.slice B10 nn c10) nn ls rfl (HR10.out.alloc _) _ 1 [.slice Aa bb.length ca] rfl (Src.built [.slice Aa bb.length ca] 22 Try.underlying45 rfl (by intro u hu; simp only [List.mem_cons, List.not_mem_nil, or_false] at hu; rcases hu with rfl; rfl)) (by omega) (by omega) (by omega) (by simp; omega) ?_; intro v12 w3 hrw3 hgw3 how3; obtain ⟨own3, hq3, hl3⟩ := HQ2.out.list (v := .slice Aa bb.length ca) (L := bytesV bb) (by rw [← HNN.out]; exact HV12.out) (((Chg.refl _ _).alloc _).grown hgw3 (fun k _ e => e)) (by rw [← HNN.out]; exact hrw3) (own_new how3); obtain ⟨B11, c11', rfl, _, _, _, _⟩ := hrw3.form; have HQ3 := Lib.hid hq3; have HV3 := Lib.hid (HV2.out.keep hl3 (by simp)); have HR11 : Hid (Row w3 w.heap.size 1 (.slice B11 (nn + 1) c11') (nn + 1) (ls ++ [.slice Aa bb.length ca])) := Lib.hid (by have h := hq3.r10.row; rw [List.length_append, ← HNN.out] at h; exact h); have hw3 := hq3.two.bel.size; clear hrw3 hgw3 how3 hq3 hl3))
              | fail)
            obtain ⟨own4, hq4, _⟩ := HQ3.out.list (v := .slice Ab bb.length cb2) (L := bytesV bb) (by rw [List.length_append, List.length_singleton, ← HNN.out]; exact HV3.out) (((Chg.refl _ _).alloc _).grown hgw4 (fun k _ e => e)) (by rw [List.length_append, List.length_singleton, ← HNN.out]; exact hrw4) (own_new how4)
            go_roundw
            case rel => exact ⟨i + 1, own4, _, _, by omega, by go_num, hq4, by rw [← Nat.add_assoc, take_snoc HTK.out, rdL_snoc, HRE.out, ← HLS2.out]⟩
            case measure => simp [intOf]; omega
          · obtain rfl : i = nl := by omega
            have hnlti : ¬ (i : Int) < (i : Int) := by omega
            go_wp2
            go_roundw
            case rel => exact ⟨t + 1, own, ns2, ls, Ls, by omega, by go_num, HO.out, HNS2.out, by rw [HLS2.out, Nat.succ_mul]⟩
            case measure => simp [intOf]; omega
      · obtain rfl : t = 2 := by omega
        go_wp2
        go_meet
        exact ⟨own, ns, ls, Ls, HO1.out, by rw [HNS.out], by rw [HLS.out, List.take_of_length_le (by rw [List.length_append, ← HNL.out]; omega)]⟩
  case rest =>
  obtain ⟨own, ns, ls, Ls, hos, hns, hLs⟩ := hcut
  obtain ⟨WB, hWB⟩ : ∃ WB, WB = rdB s (tl ++ tl) := ⟨_, rfl⟩
  have HWB := Lib.hid hWB
  rw [rdL_map, ← hWB] at hLs
  subst hLs
  obtain ⟨N, hN⟩ : ∃ N, N = ls.length := ⟨_, rfl⟩
  have HN := Lib.hid hN
  have hWL : WB.length = N := by rw [hN, hos.f10.len, List.length_map]
  have hNb : N = 4 * nl := by rw [← hWL, hWB, rdB_len, List.length_append, ← HNL.out]; omega
  have HWL := Lib.hid hWL
  have HNB := Lib.hid hNb
  have hN480 : N ≤ 480 := by omega
  have HNS := Lib.hid hns
  have HWBL : Hid (∀ b ∈ WB, b.length ≤ 1048576) := Lib.hid (fun b hb => rdB_bound hos.two.fit (by rw [hWB] at hb; exact hb))
  obtain ⟨B10, c10, rfl, _, _, _, _⟩ := hos.r10.row.form
  obtain ⟨B9, c9, rfl, _, _, _, _⟩ := hos.r9.row.form
  rw [← hN, hns] at hos ⊢
  have HOS2 := Lib.hid hos
  clear hos hns hWB hN hWL hNb HOS
  go_upto_block 4 with (fail)
  go_cut [19] from 93 to 106 (fun v19 wx => ∃ own, OwS w wx own db cb s 120 tl (.slice A11 nl c11) (.slice B9 4 c9) (.slice B10 N c10) ns ls (WB.map bytesV) ∧ OwnRow w wx own .arm 1 v19 N (namesV WB))
  case first =>
    obtain ⟨k0, hk0, kz0, kz1, kz2⟩ := info_parts infoStr
    go_wp2
    go_loopw [19, 20] (fun v19 iv wr => ∃ (i : Nat) (own : Roles), i ≤ N ∧ iv = .int .i64 (i : Nat) ∧ OwS w wr own db cb s 120 tl (.slice A11 nl c11) (.slice B9 4 c9) (.slice B10 N c10) ns ls (WB.map bytesV) ∧ OwnRow w wr own .arm 1 v19 i (namesV (WB.take i))) (fun _ iv _ => N - (intOf iv).toNat)
    case atStart => exact ⟨0, own, Nat.zero_le _, rfl, HOS2.out, OwnRow.nil _ _ _ _ _⟩
    case round =>
      obtain ⟨i, own, hi, rfl, hos, hr19⟩ := hrel
      have HO := Lib.hid hos
      have H19 := Lib.hid hr19
      obtain ⟨B19, c19, rfl⟩ := hr19.form
      obtain ⟨wp, rfl⟩ : ∃ wp : World, wp = wr := ⟨_, rfl⟩
      clear hos hr19
      by_cases hlt : i < N
      · have hlti : (i : Int) < (N : Int) := by omega
        obtain ⟨v, L, hv, hL, hrow⟩ := HO.out.f10.pick (i := i) (by rw [← HN.out]; exact hlt)
        obtain ⟨b, hb⟩ : ∃ b, WB[i]? = some b := ⟨_, List.getElem?_eq_getElem (by rw [HWL.out]; exact hlt)⟩
        rw [List.getElem?_map, hb] at hL
        injection hL with hL
        subst hL
        obtain ⟨Ai, ci, rfl, _, _, hzi, hrdi⟩ := hrow.row.form
        have HB := Lib.hid hb
        obtain ⟨g10, o10, hA10, hg10, _, d10⟩ := (show OwnRow w wp own .lasts 1 (.slice B10 N c10) N ls by have h := HO.out.r10; rw [← HN.out] at h; exact h).at hv
        subst hA10
        rw [bytesV_len] at hrdi hzi d10
        have cvb := conv_str (P := Try.prog) 22 9 5 Try.underlying22 Try.underlying5 Try.underlying9 (c := ci) hrdi (fun e => (hzi e).1)
        have hws := HO.out.two.bel.size
        have hb19 : i ≤ 480 := by omega
        clear hrow hzi hrdi hv hb hg10
        go_wp2_with (first
          | (at_builtin; go_must (refine wpList_app _ rfl (.tmp 99) (.tmp 105) 53 53 rfl w.heap.size 9 k0 (.string ⟨#[]⟩) 1 16 Try.underlying53 hk0 kz0 kz1 kz2 rfl (.slice B19 i c19) i (namesV (WB.take i)) rfl (H19.out.row.alloc _) _ 1 [.string ⟨b.toArray⟩] rfl (Src.built [.string ⟨b.toArray⟩] 9 Try.underlying53 rfl (by intro u hu; simp at hu; rcases hu with rfl; rfl)) (by omega) (by omega) (by omega) (by simp; omega) ?_; intro v19' w3 hr3 hg3 ho3))
          | fail)
        have hch : Chg (fun k => (Value.slice B19 i c19).ownBlock = some k) wp w3 := ((Chg.refl _ _).alloc _).grown hg3 (fun k _ e => e)
        go_roundw
        case rel => exact ⟨i + 1, _, by omega, by go_num, HO.out.side hch H19.out.role (by simp) (by simp) (by simp) (by simp) (by simp) (fun _ => .arm), by rw [take_snoc HB.out, namesV_one]; exact H19.out.push hch hr3 (own_new ho3)⟩
        case measure => simp [intOf]; omega
      · obtain rfl : i = N := by omega
        have hnlti : ¬ (i : Int) < (i : Int) := by omega
        go_wp2
        go_meet
        exact ⟨own, HO.out, by have h := H19.out; rw [List.take_of_length_le (by rw [HWL.out]; exact Nat.le_refl _)] at h; exact h⟩
  case rest =>
  obtain ⟨own2, hos, hr19⟩ := hcut
  have HOS3 := Lib.hid hos
  have H19 := Lib.hid hr19
  obtain ⟨B19, c19, rfl⟩ := hr19.form
  clear hos hr19 HOS2
  go_upto_block 6 with (fail)
  go_cut [] from 107 to 130 (fun wx => ∃ Ls, OwS w wx own2 db cb s 120 tl (.slice A11 nl c11) (.slice B9 4 c9) (.slice B10 N c10) ns ls Ls ∧ OwnRow w wx own2 .arm 1 (.slice B19 N c19) N (namesV WB) ∧ ∀ j b, WB[j]? = some b → Ls[j]? = some (List.replicate b.length (mkv j)))
  case first =>
    go_wp2
    go_loopw [21] (fun iv wr => ∃ (i : Nat) (Ls : List (List Value)), i ≤ N ∧ iv = .int .i64 (i : Nat) ∧ OwS w wr own2 db cb s 120 tl (.slice A11 nl c11) (.slice B9 4 c9) (.slice B10 N c10) ns ls Ls ∧ OwnRow w wr own2 .arm 1 (.slice B19 N c19) N (namesV WB) ∧ ∀ j b, WB[j]? = some b → Ls[j]? = some (if j < i then List.replicate b.length (mkv j) else bytesV b)) (fun iv _ => N - (intOf iv).toNat)
    case atStart => exact ⟨0, _, Nat.zero_le _, rfl, HOS3.out, H19.out, fun j b h => by rw [if_neg (by omega), List.getElem?_map, h]; rfl⟩
    case round =>
      obtain ⟨i, Ls, hi, rfl, hos, hr19, hLs⟩ := hrel
      have HO := Lib.hid hos
      have HR19 := Lib.hid hr19
      have HLS := Lib.hid hLs
      obtain ⟨wp, rfl⟩ : ∃ wp : World, wp = wr := ⟨_, rfl⟩
      clear hos hr19 hLs
      by_cases hlt : i < N
      · have hlti : (i : Int) < (N : Int) := by omega
        obtain ⟨v, L, hv, hL, hrow⟩ := HO.out.f10.pick (i := i) (by rw [← HN.out]; exact hlt)
        obtain ⟨b, hb⟩ : ∃ b, WB[i]? = some b := ⟨_, List.getElem?_eq_getElem (by rw [HWL.out]; exact hlt)⟩
        have hL2 := HLS.out i b hb
        rw [if_neg (by omega), hL] at hL2
        injection hL2 with hL2
        subst hL2
        obtain ⟨Ai, ci, rfl, _, _, _, _⟩ := hrow.row.form
        have hmx : b.length ≤ 1048576 := HWBL.out b (List.mem_of_getElem? hb)
        rw [bytesV_len] at hrow hv
        obtain ⟨n, hn⟩ : ∃ n, n = b.length := ⟨_, rfl⟩
        rw [← hn] at hrow hv hmx
        have HV := Lib.hid hv
        have HBB := Lib.hid hb
        have HNB2 := Lib.hid hn
        have HL := Lib.hid hL
        have hw3 : IntKind.i64.wrap (3 * (i : Int)) = 3 * (i : Int) := IntWalk.i64_in _ (by omega)
        clear hrow hv hb hn hL
        go_wp2
        go_loopw [22] (fun kv wq => ∃ (k : Nat) (Lt : List (List Value)), k ≤ n ∧ kv = .int .i64 (k : Nat) ∧ OwS w wq own2 db cb s 120 tl (.slice A11 nl c11) (.slice B9 4 c9) (.slice B10 N c10) ns ls Lt ∧ OwnRow w wq own2 .arm 1 (.slice B19 N c19) N (namesV WB) ∧ (∀ j, j ≠ i → Lt[j]? = Ls[j]?) ∧ Lt[i]? = some (List.replicate k (mkv i) ++ (bytesV b).drop k)) (fun kv _ => n - (intOf kv).toNat)
        case atStart => exact ⟨0, Ls, Nat.zero_le _, rfl, HO.out, HR19.out, fun _ _ => rfl, HL.out⟩
        case round =>
          obtain ⟨k, Lt, hk, rfl, hos, hr19, hLt, hLi⟩ := hrel
          have HO2 := Lib.hid hos
          have HR2 := Lib.hid hr19
          have HLT := Lib.hid hLt
          have HLI := Lib.hid hLi
          have hrow := hos.f10.row i _ _ HV.out hLi
          obtain ⟨g10, o10, hA10, hg10, _, d10⟩ := (show OwnRow w wr own2 .lasts 1 (.slice B10 N c10) N ls by have h := hos.r10; rw [← HN.out] at h; exact h).at HV.out
          subst hA10
          obtain ⟨wq, rfl⟩ : ∃ wq : World, wq = wr := ⟨_, rfl⟩
          have hlen : (List.replicate k (mkv i) ++ (bytesV b).drop k).length = n := by rw [List.length_append, List.length_replicate, List.length_drop, bytesV_len, ← HNB2.out]; omega
          rw [hlen] at hrow
          have HROW := Lib.hid hrow
          have HLEN := Lib.hid hlen
          clear hos hr19 hLt hLi
          by_cases hkn : k < n
          · have hkni : (k : Int) < (n : Int) := by omega
            obtain ⟨g', o', e, hgw, hgl, hcell, hfr⟩ := hrow.row.own (by omega)
            subst e
            obtain ⟨u, hu⟩ : ∃ u, (List.replicate k (mkv i) ++ (bytesV b).drop k)[k]? = some u := ⟨_, List.getElem?_eq_getElem (by rw [hlen]; exact hkn)⟩
            have d1 := hcell k _ hu
            have f1 := hfr k (by omega)
            have HKN := Lib.hid hkn
            clear hrow hcell hfr hu hgw hlen
            go_wp2
            have hkn := HKN.out
            have hset := HROW.out.row.set (j := k) (u := mkv i) (by rw [HLEN.out]; exact hkn)
            rw [fill_step (mkv i) (by rw [bytesV_len, ← HNB2.out]; exact hkn)] at hset
            have hcg : Chg (fun q => (Value.slice (some ⟨g', o', none⟩) n ci).ownBlock = some q) wq (wq.setCell ⟨g', o' + k, none⟩ (mkv i)) := (show Chg (fun q => (Value.slice (some ⟨g', o', none⟩) n ci).ownBlock = some q) wq wq from Chg.refl _ _).setCell (p := ⟨g', o' + k, none⟩) (fun _ => rfl) _
            have hl19 : Lies own2 own2 (fun r => r = .chg i) wq (wq.setCell ⟨g', o' + k, none⟩ (mkv i)) := put_lies hcg HROW.out.role
            have hlen2 : (List.replicate (k + 1) (mkv i) ++ (bytesV b).drop (k + 1)).length = n := by rw [List.length_append, List.length_replicate, List.length_drop, bytesV_len, ← HNB2.out]; omega
            have hos2 := HO2.out.mark HV.out hcg HROW.out.role (L := List.replicate (k + 1) (mkv i) ++ (bytesV b).drop (k + 1)) ⟨by rw [hlen2]; exact hset, HROW.out.role⟩
            go_roundw
            case rel => exact ⟨k + 1, _, by omega, by go_num, hos2, HR2.out.keep hl19 (by simp), fun j hj => by rw [List.getElem?_set_ne (fun e => hj e.symm)]; exact HLT.out j hj, by rw [List.getElem?_set_self (by have := (List.getElem?_eq_some_iff.1 HLI.out).1; exact this)]⟩
            case measure => simp [intOf]; omega
          · obtain rfl : k = n := by omega
            have hknt : ¬ (k : Int) < (k : Int) := by omega
            clear hrow
            go_wp2
            go_roundw
            case rel => exact ⟨i + 1, Lt, by omega, by go_num, HO2.out, HR2.out, fun j b' hb' => by
              by_cases hj : j = i
              · subst hj
                have := HBB.out
                rw [hb'] at this
                injection this with this
                subst this
                rw [if_pos (Nat.lt_succ_self _), HLI.out, List.drop_of_length_le (by rw [bytesV_len, ← HNB2.out]; exact Nat.le_refl _), List.append_nil, ← HNB2.out]
              · rw [HLT.out j hj, HLS.out j b' hb']
                by_cases hji : j < i
                · rw [if_pos hji, if_pos (by omega)]
                · rw [if_neg hji, if_neg (by omega)]⟩
            case measure => simp [intOf]; omega
      · obtain rfl : i = N := by omega
        have hnlti : ¬ (i : Int) < (i : Int) := by omega
        go_wp2
        go_meet
        exact ⟨Ls, HO.out, HR19.out, fun j b hb => by rw [HLS.out j b hb, if_pos (by rw [← HWL.out]; exact (List.getElem?_eq_some_iff.1 hb).1)]⟩
  case rest =>
  obtain ⟨Ls, hos, hr19, hLs⟩ := hcut
  have HOS4 := Lib.hid hos
  have HR19 := Lib.hid hr19
  have HLS := Lib.hid hLs
  clear hos hr19 hLs HOS3 H19
  go_upto_block 10 with (fail)
  go_cut [23] from 131 to 149 (fun v23 wx => ∃ own zs Zs, OwS w wx own db cb s 120 tl (.slice A11 nl c11) (.slice B9 4 c9) (.slice B10 N c10) ns ls Ls ∧ OwnRow w wx own .arm 1 (.slice B19 N c19) N (namesV WB) ∧ OwnRow w wx own .disk 1 v23 N zs ∧ Fam w wx own .chg zs Zs ∧ zs.length = N ∧ ∀ j b, WB[j]? = some b → Zs[j]? = some (List.replicate b.length (mkv j) ++ [mk1 j]))
  case first =>
    obtain ⟨k0, hk0, kz0, kz1, kz2⟩ := info_parts infoU8
    go_wp2
    go_loopw [23, 24] (fun v23 iv wr => ∃ (i : Nat) (own : Roles) (zs : List Value) (Zs : List (List Value)), i ≤ N ∧ iv = .int .i64 (i : Nat) ∧ OwS w wr own db cb s 120 tl (.slice A11 nl c11) (.slice B9 4 c9) (.slice B10 N c10) ns ls Ls ∧ OwnRow w wr own .arm 1 (.slice B19 N c19) N (namesV WB) ∧ OwnRow w wr own .disk 1 v23 i zs ∧ Fam w wr own .chg zs Zs ∧ zs.length = i ∧ ∀ j b, j < i → WB[j]? = some b → Zs[j]? = some (List.replicate b.length (mkv j) ++ [mk1 j])) (fun _ iv _ => N - (intOf iv).toNat)
    case atStart => exact ⟨0, own2, [], [], Nat.zero_le _, rfl, HOS4.out, HR19.out, OwnRow.nil _ _ _ _ _, Fam.nil _ _ _ _, rfl, fun j b h => by omega⟩
    case round =>
      obtain ⟨i, own, zs, Zs, hi, rfl, hos, hr19, hr23, hfz, hzl, hZs⟩ := hrel
      have HO := Lib.hid hos
      have H19 := Lib.hid hr19
      have H23 := Lib.hid hr23
      have HF := Lib.hid hfz
      have HZL := Lib.hid hzl
      have HZS := Lib.hid hZs
      obtain ⟨B23, c23, rfl⟩ := hr23.form
      obtain ⟨wp, rfl⟩ : ∃ wp : World, wp = wr := ⟨_, rfl⟩
      clear hos hr19 hr23 hfz hzl hZs
      by_cases hlt : i < N
      · have hlti : (i : Int) < (N : Int) := by omega
        obtain ⟨v, hv⟩ : ∃ v, ls[i]? = some v := ⟨_, List.getElem?_eq_getElem (by rw [← HN.out]; exact hlt)⟩
        obtain ⟨b, hb⟩ : ∃ b, WB[i]? = some b := ⟨_, List.getElem?_eq_getElem (by rw [HWL.out]; exact hlt)⟩
        have hL := HLS.out i b hb
        have hrow := HO.out.f10.row i v _ hv hL
        rw [List.length_replicate] at hrow
        obtain ⟨Ai, ci, rfl, _, _, _, _⟩ := hrow.row.form
        have hmx : b.length ≤ 1048576 := HWBL.out b (List.mem_of_getElem? hb)
        obtain ⟨g10, o10, hA10, hg10, _, d10⟩ := (show OwnRow w wp own .lasts 1 (.slice B10 N c10) N ls by have h := HO.out.r10; rw [← HN.out] at h; exact h).at hv
        subst hA10
        obtain ⟨n, hn⟩ : ∃ n, n = b.length := ⟨_, rfl⟩
        rw [← hn] at hrow hv hL hmx d10
        have HV := Lib.hid hv
        have HL := Lib.hid hL
        have HROW := Lib.hid hrow
        have HNB2 := Lib.hid hn
        have HBB := Lib.hid hb
        have hws := HO.out.two.bel.size
        have hw3 : IntKind.i64.wrap (3 * (i : Int)) = 3 * (i : Int) := IntWalk.i64_in _ (by omega)
        have hw4 : IntKind.i64.wrap (3 * (i : Int) + 1) = 3 * (i : Int) + 1 := IntWalk.i64_in _ (by omega)
        have hi480 : i ≤ 480 := by omega
        clear hrow hv hL hn hb hg10
        go_wp2_with (first
          | (have hmid := HO5.out; at_builtin; go_must (refine wpList_app _ rfl (.tmp 137) (.tmp 148) 45 45 rfl w.heap.size 22 i0 (.slice none 0 0) 1 24 Try.underlying45 hi0 iz0 iz1 iz2 rfl (.slice B23 i c23) i zs rfl (H235.out.row.alloc _) _ 1 [.slice A5 (n + 1) c5] rfl (Src.built [.slice A5 (n + 1) c5] 22 Try.underlying45 rfl (by intro u hu; simp only [List.mem_cons, List.not_mem_nil, or_false] at hu; rcases hu with rfl; rfl)) (by omega) (by omega) (by omega) (by simp; omega) ?_; intro v23' w6 hr6 hg6 ho6))
          | (at_builtin; go_must (refine wpList_app2 _ rfl (.tmp 141) (.tmp 146) 22 22 rfl w.heap.size 5 k0 (.int .u8 0) 1 1 Try.underlying22 hk0 kz0 kz1 kz2 rfl (.slice Ai n ci) n (List.replicate n (mkv i)) rfl (HROW.out.row.alloc _) _ 1 [mk1 i] rfl (Src.built [mk1 i] 5 Try.underlying22 rfl (by intro u hu; simp only [List.mem_cons, List.not_mem_nil, or_false] at hu; rcases hu with rfl; rfl)) (by omega) (by omega) (by omega) (by simp; omega) ?_; intro v5 w5 hr5 hg5 ho5 hold5; have hch5 : Chg (fun k => (Value.slice Ai n ci).ownBlock = some k) wp w5 := ((Chg.refl _ _).alloc _).grown hg5 (fun k _ e => e); obtain ⟨ho5s, hl5⟩ := HO.out.ext2 HV.out HL.out hch5 (by rw [List.length_replicate]; exact hold5); have H195 := Lib.hid (H19.out.keep hl5 (by simp)); have H235 := Lib.hid (H23.out.keep hl5 (by simp)); have HF5 := Lib.hid (HF.out.keepLt hl5 (fun j hj e => by have := chg_inj _ _ e; rw [HZL.out] at hj; omega)); have hz5 := HROW.out.push hch5 hr5 (own_new ho5); have HO5 := Lib.hid ho5s; have HZ5 := Lib.hid hz5; obtain ⟨A5, c5, rfl, _, _, _, _⟩ := hr5.form; have hws5 := ho5s.two.bel.size; clear hr5 hg5 ho5 hold5 hch5 ho5s hl5 hz5))
          | fail)
        obtain ⟨own5, hown5⟩ : ∃ own5, own5 = grow own wp.heap.size w5.heap.size (fun _ => Role.chg i) := ⟨_, rfl⟩
        rw [← hown5] at HO5 H195 H235 HF5 HZ5
        have hch6 : Chg (fun k => (Value.slice B23 i c23).ownBlock = some k) w5 w6 := ((Chg.refl _ _).alloc _).grown hg6 (fun k _ e => e)
        have hl6 : Lies own5 (grow own5 w5.heap.size w6.heap.size (fun _ => .disk)) (fun r => r = .disk) w5 w6 := push_lies hch6 H235.out.role (fun _ => .disk)
        go_roundw
        case rel => exact ⟨i + 1, _, _, _, by omega, by go_num, HO5.out.side hch6 H235.out.role (by simp) (by simp) (by simp) (by simp) (by simp) (fun _ => .disk), H195.out.keep hl6 (by simp), H235.out.push hch6 hr6 (own_new ho6), Fam.snoc (L := List.replicate n (mkv i) ++ [mk1 i]) (HF5.out.keep hl6 (by simp)) (by rw [HZL.out, List.length_append, List.length_replicate]; exact HZ5.out.keep hl6 (by simp)), by rw [List.length_append, HZL.out]; rfl, fun j b' hj hb' => by
          have hfl := HF.out.len
          rw [HZL.out] at hfl
          by_cases hji : j < i
          · rw [List.getElem?_append_left (by omega)]; exact HZS.out j b' hji hb'
          · obtain rfl : j = i := by omega
            have := HBB.out
            rw [hb'] at this
            injection this with this
            subst this
            rw [List.getElem?_append_right (by omega), hfl, Nat.sub_self, ← HNB2.out]; rfl⟩
        case measure => simp [intOf]; omega
      · obtain rfl : i = N := by omega
        have hnlti : ¬ (i : Int) < (i : Int) := by omega
        go_wp2
        go_meet
        exact ⟨own, zs, Zs, HO.out, H19.out, H23.out, HF.out, HZL.out, fun j b hb => HZS.out j b (by rw [← HWL.out]; exact (List.getElem?_eq_some_iff.1 hb).1) hb⟩
  case rest =>
  obtain ⟨own3, zs, Zs, hos, hr19, hr23, hfz, hzl, hZs⟩ := hcut
  have HOS5 := Lib.hid hos
  have H19 := Lib.hid hr19
  have HFZ := Lib.hid hfz
  have HZL := Lib.hid hzl
  have HZS := Lib.hid hZs
  have H23 := Lib.hid hr23
  obtain ⟨B23, c23, rfl⟩ := hr23.form
  obtain ⟨wt, rfl⟩ : ∃ wt : World, wt = wc := ⟨_, rfl⟩
  have HLI : Hid (∀ i b, WB[i]? = some b → ∃ v, ls[i]? = some v ∧ OwnRow w wt own3 (.chg i) 1 v b.length (List.replicate b.length (mkv i))) := Lib.hid (fun i b hb => by
    have hi := (List.getElem?_eq_some_iff.1 hb).1
    obtain ⟨v, hv⟩ : ∃ v, ls[i]? = some v := ⟨_, List.getElem?_eq_getElem (by rw [← HN.out, ← HWL.out]; exact hi)⟩
    have h := HOS5.out.f10.row i _ _ hv (HLS.out i b hb)
    rw [List.length_replicate] at h
    exact ⟨_, hv, h⟩)
  have HZI : Hid (∀ i b, WB[i]? = some b → ∃ v, zs[i]? = some v ∧ OwnRow w wt own3 (.chg i) 1 v (b.length + 1) (List.replicate b.length (mkv i) ++ [mk1 i])) := Lib.hid (fun i b hb => by
    have hi := (List.getElem?_eq_some_iff.1 hb).1
    obtain ⟨v, hv⟩ : ∃ v, zs[i]? = some v := ⟨_, List.getElem?_eq_getElem (by rw [HZL.out, ← HWL.out]; exact hi)⟩
    have h := HFZ.out.row i _ _ hv (HZS.out i b hb)
    rw [List.length_append, List.length_replicate] at h
    exact ⟨_, hv, h⟩)
  have HL10 : Hid (OwnRow w wt own3 .lasts 1 (.slice B10 N c10) N ls) := Lib.hid (by have h := HOS5.out.r10; rw [← HN.out] at h; exact h)
  clear hos hr19 hfz hzl hZs HOS4 HR19 hr23
  go_upto_block 12 with (fail)
  go_cut [] from 150 to 204 (fun wx => Below wt.heap.size wt wx)
  case first =>
    go_wp2
    go_loopw [25] (fun iv wr => ∃ (i : Nat), i ≤ N ∧ iv = .int .i64 (i : Nat) ∧ Below wt.heap.size wt wr) (fun iv _ => N - (intOf iv).toNat)
    case atStart => exact ⟨0, Nat.zero_le _, rfl, Below.refl _ _⟩
    case round =>
      obtain ⟨i, hi, rfl, hbw⟩ := hrel
      have HBW := Lib.hid hbw
      obtain ⟨wp, rfl⟩ : ∃ wp : World, wp = wr := ⟨_, rfl⟩
      clear hbw
      by_cases hlt : i < N
      · have hlti : (i : Int) < (N : Int) := by omega
        obtain ⟨b, hb⟩ : ∃ b, WB[i]? = some b := ⟨_, List.getElem?_eq_getElem (by rw [HWL.out]; exact hlt)⟩
        obtain ⟨v, hv, hrow⟩ := HLI.out i b hb
        obtain ⟨z, hz, hrowz⟩ := HZI.out i b hb
        have hmx : b.length ≤ 1048576 := HWBL.out b (List.mem_of_getElem? hb)
        obtain ⟨n, hn⟩ : ∃ n, n = b.length := ⟨_, rfl⟩
        rw [← hn] at hrow hrowz hmx
        obtain ⟨Ai, ci, rfl⟩ := hrow.form
        obtain ⟨Az, cz, rfl⟩ := hrowz.form
        obtain ⟨g10, o10, hA10, hg10, _, d10⟩ := HL10.out.at hv
        obtain ⟨g23, o23, hA23, hg23, _, d23⟩ := H23.out.at hz
        subst hA10 hA23
        have hlast : (List.replicate n (mkv i) ++ [mk1 i])[n]? = some (mk1 i) := by rw [List.getElem?_append_right (by simp), List.length_replicate, Nat.sub_self]; rfl
        obtain ⟨gz, oz, hAz, hgz, _, dz⟩ := hrowz.at hlast
        subst hAz
        have HRI := Lib.hid hrow
        have HRZ := Lib.hid hrowz
        have HDS : Hid (∀ W, Below wt.heap.size wt W → W.cell? ⟨g10, o10 + i, none⟩ = some (.slice Ai n ci) ∧ W.cell? ⟨g23, o23 + i, none⟩ = some (.slice (some ⟨gz, oz, none⟩) (n + 1) cz) ∧ W.cell? ⟨gz, oz + n, none⟩ = some (mk1 i)) := Lib.hid (fun W hb => ⟨(hb.cell (p := ⟨g10, o10 + i, none⟩) hg10).trans d10, (hb.cell (p := ⟨g23, o23 + i, none⟩) hg23).trans d23, (hb.cell (p := ⟨gz, oz + n, none⟩) hgz).trans dz⟩)
        have hw3 : IntKind.i64.wrap (3 * (i : Int)) = 3 * (i : Int) := IntWalk.i64_in _ (by omega)
        have hw4 : IntKind.i64.wrap (3 * (i : Int) + 1) = 3 * (i : Int) + 1 := IntWalk.i64_in _ (by omega)
        have hi480 : i ≤ 480 := by omega
        clear hrow hrowz hv hz hn hb d10 d23 dz hlast hg10 hg23 hgz
        go_wp2
        go_loopw [26] (fun kv wq => ∃ (k : Nat), k ≤ n ∧ kv = .int .i64 (k : Nat) ∧ Below wt.heap.size wt wq) (fun kv _ => n - (intOf kv).toNat)
        case atStart => exact ⟨0, Nat.zero_le _, rfl, HBW.out⟩
        case round =>
          obtain ⟨k, hk, rfl, hbq⟩ := hrel
          have HBQ := Lib.hid hbq
          obtain ⟨wq, rfl⟩ : ∃ wq : World, wq = wr := ⟨_, rfl⟩
          obtain ⟨y1, y2, y3⟩ := HDS.out _ hbq
          by_cases hkn : k < n
          · have hkni : (k : Int) < (n : Int) := by omega
            have hrk : (List.replicate n (mkv i))[k]? = some (mkv i) := by rw [List.getElem?_replicate, if_pos hkn]
            obtain ⟨gi, oi, hAi, hgi, _, di⟩ := HRI.out.at hrk
            subst hAi
            obtain ⟨gz', oz', hAz', hgz', _, dz'⟩ := HRZ.out.at (i := k) (u := mkv i) (by rw [List.getElem?_append_left (by simpa using hkn)]; exact hrk)
            injection hAz' with hAz'
            injection hAz' with q1 q2 _
            subst q1 q2
            have y4 := (hbq.cell (p := ⟨gi, oi + k, none⟩) hgi).trans di
            have y5 := (hbq.cell (p := ⟨gz, oz + k, none⟩) hgz').trans dz'
            unfold mkv at y4 y5
            clear hbq hrk di dz' hgi hgz'
            go_wp2
            go_roundw
            case rel => exact ⟨k + 1, by omega, by go_num, HBQ.out⟩
            case measure => simp [intOf]; omega
          · obtain rfl : k = n := by omega
            have hknt : ¬ (k : Int) < (k : Int) := by omega
            clear hbq
            go_upto_region 48 with (fail)
            have HDQ := Lib.hid (HDS.out wq.drew HBQ.out.drew)
            have HBD := Lib.hid (show Below wt.heap.size wt wq.drew from HBQ.out.drew)
            refine wp_region_held_drew (S := (fun W => W.cell? ⟨g10, o10 + i, none⟩ = some (.slice Ai k ci) ∧ W.cell? ⟨g23, o23 + i, none⟩ = some (.slice (some ⟨gz, oz, none⟩) (k + 1) cz) ∧ W.cell? ⟨gz, oz + k, none⟩ = some (.int .u8 ((3 * (i : Int) + 1) % 256)))) (by as_aux_lemma => kernel_rfl) ?_ (fun hHeld => ?_)
            · exact HDQ.out
            have hw5 : IntKind.u8.wrap (3 * (i : Int) + 1) = (3 * (i : Int) + 1) % 256 := IntKind.wrap_u8 _
            have hkk : (k : Int) < (k : Int) + 1 := by omega
            clear y1 y2 y3
            generalize wq.drew = wd at *
            refine wpAnyH_take (i := 0) (v := ?_) (by simp only [List.getElem?_toArray, List.getElem?_cons_zero]; exact rfl) (by as_aux_lemma => kernel_rfl) (by as_aux_lemma => kernel_rfl) (by as_aux_lemma => kernel_rfl) (by exact fun _ _ _ h => h) (Or.inl ⟨by rfl, ?_⟩) (by assumption) ?_
            rotate_left
            · intro w hSw
              (try dsimp only at hSw)
              go_simp
              try with_reducible rfl
            (try simp only [Act.put, List.setIfInBounds_toArray, List.set_cons_zero, List.set_cons_succ])
            refine wpAnyH_take (i := 1) (v := ?_) (by simp only [List.getElem?_toArray, List.getElem?_cons_succ, List.getElem?_cons_zero]; exact rfl) (by as_aux_lemma => kernel_rfl) (by as_aux_lemma => kernel_rfl) (by as_aux_lemma => kernel_rfl) (by exact fun _ _ _ h => h) (Or.inl ⟨by rfl, ?_⟩) (by assumption) ?_
            rotate_left
            · intro w hSw
              (try dsimp only at hSw)
              go_simp
              try with_reducible rfl
            (try simp only [Act.put, List.setIfInBounds_toArray, List.set_cons_zero, List.set_cons_succ])
            refine wpAnyH_take (i := 2) (v := ?_) (by simp only [List.getElem?_toArray, List.getElem?_cons_succ, List.getElem?_cons_zero]; exact rfl) (by as_aux_lemma => kernel_rfl) (by as_aux_lemma => kernel_rfl) (by as_aux_lemma => kernel_rfl) (by exact fun _ _ _ h => h) (Or.inl ⟨by rfl, ?_⟩) (by assumption) ?_
            rotate_left
            · intro w hSw
              (try dsimp only at hSw)
              go_simp
              try with_reducible rfl
            (try simp only [Act.put, List.setIfInBounds_toArray, List.set_cons_zero, List.set_cons_succ])
            refine wpAnyH_take (i := 3) (v := ?_) (by simp only [List.getElem?_toArray, List.getElem?_cons_succ, List.getElem?_cons_zero]; exact rfl) (by as_aux_lemma => kernel_rfl) (by as_aux_lemma => kernel_rfl) (by as_aux_lemma => kernel_rfl) (by exact fun _ _ _ h => h) (Or.inl ⟨by rfl, ?_⟩) (by assumption) ?_
            rotate_left
            · intro w hSw
              (try dsimp only at hSw)
              go_simp
              try with_reducible rfl
            (try simp only [Act.put, List.setIfInBounds_toArray, List.set_cons_zero, List.set_cons_succ])
            refine wpAnyH_take (i := 4) (v := ?_) (by simp only [List.getElem?_toArray, List.getElem?_cons_succ, List.getElem?_cons_zero]; exact rfl) (by as_aux_lemma => kernel_rfl) (by as_aux_lemma => kernel_rfl) (by as_aux_lemma => kernel_rfl) (by exact fun _ _ _ h => h) (Or.inl ⟨by rfl, ?_⟩) (by assumption) ?_
            rotate_left
            · intro w hSw
              (try dsimp only at hSw)
              go_simp
              try with_reducible rfl
            (try simp only [Act.put, List.setIfInBounds_toArray, List.set_cons_zero, List.set_cons_succ])
            refine wpAnyH_take (i := 5) (v := ?_) (by simp only [List.getElem?_toArray, List.getElem?_cons_succ, List.getElem?_cons_zero]; exact rfl) (by as_aux_lemma => kernel_rfl) (by as_aux_lemma => kernel_rfl) (by as_aux_lemma => kernel_rfl) (by exact fun _ _ _ h => h) (Or.inl ⟨by rfl, ?_⟩) (by assumption) ?_
            rotate_left
            · intro w hSw
              (try dsimp only at hSw)
              go_simp
              try with_reducible rfl
            (try simp only [Act.put, List.setIfInBounds_toArray, List.set_cons_zero, List.set_cons_succ])
            refine wpAnyH_take (i := 6) (v := ?_) (by simp only [List.getElem?_toArray, List.getElem?_cons_succ, List.getElem?_cons_zero]; exact rfl) (by as_aux_lemma => kernel_rfl) (by as_aux_lemma => kernel_rfl) (by as_aux_lemma => kernel_rfl) (by exact fun _ _ _ h => h) (Or.inl ⟨by rfl, ?_⟩) (by assumption) ?_
            rotate_left
            · intro w hSw
              (try dsimp only at hSw)
              go_simp
              try with_reducible rfl
            (try simp only [Act.put, List.setIfInBounds_toArray, List.set_cons_zero, List.set_cons_succ])
            refine wpAnyH_take (i := 7) (v := ?_) (by simp only [List.getElem?_toArray, List.getElem?_cons_succ, List.getElem?_cons_zero]; exact rfl) (by as_aux_lemma => kernel_rfl) (by as_aux_lemma => kernel_rfl) (by as_aux_lemma => kernel_rfl) (by exact fun _ _ _ h => h) (Or.inl ⟨by rfl, ?_⟩) (by assumption) ?_
            rotate_left
            · intro w hSw
              (try dsimp only at hSw)
              go_simp
              try with_reducible rfl
            (try simp only [Act.put, List.setIfInBounds_toArray, List.set_cons_zero, List.set_cons_succ])
            refine wpAnyH_take (i := 8) (v := ?_) (by simp only [List.getElem?_toArray, List.getElem?_cons_succ, List.getElem?_cons_zero]; exact rfl) (by as_aux_lemma => kernel_rfl) (by as_aux_lemma => kernel_rfl) (by as_aux_lemma => kernel_rfl) (by exact fun _ _ _ h => h) (Or.inl ⟨by rfl, ?_⟩) (by assumption) ?_
            rotate_left
            · intro w hSw
              (try dsimp only at hSw)
              go_simp
              try with_reducible rfl
            (try simp only [Act.put, List.setIfInBounds_toArray, List.set_cons_zero, List.set_cons_succ])
            refine wpAnyH_take (i := 9) (v := ?_) (by simp only [List.getElem?_toArray, List.getElem?_cons_succ, List.getElem?_cons_zero]; exact rfl) (by as_aux_lemma => kernel_rfl) (by as_aux_lemma => kernel_rfl) (by as_aux_lemma => kernel_rfl) (by exact fun _ _ _ h => h) (Or.inl ⟨by rfl, ?_⟩) (by assumption) ?_
            rotate_left
            · intro w hSw
              (try dsimp only at hSw)
              go_simp
              try with_reducible rfl
            (try simp only [Act.put, List.setIfInBounds_toArray, List.set_cons_zero, List.set_cons_succ])
            refine wpAnyH_take (i := 10) (v := ?_) (by simp only [List.getElem?_toArray, List.getElem?_cons_succ, List.getElem?_cons_zero]; exact rfl) (by as_aux_lemma => kernel_rfl) (by as_aux_lemma => kernel_rfl) (by as_aux_lemma => kernel_rfl) (by exact fun _ _ _ h => h) (Or.inl ⟨by rfl, ?_⟩) (by assumption) ?_
            rotate_left
            · intro w hSw
              (try dsimp only at hSw)
              go_simp
              try with_reducible rfl
            (try simp only [Act.put, List.setIfInBounds_toArray, List.set_cons_zero, List.set_cons_succ])
            refine wpAnyH_take (i := 11) (v := ?_) (by simp only [List.getElem?_toArray, List.getElem?_cons_succ, List.getElem?_cons_zero]; exact rfl) (by as_aux_lemma => kernel_rfl) (by as_aux_lemma => kernel_rfl) (by as_aux_lemma => kernel_rfl) (by exact fun _ _ _ h => h) (Or.inl ⟨by rfl, ?_⟩) (by assumption) ?_
            rotate_left
            · intro w hSw
              (try dsimp only at hSw)
              go_simp
              try with_reducible rfl
            (try simp only [Act.put, List.setIfInBounds_toArray, List.set_cons_zero, List.set_cons_succ])
            refine wpAnyH_take (i := 12) (v := ?_) (by simp only [List.getElem?_toArray, List.getElem?_cons_succ, List.getElem?_cons_zero]; exact rfl) (by as_aux_lemma => kernel_rfl) (by as_aux_lemma => kernel_rfl) (by as_aux_lemma => kernel_rfl) (by exact fun _ _ _ h => h) (Or.inl ⟨by rfl, ?_⟩) (by assumption) ?_
            rotate_left
            · intro w hSw
              (try dsimp only at hSw)
              go_simp
              try with_reducible rfl
            (try simp only [Act.put, List.setIfInBounds_toArray, List.set_cons_zero, List.set_cons_succ])
            refine wpAnyH_take (i := 13) (v := ?_) (by simp only [List.getElem?_toArray, List.getElem?_cons_succ, List.getElem?_cons_zero]; exact rfl) (by as_aux_lemma => kernel_rfl) (by as_aux_lemma => kernel_rfl) (by as_aux_lemma => kernel_rfl) (by exact fun _ _ _ h => h) (Or.inl ⟨by rfl, ?_⟩) (by assumption) ?_
            rotate_left
            · intro w hSw
              (try dsimp only at hSw)
              go_simp
              try with_reducible rfl
            (try simp only [Act.put, List.setIfInBounds_toArray, List.set_cons_zero, List.set_cons_succ])
            refine wpAnyH_take (i := 14) (v := ?_) (by simp only [List.getElem?_toArray, List.getElem?_cons_succ, List.getElem?_cons_zero]; exact rfl) (by as_aux_lemma => kernel_rfl) (by as_aux_lemma => kernel_rfl) (by as_aux_lemma => kernel_rfl) (by exact fun _ _ _ h => h) (Or.inl ⟨by rfl, ?_⟩) (by assumption) ?_
            rotate_left
            · intro w hSw
              (try dsimp only at hSw)
              go_simp
              try with_reducible rfl
            (try simp only [Act.put, List.setIfInBounds_toArray, List.set_cons_zero, List.set_cons_succ])
            refine wpAnyH_take (i := 15) (v := ?_) (by simp only [List.getElem?_toArray, List.getElem?_cons_succ, List.getElem?_cons_zero]; exact rfl) (by as_aux_lemma => kernel_rfl) (by as_aux_lemma => kernel_rfl) (by as_aux_lemma => kernel_rfl) (by exact fun _ _ _ h => h) (Or.inl ⟨by rfl, ?_⟩) (by assumption) ?_
            rotate_left
            · intro w hSw
              (try dsimp only at hSw)
              go_simp
              try with_reducible rfl
            (try simp only [Act.put, List.setIfInBounds_toArray, List.set_cons_zero, List.set_cons_succ])
            refine wpAnyH_done (by as_aux_lemma => kernel_rfl) ?_ _
            clear hHeld
            go_wp2
            go_roundw
            case rel => exact ⟨i + 1, by omega, by go_num, HBD.out⟩
            case measure => simp [intOf]; omega
      · obtain rfl : i = N := by omega
        have hnlti : ¬ (i : Int) < (i : Int) := by omega
        go_wp2
        go_meet
        exact HBW.out
  case rest =>
  have hbw := hcut
  have hlw : Lies own3 own3 (fun _ => False) wt wc := below_lies hbw
  have HNM0 : Hid (Nms w wc own3 db cb s tl (.slice A11 nl c11) (.slice B19 N c19) (.slice B9 4 c9) WB ns ns 0) := Lib.hid ⟨HOS5.out.two.past hbw, HOS5.out.r11.keep hlw id, by have h := H19.out.keep hlw id; rw [← HWL.out] at h ⊢; exact h, by have h := HOS5.out.r9.keep hlw id; rw [HNS.out] at h; exact h, fun j v _ hv => ⟨hv, by
    have hj := (List.getElem?_eq_some_iff.1 hv).1
    have h := HOS5.out.f9.row j v (namesV tl) hv (by rw [List.getElem?_replicate, if_pos hj])
    rw [namesV_len] at h
    exact h.keep hlw id⟩⟩
  clear hbw hlw HOS5 HFZ HZS H23 HLI HZI HL10 HLS H19 hcut
  go_upto_block 16 with (fail)
  go_cut [] from 205 to 254 (fun wx => ∃ own, Two w wx own db cb s 120 ∧ OwnRow w wx own .moves 1 (.slice A11 nl c11) nl (namesV tl) ∧ OwnRow w wx own .arm 1 (.slice B19 N c19) N (namesV WB))
  case first =>
    obtain ⟨k0, hk0, kz0, kz1, kz2⟩ := info_parts infoStr
    go_wp2
    go_loopw [27] (fun iv wr => ∃ (i : Nat) (own : Roles) (ns' : List Value), i ≤ 4 ∧ iv = .int .i64 (i : Nat) ∧ Nms w wr own db cb s tl (.slice A11 nl c11) (.slice B19 N c19) (.slice B9 4 c9) WB ns ns' i) (fun iv _ => 4 - (intOf iv).toNat)
    case atStart => exact ⟨0, own3, ns, by omega, rfl, HNM0.out⟩
    case round =>
      obtain ⟨i, own, ns', hi, rfl, hnm⟩ := hrel
      have HM0 := Lib.hid hnm
      obtain ⟨wp, rfl⟩ : ∃ wp : World, wp = wr := ⟨_, rfl⟩
      clear hnm
      by_cases hlt : i < 4
      · have hlti : (i : Int) < 4 := by omega
        obtain ⟨v, hv⟩ : ∃ v, ns[i]? = some v := ⟨_, List.getElem?_eq_getElem (by rw [HNS.out]; exact hlt)⟩
        obtain ⟨hv', hrow⟩ := HM0.out.els i v (Nat.le_refl _) hv
        rw [← HNL.out] at hrow
        obtain ⟨Ai, ci, rfl⟩ := hrow.form
        obtain ⟨g9, o9, hA9, hg9, _, d9⟩ := HM0.out.r9.at hv'
        subst hA9
        have HROW := Lib.hid hrow
        have HV' := Lib.hid hv'
        have HV := Lib.hid hv
        clear hrow hv hv' hg9
        go_wp2
        go_loopw [28] (fun kv wq => ∃ (k : Nat), k ≤ nl ∧ kv = .int .i64 (k : Nat) ∧ Nms w wq own db cb s tl (.slice A11 nl c11) (.slice B19 N c19) (.slice (some ⟨g9, o9, none⟩) 4 c9) WB ns ns' (i + 1) ∧ OwnRow w wq own (.file i) 1 (.slice Ai nl ci) nl (List.replicate k gone ++ (namesV tl).drop k)) (fun kv _ => nl - (intOf kv).toNat)
        case atStart => exact ⟨0, Nat.zero_le _, rfl, { HM0.out with els := fun j v hj => HM0.out.els j v (by omega) }, HROW.out⟩
        case round =>
          obtain ⟨k, hk, rfl, hnm, hrow⟩ := hrel
          have HM := Lib.hid hnm
          have HRW := Lib.hid hrow
          obtain ⟨wq, rfl⟩ : ∃ wq : World, wq = wr := ⟨_, rfl⟩
          obtain ⟨_, _, hA9', hg9, _, d9q⟩ := hnm.r9.at HV'.out
          injection hA9' with hA9'
          injection hA9' with q1 q2 _
          subst q1 q2
          have hlen : (List.replicate k gone ++ (namesV tl).drop k).length = nl := by rw [List.length_append, List.length_replicate, List.length_drop, namesV_len, ← HNL.out]; omega
          have HLEN := Lib.hid hlen
          clear hnm hlen d9
          by_cases hkn : k < nl
          · have hkni : (k : Int) < (nl : Int) := by omega
            obtain ⟨gi, oi, e, hgw, hgl, hcell, hfr⟩ := hrow.row.own (by omega)
            subst e
            have hkt : k < tl.length := by rw [← HNL.out]; exact hkn
            have d1 : wq.cell? ⟨gi, oi + k, none⟩ = some (.string ⟨tl[k].toArray⟩) := hcell k _ (by rw [List.getElem?_append_right (by simp), List.length_replicate, Nat.sub_self, List.getElem?_drop, Nat.add_zero]; exact namesV_get hkt)
            have f1 := hfr k (by rw [HLEN.out]; exact hkn)
            obtain ⟨g8, o8, hA8, hg8, _, d8⟩ := (show OwnRow w wq own .moves 1 (.slice A11 nl c11) nl (namesV tl) by have h := HM.out.r11; rw [← HNL.out] at h; exact h).at (namesV_get hkt)
            obtain ⟨nm, hnm⟩ : ∃ nm, nm = tl[k] := ⟨_, rfl⟩
            rw [← hnm] at d1 d8
            subst hA8
            clear hnm hkt hrow hcell hfr hgw hg8
            have HS0 : Hid (wq.drew.cell? ⟨g9, o9 + i, none⟩ = some (.slice (some ⟨gi, oi, none⟩) nl ci) ∧ wq.drew.cell? ⟨gi, oi + k, none⟩ = some (.string ⟨nm.toArray⟩) ∧ wq.drew.cell? ⟨g8, o8 + k, none⟩ = some (.string ⟨nm.toArray⟩)) := Lib.hid ⟨d9q, d1, d8⟩
            have HFR : Hid (wq.drew.frozen? ⟨gi, oi + k, none⟩ = false) := Lib.hid f1
            have HB : Hid (Below wq.heap.size wq wq.drew) := Lib.hid (Below.refl _ _).drew
            go_upto_region 58 with (fail)
            refine wp_region_held_drew (S := (fun W => W.cell? ⟨g9, o9 + i, none⟩ = some (.slice (some ⟨gi, oi, none⟩) nl ci) ∧ W.cell? ⟨gi, oi + k, none⟩ = some (.string ⟨nm.toArray⟩) ∧ W.cell? ⟨g8, o8 + k, none⟩ = some (.string ⟨nm.toArray⟩))) (by as_aux_lemma => kernel_rfl) ?_ (fun hHeld => ?_)
            · exact HS0.out
            clear d9q d1 d8 f1
            generalize wq.drew = wd at *
            refine wpAnyH_take (i := 0) (v := ?_) (by simp only [List.getElem?_toArray, List.getElem?_cons_zero]; exact rfl) (by as_aux_lemma => kernel_rfl) (by as_aux_lemma => kernel_rfl) (by as_aux_lemma => kernel_rfl) (by exact fun _ _ _ h => h) (Or.inl ⟨by rfl, ?_⟩) (by assumption) ?_
            rotate_left
            · intro w hSw
              (try dsimp only at hSw)
              go_simp
              try with_reducible rfl
            (try simp only [Act.put, List.setIfInBounds_toArray, List.set_cons_zero, List.set_cons_succ])
            refine wpAnyH_take (i := 1) (v := ?_) (by simp only [List.getElem?_toArray, List.getElem?_cons_succ, List.getElem?_cons_zero]; exact rfl) (by as_aux_lemma => kernel_rfl) (by as_aux_lemma => kernel_rfl) (by as_aux_lemma => kernel_rfl) (by exact fun _ _ _ h => h) (Or.inl ⟨by rfl, ?_⟩) (by assumption) ?_
            rotate_left
            · intro w hSw
              (try dsimp only at hSw)
              go_simp
              try with_reducible rfl
            (try simp only [Act.put, List.setIfInBounds_toArray, List.set_cons_zero, List.set_cons_succ])
            refine wpAnyH_take (i := 2) (v := ?_) (by simp only [List.getElem?_toArray, List.getElem?_cons_succ, List.getElem?_cons_zero]; exact rfl) (by as_aux_lemma => kernel_rfl) (by as_aux_lemma => kernel_rfl) (by as_aux_lemma => kernel_rfl) (by exact fun _ _ _ h => h) (Or.inl ⟨by rfl, ?_⟩) (by assumption) ?_
            rotate_left
            · intro w hSw
              (try dsimp only at hSw)
              go_simp
              try with_reducible rfl
            (try simp only [Act.put, List.setIfInBounds_toArray, List.set_cons_zero, List.set_cons_succ])
            refine wpAnyH_take (i := 3) (v := ?_) (by simp only [List.getElem?_toArray, List.getElem?_cons_succ, List.getElem?_cons_zero]; exact rfl) (by as_aux_lemma => kernel_rfl) (by as_aux_lemma => kernel_rfl) (by as_aux_lemma => kernel_rfl) (by exact fun _ _ _ h => h) (Or.inl ⟨by rfl, ?_⟩) (by assumption) ?_
            rotate_left
            · intro w hSw
              (try dsimp only at hSw)
              go_simp
              try with_reducible rfl
            (try simp only [Act.put, List.setIfInBounds_toArray, List.set_cons_zero, List.set_cons_succ])
            refine wpAnyH_take (i := 4) (v := ?_) (by simp only [List.getElem?_toArray, List.getElem?_cons_succ, List.getElem?_cons_zero]; exact rfl) (by as_aux_lemma => kernel_rfl) (by as_aux_lemma => kernel_rfl) (by as_aux_lemma => kernel_rfl) (by exact fun _ _ _ h => h) (Or.inl ⟨by rfl, ?_⟩) (by assumption) ?_
            rotate_left
            · intro w hSw
              (try dsimp only at hSw)
              go_simp
              try with_reducible rfl
            (try simp only [Act.put, List.setIfInBounds_toArray, List.set_cons_zero, List.set_cons_succ])
            refine wpAnyH_take (i := 5) (v := ?_) (by simp only [List.getElem?_toArray, List.getElem?_cons_succ, List.getElem?_cons_zero]; exact rfl) (by as_aux_lemma => kernel_rfl) (by as_aux_lemma => kernel_rfl) (by as_aux_lemma => kernel_rfl) (by exact fun _ _ _ h => h) (Or.inl ⟨by rfl, ?_⟩) (by assumption) ?_
            rotate_left
            · intro w hSw
              (try dsimp only at hSw)
              go_simp
              try with_reducible rfl
            (try simp only [Act.put, List.setIfInBounds_toArray, List.set_cons_zero, List.set_cons_succ])
            refine wpAnyH_take (i := 6) (v := ?_) (by simp only [List.getElem?_toArray, List.getElem?_cons_succ, List.getElem?_cons_zero]; exact rfl) (by as_aux_lemma => kernel_rfl) (by as_aux_lemma => kernel_rfl) (by as_aux_lemma => kernel_rfl) (by exact fun _ _ _ h => h) (Or.inl ⟨by rfl, ?_⟩) (by assumption) ?_
            rotate_left
            · intro w hSw
              (try dsimp only at hSw)
              go_simp
              try with_reducible rfl
            (try simp only [Act.put, List.setIfInBounds_toArray, List.set_cons_zero, List.set_cons_succ])
            refine wpAnyH_take (i := 7) (v := ?_) (by simp only [List.getElem?_toArray, List.getElem?_cons_succ, List.getElem?_cons_zero]; exact rfl) (by as_aux_lemma => kernel_rfl) (by as_aux_lemma => kernel_rfl) (by as_aux_lemma => kernel_rfl) (by exact fun _ _ _ h => h) (Or.inl ⟨by rfl, ?_⟩) (by assumption) ?_
            rotate_left
            · intro w hSw
              (try dsimp only at hSw)
              go_simp
              try with_reducible rfl
            (try simp only [Act.put, List.setIfInBounds_toArray, List.set_cons_zero, List.set_cons_succ])
            refine wpAnyH_take (i := 8) (v := ?_) (by simp only [List.getElem?_toArray, List.getElem?_cons_succ, List.getElem?_cons_zero]; exact rfl) (by as_aux_lemma => kernel_rfl) (by as_aux_lemma => kernel_rfl) (by as_aux_lemma => kernel_rfl) (by exact fun _ _ _ h => h) (Or.inl ⟨by rfl, ?_⟩) (by assumption) ?_
            rotate_left
            · intro w hSw
              (try dsimp only at hSw)
              go_simp
              try with_reducible rfl
            (try simp only [Act.put, List.setIfInBounds_toArray, List.set_cons_zero, List.set_cons_succ])
            refine wpAnyH_take (i := 9) (v := ?_) (by simp only [List.getElem?_toArray, List.getElem?_cons_succ, List.getElem?_cons_zero]; exact rfl) (by as_aux_lemma => kernel_rfl) (by as_aux_lemma => kernel_rfl) (by as_aux_lemma => kernel_rfl) (by exact fun _ _ _ h => h) (Or.inl ⟨by rfl, ?_⟩) (by assumption) ?_
            rotate_left
            · intro w hSw
              (try dsimp only at hSw)
              go_simp
              try with_reducible rfl
            (try simp only [Act.put, List.setIfInBounds_toArray, List.set_cons_zero, List.set_cons_succ])
            refine wpAnyH_take (i := 10) (v := ?_) (by simp only [List.getElem?_toArray, List.getElem?_cons_succ, List.getElem?_cons_zero]; exact rfl) (by as_aux_lemma => kernel_rfl) (by as_aux_lemma => kernel_rfl) (by as_aux_lemma => kernel_rfl) (by exact fun _ _ _ h => h) (Or.inl ⟨by rfl, ?_⟩) (by assumption) ?_
            rotate_left
            · intro w hSw
              (try dsimp only at hSw)
              go_simp
              try with_reducible rfl
            (try simp only [Act.put, List.setIfInBounds_toArray, List.set_cons_zero, List.set_cons_succ])
            refine wpAnyH_take (i := 11) (v := ?_) (by simp only [List.getElem?_toArray, List.getElem?_cons_succ, List.getElem?_cons_zero]; exact rfl) (by as_aux_lemma => kernel_rfl) (by as_aux_lemma => kernel_rfl) (by as_aux_lemma => kernel_rfl) (by exact fun _ _ _ h => h) (Or.inl ⟨by rfl, ?_⟩) (by assumption) ?_
            rotate_left
            · intro w hSw
              (try dsimp only at hSw)
              go_simp
              try with_reducible rfl
            (try simp only [Act.put, List.setIfInBounds_toArray, List.set_cons_zero, List.set_cons_succ])
            refine wpAnyH_done (by as_aux_lemma => kernel_rfl) ?_ _
            clear hHeld
            have z1 := HS0.out.1
            have z2 := HS0.out.2.1
            have z3 := HFR.out
            go_wp2
            have hl1 : Lies own own (fun _ => False) wq wd := below_lies HB.out
            have hRd := HRW.out.keep hl1 id
            have hset := hRd.row.set (j := k) (u := gone) (by rw [HLEN.out]; exact hkn)
            rw [show (List.replicate k gone ++ (namesV tl).drop k).set k gone = List.replicate (k + 1) gone ++ (namesV tl).drop (k + 1) from fill_step gone (by rw [namesV_len, ← HNL.out]; exact hkn)] at hset
            have hcg : Chg (fun q => (Value.slice (some ⟨gi, oi, none⟩) nl ci).ownBlock = some q) wd (wd.setCell ⟨gi, oi + k, none⟩ gone) := (show Chg (fun q => (Value.slice (some ⟨gi, oi, none⟩) nl ci).ownBlock = some q) wd wd from Chg.refl _ _).setCell (p := ⟨gi, oi + k, none⟩) (fun _ => rfl) _
            have hl2 : Lies own own (fun r => r = .file i) wd (wd.setCell ⟨gi, oi + k, none⟩ gone) := put_lies hcg hRd.role
            go_roundw
            case rel => exact ⟨k + 1, by omega, by go_num, ⟨(HM.out.two.past HB.out).put hcg hRd.role, (HM.out.r11.keep hl1 id).keep hl2 (by simp), (HM.out.r19.keep hl1 id).keep hl2 (by simp), (HM.out.r9.keep hl1 id).keep hl2 (by simp), fun j v hj hv => ⟨(HM.out.els j v hj hv).1, ((HM.out.els j v hj hv).2.keep hl1 id).keep hl2 (fun e => by have := file_inj _ _ e; omega)⟩⟩, hset, hRd.role⟩
            case measure => simp [intOf]; omega
          · obtain rfl : k = nl := by omega
            have hknt : ¬ (k : Int) < (k : Int) := by omega
            have hrl : (List.replicate k gone ++ (namesV tl).drop k) = List.replicate k gone := by rw [List.drop_of_length_le (by rw [namesV_len, ← HNL.out]; exact Nat.le_refl _), List.append_nil]
            rw [hrl] at hrow
            have HRO := Lib.hid hrow
            have hws := HM.out.two.bel.size
            have f9 := (HM.out.r9.row.own (by omega))
            obtain ⟨g9', o9', e9, _, _, _, hf9⟩ := f9
            injection e9 with e9
            injection e9 with q1 q2 _
            subst q1 q2
            have hns4 : ns'.length = 4 := by have := HM.out.r9.row.1; omega
            have fr9 := hf9 i (by omega)
            have HN4 := Lib.hid hns4
            have HFR9 := Lib.hid fr9
            have HG9 := Lib.hid hg9
            have HD9 := Lib.hid d9q
            clear hrow hrl hf9 hns4
            go_wp2_with (first
              | (at_builtin; go_must (refine wpList_app _ rfl (.tmp 251) (.tmp 252) 53 53 rfl w.heap.size 9 k0 (.string ⟨#[]⟩) 1 16 Try.underlying53 hk0 kz0 kz1 kz2 rfl (.slice Ai k ci) k (List.replicate k gone) rfl (HRO.out.row.alloc _) _ 1 [.string ⟨#[109, 111, 114, 101]⟩] rfl (Src.built [.string ⟨#[109, 111, 114, 101]⟩] 9 Try.underlying53 rfl (by intro u hu; simp at hu; rcases hu with rfl; rfl)) (by omega) (by omega) (by omega) (by simp; omega) ?_; intro v3 w3 hr3 hg3 ho3; obtain ⟨A3, c3, rfl, _, _, _, _⟩ := hr3.form; have hch3 := (((Chg.refl (fun q => (Value.slice Ai k ci).ownBlock = some q) wq).alloc _).grown hg3 (fun q _ e => e)); have HC3 := Lib.hid hch3; have hq9 : ¬ (Value.slice Ai k ci).ownBlock = some g9 := (fun e => by have h1 := HRO.out.role g9 e; have h2 := HM.out.r9.role g9 rfl; rw [h1] at h2; cases h2); have HNQ := Lib.hid hq9; have e9 := (World.cell?_of_block (w := wq) (a := ⟨g9, o9 + i, none⟩) (hch3.block g9 hg9 hq9)).trans d9q; have hfz9 : w3.frozen? ⟨g9, o9 + i, none⟩ = false := (World.frozen?_of_block (w := wq) (a := ⟨g9, o9 + i, none⟩) (hch3.block g9 hg9 hq9)).trans fr9; have HR3 := Lib.hid hr3; have HO3 := Lib.hid (own_new ho3); clear hr3 hg3 ho3 hch3 hq9))
              | fail)
            have hl3 : Lies own (grow own wq.heap.size w3.heap.size (fun _ => .file i)) (fun r => r = .file i) wq w3 := push_lies HC3.out HRO.out.role (fun _ => .file i)
            have two3 := HM.out.two.push HC3.out HRO.out.role (fun _ => .file i)
            have r113 := HM.out.r11.keep hl3 (by simp)
            have r193 := HM.out.r19.keep hl3 (by simp)
            have r93 := HM.out.r9.keep hl3 (by simp)
            have els3 := fun j v (hj : i + 1 ≤ j) hv => (⟨(HM.out.els j v hj hv).1, (HM.out.els j v hj hv).2.keep hl3 (fun e => by have := file_inj _ _ e; omega)⟩ : ns'[j]? = some v ∧ OwnRow w w3 (grow own wq.heap.size w3.heap.size (fun _ => .file i)) (.file j) 1 v tl.length (namesV tl))
            generalize grow own wq.heap.size w3.heap.size (fun _ => Role.file i) = own4 at *
            have hcg : Chg (fun q => (Value.slice (some ⟨g9, o9, none⟩) 4 c9).ownBlock = some q) w3 (w3.setCell ⟨g9, o9 + i, none⟩ (.slice A3 (k + 1) c3)) := (show Chg (fun q => (Value.slice (some ⟨g9, o9, none⟩) 4 c9).ownBlock = some q) w3 w3 from Chg.refl _ _).setCell (p := ⟨g9, o9 + i, none⟩) (fun _ => rfl) _
            have hl4 : Lies own4 own4 (fun r => r = .now) w3 (w3.setCell ⟨g9, o9 + i, none⟩ (.slice A3 (k + 1) c3)) := put_lies hcg r93.role
            go_roundw
            case rel => exact ⟨i + 1, own4, ns'.set i (.slice A3 (k + 1) c3), by omega, by go_num, ⟨two3.put hcg r93.role, r113.keep hl4 (by simp), r193.keep hl4 (by simp), ⟨r93.row.set (j := i) (u := .slice A3 (k + 1) c3) (by rw [HN4.out]; exact hlt), r93.role⟩, fun j v hj hv => ⟨by rw [List.getElem?_set_ne (by omega)]; exact (els3 j v hj hv).1, (els3 j v hj hv).2.keep hl4 (by simp)⟩⟩⟩
            case measure => simp [intOf]; omega
      · obtain rfl : i = 4 := by omega
        go_wp2
        go_meet
        exact ⟨own, HM0.out.two, by have h := HM0.out.r11; rw [← HNL.out] at h; exact h, by have h := HM0.out.r19; rw [HWL.out] at h; exact h⟩
  case rest =>
  obtain ⟨own5, htw, hr11, hr19⟩ := hcut
  obtain ⟨Z, hlk, hback⟩ := htw.part
  have HBK := Lib.hid hback
  have HLK := Lib.hid hlk
  have H11 := Lib.hid hr11
  have H19 := Lib.hid hr19
  clear htw hr11 hr19 hback hlk HNM0
  go_upto_block 20 with (fail)
  go_cut [] from 255 to 270 (fun wx => ∃ t T, LiveK Z w (Own own5) wx cb t T ∧ OwnRow w wx own5 .moves 1 (.slice A11 nl c11) nl (namesV tl) ∧ OwnRow w wx own5 .arm 1 (.slice B19 N c19) N (namesV WB))
  case first =>
    go_wp2
    go_loopw [29] (fun iv wr => ∃ (i : Nat) (t : Dsk.St), i ≤ n2 ∧ i ≤ 60 ∧ iv = .int .i64 (i : Nat) ∧ LiveK Z w (Own own5) wr cb t (120 + i) ∧ OwnRow w wr own5 .moves 1 (.slice A11 nl c11) nl (namesV tl) ∧ OwnRow w wr own5 .arm 1 (.slice B19 N c19) N (namesV WB)) (fun iv _ => n2 - (intOf iv).toNat)
    case atStart => exact ⟨0, s, Nat.zero_le _, Nat.zero_le _, rfl, HLK.out, H11.out, H19.out⟩
    case round =>
      obtain ⟨i, t, hi, hi2, rfl, hlv, hr11, hr19⟩ := hrel
      have LV := Lib.hid hlv
      have Q11 := Lib.hid hr11
      have Q19 := Lib.hid hr19
      obtain ⟨wo, rfl⟩ : ∃ wo : World, wo = wr := ⟨_, rfl⟩
      clear hlv hr11 hr19
      by_cases hlt : i < n2
      · have hlti : (i : Int) < (n2 : Int) := by omega
        by_cases h60 : i < 60
        · have h60i : (i : Int) < 60 := by omega
          obtain ⟨o, g, f, hoi, hin, rfl, hgl, hcell⟩ := R2.out.pick (k := i) hlt
          have hs := HSZ2.out o (List.mem_of_getElem? hoi)
          obtain ⟨kd, nm, tt, nn, dA, dn, dc, d, cA, cn, cc, cs, onb⟩ := o
          have hrange : World.rangeAt wo g (f + i * 7) [.int .i64 kd, .string (strB nm), .string (strB tt), .int .i64 nn, .slice dA dn dc, .slice cA cn cc, .bool onb] := fun j u hj => by rw [Nat.add_assoc]; exact LV.out.first (hcell j u hj)
          have HRG := Lib.hid hrange
          have CD := Lib.hid (kdoes_any LV.out (by omega) kd nm tt nn dA dn dc d cA cn cc cs onb hin hs.1 hs.2.1 hs.2.2.1 hs.2.2.2)
          clear hoi hin hcell hrange hs
          go_wp2_with (first
            | (refine wpList_load_mid rfl 47 (.tmp 268) rfl g (f + i * 7) rfl [.int .i64 kd, .string (strB nm), .string (strB tt), .int .i64 nn, .slice dA dn dc, .slice cA cn cc, .bool onb] _ HRG.out Try.underlying47 rfl (by kernel_rfl) ?_)
            | (go_at_call 28; go_must (refine CD.out.mono ?_; rintro _ w1 ⟨rfl, l1, k1⟩))
            | fail)
          go_roundw
          case rel => exact ⟨i + 1, _, by omega, by omega, by go_num, l1, Q11.out.keep k1.lies id, Q19.out.keep k1.lies id⟩
          case measure => simp [intOf]; omega
        · have h60i : ¬ (i : Int) < 60 := by omega
          go_wp2
          go_meet
          exact ⟨_, _, LV.out, Q11.out, Q19.out⟩
      · have hlti : ¬ (i : Int) < (n2 : Int) := by omega
        go_wp2
        go_meet
        exact ⟨_, _, LV.out, Q11.out, Q19.out⟩
  case rest =>
  obtain ⟨t, T, hlk, hr11, hr19⟩ := hcut
  have LD := Lib.hid (HBK.out _ _ _ _ hlk)
  have Q11 := Lib.hid hr11
  have Q19 := Lib.hid hr19
  clear hlk hr11 hr19 HLK H11 H19
  have CN := Lib.hid (lnames LD.out (by omega))
  rw [← HTL.out, ← HNL.out] at CN
  go_upto_region 67 with (first
    | (go_at_call 26; go_must (refine CN.out.mono ?_; rintro _ we ⟨v30, rfl, hr30, _, le, be⟩))
    | fail)
  obtain ⟨A30, c30, rfl, _, _, _, hrd30⟩ := Row.form hr30
  have HRD30 := Lib.hid hrd30
  have LE := Lib.hid le
  have HL5 : Lies own5 own5 (fun _ => False) _ we := below_lies be
  have E11 := Lib.hid (Q11.out.keep HL5 id)
  have E19 := Lib.hid (Q19.out.keep HL5 id)
  clear hrd30 hr30 le be HL5
  go_upto_block 22 with (fail)
  go_wp2
  go_loopw [31] (fun iv wr => ∃ (i : Nat), i ≤ nl ∧ iv = .int .i64 (i : Nat) ∧ Below we.heap.size we wr) (fun iv _ => nl - (intOf iv).toNat)
  case atStart => exact ⟨0, Nat.zero_le _, rfl, Below.refl _ _⟩
  case round =>
    obtain ⟨i, hi, rfl, hbw⟩ := hrel
    have HBW := Lib.hid hbw
    obtain ⟨wo, rfl⟩ : ∃ wo : World, wo = wr := ⟨_, rfl⟩
    by_cases hlt : i < nl
    · have hlti : (i : Int) < (nl : Int) := by omega
      have hil : i < tl.length := by rw [← HNL.out]; exact hlt
      obtain ⟨g11, o11, hA11, hg11, _, d11⟩ := E11.out.at (namesV_get hil)
      subst hA11
      obtain ⟨g30, o30, hA30, hg30, hc30⟩ := HRD30.out.2 (by omega)
      subst hA30
      have d30 := hc30 i _ (namesV_get hil)
      obtain ⟨nm, hnm⟩ : ∃ nm, nm = tl[i] := ⟨_, rfl⟩
      rw [← hnm] at d11 d30
      have hnl64 : nm.length ≤ 64 := told_len64 LD.out.fit (by rw [← HTL.out, hnm]; exact List.getElem_mem _)
      obtain ⟨bb, er, hre⟩ : ∃ bb er, Dsk.read s nm = (bb, er) := ⟨_, _, rfl⟩
      have hwb : WB[2 * i]? = some bb := by
        have h := rdB_get s (tl ++ tl) i nm (by rw [List.getElem?_append_left hil, List.getElem?_eq_getElem hil, hnm])
        rw [hre, ← HWB.out] at h
        exact h
      obtain ⟨g19, o19, hA19, hg19, h2i, d19⟩ := E19.out.at (i := 2 * i) (u := .string ⟨bb.toArray⟩) (by unfold namesV strV; rw [List.getElem?_map, hwb]; rfl)
      subst hA19
      have CR : Hid (Calls Try.prog 21 #[.pointer (some ⟨db, 0, none⟩), .string ⟨nm.toArray⟩] wo fun e w' => ∃ v, e = .returned (.tuple #[v, .int .i64 (er : Nat)]) ∧ RowB w' wo.heap.size v bb ∧ Live w (Own own5) w' db s 120 ∧ Below wo.heap.size wo w') := Lib.hid (by have h := lread (LE.out.grow HBW.out) nm (by omega); rw [hre] at h; exact h)
      have HDS : Hid (∀ W, Below we.heap.size we W → W.cell? ⟨g11, o11 + i, none⟩ = some (.string ⟨nm.toArray⟩) ∧ W.cell? ⟨g30, o30 + i, none⟩ = some (.string ⟨nm.toArray⟩) ∧ W.cell? ⟨g19, o19 + 2 * i, none⟩ = some (.string ⟨bb.toArray⟩)) := Lib.hid (fun W hb => ⟨(hb.cell (p := ⟨g11, o11 + i, none⟩) hg11).trans d11, (hb.cell (p := ⟨g30, o30 + i, none⟩) hg30).trans d30, (hb.cell (p := ⟨g19, o19 + 2 * i, none⟩) hg19).trans d19⟩)
      have y11 := (HDS.out _ hbw).1
      have hN2 : 2 * (i : Int) < (N : Int) := by omega
      have hw2 : IntKind.i64.wrap (2 * (i : Int)) = 2 * (i : Int) := IntWalk.i64_in _ (by omega)
      clear hil hc30 d30 d11 d19 hwb hnm hre hg11 hg30 hg19 hbw
      go_upto_region 73 with (first
        | (go_at_call 21; go_must (refine CR.out.mono ?_; rintro _ w1 ⟨vb, rfl, rb, _, hb1⟩))
        | fail)
      obtain ⟨Ab, cb2, rfl, _, _, hzb, hrb⟩ := RowB.form rb
      have hb1w : Below we.heap.size we w1.drew := (HBW.out.trans (hb1.mono HBW.out.size)).drew
      have HB1 := Lib.hid hb1w
      have HDQ := Lib.hid (HDS.out _ hb1w)
      have cvd := conv_str (P := Try.prog) (w := w1.drew) 22 9 5 Try.underlying22 Try.underlying5 Try.underlying9 (c := cb2) hrb.drew (fun e => (hzb e).1)
      clear y11 rb hb1 hzb hrb hb1w
      obtain ⟨nb, hnb⟩ : ∃ nb, nb = bb.length := ⟨_, rfl⟩
      rw [← hnb] at cvd ⊢
      clear hnb
      refine wp_region_held_drew (S := (fun W => W.cell? ⟨g11, o11 + i, none⟩ = some (.string ⟨nm.toArray⟩) ∧ W.cell? ⟨g30, o30 + i, none⟩ = some (.string ⟨nm.toArray⟩) ∧ W.cell? ⟨g19, o19 + 2 * i, none⟩ = some (.string ⟨bb.toArray⟩))) (by as_aux_lemma => kernel_rfl) ?_ (fun hHeld => ?_)
      · exact HDQ.out
      generalize w1.drew = wd1 at *
      have h02 : 0 ≤ 2 * (i : Int) := by omega
      have htn2 : (2 * (i : Int)).toNat = 2 * i := by omega
      refine wpAnyH_take (i := 0) (v := ?_) (by simp only [List.getElem?_toArray, List.getElem?_cons_zero]; exact rfl) (by as_aux_lemma => kernel_rfl) (by as_aux_lemma => kernel_rfl) (by as_aux_lemma => kernel_rfl) (by exact fun _ _ _ h => h) (Or.inl ⟨by rfl, ?_⟩) (by assumption) ?_
      rotate_left
      · intro w hSw
        (try dsimp only at hSw)
        go_simp
        try with_reducible rfl
      (try simp only [Act.put, List.setIfInBounds_toArray, List.set_cons_zero, List.set_cons_succ])
      refine wpAnyH_take (i := 1) (v := ?_) (by simp only [List.getElem?_toArray, List.getElem?_cons_succ, List.getElem?_cons_zero]; exact rfl) (by as_aux_lemma => kernel_rfl) (by as_aux_lemma => kernel_rfl) (by as_aux_lemma => kernel_rfl) (by exact fun _ _ _ h => h) (Or.inl ⟨by rfl, ?_⟩) (by assumption) ?_
      rotate_left
      · intro w hSw
        (try dsimp only at hSw)
        go_simp
        try with_reducible rfl
      (try simp only [Act.put, List.setIfInBounds_toArray, List.set_cons_zero, List.set_cons_succ])
      refine wpAnyH_take (i := 2) (v := ?_) (by simp only [List.getElem?_toArray, List.getElem?_cons_succ, List.getElem?_cons_zero]; exact rfl) (by as_aux_lemma => kernel_rfl) (by as_aux_lemma => kernel_rfl) (by as_aux_lemma => kernel_rfl) (by exact fun _ _ _ h => h) (Or.inl ⟨by rfl, ?_⟩) (by assumption) ?_
      rotate_left
      · intro w hSw
        (try dsimp only at hSw)
        go_simp
        try with_reducible rfl
      (try simp only [Act.put, List.setIfInBounds_toArray, List.set_cons_zero, List.set_cons_succ])
      refine wpAnyH_take (i := 3) (v := ?_) (by simp only [List.getElem?_toArray, List.getElem?_cons_succ, List.getElem?_cons_zero]; exact rfl) (by as_aux_lemma => kernel_rfl) (by as_aux_lemma => kernel_rfl) (by as_aux_lemma => kernel_rfl) (by exact fun _ _ _ h => h) (Or.inl ⟨by rfl, ?_⟩) (by assumption) ?_
      rotate_left
      · intro w hSw
        (try dsimp only at hSw)
        go_simp
        try with_reducible rfl
      (try simp only [Act.put, List.setIfInBounds_toArray, List.set_cons_zero, List.set_cons_succ])
      refine wpAnyH_take (i := 4) (v := ?_) (by simp only [List.getElem?_toArray, List.getElem?_cons_succ, List.getElem?_cons_zero]; exact rfl) (by as_aux_lemma => kernel_rfl) (by as_aux_lemma => kernel_rfl) (by as_aux_lemma => kernel_rfl) (by exact fun _ _ _ h => h) (Or.inl ⟨by rfl, ?_⟩) (by assumption) ?_
      rotate_left
      · intro w hSw
        (try dsimp only at hSw)
        go_simp
        try with_reducible rfl
      (try simp only [Act.put, List.setIfInBounds_toArray, List.set_cons_zero, List.set_cons_succ])
      refine wpAnyH_take (i := 5) (v := ?_) (by simp only [List.getElem?_toArray, List.getElem?_cons_succ, List.getElem?_cons_zero]; exact rfl) (by as_aux_lemma => kernel_rfl) (by as_aux_lemma => kernel_rfl) (by as_aux_lemma => kernel_rfl) (by exact fun _ _ _ h => h) (Or.inl ⟨by rfl, ?_⟩) (by assumption) ?_
      rotate_left
      · intro w hSw
        (try dsimp only at hSw)
        go_simp
        try with_reducible rfl
      (try simp only [Act.put, List.setIfInBounds_toArray, List.set_cons_zero, List.set_cons_succ])
      refine wpAnyH_take (i := 6) (v := ?_) (by simp only [List.getElem?_toArray, List.getElem?_cons_succ, List.getElem?_cons_zero]; exact rfl) (by as_aux_lemma => kernel_rfl) (by as_aux_lemma => kernel_rfl) (by as_aux_lemma => kernel_rfl) (by exact fun _ _ _ h => h) (Or.inl ⟨by rfl, ?_⟩) (by assumption) ?_
      rotate_left
      · intro w hSw
        (try dsimp only at hSw)
        go_simp
        try with_reducible rfl
      (try simp only [Act.put, List.setIfInBounds_toArray, List.set_cons_zero, List.set_cons_succ])
      refine wpAnyH_take (i := 7) (v := ?_) (by simp only [List.getElem?_toArray, List.getElem?_cons_succ, List.getElem?_cons_zero]; exact rfl) (by as_aux_lemma => kernel_rfl) (by as_aux_lemma => kernel_rfl) (by as_aux_lemma => kernel_rfl) (by exact fun _ _ _ h => h) (Or.inl ⟨by rfl, ?_⟩) (by assumption) ?_
      rotate_left
      · intro w hSw
        (try dsimp only at hSw)
        go_simp
        try with_reducible rfl
      (try simp only [Act.put, List.setIfInBounds_toArray, List.set_cons_zero, List.set_cons_succ])
      refine wpAnyH_take (i := 8) (v := ?_) (by simp only [List.getElem?_toArray, List.getElem?_cons_succ, List.getElem?_cons_zero]; exact rfl) (by as_aux_lemma => kernel_rfl) (by as_aux_lemma => kernel_rfl) (by as_aux_lemma => kernel_rfl) (by exact fun _ _ _ h => h) (Or.inl ⟨by rfl, ?_⟩) (by assumption) ?_
      rotate_left
      · intro w hSw
        (try dsimp only at hSw)
        go_simp
        try with_reducible rfl
      (try simp only [Act.put, List.setIfInBounds_toArray, List.set_cons_zero, List.set_cons_succ])
      refine wpAnyH_take (i := 9) (v := ?_) (by simp only [List.getElem?_toArray, List.getElem?_cons_succ, List.getElem?_cons_zero]; exact rfl) (by as_aux_lemma => kernel_rfl) (by as_aux_lemma => kernel_rfl) (by as_aux_lemma => kernel_rfl) (by exact fun _ _ _ h => h) (Or.inl ⟨by rfl, ?_⟩) (by assumption) ?_
      rotate_left
      · intro w hSw
        (try dsimp only at hSw)
        go_simp
        try with_reducible rfl
      (try simp only [Act.put, List.setIfInBounds_toArray, List.set_cons_zero, List.set_cons_succ])
      refine wpAnyH_take (i := 10) (v := ?_) (by simp only [List.getElem?_toArray, List.getElem?_cons_succ, List.getElem?_cons_zero]; exact rfl) (by as_aux_lemma => kernel_rfl) (by as_aux_lemma => kernel_rfl) (by as_aux_lemma => kernel_rfl) (by exact fun _ _ _ h => h) (Or.inl ⟨by rfl, ?_⟩) (by assumption) ?_
      rotate_left
      · intro w hSw
        (try dsimp only at hSw)
        go_simp
        try with_reducible rfl
      (try simp only [Act.put, List.setIfInBounds_toArray, List.set_cons_zero, List.set_cons_succ])
      refine wpAnyH_take (i := 12) (v := ?_) (by simp only [List.getElem?_toArray, List.getElem?_cons_succ, List.getElem?_cons_zero]; exact rfl) (by as_aux_lemma => kernel_rfl) (by as_aux_lemma => kernel_rfl) (by as_aux_lemma => kernel_rfl) (by exact fun _ _ _ h => h) (Or.inl ⟨by rfl, ?_⟩) (by assumption) ?_
      rotate_left
      · intro w hSw
        (try dsimp only at hSw)
        go_simp
        try with_reducible rfl
      (try simp only [Act.put, List.setIfInBounds_toArray, List.set_cons_zero, List.set_cons_succ])
      refine wpAnyH_take (i := 13) (v := ?_) (by simp only [List.getElem?_toArray, List.getElem?_cons_succ, List.getElem?_cons_zero]; exact rfl) (by as_aux_lemma => kernel_rfl) (by as_aux_lemma => kernel_rfl) (by as_aux_lemma => kernel_rfl) (by exact fun _ _ _ h => h) (Or.inl ⟨by rfl, ?_⟩) (by assumption) ?_
      rotate_left
      · intro w hSw
        (try dsimp only at hSw)
        go_simp
        try with_reducible rfl
      (try simp only [Act.put, List.setIfInBounds_toArray, List.set_cons_zero, List.set_cons_succ])
      refine wpAnyH_take (i := 14) (v := ?_) (by simp only [List.getElem?_toArray, List.getElem?_cons_succ, List.getElem?_cons_zero]; exact rfl) (by as_aux_lemma => kernel_rfl) (by as_aux_lemma => kernel_rfl) (by as_aux_lemma => kernel_rfl) (by exact fun _ _ _ h => h) (Or.inl ⟨by rfl, ?_⟩) (by assumption) ?_
      rotate_left
      · intro w hSw
        (try dsimp only at hSw)
        go_simp
        try with_reducible rfl
      (try simp only [Act.put, List.setIfInBounds_toArray, List.set_cons_zero, List.set_cons_succ])
      refine wpAnyH_take (i := 15) (v := ?_) (by simp only [List.getElem?_toArray, List.getElem?_cons_succ, List.getElem?_cons_zero]; exact rfl) (by as_aux_lemma => kernel_rfl) (by as_aux_lemma => kernel_rfl) (by as_aux_lemma => kernel_rfl) (by exact fun _ _ _ h => h) (Or.inl ⟨by rfl, ?_⟩) (by assumption) ?_
      rotate_left
      · intro w hSw
        (try dsimp only at hSw)
        go_simp
        try with_reducible rfl
      (try simp only [Act.put, List.setIfInBounds_toArray, List.set_cons_zero, List.set_cons_succ])
      refine wpAnyH_take (i := 16) (v := ?_) (by simp only [List.getElem?_toArray, List.getElem?_cons_succ, List.getElem?_cons_zero]; exact rfl) (by as_aux_lemma => kernel_rfl) (by as_aux_lemma => kernel_rfl) (by as_aux_lemma => kernel_rfl) (by exact fun _ _ _ h => h) (Or.inl ⟨by rfl, ?_⟩) (by assumption) ?_
      rotate_left
      · intro w hSw
        (try dsimp only at hSw)
        go_simp
        try with_reducible rfl
      (try simp only [Act.put, List.setIfInBounds_toArray, List.set_cons_zero, List.set_cons_succ])
      refine wpAnyH_ready (rs := [11]) (by as_aux_lemma => kernel_rfl) (by simp) ?_
      refine AllReadyH.cons (by simp only [List.getElem?_toArray, List.getElem?_cons_succ, List.getElem?_cons_zero]; exact rfl) (fun K hK => ?_) AllReadyH.nil
      go_simp
      refine hK.out _ _ ?_ (fun hHeld => ?_)
      · (try dsimp only)
        exact hHeld
      clear hK K
      (try simp only [Act.put, List.setIfInBounds_toArray, List.set_cons_zero, List.set_cons_succ])
      refine wpAnyH_take (i := 17) (v := ?_) (by simp only [List.getElem?_toArray, List.getElem?_cons_succ, List.getElem?_cons_zero]; exact rfl) (by as_aux_lemma => kernel_rfl) (by as_aux_lemma => kernel_rfl) (by as_aux_lemma => kernel_rfl) (by exact fun _ _ _ h => h) (Or.inl ⟨by rfl, ?_⟩) (by assumption) ?_
      rotate_left
      · intro w hSw
        (try dsimp only at hSw)
        go_simp
        try with_reducible rfl
      (try simp only [Act.put, List.setIfInBounds_toArray, List.set_cons_zero, List.set_cons_succ])
      refine wpAnyH_take (i := 18) (v := ?_) (by simp only [List.getElem?_toArray, List.getElem?_cons_succ, List.getElem?_cons_zero]; exact rfl) (by as_aux_lemma => kernel_rfl) (by as_aux_lemma => kernel_rfl) (by as_aux_lemma => kernel_rfl) (by exact fun _ _ _ h => h) (Or.inl ⟨by rfl, ?_⟩) (by assumption) ?_
      rotate_left
      · intro w hSw
        (try dsimp only at hSw)
        go_simp
        try with_reducible rfl
      (try simp only [Act.put, List.setIfInBounds_toArray, List.set_cons_zero, List.set_cons_succ])
      refine wpAnyH_done (by as_aux_lemma => kernel_rfl) ?_ _
      clear hHeld cvd
      go_wp2
      go_roundw
      case rel => exact ⟨i + 1, by omega, by go_num, HB1.out⟩
      case measure => simp [intOf]; omega
    · obtain rfl : i = nl := by omega
      have hnlt : ¬ (i : Int) < (i : Int) := by omega
      go_wp2
      go_ret
      exact ⟨rfl, (LE.out.grow HBW.out).bel⟩
end Go.Proofs.Ythgeppdoonbkpaa
