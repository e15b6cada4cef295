/- rewrite.Request. Conditions: sizes, the library's variables. -/
import Derived.Test.YtklmpadcfioefaaGreatDoorRFramed
import Derived.Test.YtklmpadcfioefaaGreatDoorMC
namespace Go.Proofs.YtklmpadcfioefaaGreatDoor
open Go.RowKit

def hbV (r : HB) (v : Value) : Value := headV r.rq r.m r.t r.st r.rs r.mn v
/-- a head and a number are answered -/
def HeadPost (w : World) (r : HB × Nat) (e : Ending) (w' : World) : Prop :=
  ∃ v, e = .returned (.tuple #[hbV r.1 v, .int .i64 (r.2 : Int)]) ∧ Row w' w.heap.size 2 v r.1.fs.length (fieldsV r.1.fs) ∧ Below w.heap.size w w'
theorem HeadPost.no {w w' : World} {n : Nat} (hb : Below w.heap.size w w') : HeadPost w ({}, n) (.returned (.tuple #[headV false ⟨#[]⟩ ⟨#[]⟩ 0 ⟨#[]⟩ 0 (.slice none 0 0), .int .i64 (n : Int)])) w' :=
  ⟨_, rfl, Row.nil _ _ _, hb⟩
theorem cutP_len : ∀ l : Bs, (cutP l).length ≤ l.length + 1
  | [] => by simp [cutP]
  | c :: r => by
    have ih := cutP_len r
    rw [cutP]
    split
    · simp
    · split
      · simp
      · simp only [List.length_cons]; omega
theorem path_len {l p : Bs} (h : pathP l = some p) : p.length ≤ l.length + 1 := by
  unfold pathP at h
  split at h
  · cases h; omega
  · split at h
    · cases h
    · cases h
      have := cutP_len (l.drop 7)
      rw [List.length_drop] at this
      omega
theorem reqP_no {h : HB} {fr ln : Int} {host : ByteArray} (hn : pathP h.t.data.toList = none ∨ reqG h fr ln host = false) : reqP h fr ln host = ({}, 2) := by
  unfold reqP
  cases hp : pathP h.t.data.toList with
  | none => rfl
  | some p =>
    rcases hn with e | e
    · rw [hp] at e; cases e
    · simp only [e, Bool.false_eq_true, if_false]
theorem reqP_yes {h : HB} {fr ln : Int} {host : ByteArray} {p : Bs} (hp : pathP h.t.data.toList = some p) (hg : reqG h fr ln host = true) : reqP h fr ln host = okH (reqH h fr ln host p) := by
  unfold reqP
  rw [hp]
  simp only [hg, if_true]
theorem okH_val (r : HB) (v : Value) : (.tuple #[if (writeP r.hi).2 = 0 then hbV r v else noHead, .int .i64 ((writeP r.hi).2 : Nat)] : Value) = .tuple #[hbV (okH r).1 (if (writeP r.hi).2 = 0 then v else .slice none 0 0), .int .i64 ((okH r).2 : Nat)] := by
  unfold okH
  by_cases h : (writeP r.hi).2 = 0
  · rw [if_pos h, if_pos h, if_pos h, h]
  · rw [if_neg h, if_neg h, if_neg h]; rfl
theorem okH_row {w : World} {base : Nat} {r : HB} {v : Value} (h : Row w base 2 v r.fs.length (fieldsV r.fs)) : Row w base 2 (if (writeP r.hi).2 = 0 then v else .slice none 0 0) (okH r).1.fs.length (fieldsV (okH r).1.fs) := by
  unfold okH
  by_cases h0 : (writeP r.hi).2 = 0
  · rw [if_pos h0, if_pos h0]; exact h
  · rw [if_neg h0, if_neg h0]; exact Row.nil _ _ _
theorem flSize_append (a b : List Fl) : flSize (a ++ b) = flSize a + flSize b := by unfold flSize; rw [List.map_append, List.sum_append]
theorem flSize_filter (p : Fl → Bool) (fs : List Fl) : flSize (fs.filter p) ≤ flSize fs := by
  induction fs with
  | nil => exact Nat.zero_le _
  | cons f fs ih =>
    rw [List.filter_cons]
    split
    · simp only [flSize, List.map_cons, List.sum_cons] at ih ⊢; omega
    · simp only [flSize, List.map_cons, List.sum_cons] at ih ⊢; omega
theorem frameP_size {fr ln : Int} (h : isInt ln) : flSize (frameP fr ln) ≤ 64 ∧ (frameP fr ln).length ≤ 1 := by
  unfold frameP
  split
  · have := itoa_len h
    refine ⟨?_, by simp⟩
    show 14 + (Lib.itoa ln).length + 4 + 0 ≤ 64
    omega
  · split
    · exact ⟨by decide, by simp⟩
    · exact ⟨by decide, by simp⟩

set_option maxHeartbeats 4000000 in
set_option maxRecDepth 100000 in
theorem wRequest_no (rq : Bool) (mt t : ByteArray) (st : Int) (rs : ByteArray) (mn : Int) (A : Option Addr) (n c : Nat) (fs : List Fl) (fr ln : Int) (host : ByteArray) (w : World) (hsh : w.ShapedOpen Tryz.prog) (htab : Tab w) (_hA : A = none → n = 0 ∧ c = 0) (hrd : Rd w w.heap.size 2 A n (fieldsV fs))
    (_hln : isInt ln) (_hn : n ≤ 1048576) (hm : mt.size + t.size + rs.size ≤ 1048576) (_hfz : flSize fs ≤ 2097152) (_hhs : host.size ≤ 1048576) (_hfs : ∀ f ∈ fs, f.1.size ≤ 16777216) (_hvs : total (vals fs sConn) ≤ 8388608)
    (hno : pathP t.data.toList = none ∨ reqG ⟨rq, mt, t, st, rs, mn, fs⟩ fr ln host = false) :
    Calls Tryz.prog 36 #[headV rq mt t st rs mn (.slice A n c), .int .i64 fr, .int .i64 ln, .string host] w (HeadPost w (reqP ⟨rq, mt, t, st, rs, mn, fs⟩ fr ln host)) := by
  have hlen : fs.length = n := by have := hrd.1; rw [fieldsV_len] at this; omega
  have B1 : Below w.heap.size w ((w.alloc (.cells #[.bool rq, .string mt, .string t, .int .i64 st, .string rs, .int .i64 mn, .slice A n c] 52)).alloc (.cells #[.bool false, .string ⟨#[]⟩, .string ⟨#[]⟩, .int .i64 0, .string ⟨#[]⟩, .int .i64 0, .slice none 0 0] 52)) := ((Below.refl _ _).alloc (Nat.le_refl _) _).alloc (by simp) _
  have V1 := Lib.hid ((Var.new w 52 [.bool rq, .string mt, .string t, .int .i64 st, .string rs, .int .i64 mn, .slice A n c]).alloc (.cells #[.bool false, .string ⟨#[]⟩, .string ⟨#[]⟩, .int .i64 0, .string ⟨#[]⟩, .int .i64 0, .slice none 0 0] 52))
  have z1 := heap_alloc_size w (.cells #[.bool rq, .string mt, .string t, .int .i64 st, .string rs, .int .i64 mn, .slice A n c] 52)
  have zz : w.heap.size + 2 ≤ ((w.alloc (.cells #[.bool rq, .string mt, .string t, .int .i64 st, .string rs, .int .i64 mn, .slice A n c] 52)).alloc (.cells #[.bool false, .string ⟨#[]⟩, .string ⟨#[]⟩, .int .i64 0, .string ⟨#[]⟩, .int .i64 0, .slice none 0 0] 52)).heap.size := by simp
  have U1 := Lib.hid (Var.new (w.alloc (.cells #[.bool rq, .string mt, .string t, .int .i64 st, .string rs, .int .i64 mn, .slice A n c] 52)) 52 [.bool false, .string ⟨#[]⟩, .string ⟨#[]⟩, .int .i64 0, .string ⟨#[]⟩, .int .i64 0, .slice none 0 0])
  rw [z1] at U1
  have HB1 := Lib.hid B1
  have HZZ := Lib.hid zz
  have HR0 := Lib.hid hrd
  have HS0 := Lib.hid hsh
  have HT0 := Lib.hid htab
  have HPA := Lib.hid (fun W => wPath_any t W (by omega))
  unfold pathV at HPA
  unfold headV
  clear hrd hsh htab B1 z1 zz
  have hG : ∀ r, reqG ⟨r, mt, t, st, rs, mn, fs⟩ fr ln host = (r && decide (0 ≤ fr ∧ fr ≤ 2 ∧ (fr = 1 → 0 ≤ ln)) && hostP host.data.toList) := fun _ => rfl
  have HPB := HPA
  obtain ⟨pS, hpS⟩ : ∃ pS : ByteArray, pS = ⟨((pathP t.data.toList).getD []).toArray⟩ := ⟨_, rfl⟩
  obtain ⟨pk, hpk⟩ : ∃ pk : Bool, pk = (pathP t.data.toList).isSome := ⟨_, rfl⟩
  rw [← hpS, ← hpk] at HPA
  have HG := Lib.hid hG
  have HNO := Lib.hid hno
  clear hno
  clear hG
  cases rq
  · clear HNO
    (have HE := Lib.hid (reqP_no (h := ⟨false, mt, t, st, rs, mn, fs⟩) (fr := fr) (ln := ln) (host := host) (.inr (by rw [HG.out]; rfl)))
     go_enter Tryz.func36, Tryz.ntmps36
     go_wp2_with (first
       | (go_at_call 69; go_must (refine (HPA.out _).mono ?_; rintro _ w2 ⟨rfl, hb2⟩; have U2 := Lib.hid (U1.out.below_all hb2); have v0 := (V1.out.below_all hb2).cell (j := 0) rfl))
       | (go_at_call 70; go_must (refine (whosted_any host _).mono ?_; rintro _ w4 ⟨rfl, hb4⟩; rw [hho]; have U4 := Lib.hid (U2.out.below_all hb4)))
       | (have hb4' := hb4; refine wpList_put rfl 52 (.tmp 8) (.tmp 47) rfl (w.heap.size + 1) rfl U4.out [.bool false, .string ⟨#[]⟩, .string ⟨#[]⟩, .int .i64 0, .string ⟨#[]⟩, .int .i64 0, .slice none 0 0] rfl rfl (by kernel_rfl) (by simp [Value.oneCell']) ?_; intro w3 hv3 hg3 hs3; have B3 := (hb2.trans (hb4.mono hb2.size)))
       | (refine wpList_put rfl 52 (.tmp 8) (.tmp 47) rfl (w.heap.size + 1) rfl U2.out [.bool false, .string ⟨#[]⟩, .string ⟨#[]⟩, .int .i64 0, .string ⟨#[]⟩, .int .i64 0, .slice none 0 0] rfl rfl (by kernel_rfl) (by simp [Value.oneCell']) ?_; intro w3 hv3 hg3 hs3; have B3 := hb2)
       | fail)
     refine bodyPost_ret (results_var rfl _ _ rfl hv3 Tryz.underlying52 rfl (by kernel_rfl)) rfl ?_
     rw [HE.out]
     have z1 := HB1.out.size
     have z3 := B3.size
     exact HeadPost.no (Below.grown (HB1.out.trans (B3.mono z1)) hg3 (by omega) (by intro k hk; simp at hk; omega)))
  · by_cases f0 : fr < 0
    · have d0 : decide (fr < 0) = true := by simpa using f0
      (have HE := Lib.hid (reqP_no (h := ⟨true, mt, t, st, rs, mn, fs⟩) (fr := fr) (ln := ln) (host := host) (.inr (by rw [HG.out]; simp; omega)))
       go_enter Tryz.func36, Tryz.ntmps36
       go_wp2_with (first
         | (go_at_call 69; go_must (refine (HPA.out _).mono ?_; rintro _ w2 ⟨rfl, hb2⟩; have U2 := Lib.hid (U1.out.below_all hb2); have v0 := (V1.out.below_all hb2).cell (j := 0) rfl))
         | (go_at_call 70; go_must (refine (whosted_any host _).mono ?_; rintro _ w4 ⟨rfl, hb4⟩; rw [hho]; have U4 := Lib.hid (U2.out.below_all hb4)))
         | (have hb4' := hb4; refine wpList_put rfl 52 (.tmp 8) (.tmp 47) rfl (w.heap.size + 1) rfl U4.out [.bool false, .string ⟨#[]⟩, .string ⟨#[]⟩, .int .i64 0, .string ⟨#[]⟩, .int .i64 0, .slice none 0 0] rfl rfl (by kernel_rfl) (by simp [Value.oneCell']) ?_; intro w3 hv3 hg3 hs3; have B3 := (hb2.trans (hb4.mono hb2.size)))
         | (refine wpList_put rfl 52 (.tmp 8) (.tmp 47) rfl (w.heap.size + 1) rfl U2.out [.bool false, .string ⟨#[]⟩, .string ⟨#[]⟩, .int .i64 0, .string ⟨#[]⟩, .int .i64 0, .slice none 0 0] rfl rfl (by kernel_rfl) (by simp [Value.oneCell']) ?_; intro w3 hv3 hg3 hs3; have B3 := hb2)
         | fail)
       refine bodyPost_ret (results_var rfl _ _ rfl hv3 Tryz.underlying52 rfl (by kernel_rfl)) rfl ?_
       rw [HE.out]
       have z1 := HB1.out.size
       have z3 := B3.size
       exact HeadPost.no (Below.grown (HB1.out.trans (B3.mono z1)) hg3 (by omega) (by intro k hk; simp at hk; omega)))
    · have d0 : decide (fr < 0) = false := by simpa using f0
      by_cases f2 : 2 < fr
      · have d2 : decide (2 < fr) = true := by simpa using f2
        (have HE := Lib.hid (reqP_no (h := ⟨true, mt, t, st, rs, mn, fs⟩) (fr := fr) (ln := ln) (host := host) (.inr (by rw [HG.out]; simp; omega)))
         go_enter Tryz.func36, Tryz.ntmps36
         go_wp2_with (first
           | (go_at_call 69; go_must (refine (HPA.out _).mono ?_; rintro _ w2 ⟨rfl, hb2⟩; have U2 := Lib.hid (U1.out.below_all hb2); have v0 := (V1.out.below_all hb2).cell (j := 0) rfl))
           | (go_at_call 70; go_must (refine (whosted_any host _).mono ?_; rintro _ w4 ⟨rfl, hb4⟩; rw [hho]; have U4 := Lib.hid (U2.out.below_all hb4)))
           | (have hb4' := hb4; refine wpList_put rfl 52 (.tmp 8) (.tmp 47) rfl (w.heap.size + 1) rfl U4.out [.bool false, .string ⟨#[]⟩, .string ⟨#[]⟩, .int .i64 0, .string ⟨#[]⟩, .int .i64 0, .slice none 0 0] rfl rfl (by kernel_rfl) (by simp [Value.oneCell']) ?_; intro w3 hv3 hg3 hs3; have B3 := (hb2.trans (hb4.mono hb2.size)))
           | (refine wpList_put rfl 52 (.tmp 8) (.tmp 47) rfl (w.heap.size + 1) rfl U2.out [.bool false, .string ⟨#[]⟩, .string ⟨#[]⟩, .int .i64 0, .string ⟨#[]⟩, .int .i64 0, .slice none 0 0] rfl rfl (by kernel_rfl) (by simp [Value.oneCell']) ?_; intro w3 hv3 hg3 hs3; have B3 := hb2)
           | fail)
         refine bodyPost_ret (results_var rfl _ _ rfl hv3 Tryz.underlying52 rfl (by kernel_rfl)) rfl ?_
         rw [HE.out]
         have z1 := HB1.out.size
         have z3 := B3.size
         exact HeadPost.no (Below.grown (HB1.out.trans (B3.mono z1)) hg3 (by omega) (by intro k hk; simp at hk; omega)))
      · have d2 : decide (2 < fr) = false := by simpa using f2
        by_cases f1 : fr = 1 ∧ ln < 0
        · obtain ⟨rfl, f1⟩ := f1
          have d1 : decide (ln < 0) = true := by simpa using f1
          (have HE := Lib.hid (reqP_no (h := ⟨true, mt, t, st, rs, mn, fs⟩) (fr := 1) (ln := ln) (host := host) (.inr (by rw [HG.out]; simp; omega)))
           go_enter Tryz.func36, Tryz.ntmps36
           go_wp2_with (first
             | (go_at_call 69; go_must (refine (HPA.out _).mono ?_; rintro _ w2 ⟨rfl, hb2⟩; have U2 := Lib.hid (U1.out.below_all hb2); have v0 := (V1.out.below_all hb2).cell (j := 0) rfl))
             | (go_at_call 70; go_must (refine (whosted_any host _).mono ?_; rintro _ w4 ⟨rfl, hb4⟩; rw [hho]; have U4 := Lib.hid (U2.out.below_all hb4)))
             | (have hb4' := hb4; refine wpList_put rfl 52 (.tmp 8) (.tmp 47) rfl (w.heap.size + 1) rfl U4.out [.bool false, .string ⟨#[]⟩, .string ⟨#[]⟩, .int .i64 0, .string ⟨#[]⟩, .int .i64 0, .slice none 0 0] rfl rfl (by kernel_rfl) (by simp [Value.oneCell']) ?_; intro w3 hv3 hg3 hs3; have B3 := (hb2.trans (hb4.mono hb2.size)))
             | (refine wpList_put rfl 52 (.tmp 8) (.tmp 47) rfl (w.heap.size + 1) rfl U2.out [.bool false, .string ⟨#[]⟩, .string ⟨#[]⟩, .int .i64 0, .string ⟨#[]⟩, .int .i64 0, .slice none 0 0] rfl rfl (by kernel_rfl) (by simp [Value.oneCell']) ?_; intro w3 hv3 hg3 hs3; have B3 := hb2)
             | fail)
           refine bodyPost_ret (results_var rfl _ _ rfl hv3 Tryz.underlying52 rfl (by kernel_rfl)) rfl ?_
           rw [HE.out]
           have z1 := HB1.out.size
           have z3 := B3.size
           exact HeadPost.no (Below.grown (HB1.out.trans (B3.mono z1)) hg3 (by omega) (by intro k hk; simp at hk; omega)))
        · have f3 : fr = 1 → 0 ≤ ln := fun e => by omega
          cases hho : hostP host.data.toList
          · by_cases e1 : fr = 1
            · subst e1
              have d1 : decide (ln < 0) = false := by simpa using f3 rfl
              (have HE := Lib.hid (reqP_no (h := ⟨true, mt, t, st, rs, mn, fs⟩) (fr := 1) (ln := ln) (host := host) (.inr (by rw [HG.out, hho]; simp)))
               go_enter Tryz.func36, Tryz.ntmps36
               go_wp2_with (first
                 | (go_at_call 69; go_must (refine (HPA.out _).mono ?_; rintro _ w2 ⟨rfl, hb2⟩; have U2 := Lib.hid (U1.out.below_all hb2); have v0 := (V1.out.below_all hb2).cell (j := 0) rfl))
                 | (go_at_call 70; go_must (refine (whosted_any host _).mono ?_; rintro _ w4 ⟨rfl, hb4⟩; rw [hho]; have U4 := Lib.hid (U2.out.below_all hb4)))
                 | (have hb4' := hb4; refine wpList_put rfl 52 (.tmp 8) (.tmp 47) rfl (w.heap.size + 1) rfl U4.out [.bool false, .string ⟨#[]⟩, .string ⟨#[]⟩, .int .i64 0, .string ⟨#[]⟩, .int .i64 0, .slice none 0 0] rfl rfl (by kernel_rfl) (by simp [Value.oneCell']) ?_; intro w3 hv3 hg3 hs3; have B3 := (hb2.trans (hb4.mono hb2.size)))
                 | (refine wpList_put rfl 52 (.tmp 8) (.tmp 47) rfl (w.heap.size + 1) rfl U2.out [.bool false, .string ⟨#[]⟩, .string ⟨#[]⟩, .int .i64 0, .string ⟨#[]⟩, .int .i64 0, .slice none 0 0] rfl rfl (by kernel_rfl) (by simp [Value.oneCell']) ?_; intro w3 hv3 hg3 hs3; have B3 := hb2)
                 | fail)
               refine bodyPost_ret (results_var rfl _ _ rfl hv3 Tryz.underlying52 rfl (by kernel_rfl)) rfl ?_
               rw [HE.out]
               have z1 := HB1.out.size
               have z3 := B3.size
               exact HeadPost.no (Below.grown (HB1.out.trans (B3.mono z1)) hg3 (by omega) (by intro k hk; simp at hk; omega)))
            · have d1 : (fr == 1) = false := by simpa using e1
              (have HE := Lib.hid (reqP_no (h := ⟨true, mt, t, st, rs, mn, fs⟩) (fr := fr) (ln := ln) (host := host) (.inr (by rw [HG.out, hho]; simp)))
               go_enter Tryz.func36, Tryz.ntmps36
               go_wp2_with (first
                 | (go_at_call 69; go_must (refine (HPA.out _).mono ?_; rintro _ w2 ⟨rfl, hb2⟩; have U2 := Lib.hid (U1.out.below_all hb2); have v0 := (V1.out.below_all hb2).cell (j := 0) rfl))
                 | (go_at_call 70; go_must (refine (whosted_any host _).mono ?_; rintro _ w4 ⟨rfl, hb4⟩; rw [hho]; have U4 := Lib.hid (U2.out.below_all hb4)))
                 | (have hb4' := hb4; refine wpList_put rfl 52 (.tmp 8) (.tmp 47) rfl (w.heap.size + 1) rfl U4.out [.bool false, .string ⟨#[]⟩, .string ⟨#[]⟩, .int .i64 0, .string ⟨#[]⟩, .int .i64 0, .slice none 0 0] rfl rfl (by kernel_rfl) (by simp [Value.oneCell']) ?_; intro w3 hv3 hg3 hs3; have B3 := (hb2.trans (hb4.mono hb2.size)))
                 | (refine wpList_put rfl 52 (.tmp 8) (.tmp 47) rfl (w.heap.size + 1) rfl U2.out [.bool false, .string ⟨#[]⟩, .string ⟨#[]⟩, .int .i64 0, .string ⟨#[]⟩, .int .i64 0, .slice none 0 0] rfl rfl (by kernel_rfl) (by simp [Value.oneCell']) ?_; intro w3 hv3 hg3 hs3; have B3 := hb2)
                 | fail)
               refine bodyPost_ret (results_var rfl _ _ rfl hv3 Tryz.underlying52 rfl (by kernel_rfl)) rfl ?_
               rw [HE.out]
               have z1 := HB1.out.size
               have z3 := B3.size
               exact HeadPost.no (Below.grown (HB1.out.trans (B3.mono z1)) hg3 (by omega) (by intro k hk; simp at hk; omega)))
          · cases hp : pathP t.data.toList with
            | none =>
              rw [hp] at hpk hpS
              subst hpk hpS
              by_cases e1 : fr = 1
              · subst e1
                have d1 : decide (ln < 0) = false := by simpa using f3 rfl
                (have HE := Lib.hid (reqP_no (h := ⟨true, mt, t, st, rs, mn, fs⟩) (fr := 1) (ln := ln) (host := host) (.inl hp))
                 go_enter Tryz.func36, Tryz.ntmps36
                 go_wp2_with (first
                   | (go_at_call 69; go_must (refine (HPA.out _).mono ?_; rintro _ w2 ⟨rfl, hb2⟩; have U2 := Lib.hid (U1.out.below_all hb2); have v0 := (V1.out.below_all hb2).cell (j := 0) rfl))
                   | (go_at_call 70; go_must (refine (whosted_any host _).mono ?_; rintro _ w4 ⟨rfl, hb4⟩; rw [hho]; have U4 := Lib.hid (U2.out.below_all hb4)))
                   | (have hb4' := hb4; refine wpList_put rfl 52 (.tmp 8) (.tmp 47) rfl (w.heap.size + 1) rfl U4.out [.bool false, .string ⟨#[]⟩, .string ⟨#[]⟩, .int .i64 0, .string ⟨#[]⟩, .int .i64 0, .slice none 0 0] rfl rfl (by kernel_rfl) (by simp [Value.oneCell']) ?_; intro w3 hv3 hg3 hs3; have B3 := (hb2.trans (hb4.mono hb2.size)))
                   | (refine wpList_put rfl 52 (.tmp 8) (.tmp 47) rfl (w.heap.size + 1) rfl U2.out [.bool false, .string ⟨#[]⟩, .string ⟨#[]⟩, .int .i64 0, .string ⟨#[]⟩, .int .i64 0, .slice none 0 0] rfl rfl (by kernel_rfl) (by simp [Value.oneCell']) ?_; intro w3 hv3 hg3 hs3; have B3 := hb2)
                   | fail)
                 refine bodyPost_ret (results_var rfl _ _ rfl hv3 Tryz.underlying52 rfl (by kernel_rfl)) rfl ?_
                 rw [HE.out]
                 have z1 := HB1.out.size
                 have z3 := B3.size
                 exact HeadPost.no (Below.grown (HB1.out.trans (B3.mono z1)) hg3 (by omega) (by intro k hk; simp at hk; omega)))
              · have d1 : (fr == 1) = false := by simpa using e1
                (have HE := Lib.hid (reqP_no (h := ⟨true, mt, t, st, rs, mn, fs⟩) (fr := fr) (ln := ln) (host := host) (.inl hp))
                 go_enter Tryz.func36, Tryz.ntmps36
                 go_wp2_with (first
                   | (go_at_call 69; go_must (refine (HPA.out _).mono ?_; rintro _ w2 ⟨rfl, hb2⟩; have U2 := Lib.hid (U1.out.below_all hb2); have v0 := (V1.out.below_all hb2).cell (j := 0) rfl))
                   | (go_at_call 70; go_must (refine (whosted_any host _).mono ?_; rintro _ w4 ⟨rfl, hb4⟩; rw [hho]; have U4 := Lib.hid (U2.out.below_all hb4)))
                   | (have hb4' := hb4; refine wpList_put rfl 52 (.tmp 8) (.tmp 47) rfl (w.heap.size + 1) rfl U4.out [.bool false, .string ⟨#[]⟩, .string ⟨#[]⟩, .int .i64 0, .string ⟨#[]⟩, .int .i64 0, .slice none 0 0] rfl rfl (by kernel_rfl) (by simp [Value.oneCell']) ?_; intro w3 hv3 hg3 hs3; have B3 := (hb2.trans (hb4.mono hb2.size)))
                   | (refine wpList_put rfl 52 (.tmp 8) (.tmp 47) rfl (w.heap.size + 1) rfl U2.out [.bool false, .string ⟨#[]⟩, .string ⟨#[]⟩, .int .i64 0, .string ⟨#[]⟩, .int .i64 0, .slice none 0 0] rfl rfl (by kernel_rfl) (by simp [Value.oneCell']) ?_; intro w3 hv3 hg3 hs3; have B3 := hb2)
                   | fail)
                 refine bodyPost_ret (results_var rfl _ _ rfl hv3 Tryz.underlying52 rfl (by kernel_rfl)) rfl ?_
                 rw [HE.out]
                 have z1 := HB1.out.size
                 have z3 := B3.size
                 exact HeadPost.no (Below.grown (HB1.out.trans (B3.mono z1)) hg3 (by omega) (by intro k hk; simp at hk; omega)))
            | some p =>
            exfalso
            rcases HNO.out with h | h
            · rw [hp] at h; cases h
            · rw [HG.out, hho] at h
              simp at h
              omega
end Go.Proofs.YtklmpadcfioefaaGreatDoor
