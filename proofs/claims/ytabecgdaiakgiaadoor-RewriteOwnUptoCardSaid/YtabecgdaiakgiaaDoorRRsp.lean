/- rewrite.Request joined; rewrite.Response. Conditions: sizes, the library's variables. -/
import Derived.Test.YtabecgdaiakgiaaDoorRReq2
namespace Go.Proofs.YtabecgdaiakgiaaDoor
open Go.RowKit

theorem wRequest_any (rq : Bool) (mt t : ByteArray) (st : Int) (rs : ByteArray) (mn : Int) (A : Option Addr) (n c : Nat) (fs : List Fl) (fr ln : Int) (host : ByteArray) (w : World) (hsh : w.ShapedOpen Tryd.prog) (htab : Tab w) (hA : A = none → n = 0 ∧ c = 0) (hrd : Rd w w.heap.size 2 A n (fieldsV fs))
    (hln : isInt ln) (hn : n ≤ 1048576) (hm : mt.size + t.size + rs.size ≤ 1048576) (hfz : flSize fs ≤ 2097152) (hhs : host.size ≤ 1048576) (hfs : ∀ f ∈ fs, f.1.size ≤ 16777216) (hvs : total (vals fs sConn) ≤ 8388608) :
    Calls Tryd.prog 46 #[headV rq mt t st rs mn (.slice A n c), .int .i64 fr, .int .i64 ln, .string host] w (HeadPost w (reqP ⟨rq, mt, t, st, rs, mn, fs⟩ fr ln host)) := by
  cases hp : pathP t.data.toList with
  | none => exact wRequest_no rq mt t st rs mn A n c fs fr ln host w hsh htab hA hrd hln hn hm hfz hhs hfs hvs (.inl hp)
  | some p =>
    cases hg : reqG ⟨rq, mt, t, st, rs, mn, fs⟩ fr ln host with
    | false => exact wRequest_no rq mt t st rs mn A n c fs fr ln host w hsh htab hA hrd hln hn hm hfz hhs hfs hvs (.inr hg)
    | true =>
      unfold reqG at hg
      simp only [Bool.and_eq_true, decide_eq_true_eq] at hg
      obtain ⟨⟨rfl, h1, h2, h3⟩, h4⟩ := hg
      exact wRequest_yes mt t st rs mn A n c fs fr ln host w hsh htab hA hrd hln hn hm hfz hhs hfs hvs hp h4 (by omega) (by omega) h3

def RspPost (w : World) (r : (HB × Nat) × Bool) (e : Ending) (w' : World) : Prop :=
  ∃ v, e = .returned (.tuple #[hbV r.1.1 v, .bool r.2, .int .i64 (r.1.2 : Int)]) ∧ Row w' w.heap.size 2 v r.1.1.fs.length (fieldsV r.1.1.fs) ∧ Below w.heap.size w w'
theorem results_cell_tmp2 {fn : Func} {p u x : Tmp} {ty : TypeId} (h : fn.results = #[.cell p ty, .tmp u, .tmp x]) (tmps : Array Value) (P : Program) (w : World) :
    (results fn tmps).run P w =
      ((asAddr (tmps.getD p undef)).run P w).andThen fun a w₁ => ((loadVar ty a).run P w₁).andThen fun v w₂ => .ok (.tuple #[v, tmps.getD u undef, tmps.getD x undef]) w₂ := by
  simp only [results, h]
  simp [Sem.run_bind, Result.andThen]
theorem results_var3 {P : Program} {fn : Func} {p u x : Tmp} {ty : TypeId} (h : fn.results = #[.cell p ty, .tmp u, .tmp x]) (tmps : Array Value) {w : World} {b : Nat} {t : TypeId} {cs : List Value} (d : TypeDesc)
    (hp : tmps.getD p undef = .pointer (some ⟨b, 0, none⟩)) (hv : Var w b t cs) (hu : P.underlying ty = some d) (hd : (match d with | .struct _ | .array _ _ => true | _ => false) = true) (hi : (P.info? ty).map (·.size) = some cs.length) :
    (results fn tmps).run P w = .ok (.tuple #[.agg cs.toArray, tmps.getD u undef, tmps.getD x undef]) w := by
  have hl := run_loadVar_row (P := P) w b t ty cs.toArray (0, 0) d hv hu hd (by simpa using hi)
  rw [results_cell_tmp2 h, hp]
  simp [asAddr, Result.andThen, hl]
theorem rspP_no {h : HB} {fr ln : Int} {cl : Bool} {mi : Int} (hn : rspG h fr ln mi = false) : rspP h fr ln cl mi = (({}, 2), false) := by
  unfold rspP; rw [if_neg (by rw [hn]; simp)]
theorem rspP_yes {h : HB} {fr ln : Int} {cl : Bool} {mi : Int} (hn : rspG h fr ln mi = true) : rspP h fr ln cl mi = (okH (rspH h fr ln cl mi), shuts fr cl mi && decide ((okH (rspH h fr ln cl mi)).2 = 0)) := by
  unfold rspP; rw [if_pos hn]

set_option maxHeartbeats 4000000 in
set_option maxRecDepth 100000 in
theorem wResponse_no (rq : Bool) (mt t : ByteArray) (st : Int) (rs : ByteArray) (mn : Int) (A : Option Addr) (n c : Nat) (fs : List Fl) (fr ln : Int) (cl : Bool) (mi : Int) (w : World) (hno : rspG ⟨rq, mt, t, st, rs, mn, fs⟩ fr ln mi = false) :
    Calls Tryd.prog 48 #[headV rq mt t st rs mn (.slice A n c), .int .i64 fr, .int .i64 ln, .bool cl, .int .i64 mi] w (RspPost w (rspP ⟨rq, mt, t, st, rs, mn, fs⟩ fr ln cl mi)) := by
  have B1 : Below w.heap.size w ((w.alloc (.cells #[.bool rq, .string mt, .string t, .int .i64 st, .string rs, .int .i64 mn, .slice A n c] 24)).alloc (.cells #[.bool false, .string ⟨#[]⟩, .string ⟨#[]⟩, .int .i64 0, .string ⟨#[]⟩, .int .i64 0, .slice none 0 0] 24)) := ((Below.refl _ _).alloc (Nat.le_refl _) _).alloc (by simp) _
  have z1 := heap_alloc_size w (.cells #[.bool rq, .string mt, .string t, .int .i64 st, .string rs, .int .i64 mn, .slice A n c] 24)
  have U1 := Lib.hid (Var.new (w.alloc (.cells #[.bool rq, .string mt, .string t, .int .i64 st, .string rs, .int .i64 mn, .slice A n c] 24)) 24 [.bool false, .string ⟨#[]⟩, .string ⟨#[]⟩, .int .i64 0, .string ⟨#[]⟩, .int .i64 0, .slice none 0 0])
  rw [z1] at U1
  have HB1 := Lib.hid B1
  unfold headV
  clear B1 z1
  cases rq
  · by_cases f0 : fr < 0
    · have d0 : decide (fr < 0) = true := by simpa using f0
      (have HE := Lib.hid (rspP_no (h := ⟨false, mt, t, st, rs, mn, fs⟩) (fr := fr) (ln := ln) (cl := cl) (mi := mi) hno)
       clear hno
       go_enter Tryd.func48, Tryd.ntmps48
       go_wp2_with (first
         | (refine wpList_put rfl 24 (.tmp 10) (.tmp 42) rfl (w.heap.size + 1) rfl U1.out [.bool false, .string ⟨#[]⟩, .string ⟨#[]⟩, .int .i64 0, .string ⟨#[]⟩, .int .i64 0, .slice none 0 0] rfl rfl (by kernel_rfl) (by simp [Value.oneCell']) ?_; intro w3 hv3 hg3 hs3)
         | fail)
       refine bodyPost_ret (results_var3 rfl _ _ rfl hv3 Tryd.underlying24 rfl (by kernel_rfl)) rfl ?_
       rw [HE.out]
       have z1 := HB1.out.size
       exact ⟨.slice none 0 0, rfl, Row.nil _ _ _, Below.grown HB1.out hg3 z1 (by intro k hk; simp at hk; omega)⟩)
    · have d0 : decide (fr < 0) = false := by simpa using f0
      by_cases f2 : 3 < fr
      · have d2 : decide (3 < fr) = true := by simpa using f2
        (have HE := Lib.hid (rspP_no (h := ⟨false, mt, t, st, rs, mn, fs⟩) (fr := fr) (ln := ln) (cl := cl) (mi := mi) hno)
         clear hno
         go_enter Tryd.func48, Tryd.ntmps48
         go_wp2_with (first
           | (refine wpList_put rfl 24 (.tmp 10) (.tmp 42) rfl (w.heap.size + 1) rfl U1.out [.bool false, .string ⟨#[]⟩, .string ⟨#[]⟩, .int .i64 0, .string ⟨#[]⟩, .int .i64 0, .slice none 0 0] rfl rfl (by kernel_rfl) (by simp [Value.oneCell']) ?_; intro w3 hv3 hg3 hs3)
           | fail)
         refine bodyPost_ret (results_var3 rfl _ _ rfl hv3 Tryd.underlying24 rfl (by kernel_rfl)) rfl ?_
         rw [HE.out]
         have z1 := HB1.out.size
         exact ⟨.slice none 0 0, rfl, Row.nil _ _ _, Below.grown HB1.out hg3 z1 (by intro k hk; simp at hk; omega)⟩)
      · have d2 : decide (3 < fr) = false := by simpa using f2
        by_cases f1 : fr = 1 ∧ ln < 0
        · obtain ⟨rfl, f1⟩ := f1
          have d1 : decide (ln < 0) = true := by simpa using f1
          (have HE := Lib.hid (rspP_no (h := ⟨false, mt, t, st, rs, mn, fs⟩) (fr := 1) (ln := ln) (cl := cl) (mi := mi) hno)
           clear hno
           go_enter Tryd.func48, Tryd.ntmps48
           go_wp2_with (first
             | (refine wpList_put rfl 24 (.tmp 10) (.tmp 42) rfl (w.heap.size + 1) rfl U1.out [.bool false, .string ⟨#[]⟩, .string ⟨#[]⟩, .int .i64 0, .string ⟨#[]⟩, .int .i64 0, .slice none 0 0] rfl rfl (by kernel_rfl) (by simp [Value.oneCell']) ?_; intro w3 hv3 hg3 hs3)
             | fail)
           refine bodyPost_ret (results_var3 rfl _ _ rfl hv3 Tryd.underlying24 rfl (by kernel_rfl)) rfl ?_
           rw [HE.out]
           have z1 := HB1.out.size
           exact ⟨.slice none 0 0, rfl, Row.nil _ _ _, Below.grown HB1.out hg3 z1 (by intro k hk; simp at hk; omega)⟩)
        · have f3 : fr = 1 → 0 ≤ ln := fun e => by omega
          have hm : mi < 0 ∨ 1 < mi := by
            unfold rspG at hno
            simp at hno
            omega
          by_cases e1 : fr = 1
          · subst e1
            have d1 : decide (ln < 0) = false := by simpa using f3 rfl
            by_cases m0 : mi < 0
            · have k0 : decide (mi < 0) = true := by simpa using m0
              (have HE := Lib.hid (rspP_no (h := ⟨false, mt, t, st, rs, mn, fs⟩) (fr := 1) (ln := ln) (cl := cl) (mi := mi) hno)
               clear hno
               go_enter Tryd.func48, Tryd.ntmps48
               go_wp2_with (first
                 | (refine wpList_put rfl 24 (.tmp 10) (.tmp 42) rfl (w.heap.size + 1) rfl U1.out [.bool false, .string ⟨#[]⟩, .string ⟨#[]⟩, .int .i64 0, .string ⟨#[]⟩, .int .i64 0, .slice none 0 0] rfl rfl (by kernel_rfl) (by simp [Value.oneCell']) ?_; intro w3 hv3 hg3 hs3)
                 | fail)
               refine bodyPost_ret (results_var3 rfl _ _ rfl hv3 Tryd.underlying24 rfl (by kernel_rfl)) rfl ?_
               rw [HE.out]
               have z1 := HB1.out.size
               exact ⟨.slice none 0 0, rfl, Row.nil _ _ _, Below.grown HB1.out hg3 z1 (by intro k hk; simp at hk; omega)⟩)
            · have k0 : decide (mi < 0) = false := by simpa using m0
              have k1 : decide (1 < mi) = true := by simp; omega
              (have HE := Lib.hid (rspP_no (h := ⟨false, mt, t, st, rs, mn, fs⟩) (fr := 1) (ln := ln) (cl := cl) (mi := mi) hno)
               clear hno
               go_enter Tryd.func48, Tryd.ntmps48
               go_wp2_with (first
                 | (refine wpList_put rfl 24 (.tmp 10) (.tmp 42) rfl (w.heap.size + 1) rfl U1.out [.bool false, .string ⟨#[]⟩, .string ⟨#[]⟩, .int .i64 0, .string ⟨#[]⟩, .int .i64 0, .slice none 0 0] rfl rfl (by kernel_rfl) (by simp [Value.oneCell']) ?_; intro w3 hv3 hg3 hs3)
                 | fail)
               refine bodyPost_ret (results_var3 rfl _ _ rfl hv3 Tryd.underlying24 rfl (by kernel_rfl)) rfl ?_
               rw [HE.out]
               have z1 := HB1.out.size
               exact ⟨.slice none 0 0, rfl, Row.nil _ _ _, Below.grown HB1.out hg3 z1 (by intro k hk; simp at hk; omega)⟩)
          · have d1 : (fr == 1) = false := by simpa using e1
            by_cases m0 : mi < 0
            · have k0 : decide (mi < 0) = true := by simpa using m0
              (have HE := Lib.hid (rspP_no (h := ⟨false, mt, t, st, rs, mn, fs⟩) (fr := fr) (ln := ln) (cl := cl) (mi := mi) hno)
               clear hno
               go_enter Tryd.func48, Tryd.ntmps48
               go_wp2_with (first
                 | (refine wpList_put rfl 24 (.tmp 10) (.tmp 42) rfl (w.heap.size + 1) rfl U1.out [.bool false, .string ⟨#[]⟩, .string ⟨#[]⟩, .int .i64 0, .string ⟨#[]⟩, .int .i64 0, .slice none 0 0] rfl rfl (by kernel_rfl) (by simp [Value.oneCell']) ?_; intro w3 hv3 hg3 hs3)
                 | fail)
               refine bodyPost_ret (results_var3 rfl _ _ rfl hv3 Tryd.underlying24 rfl (by kernel_rfl)) rfl ?_
               rw [HE.out]
               have z1 := HB1.out.size
               exact ⟨.slice none 0 0, rfl, Row.nil _ _ _, Below.grown HB1.out hg3 z1 (by intro k hk; simp at hk; omega)⟩)
            · have k0 : decide (mi < 0) = false := by simpa using m0
              have k1 : decide (1 < mi) = true := by simp; omega
              (have HE := Lib.hid (rspP_no (h := ⟨false, mt, t, st, rs, mn, fs⟩) (fr := fr) (ln := ln) (cl := cl) (mi := mi) hno)
               clear hno
               go_enter Tryd.func48, Tryd.ntmps48
               go_wp2_with (first
                 | (refine wpList_put rfl 24 (.tmp 10) (.tmp 42) rfl (w.heap.size + 1) rfl U1.out [.bool false, .string ⟨#[]⟩, .string ⟨#[]⟩, .int .i64 0, .string ⟨#[]⟩, .int .i64 0, .slice none 0 0] rfl rfl (by kernel_rfl) (by simp [Value.oneCell']) ?_; intro w3 hv3 hg3 hs3)
                 | fail)
               refine bodyPost_ret (results_var3 rfl _ _ rfl hv3 Tryd.underlying24 rfl (by kernel_rfl)) rfl ?_
               rw [HE.out]
               have z1 := HB1.out.size
               exact ⟨.slice none 0 0, rfl, Row.nil _ _ _, Below.grown HB1.out hg3 z1 (by intro k hk; simp at hk; omega)⟩)
  · (have HE := Lib.hid (rspP_no (h := ⟨true, mt, t, st, rs, mn, fs⟩) (fr := fr) (ln := ln) (cl := cl) (mi := mi) hno)
     clear hno
     go_enter Tryd.func48, Tryd.ntmps48
     go_wp2_with (first
       | (refine wpList_put rfl 24 (.tmp 10) (.tmp 42) rfl (w.heap.size + 1) rfl U1.out [.bool false, .string ⟨#[]⟩, .string ⟨#[]⟩, .int .i64 0, .string ⟨#[]⟩, .int .i64 0, .slice none 0 0] rfl rfl (by kernel_rfl) (by simp [Value.oneCell']) ?_; intro w3 hv3 hg3 hs3)
       | fail)
     refine bodyPost_ret (results_var3 rfl _ _ rfl hv3 Tryd.underlying24 rfl (by kernel_rfl)) rfl ?_
     rw [HE.out]
     have z1 := HB1.out.size
     exact ⟨.slice none 0 0, rfl, Row.nil _ _ _, Below.grown HB1.out hg3 z1 (by intro k hk; simp at hk; omega)⟩)
end Go.Proofs.YtabecgdaiakgiaaDoor
