/- law 25's lent, fields, same, kept. Conditions: sizes. -/
import Derived.Test.YtabecgdaiakgiaaDoorMA
import Derived.Test.YtabecgdaiakgiaaDoorSameG
import Derived.Test.YtabecgdaiakgiaaDoorAwake
import Derived.Test.YtabecgdaiakgiaaDoorMB
namespace Go.Proofs.YtabecgdaiakgiaaDoor
open Go.RowKit

set_option maxHeartbeats 2000000 in
set_option maxRecDepth 100000 in
theorem vfields_any (A A' : Option Addr) (n c c' : Nat) (fs : List Fl) (w : World) (h1 : Rd w w.heap.size 2 A n (fieldsV fs)) (h2 : Rd w w.heap.size 2 A' n (fieldsV fs)) (hn : n ≤ 16777216) :
    Calls Tryd.prog 49 #[.slice A n c, .slice A' n c'] w fun e w' => e = .returned (.bool true) ∧ Below w.heap.size w w' := by
  have hlen : fs.length = n := by have := h1.1; rw [fieldsV_len] at this; omega
  go_enter Tryd.func49, Tryd.ntmps49
  go_wp2
  go_loopw [5] (fun i wr => ∃ k : Nat, k ≤ n ∧ i = .int .i64 k ∧ Below w.heap.size w wr) (fun i _ => n - (intOf i).toNat)
  case atStart => exact ⟨0, Nat.zero_le _, rfl, Below.refl _ _⟩
  case round =>
    obtain ⟨k, hk, rfl, hb⟩ := hrel
    have HB := Lib.hid hb
    by_cases hlt : k < n
    · obtain ⟨g, o, rfl, hg, hcell⟩ := h1.2 (by omega)
      obtain ⟨g', o', rfl, hg', hcell'⟩ := h2.2 (by omega)
      obtain ⟨G1, G2⟩ := fieldsV_get fs k (by omega)
      have old : ∀ (p : Addr), p.block < w.heap.size → ∀ q, (wr.drewN q).cell? p = w.cell? p := fun p hp q => hb.cell (p := p) hp
      have r1 : ∀ q, World.rangeAt (wr.drewN q) g (o + k * 2) [.string fs[k].1, .string fs[k].2] := by
        intro q j v hj
        match j, hj with
        | 0, hj => cases hj; exact (old _ hg q).trans (hcell _ _ G1)
        | 1, hj => cases hj; rw [Nat.add_assoc]; exact (old _ hg q).trans (hcell _ _ G2)
      have r2 : ∀ q, World.rangeAt (wr.drewN q) g' (o' + k * 2) [.string fs[k].1, .string fs[k].2] := by
        intro q j v hj
        match j, hj with
        | 0, hj => cases hj; exact (old _ hg' q).trans (hcell' _ _ G1)
        | 1, hj => cases hj; rw [Nat.add_assoc]; exact (old _ hg' q).trans (hcell' _ _ G2)
      clear hcell hcell' G1 G2 old
      generalize fs[k].1 = xa at *
      generalize fs[k].2 = xb at *
      go_wp2
      refine wp_region_quiet_lit (by kernel_rfl) (by kernel_rfl) ?_
      repeat (first
        | (refine wpQuiet_load_mid rfl 48 (.tmp 19) rfl g (o + k * 2) rfl _ _ (by rintro _ ⟨q, rfl⟩; exact r1 q) Tryd.underlying48 rfl (by kernel_rfl) ?_)
        | (refine wpQuiet_load_mid rfl 48 (.tmp 23) rfl g' (o' + k * 2) rfl _ _ (by rintro _ ⟨q, rfl⟩; exact r2 q) Tryd.underlying48 rfl (by kernel_rfl) ?_)
        | go_big_quiet_step (fail)
        | quiet_step (fail))
      refine wpQuiet_nil ?_
      rintro _ ⟨nq, rfl⟩
      go_wp2
      go_roundw
      case rel => exact ⟨k + 1, by omega, by go_num, below_drewN HB.out _⟩
      case measure => simp [intOf]; omega
    · go_wp2
      go_ret
      exact ⟨rfl, HB.out⟩


def sMark : ByteArray := ⟨#[109, 97, 114, 107]⟩
theorem fieldsV_snoc (fs : List Fl) (f : Fl) : fieldsV (fs ++ [f]) = fieldsV fs ++ [.string f.1, .string f.2] := by
  unfold fieldsV; rw [List.flatMap_append]; rfl
theorem results_cell {fn : Func} {p : Tmp} {ty : TypeId} (h : fn.results = #[.cell p ty]) (tmps : Array Value) (P : Program) (w : World) :
    (results fn tmps).run P w = ((asAddr (tmps.getD p undef)).run P w).andThen fun a w₁ => (loadVar ty a).run P w₁ := by
  simp only [results, h]
  simp [Sem.run_bind, Result.andThen]
theorem results_var1 {P : Program} {fn : Func} {p : Tmp} {ty : TypeId} (h : fn.results = #[.cell p ty]) (tmps : Array Value) {w : World} {b : Nat} {t : TypeId} {cs : List Value} (d : TypeDesc)
    (hp : tmps.getD p undef = .pointer (some ⟨b, 0, none⟩)) (hv : Var w b t cs) (hu : P.underlying ty = some d) (hd : (match d with | .struct _ | .array _ _ => true | _ => false) = true) (hi : (P.info? ty).map (·.size) = some cs.length) :
    (results fn tmps).run P w = .ok (.agg cs.toArray) w := by
  have hl := run_loadVar_row (P := P) w b t ty cs.toArray (0, 0) d hv hu hd (by simpa using hi)
  rw [results_cell h, hp]
  simp [asAddr, Result.andThen, hl]

set_option maxHeartbeats 2000000 in
set_option maxRecDepth 100000 in
theorem vlent_any (rq : Bool) (m t : ByteArray) (st : Int) (rs : ByteArray) (mn : Int) (A : Option Addr) (n c : Nat) (fs : List Fl) (w : World) (hA : A = none → n = 0) (hrd : Rd w w.heap.size 2 A n (fieldsV fs)) (hn : n ≤ 16777216) :
    Calls Tryd.prog 13 #[headV rq m t st rs mn (.slice A n c)] w fun e w' => ∃ g o c', e = .returned (headV rq m t st rs mn (.slice (some ⟨g, o, none⟩) n c')) ∧ n + 1 ≤ c' ∧ Row w' w.heap.size 2 (.slice (some ⟨g, o, none⟩) (n + 1) c') (n + 1) (fieldsV (fs ++ [(sMark, ⟨#[]⟩)])) ∧ Below w.heap.size w w' := by
  obtain ⟨f0, hf0, fz0, fz1, fz2⟩ := info_parts infoField
  have B1 : Below w.heap.size w ((w.alloc (.cells #[.bool rq, .string m, .string t, .int .i64 st, .string rs, .int .i64 mn, .slice A n c] 24)).alloc (.cells #[.bool false, .string ⟨#[]⟩, .string ⟨#[]⟩, .int .i64 0, .string ⟨#[]⟩, .int .i64 0, .slice none 0 0] 24)) := ((Below.refl _ _).alloc (Nat.le_refl _) _).alloc (by simp) _
  have r1 := (hrd.below B1).more B1.size
  have V1 := Lib.hid ((Var.new w 24 [.bool rq, .string m, .string t, .int .i64 st, .string rs, .int .i64 mn, .slice A n c]).alloc (.cells #[.bool false, .string ⟨#[]⟩, .string ⟨#[]⟩, .int .i64 0, .string ⟨#[]⟩, .int .i64 0, .slice none 0 0] 24))
  have z1 : (w.alloc (.cells #[.bool rq, .string m, .string t, .int .i64 st, .string rs, .int .i64 mn, .slice A n c] 24)).heap.size = w.heap.size + 1 := by simp
  have U1 := Lib.hid (Var.new (w.alloc (.cells #[.bool rq, .string m, .string t, .int .i64 st, .string rs, .int .i64 mn, .slice A n c] 24)) 24 [.bool false, .string ⟨#[]⟩, .string ⟨#[]⟩, .int .i64 0, .string ⟨#[]⟩, .int .i64 0, .slice none 0 0])
  rw [z1] at U1
  have Z1 := Lib.hid z1
  have HB1 := Lib.hid B1
  unfold headV
  clear hrd B1 z1
  go_enter Tryd.func13, Tryd.ntmps13
  go_upto_region 3 with (first
    | (at_builtin; have hrow2' := hrow2; go_must (refine wpList_app _ rfl (.tmp 7) (.tmp 9) 22 22 rfl (w.heap.size + 2) 48 f0 (.agg #[.string ⟨#[]⟩, .string ⟨#[]⟩]) 2 32 Tryd.underlying22 hf0 fz0 fz1 fz2 rfl v2 n (fieldsV fs) rfl (hrow2.alloc _) _ 1 [.string ⟨#[109, 97, 114, 107]⟩, .string ⟨#[]⟩] rfl (Src.built [.string ⟨#[109, 97, 114, 107]⟩, .string ⟨#[]⟩] 48 Tryd.underlying22 rfl (by intro u hu; simp at hu; rcases hu with rfl | rfl <;> rfl)) (by omega) (by omega) (by omega) (by have := hg2.size; simp at this ⊢; omega) ?_); intro v3 w3 hrow3 hg3 _)
    | (at_builtin; go_must (refine wpList_app _ rfl (.tmp 4) (.tmp 6) 22 22 rfl (w.heap.size + 2) 48 f0 (.agg #[.string ⟨#[]⟩, .string ⟨#[]⟩]) 2 32 Tryd.underlying22 hf0 fz0 fz1 fz2 rfl (.slice none 0 0) 0 [] rfl (Row.nil _ _ _) _ n (fieldsV fs) rfl (Src.slice Tryd.underlying22 r1 hA (fieldsV_one fs)) (by omega) (by omega) (by omega) (by simp <;> omega) ?_); intro v2 w2 hrow2 hg2 _; rw [List.nil_append, Nat.zero_add] at hrow2)
    | fail)
  have hz2 : w.heap.size + 2 ≤ w2.heap.size := by have := hg2.size; simp at this; exact this
  have hz3 : w2.heap.size + 1 ≤ w3.heap.size := by have := hg3.size; simp at this; exact this
  have k2 := hrow2.lt
  have V3 := Lib.hid (((V1.out.grown hg2 (by simp [Value.ownBlock])).alloc (.cells #[.string ⟨#[109, 97, 114, 107]⟩, .string ⟨#[]⟩] 48)).grown hg3 (fun e => by have := (k2 _ e).1; omega))
  have U3 := Lib.hid (((U1.out.grown hg2 (by simp [Value.ownBlock])).alloc (.cells #[.string ⟨#[109, 97, 114, 107]⟩, .string ⟨#[]⟩] 48)).grown hg3 (fun e => by have := (k2 _ e).1; omega))
  have B3 := Lib.hid (((HB1.out.grown hg2 HB1.out.size (by simp [Value.ownBlock])).alloc (by omega) (.cells #[.string ⟨#[109, 97, 114, 107]⟩, .string ⟨#[]⟩] 48)).grown hg3 (by simp; omega) (fun k hk => by have := (k2 k hk).1; omega))
  obtain ⟨A3, c3, rfl, hc3, _, _, _⟩ := hrow3.form
  obtain ⟨g, o, rfl, hgb, _, _, _⟩ := hrow3.own (by omega)
  have HR3 := Lib.hid hrow3
  have v6 := V3.out.cell (j := 6) rfl
  have vf := V3.out.frozen 6
  have V4 := Lib.hid (V3.out.set 6 (.slice (some ⟨g, o, none⟩) n c3))
  have U4 := Lib.hid (U3.out.set_other (p := ⟨w.heap.size, 6, none⟩) (by simp) (.slice (some ⟨g, o, none⟩) n c3))
  have R4 := Lib.hid (HR3.out.setCell (p := ⟨w.heap.size, 6, none⟩) (by simp [Value.ownBlock]; omega) (.slice (some ⟨g, o, none⟩) n c3))
  have B4 := Lib.hid (B3.out.setCell (p := ⟨w.heap.size, 6, none⟩) (Nat.le_refl _) (.slice (some ⟨g, o, none⟩) n c3))
  clear hrow3 hrow2 hg2 hg3 k2 r1
  go_wp2_with (first
    | (refine wpList_load_mid rfl 24 (.tmp 1) rfl w.heap.size 0 rfl [.bool rq, .string m, .string t, .int .i64 st, .string rs, .int .i64 mn, .slice (some ⟨g, o, none⟩) n c3] _ V4.out.range Tryd.underlying24 rfl (by kernel_rfl) ?_)
    | (refine wpList_put rfl 24 (.tmp 2) (.tmp 17) rfl (w.heap.size + 1) rfl U4.out [.bool rq, .string m, .string t, .int .i64 st, .string rs, .int .i64 mn, .slice (some ⟨g, o, none⟩) n c3] rfl rfl (by kernel_rfl) (by simp [Value.oneCell']) ?_; intro w5 hv5 hg5 hs5)
    | fail)
  refine bodyPost_ret (results_var1 rfl _ _ rfl hv5 Tryd.underlying24 rfl (by kernel_rfl)) rfl ⟨g, o, c3, rfl, hc3, ?_, ?_⟩
  · rw [fieldsV_snoc]
    exact (R4.out.kept hg5 (by simp [Value.ownBlock]; omega)).mono (by omega)
  · exact B4.out.grown hg5 (by have := B4.out.size; omega) (by intro k hk; simp at hk; omega)

set_option maxHeartbeats 2000000 in
set_option maxRecDepth 100000 in
theorem vsame_any (rq : Bool) (m t : ByteArray) (st : Int) (rs : ByteArray) (mn : Int) (A A' : Option Addr) (n c c' : Nat) (fs : List Fl) (w : World) (h1 : Rd w w.heap.size 2 A n (fieldsV fs)) (h2 : Rd w w.heap.size 2 A' n (fieldsV fs))
    (hn : n ≤ 16777216) :
    Calls Tryd.prog 47 #[headV rq m t st rs mn (.slice A n c), headV rq m t st rs mn (.slice A' n c')] w fun e w' => e = .returned (.bool true) ∧ Below w.heap.size w w' := by
  have B1 : Below w.heap.size w ((w.alloc (.cells #[.bool rq, .string m, .string t, .int .i64 st, .string rs, .int .i64 mn, .slice A n c] 24)).alloc (.cells #[.bool rq, .string m, .string t, .int .i64 st, .string rs, .int .i64 mn, .slice A' n c'] 24)) := ((Below.refl _ _).alloc (Nat.le_refl _) _).alloc (by simp) _
  have r1 := (h1.below B1).more B1.size
  have r2 := (h2.below B1).more B1.size
  have HF := Lib.hid (vfields_any A A' n c c' fs _ r1 r2 hn)
  have HB1 := Lib.hid B1
  unfold headV
  clear h1 h2 B1 r1 r2
  go_enter Tryd.func47, Tryd.ntmps47
  go_wp2_with (first
    | (go_at_call 49; (refine HF.out.mono ?_; rintro _ w2 ⟨rfl, hb2⟩))
    | fail)
  go_ret
  exact ⟨rfl, HB1.out.trans (hb2.mono HB1.out.size)⟩

set_option maxHeartbeats 2000000 in
set_option maxRecDepth 100000 in
theorem vkept_any (rq : Bool) (m t : ByteArray) (st : Int) (rs : ByteArray) (mn : Int) (g o : Nat) (A' : Option Addr) (n c c' : Nat) (fs : List Fl) (w : World) (hc : n + 1 ≤ c) (h1 : Rd w w.heap.size 2 (some ⟨g, o, none⟩) (n + 1) (fieldsV (fs ++ [(sMark, ⟨#[]⟩)]))) (h2 : Rd w w.heap.size 2 A' n (fieldsV fs))
    (hn : n ≤ 16777216) :
    Calls Tryd.prog 20 #[headV rq m t st rs mn (.slice (some ⟨g, o, none⟩) n c), headV rq m t st rs mn (.slice A' n c')] w fun e w' => e = .returned (.bool true) ∧ Below w.heap.size w w' := by
  have hlen : fs.length = n := by have := h2.1; rw [fieldsV_len] at this; omega
  obtain ⟨g', o', e, hg, hcell⟩ := h1.2 (by omega)
  injection e with e
  injection e with e1 e2 _
  subst e1 e2
  have k1 : w.cell? ⟨g, o + n * 2, none⟩ = some (.string ⟨#[109, 97, 114, 107]⟩) := hcell (n * 2) _ (by rw [fieldsV_snoc, List.getElem?_append_right (by rw [fieldsV_len]; omega), fieldsV_len, hlen, Nat.sub_self]; rfl)
  have h1' := h1.pre (k := n) (by omega)
  rw [fieldsV_snoc, List.take_append_of_le_length (by rw [fieldsV_len]; omega), List.take_of_length_le (by rw [fieldsV_len]; omega)] at h1'
  have B1 : Below w.heap.size w ((w.alloc (.cells #[.bool rq, .string m, .string t, .int .i64 st, .string rs, .int .i64 mn, .slice (some ⟨g, o, none⟩) n c] 24)).alloc (.cells #[.bool rq, .string m, .string t, .int .i64 st, .string rs, .int .i64 mn, .slice A' n c'] 24)) := ((Below.refl _ _).alloc (Nat.le_refl _) _).alloc (by simp) _
  have r1 := (h1'.below B1).more B1.size
  have r2 := (h2.below B1).more B1.size
  have HS := Lib.hid (vsame_any rq m t st rs mn (some ⟨g, o, none⟩) A' n c c' fs _ r1 r2 hn)
  have HB1 := Lib.hid B1
  have V1 := (Var.new w 24 [.bool rq, .string m, .string t, .int .i64 st, .string rs, .int .i64 mn, .slice (some ⟨g, o, none⟩) n c]).alloc (.cells #[.bool rq, .string m, .string t, .int .i64 st, .string rs, .int .i64 mn, .slice A' n c'] 24)
  have U1 := Var.new (w.alloc (.cells #[.bool rq, .string m, .string t, .int .i64 st, .string rs, .int .i64 mn, .slice (some ⟨g, o, none⟩) n c] 24)) 24 [.bool rq, .string m, .string t, .int .i64 st, .string rs, .int .i64 mn, .slice A' n c']
  have z1 : (w.alloc (.cells #[.bool rq, .string m, .string t, .int .i64 st, .string rs, .int .i64 mn, .slice (some ⟨g, o, none⟩) n c] 24)).heap.size = w.heap.size + 1 := by simp
  rw [z1] at U1
  have HV1 := Lib.hid V1
  have HU1 := Lib.hid U1
  unfold headV at HS ⊢
  clear h1 h2 B1 r1 r2 h1' hcell V1 U1 z1
  go_enter Tryd.func20, Tryd.ntmps20
  go_wp2_with (first
    | (refine wpList_load_mid rfl 24 (.tmp 2) rfl w.heap.size 0 rfl [.bool rq, .string m, .string t, .int .i64 st, .string rs, .int .i64 mn, .slice (some ⟨g, o, none⟩) n c] _ HV1.out.range Tryd.underlying24 rfl (by kernel_rfl) ?_)
    | (refine wpList_load_mid rfl 24 (.tmp 3) rfl (w.heap.size + 1) 0 rfl [.bool rq, .string m, .string t, .int .i64 st, .string rs, .int .i64 mn, .slice A' n c'] _ HU1.out.range Tryd.underlying24 rfl (by kernel_rfl) ?_)
    | (go_at_call 47; (refine HS.out.mono ?_; rintro _ w2 ⟨rfl, hb2⟩; have V2 := HV1.out.below_all hb2; have v6 := V2.cell (j := 6) rfl; have k2 := (hb2.cell (p := ⟨g, o + n * 2, none⟩) (by have := HB1.out.size; show g < _; omega)).trans ((HB1.out.cell (p := ⟨g, o + n * 2, none⟩) hg).trans k1)))
    | fail)
  go_ret
  exact ⟨rfl, HB1.out.trans (hb2.mono HB1.out.size)⟩
end Go.Proofs.YtabecgdaiakgiaaDoor
