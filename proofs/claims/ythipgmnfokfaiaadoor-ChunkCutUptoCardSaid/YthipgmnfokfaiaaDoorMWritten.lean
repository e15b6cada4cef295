/- law 23's written, round. Conditions: sizes, the world's shape, the library's table. -/
import Derived.Test.YthipgmnfokfaiaaDoorMAwake
namespace Go.Proofs.YthipgmnfokfaiaaDoor
open Go.RowKit

theorem results_tmp3' {fn : Func} {t u v : Tmp} (h : fn.results = #[.tmp t, .tmp u, .tmp v]) (tmps : Array Value) (P : Program) (w : World) :
    (results fn tmps).run P w = .ok (.tuple #[tmps.getD t undef, tmps.getD u undef, tmps.getD v undef]) w := by
  simp [results, h]
theorem writeC_len (p : Bs) (h : p.length ≤ Chunk.most) : (Chunk.writeC p).length ≤ p.length + 12 := by
  by_cases h0 : p = []
  · subst h0; simp [Chunk.writeC]
  · have := Chunk.hexD_len8 h
    rw [Chunk.writeC_cons h0]
    simp; omega
theorem chunks_take (ps : List Bs) (k : Nat) (h : k < ps.length) : Chunk.chunks (ps.take (k + 1)) = Chunk.chunks (ps.take k) ++ Chunk.writeC ps[k] := by
  unfold Chunk.chunks
  rw [List.take_succ_eq_append_getElem h, List.map_append, List.flatten_append]
  simp only [List.map_cons, List.map_nil, List.flatten_cons, List.flatten_nil, List.append_nil]
/-- pieces, joined -/
def joinB (ps : List Bs) : Bs := ps.flatten
theorem flat_take (ps : List Bs) (k : Nat) (h : k < ps.length) : joinB (ps.take (k + 1)) = joinB (ps.take k) ++ ps[k] := by
  unfold joinB
  rw [List.take_succ_eq_append_getElem h, List.flatten_append]
  simp only [List.flatten_cons, List.flatten_nil, List.append_nil]
theorem size_one (ps : List Bs) (k : Nat) (h : k < ps.length) : ps[k].length ≤ sizes ps := by
  have h1 := sizes_take ps k h
  have h2 := sizes_le ps (k + 1)
  omega
theorem flat_len (ps : List Bs) : (joinB ps).length = sizes ps := by simp [joinB, sizes, List.length_flatten]
theorem chunks_len (ps : List Bs) : (∀ p ∈ ps, p.length ≤ Chunk.most) → (Chunk.chunks ps).length ≤ sizes ps + 12 * ps.length := by
  induction ps with
  | nil => intro _; simp [Chunk.chunks]
  | cons p ps ih =>
    intro h
    have h1 := writeC_len p (h p (by simp))
    have h2 := ih (fun q hq => h q (by simp [hq]))
    have e : Chunk.chunks (p :: ps) = Chunk.writeC p ++ Chunk.chunks ps := by simp [Chunk.chunks]
    have e2 : sizes (p :: ps) = p.length + sizes ps := by simp [sizes]
    rw [e, e2, List.length_append, List.length_cons]
    omega
theorem lastP_len (fs : List Fl) : (Chunk.lastP (upF fs)).1.length ≤ fSize fs + 5 := by
  unfold Chunk.lastP
  by_cases h : Chunk.okFs (upF fs) 0 0 = true
  · rw [if_pos h, Chunk.lastB_len, linesF_len]; omega
  · rw [if_neg h]; exact Nat.zero_le _
theorem lastP_ok (fs : List (Bs × Bs)) : ((Chunk.lastP fs).2 : Int) = if Chunk.okFs fs 0 0 = true then 0 else 2 := by
  unfold Chunk.lastP
  by_cases h : Chunk.okFs fs 0 0 = true
  · rw [if_pos h, if_pos h]; rfl
  · rw [if_neg h, if_neg h]; rfl
theorem most_small {ps : List Bs} (h : sizes ps ≤ 16777216) : ∀ p ∈ ps, p.length ≤ Chunk.most := by
  intro p hp
  obtain ⟨k, hk, rfl⟩ := List.getElem_of_mem hp
  have := size_one ps k hk
  unfold Chunk.most
  omega
structure WrIs (w wr : World) (ps : List Bs) (k : Nat) (vo va : Value) : Prop where
  le : k ≤ ps.length
  out : RowB wr w.heap.size vo (Chunk.chunks (ps.take k))
  all : RowB wr w.heap.size va (joinB (ps.take k))
  apart : ∀ q, vo.ownBlock = some q → va.ownBlock ≠ some q
  below : Below w.heap.size w wr

set_option maxHeartbeats 4000000 in
set_option maxRecDepth 100000 in
theorem mwritten_any (A : Option Addr) (n c : Nat) (ps : List Bs) (A2 : Option Addr) (n2 c2 : Nat) (fs : List Fl) (w : World) (hsh : w.ShapedOpen Tryd.prog) (ht : Tz w) (hp : Pcs w w.heap.size A n ps) (hsz : sizes ps ≤ 1048576) (hn : n ≤ 1048576)
    (hA2 : A2 = none → n2 = 0) (hrd2 : Rd w w.heap.size 2 A2 n2 (fieldsV fs)) (hn2 : n2 ≤ 1048576) (hf : fSize fs ≤ 67108864) :
    Calls Tryd.prog 52 #[.slice A n c, .slice A2 n2 c2] w fun e w' => ∃ vo va, e = .returned (.tuple #[vo, va, .bool (Chunk.okFs (upF fs) 0 0)]) ∧ RowB w' w.heap.size vo (Chunk.chunks ps ++ (Chunk.lastP (upF fs)).1) ∧ RowB w' w.heap.size va (joinB ps) ∧ Below w.heap.size w w' := by
  obtain ⟨f0, hf0, fz0, fz1, fz2⟩ := info_parts infoField
  have hlen2 : fs.length = n2 := by have := hrd2.1; rw [fieldsV_len] at this; omega
  have hpl := hp.len
  have HP := Lib.hid hp
  have HS := Lib.hid hsh
  have HT := Lib.hid ht
  have h5 := ht.lt
  have HR2 := Lib.hid hrd2
  have hmost := most_small (ps := ps) (by omega)
  have hcl := chunks_len ps hmost
  have hfl := flat_len ps
  have HM := Lib.hid hmost
  clear hp hsh ht hrd2 hmost
  go_enter Tryd.func52, Tryd.ntmps52
  go_wp2
  go_loopw [7, 8, 9] (fun vo va i wr => ∃ k : Nat, i = .int .i64 k ∧ WrIs w wr ps k vo va) (fun _ _ i _ => n - (intOf i).toNat)
  case atStart => exact ⟨0, rfl, ⟨Nat.zero_le _, RowB.nil _ _, RowB.nil _ _, fun q hq => by simp [Value.ownBlock] at hq, Below.refl _ _⟩⟩
  case round =>
    obtain ⟨k, rfl, hw⟩ := hrel
    obtain ⟨wo, rfl⟩ : ∃ wo : World, wo = wr := ⟨_, rfl⟩
    have HW := Lib.hid hw
    have hk := hw.le
    have hzw := hw.below.size
    obtain ⟨Ao, co, rfl, _, _, _, _⟩ := hw.out.form
    obtain ⟨Aa, ca, rfl, _, _, _, _⟩ := hw.all.form
    clear hw
    by_cases hlt : k < n
    · obtain ⟨g, o, a, cp, rfl, hg, hcell0, hle, hnone, hrdp0⟩ := HP.out.get k (by omega)
      have hck := Lib.hid (chunks_take ps k (by omega))
      have hfk := Lib.hid (flat_take ps k (by omega))
      have h1 := size_one ps k (by omega)
      have hc1 := chunks_len (ps.take k) (fun p hp => HM.out p (List.mem_of_mem_take hp))
      have hc2 := sizes_le ps k
      have hc3 : (ps.take k).length ≤ n := by rw [List.length_take]; omega
      have hf1 := flat_len (ps.take k)
      generalize ps[k] = p at *
      have hwl := writeC_len p (by unfold Chunk.most; omega)
      have hcell := (HW.out.below.cell (p := ⟨g, o + k, none⟩) hg).trans hcell0
      have hrdp : Rd wo wo.heap.size 1 a p.length (bytesV p) := (hrdp0.below HW.out.below).more hzw
      have HC0 := Lib.hid hcell0
      have HR0 := Lib.hid hrdp0
      have HCL : Hid ((Chunk.chunks (ps.take k)).length ≤ 33554432) := Lib.hid (by omega)
      have HFL : Hid ((joinB (ps.take k)).length ≤ 33554432) := Lib.hid (by omega)
      have hpl2 : p.length ≤ 1048576 := by omega
      clear hcell0 hrdp0 h1 hc1 hc2 hc3 hf1
      have e0 : (p ++ [201, 202]).take p.length = p := List.take_left
      go_upto_region 6 with (first
        | (go_at_call 27; go_must (refine (mlent_any a p.length cp p wo hnone hrdp (by omega)).mono ?_; rintro _ w1 ⟨g1, o1, c1, rfl, hc1, hm1, hrow1, hb1⟩; obtain ⟨_, _, q1, _, _, _, hrg⟩ := hrow1.form; injection q1 with q1 _ q3; subst q1 q3; have hrp := hrg.pre (k := p.length) (by omega); rw [Nat.mul_one, bytesV_take, e0] at hrp; have B1 := HW.out.below.trans (hb1.mono hzw)))
        | (go_at_call 45; go_must (refine (cwrite_any (some ⟨g1, o1, none⟩) p.length c1 p _ (HT.out.below B1 h5) (fun e => by cases e) hrp (by omega)).mono ?_; rintro _ w2 ⟨v2, rfl, hrow2, hb2⟩; obtain ⟨Aw, cw, rfl, _, _, _, _⟩ := RowB.form hrow2; have z1 := hb1.size; have z2 := hb2.size; have BX := Lib.hid (hb1.trans (hb2.mono z1)); have RO := HW.out.out.below_all BX.out; have RA := HW.out.all.below_all BX.out))
        | (at_builtin; (refine wpList_appB (L := Chunk.chunks (ps.take k)) (M := Chunk.writeC p) rfl (.tmp 18) (.tmp 24) 35 rfl w.heap.size rfl RO rfl (SrcB.of_row hrow2) (by have := HCL.out; omega) (by omega) ?_); go_must (intro v3 w3 hrow3 hbb3 hg3 hv3))
        | fail)
      have hv3' : v3.ownBlock = (Value.slice Ao (Chunk.chunks (ps.take k)).length co).ownBlock ∨ v3.ownBlock = some w2.heap.size := hv3
      have hg3' : w2.grownBy w3 (Value.slice Ao (Chunk.chunks (ps.take k)).length co).ownBlock := hg3
      have RA3 : RowB w3 w.heap.size (.slice Aa (joinB (ps.take k)).length ca) (joinB (ps.take k)) := Row.beside RA hg3' (fun q hq e => HW.out.apart q e hq)
      have HB3 : Hid (Below w.heap.size w w3) := Lib.hid ((HW.out.below.trans (BX.out.mono hzw)).trans hbb3)
      have ap3 : ∀ q, v3.ownBlock = some q → (Value.slice Aa (joinB (ps.take k)).length ca).ownBlock ≠ some q := fun q hq e => by
        rcases hv3' with x | x
        · exact HW.out.apart q (by rw [← x]; exact hq) e
        · rw [x] at hq; injection hq with hq; have := (RowB.lt RA q e).2; omega
      have R3 := Lib.hid hrow3
      have RA3' := Lib.hid RA3
      have AP3 := Lib.hid ap3
      have hcell := (HB3.out.cell (p := ⟨g, o + k, none⟩) hg).trans HC0.out
      have hrdp : Rd w3 w3.heap.size 1 a p.length (bytesV p) := (HR0.out.below HB3.out).more HB3.out.size
      have z3 := HB3.out.size
      clear hrow1 hrg hrp hb1 B1 hrow2 hb2 RO RA hrow3 hbb3 hg3 hv3 hv3' hg3' RA3 ap3
      go_wp2_with (first
        | (at_builtin; (refine wpList_appB (L := (joinB (ps.take k))) (M := p) rfl (.tmp 26) (.tmp 30) 35 rfl w.heap.size rfl RA3'.out rfl (SrcB.slice hrdp hnone) (by have := HFL.out; omega) (by omega) ?_); go_must (intro v4 w4 hrow4 hbb4 hg4 hv4))
        | fail)
      have hv4' : v4.ownBlock = (Value.slice Aa (joinB (ps.take k)).length ca).ownBlock ∨ v4.ownBlock = some w3.heap.size := hv4
      have hg4' : w3.grownBy w4 (Value.slice Aa (joinB (ps.take k)).length ca).ownBlock := hg4
      have RO4 : RowB w4 w.heap.size v3 (Chunk.chunks (ps.take k) ++ Chunk.writeC p) := Row.beside R3.out hg4' (fun q hq e => AP3.out q hq e)
      have ap4 : ∀ q, v3.ownBlock = some q → v4.ownBlock ≠ some q := fun q hq e => by
        rcases hv4' with x | x
        · exact AP3.out q hq (by rw [← x]; exact e)
        · rw [x] at e; injection e with e; have := (RowB.lt R3.out q hq).2; omega
      go_roundw
      case rel => exact ⟨k + 1, by go_num, ⟨by omega, by rw [hck.out]; exact RO4, by rw [hfk.out]; exact hrow4, ap4, HB3.out.trans hbb4⟩⟩
      case measure => simp [intOf]; omega
    · have e1 : ps.take k = ps := List.take_of_length_le (by omega)
      rw [e1] at HW ⊢
      have ro := HW.out.out
      have ra := HW.out.all
      rw [e1] at ro ra
      have HRO := Lib.hid ro
      have HRA := Lib.hid ra
      clear e1 hfl ro ra
      have hll := lastP_len fs
      have hlo := lastP_ok (upF fs)
      have hr2 := (HR2.out.below HW.out.below).more hzw
      have hra := (hr2.alloc (Nat.le_refl _) (.cells #[] 53))
      have HCL := Lib.hid (fun A c W hs h => clast_any A n2 c fs W hs h (by omega) hf)
      have hcl2 : (Chunk.chunks ps).length ≤ 33554432 := by omega
      obtain ⟨LP, hLP⟩ : ∃ LP, LP = Chunk.lastP (upF fs) := ⟨_, rfl⟩
      rw [← hLP] at hll hlo HCL
      have HLP := Lib.hid hLP
      clear hLP
      obtain ⟨LB, le⟩ := LP
      unfold LastPost at HCL
      simp only at hll hlo HCL
      obtain ⟨okb, hok⟩ : ∃ okb, okb = Chunk.okFs (upF fs) 0 0 := ⟨_, rfl⟩
      rw [← hok] at hlo
      have HOK := Lib.hid hok
      clear hok
      go_upto_region 8 with (first
        | (at_builtin; (refine wpList_app _ rfl (.tmp 33) (.tmp 34) 22 22 rfl wo.heap.size 53 f0 (.agg #[.string ⟨#[]⟩, .string ⟨#[]⟩]) 2 32 Tryd.underlying22 hf0 fz0 fz1 fz2 rfl (.slice (some ⟨wo.heap.size, 0, none⟩) 0 0) 0 [] (by rfl) (empty_row wo _ 2) _ n2 (fieldsV fs) (by rfl) (Src.slice Tryd.underlying22 hra hA2 (fieldsV_one fs)) (by omega) (by omega) (by omega) (by simp) ?_); go_must (intro v5 w5 hrow5 hg5 hv5; rw [List.nil_append, Nat.zero_add] at hrow5; obtain ⟨A5, c5, rfl, _, _, _, hr5⟩ := hrow5.form; have hb5 : Below wo.heap.size wo w5 := Below.app ((Below.refl _ _).alloc (Nat.le_refl _) _) (empty_row wo 53 2) hg5 (Nat.le_refl _) (by simp)))
        | (go_at_call 49; go_must (refine (HCL.out A5 c5 _ (shaped_below HS.out (HW.out.below.trans (hb5.mono hzw))) hr5).mono ?_; rintro _ w6 ⟨v6, rfl, hrow6, hb6⟩))
        | fail)
      have z5 := hb5.size
      have z6 := hb6.size
      have B56 := hb5.trans (hb6.mono z5)
      have RO := Lib.hid (HRO.out.below_all B56)
      have RA := Lib.hid (HRA.out.below_all B56)
      have HB6 := Lib.hid (HW.out.below.trans (B56.mono hzw))
      have R6 := Lib.hid hrow6
      obtain ⟨A6, c6, rfl, _, _, _, _⟩ := hrow6.form
      clear hrow5 hg5 hv5 hr5 hb5 hb6 B56 hrow6 hra hr2 HCL
      cases okb
      · rw [if_neg (by simp)] at hlo
        go_wp2_with (first
          | (at_builtin; go_must (refine wpList_appB (L := Chunk.chunks ps) (M := LB) rfl (.tmp 39) (.tmp 40) 35 rfl w.heap.size rfl RO.out rfl (SrcB.of_row R6.out) (by omega) (by omega) ?_); go_must (intro v7 w7 hrow7 hbb7 hg7 _))
          | fail)
        refine bodyPost_ret (results_tmp3' rfl _ _ _) rfl ?_
        have hg7' : w6.grownBy w7 (Value.slice Ao (Chunk.chunks ps).length co).ownBlock := hg7
        rw [← HLP.out, ← HOK.out]
        exact ⟨_, _, rfl, hrow7, Row.beside RA.out hg7' (fun q hq e => HW.out.apart q e hq), HB6.out.trans hbb7⟩
      · rw [if_pos rfl] at hlo
        go_wp2_with (first
          | (at_builtin; go_must (refine wpList_appB (L := Chunk.chunks ps) (M := LB) rfl (.tmp 39) (.tmp 40) 35 rfl w.heap.size rfl RO.out rfl (SrcB.of_row R6.out) (by omega) (by omega) ?_); go_must (intro v7 w7 hrow7 hbb7 hg7 _))
          | fail)
        refine bodyPost_ret (results_tmp3' rfl _ _ _) rfl ?_
        have hg7' : w6.grownBy w7 (Value.slice Ao (Chunk.chunks ps).length co).ownBlock := hg7
        rw [← HLP.out, ← HOK.out]
        exact ⟨_, _, rfl, hrow7, Row.beside RA.out hg7' (fun q hq e => HW.out.apart q e hq), HB6.out.trans hbb7⟩
end Go.Proofs.YthipgmnfokfaiaaDoor
