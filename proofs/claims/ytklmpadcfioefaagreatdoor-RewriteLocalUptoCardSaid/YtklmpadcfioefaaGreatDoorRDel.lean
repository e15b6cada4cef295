/- slices.DeleteFunc over fields. Conditions: sizes. -/
import Derived.Test.YtklmpadcfioefaaGreatDoorROthers
namespace Go.Proofs.YtklmpadcfioefaaGreatDoor
open Go.RowKit

theorem heap_alloc_size (w : World) (o : Obj) : (w.alloc o).heap.size = w.heap.size + 1 := by simp
structure KI (S : Bs → Bool) (fs : List Fl) (i j : Nat) (xs : List Value) : Prop where
  cnt : i = (keepF S (fs.take j)).length
  lt : i < j
  le : j ≤ fs.length
  len : xs.length = fs.length * 2
  pre : xs.take (i * 2) = fieldsV (keepF S (fs.take j))
  rest : xs.drop (j * 2) = (fieldsV fs).drop (j * 2)

section
variable {S : Bs → Bool} {fs : List Fl} {i j : Nat} {xs : List Value}
theorem KI.get (h : KI S fs i j xs) (hj : j < fs.length) : xs[j * 2]? = some (.string fs[j].1) ∧ xs[j * 2 + 1]? = some (.string fs[j].2) := by
  obtain ⟨G1, G2⟩ := fieldsV_get fs j hj
  have e0 : xs[j * 2]? = (xs.drop (j * 2))[0]? := by rw [List.getElem?_drop, Nat.add_zero]
  have e1 : xs[j * 2 + 1]? = (xs.drop (j * 2))[1]? := by rw [List.getElem?_drop]
  rw [e0, e1, h.rest, List.getElem?_drop, List.getElem?_drop, Nat.add_zero]
  exact ⟨G1, G2⟩
theorem KI.start {k : Nat} (hk : k < fs.length) (hd : dropF S fs[k] = true) (ha : ∀ f ∈ fs.take k, dropF S f = false) : KI S fs k (k + 1) (fieldsV fs) := by
  have e : keepF S (fs.take (k + 1)) = fs.take k := by rw [keepF_step S fs k hk, if_pos hd, List.append_nil, keepF_all ha]
  exact ⟨by rw [e, List.length_take]; omega, by omega, by omega, fieldsV_len fs, by rw [e, fieldsV_take], rfl⟩
theorem KI.skip (h : KI S fs i j xs) (hj : j < fs.length) (hd : dropF S fs[j] = true) : KI S fs i (j + 1) xs := by
  have e : keepF S (fs.take (j + 1)) = keepF S (fs.take j) := by rw [keepF_step S fs j hj, if_pos hd, List.append_nil]
  refine ⟨by rw [e]; exact h.cnt, by have := h.lt; omega, by omega, h.len, by rw [e]; exact h.pre, ?_⟩
  have := congrArg (List.drop 2) h.rest
  rw [List.drop_drop, List.drop_drop] at this
  rw [show (j + 1) * 2 = j * 2 + 2 by omega]; exact this
theorem KI.keep (h : KI S fs i j xs) (hj : j < fs.length) (hd : dropF S fs[j] = false) : KI S fs (i + 1) (j + 1) (xs.take (i * 2) ++ [.string fs[j].1, .string fs[j].2] ++ xs.drop (i * 2 + 2)) := by
  have e : keepF S (fs.take (j + 1)) = keepF S (fs.take j) ++ [fs[j]] := by rw [keepF_step S fs j hj, hd]; rfl
  have hl := h.len
  have hlt := h.lt
  have l1 : (xs.take (i * 2)).length = i * 2 := by rw [List.length_take]; omega
  refine ⟨by rw [e, List.length_append, ← h.cnt]; rfl, by omega, by omega, by simp; omega, ?_, ?_⟩
  · rw [e, fieldsV_append, ← h.pre, List.take_left' (by rw [List.length_append, l1]; simp; omega)]
    rfl
  · have := congrArg (List.drop 2) h.rest
    rw [List.drop_drop, List.drop_drop] at this
    have l2 : (xs.take (i * 2) ++ [Value.string fs[j].1, .string fs[j].2]).length = i * 2 + 2 := by rw [List.length_append, l1]; rfl
    rw [show (j + 1) * 2 = j * 2 + 2 by omega, ← this, List.drop_append, List.drop_eq_nil_of_le (by omega), List.nil_append, l2, List.drop_drop]
    congr 1
    omega
end

set_option maxHeartbeats 4000000 in
set_option maxRecDepth 100000 in
theorem delF_any (A : Option Addr) (n c base : Nat) (fs : List Fl) (q b m : Nat) (S : Bs → Bool) (w : World) (hq : Var w q 157 [.map (some b)]) (hm : Mine w b m S) (hrow : Row w base 2 (.slice A n c) n (fieldsV fs))
    (hqg : ∀ g, (Value.slice A n c).ownBlock = some g → q ≠ g ∧ b ≠ g) (hn : n ≤ 16777216) (hfs : ∀ f ∈ fs, f.1.size ≤ 16777216) :
    Calls Tryz.prog 117 #[.slice A n c, .func (.func 119) #[] #[.pointer (some ⟨q, 0, none⟩)]] w fun e w' => e = .returned (.slice A (keepF S fs).length c) ∧ Row w' base 2 (.slice A (keepF S fs).length c) (keepF S fs).length (fieldsV (keepF S fs)) ∧ w.grownBy w' (Value.slice A n c).ownBlock := by
  have hlen : fs.length = n := by have := hrow.1; rw [fieldsV_len] at this; omega
  have HQ := Lib.hid hq
  have HM := Lib.hid hm
  have HR := Lib.hid hrow
  obtain ⟨_, _, e1, hnc, _, _, hrd⟩ := hrow.form
  injection e1 with e1 _ q1
  subst e1 q1
  have HI := Lib.hid (idxF_any A n c fs q b m S w hq hm hrd hn hfs)
  clear hq hm hrow
  obtain ⟨P, hP⟩ : ∃ P : Int → Prop, P = IdxF S fs := ⟨_, rfl⟩
  by_cases hall : ∀ f ∈ fs, dropF S f = false
  · have HK : Hid (keepF S fs = fs) := Lib.hid (keepF_all hall)
    have HI2 : Hid (Calls Tryz.prog 147 #[.slice A n c, .func (.func 119) #[] #[.pointer (some ⟨q, 0, none⟩)]] w fun e w' => e = .returned (.int .i64 (-1)) ∧ Below w.heap.size w w') := Lib.hid (HI.out.mono fun e w' ⟨i, he, hi, hb⟩ => by
      rcases hi with ⟨rfl, _⟩ | ⟨k, hk, rfl, hd, _⟩
      · exact ⟨he, hb⟩
      · rw [hall _ (List.getElem_mem hk)] at hd; cases hd)
    clear hrd HI hP hall
    go_enter Tryz.func117, Tryz.ntmps117
    go_wp2_with (first
      | (go_at_call 147; go_must (refine HI2.out.mono ?_; rintro _ w1 ⟨rfl, hb1⟩))
      | fail)
    go_ret
    rw [HK.out, hlen]
    exact ⟨rfl, HR.out.below_all hb1, grown_of_below hb1 _⟩
  · have HI2 : Hid (Calls Tryz.prog 147 #[.slice A n c, .func (.func 119) #[] #[.pointer (some ⟨q, 0, none⟩)]] w fun e w' => ∃ k : Nat, e = .returned (.int .i64 (k : Int)) ∧ k < n ∧ KI S fs k (k + 1) (fieldsV fs) ∧ Below w.heap.size w w') := Lib.hid (HI.out.mono fun e w' ⟨i, he, hi, hb⟩ => by
      rcases hi with ⟨_, h⟩ | ⟨k, hk, rfl, hd, ha⟩
      · exact absurd h hall
      · exact ⟨k, he, by omega, KI.start hk hd ha, hb⟩)
    obtain ⟨x, hx, _⟩ : ∃ x ∈ fs, ¬ dropF S x = false := by
      refine Classical.byContradiction fun h => hall fun f hf => Classical.byContradiction fun h2 => h ⟨f, hf, h2⟩
    have hn0 : 0 < n := by rw [← hlen]; exact List.length_pos_of_mem hx
    obtain ⟨g, o, rfl, hgb, hgl, _, _⟩ := HR.out.own hn0
    have hq2 := hqg g rfl
    clear hrd HI hP hall hx
    go_enter Tryz.func117, Tryz.ntmps117
    go_upto_region 5 with (first
      | (go_at_call 147; go_must (refine HI2.out.mono ?_; rintro _ w1 ⟨k0, rfl, hk0, hki, hb1⟩))
      | fail)
    have hne1 : ((k0 : Int) == -1) = false := beq_eq_false_iff_ne.2 (by omega)
    have HK1 := Lib.hid hki
    have HR1 := Lib.hid (HR.out.below_all hb1)
    have HG1 := Lib.hid (grown_of_below hb1 (some g))
    clear hki hb1
    go_loopw [5, 6] (fun vi vj wr => ∃ (i j : Nat) (xs : List Value), vi = .int .i64 i ∧ vj = .int .i64 j ∧ i < j ∧ j ≤ n ∧ KI S fs i j xs ∧ Row wr base 2 (.slice (some ⟨g, o, none⟩) n c) n xs ∧ w.grownBy wr (some g)) (fun _ vj _ => n - (intOf vj).toNat)
    case atStart => exact ⟨k0, k0 + 1, _, rfl, by go_num, by omega, by omega, HK1.out, HR1.out, HG1.out⟩
    case round =>
      obtain ⟨i, j, xs, rfl, rfl, hij, hjn, hki, hrow, hgr⟩ := hrel
      have HKI := Lib.hid hki
      have HRW := Lib.hid hrow
      have HGR := Lib.hid hgr
      have HQ2 := Lib.hid (HQ.out.grown hgr (by simpa using fun e => hq2.1 e.symm))
      have HM2 := Lib.hid (HM.out.kept hgr (by simpa using hq2.2))
      have hzr := hgr.size
      obtain ⟨g', o', e, hgb2, hgl2, hcell, hfro⟩ := hrow.own hn0
      injection e with e
      injection e with e1 e2 _
      subst e1 e2
      have hxl := hki.len
      clear hki hgr
      by_cases hlt : j < n
      · obtain ⟨G1, G2⟩ := HKI.out.get (by omega)
        have hr : World.rangeAt wr g (o + j * 2) [.string fs[j].1, .string fs[j].2] := by
          intro x v hx
          match x, hx with
          | 0, hx => cases hx; exact hcell _ _ G1
          | 1, hx => cases hx; rw [Nat.add_assoc]; exact hcell _ _ G2
        have hs1 : fs[j].1.size ≤ 16777216 := hfs _ (List.getElem_mem _)
        have HKP : Hid (dropF S fs[j] = false → KI S fs (i + 1) (j + 1) (xs.take (i * 2) ++ [.string fs[j].1, .string fs[j].2] ++ xs.drop (i * 2 + 2))) := Lib.hid (fun h => HKI.out.keep (by omega) h)
        have HSK : Hid (dropF S fs[j] = true → KI S fs i (j + 1) xs) := Lib.hid (fun h => HKI.out.skip (by omega) h)
        have hxi : i * 2 + 1 < xs.length := by omega
        have there : ∀ W : World, W.heap[g]? = wr.heap[g]? → W.there g (o + i * 2) 2 := fun W hW x hx => by
          have hc := hcell (i * 2 + x) _ (List.getElem?_eq_getElem (show i * 2 + x < xs.length by omega))
          have hf := hfro (i * 2 + x) (by omega)
          rw [show o + i * 2 + x = o + (i * 2 + x) by omega]
          constructor
          · rw [World.cell?_of_block (w := wr) (a := ⟨g, o + (i * 2 + x), none⟩) hW, hc]; rfl
          · simpa [World.frozen?, hW] using hf
        have HTH := Lib.hid there
        generalize fs[j] = f at hr hs1 HKP HSK
        clear hcell hfro hrow G1 G2 there hxl hxi
        cases hd : dropF S f with
        | true =>
          rw [hd] at HSK
          have HS2 := Lib.hid (HSK.out rfl)
          clear HKP HSK
          go_wp2_with (first
            | (refine wpList_load_mid rfl 89 (.tmp 24) rfl g (o + j * 2) rfl [.string f.1, .string f.2] _ hr Tryz.underlying89 rfl (by kernel_rfl) ?_)
            | (refine wpList_load_mid rfl 89 (.tmp 7) rfl wr.heap.size 0 rfl [.string f.1, .string f.2] _ (Var.new wr 89 [.string f.1, .string f.2]).range Tryz.underlying89 rfl (by kernel_rfl) ?_)
            | (go_at_call 119; go_must (refine (wothers1_any f q b m S _ (HQ2.out.alloc _) (HM2.out.alloc _) hs1).mono ?_; rintro _ w2 ⟨rfl, hb2⟩; rw [hd]))
            | fail)
          have hz2 := hb2.size
          have G2 := Lib.hid (World.grownBy.comp (World.grownBy_alloc wr (.cells #[.string f.1, .string f.2] 89) (some g)) (grown_of_below hb2 (some g)))
          go_roundw
          case rel =>
            have HREL := (⟨i, j + 1, xs, rfl, by go_num, by omega, by omega, HS2.out, (HRW.out.alloc _).below_all hb2, World.grownBy.comp HGR.out G2.out⟩ : ∃ (i' j' : Nat) (xs : List Value), Value.int .i64 (i : Int) = .int .i64 i' ∧ Value.int .i64 ((j : Int) + 1) = .int .i64 j' ∧ i' < j' ∧ j' ≤ n ∧ KI S fs i' j' xs ∧ Row w2 base 2 (.slice (some ⟨g, o, none⟩) n c) n xs ∧ w.grownBy w2 (some g))
            first
              | exact HREL
              | ((repeat apply Exists.intro); exact ⟨HREL, rfl⟩)
          case measure => simp [intOf]; omega
        | false =>
          rw [hd] at HKP
          have HS2 := Lib.hid (HKP.out rfl)
          clear HKP HSK
          go_wp2_with (first
            | (refine wpList_load_mid rfl 89 (.tmp 24) rfl g (o + j * 2) rfl [.string f.1, .string f.2] _ hr Tryz.underlying89 rfl (by kernel_rfl) ?_)
            | (have hb2' := hb2; refine wpList_load_mid rfl 89 (.tmp 7) rfl wr.heap.size 0 rfl [.string f.1, .string f.2] _ V2.out.range Tryz.underlying89 rfl (by kernel_rfl) ?_)
            | (refine wpList_load_mid rfl 89 (.tmp 7) rfl wr.heap.size 0 rfl [.string f.1, .string f.2] _ (Var.new wr 89 [.string f.1, .string f.2]).range Tryz.underlying89 rfl (by kernel_rfl) ?_)
            | (go_at_call 119; go_must (refine (wothers1_any f q b m S _ (HQ2.out.alloc _) (HM2.out.alloc _) hs1).mono ?_; rintro _ w2 ⟨rfl, hb2⟩; rw [hd]; have V2 := Lib.hid ((Var.new wr 89 [.string f.1, .string f.2]).below_all hb2); have hz2 : wr.heap.size + 1 ≤ w2.heap.size := (heap_alloc_size wr (.cells #[.string f.1, .string f.2] 89)) ▸ hb2.size; have HT2 := Lib.hid (HTH.out w2 ((hb2.block g (Nat.lt_of_lt_of_le hgl2 (heap_alloc_size wr (.cells #[.string f.1, .string f.2] 89) ▸ Nat.le_succ _))).trans (Below.heap_alloc wr _ g hgl2))); have G2 := Lib.hid (World.grownBy.comp (World.grownBy_alloc wr (.cells #[.string f.1, .string f.2] 89) (some g)) (grown_of_below hb2 (some g))); have R2 := Lib.hid ((HRW.out.alloc (.cells #[.string f.1, .string f.2] 89)).below_all hb2)))
            | (refine wpList_store_mid rfl 89 (.tmp 33) (.tmp 32) rfl g (o + i * 2) #[.string f.1, .string f.2] rfl rfl HT2.out (by kernel_rfl) (by simp [Value.oneCell']) ?_)
            | fail)
          have hxl2 := HS2.out.len
          obtain ⟨r3, g3⟩ := Row.setCells [.string f.1, .string f.2] (i * 2) w2 xs R2.out (by rw [HKI.out.len]; simp; omega)
          have HR3 := Lib.hid r3
          have HG3 := Lib.hid g3
          clear r3 g3
          go_roundw
          case rel =>
            have hfin := World.grownBy.comp (World.grownBy.comp HGR.out G2.out) HG3.out
            first
              | exact ⟨i + 1, j + 1, _, by go_num, by go_num, by omega, by omega, HS2.out, HR3.out, hfin⟩
              | ((repeat apply Exists.intro); exact ⟨⟨i + 1, j + 1, _, by go_num, by go_num, by omega, by omega, HS2.out, HR3.out, hfin⟩, rfl⟩)
          case measure => simp [intOf]; omega
      · obtain rfl : j = n := by omega
        have hin : i < j := hij
        obtain ⟨w2, hcl, ⟨ys, hy1, hy2⟩, hg2⟩ := run_clearF hrow hin 0
        have hcl' := fun ty => (run_clearF hrow hin ty)
        have hic : i < c := by omega
        have HW2 := Lib.hid hg2
        have HY := Lib.hid hy1
        have hij2 : (i : Int) < (j : Int) := by omega
        have hnc2 : (j : Int) ≤ (c : Int) := by omega
        clear hcl' hrow hcell hfro hg2 hy1 hxl
        go_wp2
        go_ret
        have hki := HKI.out
        have e1 : fs.take j = fs := List.take_of_length_le (by omega)
        have e2 := hki.cnt
        have e3 := hki.pre
        rw [e1] at e2 e3
        rw [← e2]
        refine ⟨rfl, ?_, World.grownBy.comp HGR.out HW2.out⟩
        have := HY.out.cut (k := i) (by omega) (by simp)
        rw [hy2, e3] at this
        exact this
end Go.Proofs.YtklmpadcfioefaaGreatDoor
