/- law RewriteAsks. Conditions: sizes, the library's variables. -/
import Derived.Test.YtabecgdaiakgiaaDoorVLent
import Derived.Test.YtabecgdaiakgiaaDoorRKeeps2
import Derived.Test.YtabecgdaiakgiaaDoorRPath
import Derived.Test.YtabecgdaiakgiaaDoorHeld
namespace Go.Proofs.YtabecgdaiakgiaaDoor
open Go.RowKit

set_option maxHeartbeats 8000000 in
set_option maxRecDepth 100000 in
theorem rasks_any (rq : Bool) (mt t : ByteArray) (st : Int) (rs : ByteArray) (mn : Int) (A : Option Addr) (n c : Nat) (fs : List Fl) (name target : ByteArray) (w : World) (hsh : w.ShapedOpen Tryd.prog) (hA : A = none → n = 0) (hrd : Rd w w.heap.size 2 A n (fieldsV fs))
    (hn : n ≤ 1048576) (hfs : ∀ f ∈ fs, f.1.size ≤ 16777216) (hvs : total (vals fs sConn) ≤ 8388608) (hs : name.size ≤ 16777216) (ht : target.size ≤ 16777216) :
    Calls Tryd.prog 3 #[headV rq mt t st rs mn (.slice A n c), .string name, .string target] w fun e w' => e = .returned (.bool true) ∧ Below w.heap.size w w' := by
  have B1 : Below w.heap.size w (w.alloc (.cells #[.bool rq, .string mt, .string t, .int .i64 st, .string rs, .int .i64 mn, .slice A n c] 24)) := (Below.refl _ _).alloc (Nat.le_refl _) _
  have R1 := (hrd.below B1).more B1.size
  have HV1 := Lib.hid (Var.new w 24 [.bool rq, .string mt, .string t, .int .i64 st, .string rs, .int .i64 mn, .slice A n c])
  have HR1 := Lib.hid R1
  have HB1 := Lib.hid B1
  have HS := Lib.hid hsh
  have HL := Lib.hid (fun W h => vlent_any rq mt t st rs mn A n c fs W hA h (by omega))
  have HQ := Lib.hid (fun W => wPath_any target W ht)
  have HP := Lib.hid (fun W => pPath_any target W ht)
  unfold pathV at HQ HP
  generalize (ByteArray.mk ((pathP target.data.toList).getD []).toArray) = S at HQ HP
  generalize (pathP target.data.toList).isSome = ok at HQ HP
  unfold headV at HL
  have hlen : fs.length = n := by have := hrd.1; rw [fieldsV_len] at this; omega
  clear hsh hrd B1 R1
  unfold headV
  go_enter Tryd.func3, Tryd.ntmps3
  go_upto_region 4 with (first
    | (refine wpList_load_mid rfl 24 (.tmp 3) rfl w.heap.size 0 rfl [.bool rq, .string mt, .string t, .int .i64 st, .string rs, .int .i64 mn, .slice A n c] _ HV1.out.range Tryd.underlying24 rfl (by kernel_rfl) ?_)
    | (go_at_call 13; go_must (refine (HL.out _ HR1.out).mono ?_; rintro _ w2 ⟨g, o, c2, rfl, hc2, hrow2, hb2⟩; have hr2 := hrow2))
    | (refine wpList_put rfl 24 (.tmp 7) (.tmp 13) rfl w2.heap.size rfl (Var.new w2 24 [.bool false, .string ⟨#[]⟩, .string ⟨#[]⟩, .int .i64 0, .string ⟨#[]⟩, .int .i64 0, .slice none 0 0]) [.bool rq, .string mt, .string t, .int .i64 st, .string rs, .int .i64 mn, .slice (some ⟨g, o, none⟩) n c2] rfl rfl (by kernel_rfl) (by simp [Value.oneCell']) ?_; intro w3 hv3 hg3 hs3)
    | (go_at_call 14; go_must (refine (HQ.out _).mono ?_; rintro _ w4 ⟨rfl, hb4⟩))
    | (go_at_call 15; go_must (refine (HP.out _).mono ?_; rintro _ w5 ⟨rfl, hb5⟩))
    | fail)
  have z1 := HB1.out.size
  have z2 := hb2.size
  have z3 : w3.heap.size = w2.heap.size + 1 := by simpa using hs3
  have z4 := hb4.size
  have z5 := hb5.size
  have B3 : Below w2.heap.size w2 w3 := Below.grown ((Below.refl _ _).alloc (Nat.le_refl _) _) hg3 (by simp) (by intro k hk; simp at hk; omega)
  have B5 := B3.trans ((hb4.mono (by omega)).trans (hb5.mono (by omega)))
  have HB5 := Lib.hid ((HB1.out.trans (hb2.mono z1)).trans (B5.mono (by omega)))
  have HS5 : Hid (w5.ShapedOpen Tryd.prog) := Lib.hid (shaped_below HS.out HB5.out)
  have V3 := Lib.hid ((HV1.out.below_all hb2).below_all B5)
  have V7 := Lib.hid ((hv3.below_all hb4).below_all hb5)
  have RH := Lib.hid ((HR1.out.keeps hb2).keeps B5)
  obtain ⟨_, _, e1, _, _, _, rg2⟩ := hr2.form
  injection e1 with e1 _ q1
  subst e1 q1
  have RG1 := rg2.keeps B5
  have RG := Lib.hid RG1
  have RG0 : Hid (Rd w5 w5.heap.size 2 (some ⟨g, o, none⟩) n (fieldsV fs)) := Lib.hid (by
    have h := RG1.pre (k := n) (by omega)
    rw [fieldsV_snoc, List.take_append_of_le_length (by rw [fieldsV_len]; omega), List.take_of_length_le (by rw [fieldsV_len]; omega)] at h
    exact h)
  have HO1 := Lib.hid (fun W h1 h2 => wOwn_any rq mt t st rs mn (some ⟨g, o, none⟩) n c2 fs name W h1 h2 hn hfs hvs hs)
  have HO2 := Lib.hid (fun W h2 => pOwn_any rq mt t st rs mn A n c fs name W h2 hn hfs hvs hs)
  have HK1 := Lib.hid (fun W h1 h2 => wKeeps_any rq mt t st rs mn (some ⟨g, o, none⟩) n c2 fs W h1 h2 hn hfs hvs)
  have HK2 := Lib.hid (fun W h2 => pKeeps_any rq mt t st rs mn A n c fs W h2 hn hfs hvs)
  have HKP := Lib.hid (fun W h1 h2 => vkept_any rq mt t st rs mn g o A n c2 c fs W hc2 h1 h2 (by omega))
  unfold headV at HO1 HO2 HK1 HK2 HKP
  generalize ownP fs name = OW at HO1 HO2
  generalize keepsP mn fs = KP at HK1 HK2
  have HKK : Hid (∀ w' : World, Below w5.heap.size w5 w' → (Below w5.heap.size w5 w' ∧ (w'.cell? ⟨w2.heap.size, 0, none⟩ = some (.bool rq) ∧ w'.cell? ⟨w2.heap.size, 1, none⟩ = some (.string mt) ∧ w'.cell? ⟨w2.heap.size, 2, none⟩ = some (.string t) ∧ w'.cell? ⟨w2.heap.size, 3, none⟩ = some (.int .i64 st) ∧ w'.cell? ⟨w2.heap.size, 4, none⟩ = some (.string rs) ∧ w'.cell? ⟨w2.heap.size, 5, none⟩ = some (.int .i64 mn) ∧ w'.cell? ⟨w2.heap.size, 6, none⟩ = some (.slice (some ⟨g, o, none⟩) n c2)) ∧ (w'.cell? ⟨w.heap.size, 0, none⟩ = some (.bool rq) ∧ w'.cell? ⟨w.heap.size, 1, none⟩ = some (.string mt) ∧ w'.cell? ⟨w.heap.size, 2, none⟩ = some (.string t) ∧ w'.cell? ⟨w.heap.size, 3, none⟩ = some (.int .i64 st) ∧ w'.cell? ⟨w.heap.size, 4, none⟩ = some (.string rs) ∧ w'.cell? ⟨w.heap.size, 5, none⟩ = some (.int .i64 mn) ∧ w'.cell? ⟨w.heap.size, 6, none⟩ = some (.slice A n c)))) := Lib.hid (fun w' hB => by
    have a := V7.out.below_all hB
    have b := V3.out.below_all hB
    exact ⟨hB, ⟨a.cell (j := 0) rfl, a.cell (j := 1) rfl, a.cell (j := 2) rfl, a.cell (j := 3) rfl, a.cell (j := 4) rfl, a.cell (j := 5) rfl, a.cell (j := 6) rfl⟩, b.cell (j := 0) rfl, b.cell (j := 1) rfl, b.cell (j := 2) rfl, b.cell (j := 3) rfl, b.cell (j := 4) rfl, b.cell (j := 5) rfl, b.cell (j := 6) rfl⟩)
  clear hb2 hrow2 hv3 hg3 hs3 hb4 hb5 B3 B5 hr2 rg2 RG1
  go_region_held3 (fun w' => Below w5.heap.size w5 w' ∧ (w'.cell? ⟨w2.heap.size, 0, none⟩ = some (.bool rq) ∧ w'.cell? ⟨w2.heap.size, 1, none⟩ = some (.string mt) ∧ w'.cell? ⟨w2.heap.size, 2, none⟩ = some (.string t) ∧ w'.cell? ⟨w2.heap.size, 3, none⟩ = some (.int .i64 st) ∧ w'.cell? ⟨w2.heap.size, 4, none⟩ = some (.string rs) ∧ w'.cell? ⟨w2.heap.size, 5, none⟩ = some (.int .i64 mn) ∧ w'.cell? ⟨w2.heap.size, 6, none⟩ = some (.slice (some ⟨g, o, none⟩) n c2)) ∧ (w'.cell? ⟨w.heap.size, 0, none⟩ = some (.bool rq) ∧ w'.cell? ⟨w.heap.size, 1, none⟩ = some (.string mt) ∧ w'.cell? ⟨w.heap.size, 2, none⟩ = some (.string t) ∧ w'.cell? ⟨w.heap.size, 3, none⟩ = some (.int .i64 st) ∧ w'.cell? ⟨w.heap.size, 4, none⟩ = some (.string rs) ∧ w'.cell? ⟨w.heap.size, 5, none⟩ = some (.int .i64 mn) ∧ w'.cell? ⟨w.heap.size, 6, none⟩ = some (.slice A n c)))
    (first
      | exact HKK.out _ hq
      | exact HKK.out _ ((Below.refl _ _).drew)
      | go_keep)
    (first
      | (go_at_call 16; refine (HO1.out _ (Held.sh (by assumption) HS5.out) (Held.rd (by assumption) RG0.out)).mono ?_; rintro _ wx ⟨rfl, hl⟩; have hq := Held.trans (W0 := w5) (by assumption) hl)
      | (go_at_call 17; refine (HO2.out _ (Held.rd (by assumption) RH.out)).mono ?_; rintro _ wx ⟨rfl, hl⟩; have hq := Held.trans (W0 := w5) (by assumption) hl)
      | (go_at_call 18; refine (HK1.out _ (Held.sh (by assumption) HS5.out) (Held.rd (by assumption) RG0.out)).mono ?_; rintro _ wx ⟨rfl, hl⟩; have hq := Held.trans (W0 := w5) (by assumption) hl)
      | (go_at_call 19; refine (HK2.out _ (Held.rd (by assumption) RH.out)).mono ?_; rintro _ wx ⟨rfl, hl⟩; have hq := Held.trans (W0 := w5) (by assumption) hl)
      | (go_at_call 20; refine (HKP.out _ (Held.rd (by assumption) RG.out) (Held.rd (by assumption) RH.out)).mono ?_; rintro _ wx ⟨rfl, hl⟩; have hq := Held.trans (W0 := w5) (by assumption) hl))
  all_goals
    go_wp2
    go_ret
    exact ⟨rfl, HB5.out.trans (hq.mono HB5.out.size)⟩
end Go.Proofs.YtabecgdaiakgiaaDoor
