/- law 24's laid: a request as bytes (printed by gen_slaid.py). Conditions: sizes, the library's variables, the world's shape. -/
import Derived.Test.YtklmpadcfioefaaGreatDoorSBackP
import Derived.Test.YtklmpadcfioefaaGreatDoorHWrite
import Derived.Test.YtklmpadcfioefaaGreatDoorHexF
import Derived.Test.YtklmpadcfioefaaGreatDoorSFram2
namespace Go.Proofs.YtklmpadcfioefaaGreatDoor
open Go.RowKit
theorem writeC_len (p : Bs) (h : p.length ≤ Chunk.most) : (Chunk.writeC p).length ≤ 13 * p.length := by
  unfold Chunk.writeC
  split
  · simp
  · rename_i hp
    have h1 := Chunk.hexD_len8 h
    have h2 := List.length_pos_iff.2 hp
    simp only [List.length_append, List.length_cons, List.length_nil]
    omega
theorem chunks_len : ∀ (ps : List Bs), (∀ p ∈ ps, p.length ≤ Chunk.most) → (Chunk.chunks ps).length ≤ 13 * ps.flatten.length
  | [], _ => Nat.le_refl _
  | p :: ps, h => by
    have h1 := writeC_len p (h p List.mem_cons_self)
    have h2 := chunks_len ps (fun q hq => h q (List.mem_cons_of_mem _ hq))
    have e : Chunk.chunks (p :: ps) = Chunk.writeC p ++ Chunk.chunks ps := rfl
    rw [e, List.length_append, List.flatten_cons, List.length_append]
    omega
theorem chunks_snoc (ps : List Bs) (p : Bs) : Chunk.chunks (ps ++ [p]) = Chunk.chunks ps ++ Chunk.writeC p := by
  unfold Chunk.chunks; simp
/-- a request that is laid: its head can be written, its body is what the head says -/
def Laid (rq : Bool) (H : HI) (fs : List Fl) (b X : Bs) : Prop :=
  rq = true ∧ ∃ T, writeP H = (some T, 0) ∧ ∃ fr ln, framingP rq false H.st H.mn fs = (fr, ln, 0) ∧ (fr = 0 ∧ b = [] ∧ X = T ∨ fr = 1 ∧ ln = b.length ∧ X = T ++ b ∨ fr = 2 ∧ ∃ ps : List Bs, ps.flatten = b ∧ (∀ p ∈ ps, p.length ≤ Chunk.most) ∧ X = T ++ (Chunk.chunks ps ++ Chunk.lastB []))
theorem framing_low {hd : Bool} {st mn : Int} {fs : List Fl} {fr ln e : Nat} (h : framingP true hd st mn fs = (fr, ln, e)) : fr ≤ 2 ∧ (fr = 0 → ln = 0) ∧ (fr ≠ 1 → ln = 0) := by
  unfold framingP at h
  split at h
  · injection h with h1 h; injection h with h2 _; subst h1 h2; exact ⟨by decide, fun _ => rfl, fun _ => rfl⟩
  · rw [if_neg (fun x => by cases x.1)] at h
    split at h
    · split at h
      · injection h with h1 h; injection h with h2 _; subst h1 h2; exact ⟨by decide, fun _ => rfl, fun _ => rfl⟩
      · injection h with h1 h; injection h with h2 _; subst h1 h2; exact ⟨by decide, fun _ => rfl, fun _ => rfl⟩
    · split at h
      · split at h
        · injection h with h1 h; injection h with h2 _; subst h1 h2; exact ⟨by decide, fun _ => rfl, fun _ => rfl⟩
        · injection h with h1 h; injection h with h2 _; subst h1 h2; exact ⟨by decide, (fun x => by cases x), (fun x => absurd rfl x)⟩
      · rw [if_pos rfl] at h
        injection h with h1 h; injection h with h2 _; subst h1 h2; exact ⟨by decide, fun _ => rfl, fun _ => rfl⟩

set_option maxHeartbeats 4000000 in
set_option maxRecDepth 100000 in
theorem slaid_any (rq : Bool) (m t : ByteArray) (st : Int) (rs : ByteArray) (mn : Int) (Af : Option Addr) (nf cf : Nat) (fs : List Fl) (Ab : Option Addr) (nb cb : Nat) (b : Bs) (Ac : Option Addr) (nc cc : Nat) (zs : List Int) (cd : Bool) (z : Nat) (w : World) (hsh : w.ShapedOpen Tryz.prog) (htab : Tab w) (htz : Tz w)
    (hrf : Rd w w.heap.size 2 Af nf (fieldsV fs)) (hrb : Rd w w.heap.size 1 Ab nb (bytesV b)) (hbc : nb ≤ cb) (hAb : Ab = none → nb = 0 ∧ cb = 0) (hrz : Rd w w.heap.size 1 Ac nc (zs.map fun x => .int .i64 x)) (hst : isInt st) (hmn : isInt mn) (hz : z ≤ 1048576)
    (hm : m.size + t.size + rs.size ≤ z) (hfz : flSize fs ≤ 2 * z) (hfs : ∀ f ∈ fs, f.1.size ≤ z) (hnf : nf ≤ z) (hnb : nb ≤ z) (hnc : nc ≤ z) :
    Calls Tryz.prog 19 #[.agg #[.bool rq, .string m, .string t, .int .i64 st, .string rs, .int .i64 mn, .slice Af nf cf, .slice Ab nb cb, .slice Ac nc cc, .bool cd]] w fun e w' => Below w.heap.size w w' ∧
      (e = .returned (.tuple #[.slice none 0 0, .bool false]) ∨ ∃ v X, e = .returned (.tuple #[v, .bool true]) ∧ RowB w' w.heap.size v X ∧ Laid rq (hiOf rq m t st rs mn fs) fs b X ∧ X.length ≤ 16 * z + 105) := by
  have hbl : b.length = nb := by have := hrb.1; rw [bytesV_len] at this; omega
  have hzl : zs.length = nc := by have := hrz.1; simp at this; omega
  obtain ⟨wb, hwb⟩ : ∃ wb, wb = w.alloc (.cells #[.bool rq, .string m, .string t, .int .i64 st, .string rs, .int .i64 mn, .slice Af nf cf, .slice Ab nb cb, .slice Ac nc cc, .bool cd] 55) := ⟨_, rfl⟩
  have hBb : Below w.heap.size w wb := by rw [hwb]; exact (Below.refl _ _).alloc (Nat.le_refl _) _
  have hVb : Var wb w.heap.size 55 [.bool rq, .string m, .string t, .int .i64 st, .string rs, .int .i64 mn, .slice Af nf cf, .slice Ab nb cb, .slice Ac nc cc, .bool cd] := by rw [hwb]; exact Var.new w _ _
  have HBB := Lib.hid hBb
  have HVB := Lib.hid hVb
  have HS := Lib.hid (shaped_below hsh hBb)
  have HTA := Lib.hid (htab.below hBb)
  have HTZ := Lib.hid (htz.below hBb htz.lt)
  have HRF := Lib.hid hrf
  have HRB := Lib.hid hrb
  have HRZ := Lib.hid hrz
  have HBL := Lib.hid hbl
  have HZL := Lib.hid hzl
  have HWB := Lib.hid hwb
  have hbw : w.heap.size ≤ wb.heap.size := hBb.size
  have hbz : w.heap.size < wb.heap.size := hVb.lt
  have hWR := hWrite_any rq m t st rs mn Af nf cf fs wb HS.out HTA.out ((hrf.below hBb).more hbw) hst hmn (by omega) (by omega) (by omega)
  have htl := textP_len rq m t st rs mn fs hst hmn
  obtain ⟨HH, hHH⟩ : ∃ HH, HH = hiOf rq m t st rs mn fs := ⟨_, rfl⟩
  have hsm : HH.st = st ∧ HH.mn = mn ∧ HH.rq = rq := by rw [hHH]; exact ⟨rfl, rfl, rfl⟩
  rw [← hHH] at hWR htl ⊢
  unfold WritePost at hWR
  obtain ⟨we, hwe⟩ : ∃ we, we = writeP HH := ⟨_, rfl⟩
  rw [← hwe] at hWR
  have HWR := Lib.hid hWR
  have HWE := Lib.hid hwe
  have HSM := Lib.hid hsm
  have HTL := Lib.hid htl
  have hfs2 : ∀ f ∈ fs, f.1.size ≤ 16777216 := fun f hf => by have := hfs f hf; omega
  have HFR := Lib.hid (fun (W : World) (hB : Below wb.heap.size wb W) => sframing_any rq m t st rs mn Af nf cf fs ⟨#[]⟩ W (shaped_below HS.out hB) (((hrf.below hBb).more hbw |>.below hB).more hB.size) (by omega) hfs2 (by omega))
  rw [show decide ((⟨#[]⟩ : ByteArray) = ⟨#[72, 69, 65, 68]⟩) = false by decide] at HFR
  obtain ⟨⟨fr, ln, fe⟩, hfr⟩ : ∃ x, x = framingP rq false st mn fs := ⟨_, rfl⟩
  rw [← hfr] at HFR
  have HFP := Lib.hid hfr
  clear hsh htab htz hrf hrb hrz hbl hzl hwb hBb hVb hWR htl hHH hsm hfr hwe hfs hfs2
  go_enter Tryz.func19, Tryz.ntmps19
  go_upto_region 1 with (fail)
  rw [← HWB.out]
  have hrg : ∀ W, Var W w.heap.size 55 [.bool rq, .string m, .string t, .int .i64 st, .string rs, .int .i64 mn, .slice Af nf cf, .slice Ab nb cb, .slice Ac nc cc, .bool cd] → World.rangeAt W w.heap.size 0 [.bool rq, .string m, .string t, .int .i64 st, .string rs, .int .i64 mn, .slice Af nf cf] := fun W hV j u hj => by
    rw [Nat.zero_add]
    exact hV.cell (by
      have hl : j < 7 := (List.getElem?_eq_some_iff.1 hj).1
      rw [show ([.bool rq, .string m, .string t, .int .i64 st, .string rs, .int .i64 mn, .slice Af nf cf, .slice Ab nb cb, .slice Ac nc cc, .bool cd] : List Value) = [.bool rq, .string m, .string t, .int .i64 st, .string rs, .int .i64 mn, .slice Af nf cf] ++ [.slice Ab nb cb, .slice Ac nc cc, .bool cd] from rfl, List.getElem?_append_left hl]
      exact hj)
  have HRG := Lib.hid hrg
  have hrg0 := hrg wb HVB.out
  clear hrg
  go_upto_region 2 with (first
    | (refine wpList_load_mid rfl 52 (.tmp 13) rfl w.heap.size 0 rfl [.bool rq, .string m, .string t, .int .i64 st, .string rs, .int .i64 mn, .slice Af nf cf] _ hrg0 Tryz.underlying52 rfl (by kernel_rfl) ?_)
    | (go_at_call 32; go_must (refine HWR.out.mono ?_; rintro _ w1 ⟨v1, rfl, hrow1, hb1⟩; have HR1 := Lib.hid hrow1; have HB1 := Lib.hid hb1; clear hrow1 hb1))
    | fail)
  have hV1 := HVB.out.below_all HB1.out
  have HV1 := Lib.hid hV1
  have hz1 := HB1.out.size
  have d0 := hV1.cell (j := 0) rfl
  have HBW1 : Hid (Below w.heap.size w w1) := Lib.hid (HBB.out.trans (HB1.out.mono hbw))
  clear hV1 hrg0 HWR
  by_cases he : we.2 = 0
  · have hwe2 := HWE.out
    rw [hwe2] at he
    have hT := write_ok he
    rw [hT] at hwe2
    have HWT := Lib.hid hT
    have HTE : Hid (we.1.getD [] = textP HH) := Lib.hid (by rw [hwe2]; rfl)
    have e2 : we.2 = 0 := by rw [hwe2]
    have e3 : ((we.2 : Nat) : Int) = 0 := by rw [e2]; rfl
    rw [HTE.out] at HR1
    obtain ⟨T, hTT⟩ : ∃ T, T = textP HH := ⟨_, rfl⟩
    rw [← hTT] at HR1 HWT HTL
    have htl := HTL.out
    clear hwe2 hT he e2 HTE HWE
    cases rq with
    | false =>
      go_wp2
      go_ret2
      exact ⟨HBW1.out, .inl rfl⟩
    | true =>
      have hrg1 := HRG.out w1 HV1.out
      unfold framV at HFR
      go_upto_region 5 with (first
        | (refine wpList_load_mid rfl 52 (.tmp 27) rfl w.heap.size 0 rfl [.bool true, .string m, .string t, .int .i64 st, .string rs, .int .i64 mn, .slice Af nf cf] _ hrg1 Tryz.underlying52 rfl (by kernel_rfl) ?_)
        | (go_at_call 33; go_must (refine (HFR.out _ HB1.out).mono ?_; rintro _ w2 ⟨rfl, hb2⟩; have HB2 := Lib.hid hb2; clear hb2))
        | fail)
      have HV2 := Lib.hid (HV1.out.below_all HB2.out)
      have hV2 := HV2.out
      have hz2 := HB2.out.size
      have d7 := hV2.cell (j := 7) rfl
      have d9 := hV2.cell (j := 9) rfl
      have HBW2 : Hid (Below w.heap.size w w2) := Lib.hid (HBW1.out.trans (HB2.out.mono (by omega)))
      have HR2 := Lib.hid (Row.below_all HR1.out HB2.out)
      have HTZ2 := Lib.hid (HTZ.out.below (HB1.out.trans (HB2.out.mono hz1)) HTZ.out.lt)
      have HTZL := Lib.hid HTZ.out.lt
      clear hV2 hrg1 d0 HFR
      by_cases hfe : fe = 0
      · subst hfe
        simp only [Int.natCast_zero]
        have hlow := framing_low HFP.out.symm
        obtain ⟨hlow1, hlow2, hlow3⟩ := hlow
        have HL2 := Lib.hid hlow2
        clear hlow2 hlow3
        cases cd with
        | true =>
          by_cases hf2 : fr = 2
          · have q1 : ((fr : Int) == 2) = true := by rw [hf2]; rfl
            have q2 : ((fr : Int) == 1) = false := by rw [hf2]; rfl
            have q3 : ((fr : Int) == 0) = false := by rw [hf2]; rfl
            have HF2 := Lib.hid hf2
            clear hf2
            go_upto_region 9 with (fail)
            go_wp2
            go_loopw [4, 9, 10] (fun vb va vi wr => ∃ (qs : List Bs) (at_ i : Nat), va = .int .i64 at_ ∧ vi = .int .i64 i ∧ at_ ≤ nb ∧ i ≤ nc ∧ RowB wr wb.heap.size vb (T ++ Chunk.chunks qs) ∧ qs.flatten = b.take at_ ∧ (∀ q ∈ qs, q.length ≤ Chunk.most) ∧ Below wb.heap.size wb wr) (fun _ _ vi _ => nc - (intOf vi).toNat)
            case atStart => exact ⟨[], 0, 0, rfl, rfl, Nat.zero_le _, Nat.zero_le _, by rw [show T ++ Chunk.chunks [] = T from List.append_nil T]; exact HR2.out, rfl, (fun q hq => by cases hq), HB1.out.trans (HB2.out.mono hz1)⟩
            case round =>
              obtain ⟨qs, at_, i, rfl, rfl, hat, hi, hrk, hfl, hmo, hbk⟩ := hrel
              obtain ⟨wk, rfl⟩ : ∃ wk : World, wk = wr := ⟨_, rfl⟩
              have hzk := hbk.size
              have HRK := Lib.hid hrk
              have HBK : Hid (Below w.heap.size w wk) := Lib.hid (HBB.out.trans (hbk.mono hbw))
              have hVk := HVB.out.below_all hbk
              have e7 := hVk.cell (j := 7) rfl
              have e8 := hVk.cell (j := 8) rfl
              have HCL : Hid ((Chunk.chunks qs).length ≤ 13 * at_) := Lib.hid (by
                have h := chunks_len qs hmo
                rw [hfl, List.length_take] at h
                omega)
              clear hVk hrk d7 d9 e3
              by_cases hgo : i < nc ∧ at_ < nb
              · obtain ⟨hic, hab⟩ := hgo
                obtain ⟨gb, ob, hAb1, hgb, _⟩ := HRB.out.2 (by omega)
                subst hAb1
                obtain ⟨gc, oc, hAc1, hgc, hcc⟩ := HRZ.out.2 (by omega)
                subst hAc1
                have hxi : i < zs.length := by have := HZL.out; omega
                obtain ⟨x, hx⟩ : ∃ x, x = zs[i] := ⟨_, rfl⟩
                have cx : wk.cell? ⟨gc, oc + i, none⟩ = some (.int .i64 x) := (HBK.out.cell (p := ⟨gc, oc + i, none⟩) hgc).trans (hcc i _ (by simp [hxi, hx]))
                have hsb : IntKind.i64.wrap ((nb : Int) - (at_ : Int)) = ((nb - at_ : Nat) : Int) := by rw [IntWalk.i64_in _ (by omega)]; omega
                clear hcc hx
                by_cases x0 : x < 0
                · obtain ⟨k, hk⟩ : ∃ k, k = nb - at_ := ⟨_, rfl⟩
                  rw [← hk] at hsb
                  have hle : at_ + k ≤ nb := by omega
                  clear hk
                  go_upto_region 16 with (fail)
                  have hrs := Rd.sub HRB.out at_ k hle
                  have hpl : ((b.drop at_).take k).length = k := by rw [List.length_take, List.length_drop]; have := HBL.out; omega
                  obtain ⟨p, hp⟩ : ∃ p, p = (b.drop at_).take k := ⟨_, rfl⟩
                  rw [← hp] at hrs hpl
                  have HCW := Lib.hid (cwrite_any (some ⟨gb, ob + at_, none⟩) k (cb - at_) p wk (HTZ.out.below hbk HTZ.out.lt) (fun e => by cases e) ((hrs.below HBK.out).more HBK.out.size) (by omega))
                  have hadd : IntKind.i64.wrap ((at_ : Int) + (k : Int)) = ((at_ + k : Nat) : Int) := by rw [IntWalk.i64_in _ (by omega)]; omega
                  have i1 : (0 : Int) ≤ (at_ : Int) := by omega
                  have i2 : (at_ : Int) ≤ (at_ : Int) + (k : Int) := by omega
                  have i3 : (at_ : Int) + (k : Int) ≤ (cb : Int) := by omega
                  have i4 : ¬ cb = at_ := by omega
                  have hwl := writeC_len p (by unfold Chunk.most; omega)
                  have HPP := Lib.hid hp
                  have HPK := Lib.hid hpl
                  have HK9 := Lib.hid (And.intro hfl (And.intro hmo HRK.out))
                  have HWL := Lib.hid hwl
                  clear hrs hp hpl hfl hmo hwl
                  go_upto_region 17 with (first
                    | (go_at_call 34; go_must (refine HCW.out.mono ?_; rintro _ w5 ⟨v5, rfl, hrow5, hb5⟩; have HR5 := Lib.hid hrow5; have HB5 := Lib.hid hb5; have HRK5 := Lib.hid (Row.below_all HRK.out hb5); obtain ⟨A5, c5, rfl, _, _, hA5, hr5⟩ := RowB.form hrow5; have HRD5 := Lib.hid hr5; clear hrow5 hb5 hr5))
                    | (at_builtin; go_must (refine wpList_appB (L := T ++ Chunk.chunks qs) (M := Chunk.writeC p) rfl (.tmp 105) (.tmp 113) 26 rfl wb.heap.size rfl HRK5.out rfl (SrcB.slice HRD5.out (fun e => (hA5 e).1)) (by have h1 := HCL.out; have h2 := HWL.out; have h3 := HPK.out; rw [List.length_append]; omega) (by have := HB5.out.size; omega) ?_; intro v6 w6 hrow6 hb6 _ _))
                    | fail)
                  have hbk6 : Below wb.heap.size wb w6 := hbk.trans ((HB5.out.mono (by omega)).trans hb6)
                  have HR6 : Hid (RowB w6 wb.heap.size v6 (T ++ Chunk.chunks (qs ++ [p]))) := Lib.hid (by rw [chunks_snoc, ← List.append_assoc]; exact hrow6)
                  have HF6 : Hid ((qs ++ [p]).flatten = b.take (at_ + k)) := Lib.hid (by rw [List.flatten_append, HK9.out.1, HPP.out]; simp [List.take_add])
                  have HM6 : Hid (∀ q ∈ qs ++ [p], q.length ≤ Chunk.most) := Lib.hid (fun q hq => by
                    rcases List.mem_append.1 hq with hq | hq
                    · exact HK9.out.2.1 q hq
                    · rw [List.mem_singleton.1 hq]
                      have := HPK.out
                      unfold Chunk.most
                      omega)
                  have HB6 := Lib.hid hbk6
                  clear hrow6 hb6 hbk6 HCW
                  go_wp2
                  go_roundw
                  case rel =>
                    exact ⟨qs ++ [p], at_ + k, i + 1, by go_num, by go_num, by omega, by omega, HR6.out, HF6.out, HM6.out, HB6.out⟩
                  case measure => simp [intOf]; omega
                · by_cases x1 : ((nb - at_ : Nat) : Int) < x
                  · obtain ⟨k, hk⟩ : ∃ k, k = nb - at_ := ⟨_, rfl⟩
                    rw [← hk] at hsb x1
                    have hle : at_ + k ≤ nb := by omega
                    clear hk
                    go_upto_region 16 with (fail)
                    have hrs := Rd.sub HRB.out at_ k hle
                    have hpl : ((b.drop at_).take k).length = k := by rw [List.length_take, List.length_drop]; have := HBL.out; omega
                    obtain ⟨p, hp⟩ : ∃ p, p = (b.drop at_).take k := ⟨_, rfl⟩
                    rw [← hp] at hrs hpl
                    have HCW := Lib.hid (cwrite_any (some ⟨gb, ob + at_, none⟩) k (cb - at_) p wk (HTZ.out.below hbk HTZ.out.lt) (fun e => by cases e) ((hrs.below HBK.out).more HBK.out.size) (by omega))
                    have hadd : IntKind.i64.wrap ((at_ : Int) + (k : Int)) = ((at_ + k : Nat) : Int) := by rw [IntWalk.i64_in _ (by omega)]; omega
                    have i1 : (0 : Int) ≤ (at_ : Int) := by omega
                    have i2 : (at_ : Int) ≤ (at_ : Int) + (k : Int) := by omega
                    have i3 : (at_ : Int) + (k : Int) ≤ (cb : Int) := by omega
                    have i4 : ¬ cb = at_ := by omega
                    have hwl := writeC_len p (by unfold Chunk.most; omega)
                    have HPP := Lib.hid hp
                    have HPK := Lib.hid hpl
                    have HK9 := Lib.hid (And.intro hfl (And.intro hmo HRK.out))
                    have HWL := Lib.hid hwl
                    clear hrs hp hpl hfl hmo hwl
                    go_upto_region 17 with (first
                      | (go_at_call 34; go_must (refine HCW.out.mono ?_; rintro _ w5 ⟨v5, rfl, hrow5, hb5⟩; have HR5 := Lib.hid hrow5; have HB5 := Lib.hid hb5; have HRK5 := Lib.hid (Row.below_all HRK.out hb5); obtain ⟨A5, c5, rfl, _, _, hA5, hr5⟩ := RowB.form hrow5; have HRD5 := Lib.hid hr5; clear hrow5 hb5 hr5))
                      | (at_builtin; go_must (refine wpList_appB (L := T ++ Chunk.chunks qs) (M := Chunk.writeC p) rfl (.tmp 105) (.tmp 113) 26 rfl wb.heap.size rfl HRK5.out rfl (SrcB.slice HRD5.out (fun e => (hA5 e).1)) (by have h1 := HCL.out; have h2 := HWL.out; have h3 := HPK.out; rw [List.length_append]; omega) (by have := HB5.out.size; omega) ?_; intro v6 w6 hrow6 hb6 _ _))
                      | fail)
                    have hbk6 : Below wb.heap.size wb w6 := hbk.trans ((HB5.out.mono (by omega)).trans hb6)
                    have HR6 : Hid (RowB w6 wb.heap.size v6 (T ++ Chunk.chunks (qs ++ [p]))) := Lib.hid (by rw [chunks_snoc, ← List.append_assoc]; exact hrow6)
                    have HF6 : Hid ((qs ++ [p]).flatten = b.take (at_ + k)) := Lib.hid (by rw [List.flatten_append, HK9.out.1, HPP.out]; simp [List.take_add])
                    have HM6 : Hid (∀ q ∈ qs ++ [p], q.length ≤ Chunk.most) := Lib.hid (fun q hq => by
                      rcases List.mem_append.1 hq with hq | hq
                      · exact HK9.out.2.1 q hq
                      · rw [List.mem_singleton.1 hq]
                        have := HPK.out
                        unfold Chunk.most
                        omega)
                    have HB6 := Lib.hid hbk6
                    clear hrow6 hb6 hbk6 HCW
                    go_wp2
                    go_roundw
                    case rel =>
                      exact ⟨qs ++ [p], at_ + k, i + 1, by go_num, by go_num, by omega, by omega, HR6.out, HF6.out, HM6.out, HB6.out⟩
                    case measure => simp [intOf]; omega
                  · obtain ⟨k, rfl⟩ : ∃ k : Nat, x = (k : Int) := ⟨x.toNat, by omega⟩
                    have hle : at_ + k ≤ nb := by omega
                    go_upto_region 16 with (fail)
                    have hrs := Rd.sub HRB.out at_ k hle
                    have hpl : ((b.drop at_).take k).length = k := by rw [List.length_take, List.length_drop]; have := HBL.out; omega
                    obtain ⟨p, hp⟩ : ∃ p, p = (b.drop at_).take k := ⟨_, rfl⟩
                    rw [← hp] at hrs hpl
                    have HCW := Lib.hid (cwrite_any (some ⟨gb, ob + at_, none⟩) k (cb - at_) p wk (HTZ.out.below hbk HTZ.out.lt) (fun e => by cases e) ((hrs.below HBK.out).more HBK.out.size) (by omega))
                    have hadd : IntKind.i64.wrap ((at_ : Int) + (k : Int)) = ((at_ + k : Nat) : Int) := by rw [IntWalk.i64_in _ (by omega)]; omega
                    have i1 : (0 : Int) ≤ (at_ : Int) := by omega
                    have i2 : (at_ : Int) ≤ (at_ : Int) + (k : Int) := by omega
                    have i3 : (at_ : Int) + (k : Int) ≤ (cb : Int) := by omega
                    have i4 : ¬ cb = at_ := by omega
                    have hwl := writeC_len p (by unfold Chunk.most; omega)
                    have HPP := Lib.hid hp
                    have HPK := Lib.hid hpl
                    have HK9 := Lib.hid (And.intro hfl (And.intro hmo HRK.out))
                    have HWL := Lib.hid hwl
                    clear hrs hp hpl hfl hmo hwl
                    go_upto_region 17 with (first
                      | (go_at_call 34; go_must (refine HCW.out.mono ?_; rintro _ w5 ⟨v5, rfl, hrow5, hb5⟩; have HR5 := Lib.hid hrow5; have HB5 := Lib.hid hb5; have HRK5 := Lib.hid (Row.below_all HRK.out hb5); obtain ⟨A5, c5, rfl, _, _, hA5, hr5⟩ := RowB.form hrow5; have HRD5 := Lib.hid hr5; clear hrow5 hb5 hr5))
                      | (at_builtin; go_must (refine wpList_appB (L := T ++ Chunk.chunks qs) (M := Chunk.writeC p) rfl (.tmp 105) (.tmp 113) 26 rfl wb.heap.size rfl HRK5.out rfl (SrcB.slice HRD5.out (fun e => (hA5 e).1)) (by have h1 := HCL.out; have h2 := HWL.out; have h3 := HPK.out; rw [List.length_append]; omega) (by have := HB5.out.size; omega) ?_; intro v6 w6 hrow6 hb6 _ _))
                      | fail)
                    have hbk6 : Below wb.heap.size wb w6 := hbk.trans ((HB5.out.mono (by omega)).trans hb6)
                    have HR6 : Hid (RowB w6 wb.heap.size v6 (T ++ Chunk.chunks (qs ++ [p]))) := Lib.hid (by rw [chunks_snoc, ← List.append_assoc]; exact hrow6)
                    have HF6 : Hid ((qs ++ [p]).flatten = b.take (at_ + k)) := Lib.hid (by rw [List.flatten_append, HK9.out.1, HPP.out]; simp [List.take_add])
                    have HM6 : Hid (∀ q ∈ qs ++ [p], q.length ≤ Chunk.most) := Lib.hid (fun q hq => by
                      rcases List.mem_append.1 hq with hq | hq
                      · exact HK9.out.2.1 q hq
                      · rw [List.mem_singleton.1 hq]
                        have := HPK.out
                        unfold Chunk.most
                        omega)
                    have HB6 := Lib.hid hbk6
                    clear hrow6 hb6 hbk6 HCW
                    go_wp2
                    go_roundw
                    case rel =>
                      exact ⟨qs ++ [p], at_ + k, i + 1, by go_num, by go_num, by omega, by omega, HR6.out, HF6.out, HM6.out, HB6.out⟩
                    case measure => simp [intOf]; omega
              · have hsb : ((nb : Nat) : Int) - (at_ : Int) = ((nb - at_ : Nat) : Int) := by omega
                obtain ⟨A', hA'⟩ : ∃ A', A' = (if cb = at_ then Ab else Ab.map (·.add at_)) := ⟨_, rfl⟩
                have hdr : Rd wk wk.heap.size 1 A' (nb - at_) (bytesV (b.drop at_)) := by
                  by_cases hq : at_ < nb
                  · obtain ⟨gb, ob, hAb1, hgb, _⟩ := HRB.out.2 (by omega)
                    subst hAb1
                    rw [if_neg (by omega)] at hA'
                    subst hA'
                    have hrs := Rd.sub HRB.out at_ (nb - at_) (by omega)
                    rw [List.take_of_length_le (by rw [List.length_drop, HBL.out]; exact Nat.le_refl _)] at hrs
                    have h9 := (hrs.below HBK.out).more HBK.out.size
                    rw [← Addr.add_lit] at h9
                    exact h9
                  · exact ⟨by rw [bytesV_len, List.length_drop, HBL.out]; omega, fun h => by omega⟩
                have hdn : A' = none → nb - at_ = 0 := fun e => by
                  by_cases hq : at_ < nb
                  · obtain ⟨gb, ob, hAb1, _⟩ := HRB.out.2 (by omega)
                    subst hAb1
                    rw [if_neg (by omega)] at hA'
                    rw [hA'] at e
                    cases e
                  · omega
                have HDR := Lib.hid hdr
                have HDN := Lib.hid hdn
                clear hdr hdn
                subst hA'
                by_cases h1 : i < nc
                · have h2 : ¬ at_ < nb := fun h => hgo ⟨h1, h⟩
                  have HCW := Lib.hid (cwrite_any ((if cb = at_ then Ab else Ab.map (·.add at_))) (nb - at_) (cb - at_) (b.drop at_) wk (HTZ.out.below hbk HTZ.out.lt) HDN.out HDR.out (by omega))
                  have m3 : (at_ : Int) ≤ (nb : Int) := by omega
                  have m5 : (nb : Int) ≤ (cb : Int) := by omega
                  have i1 : (0 : Int) ≤ (at_ : Int) := by omega
                  have HK9 := Lib.hid (And.intro hfl (And.intro hmo HRK.out))
                  have hwl := writeC_len (b.drop at_) (by rw [List.length_drop, HBL.out]; unfold Chunk.most; omega)
                  rw [List.length_drop, HBL.out] at hwl
                  have HWL := Lib.hid hwl
                  have HEW := Lib.hid (fun W => cend_any W)
                  have hbk0 := Lib.hid hbk
                  clear hfl hmo hwl hgo
                  go_wp2_with (first
                    | (go_at_call 34; go_must (refine HCW.out.mono ?_; rintro _ w5 ⟨v5, rfl, hrow5, hb5⟩; have HR5 := Lib.hid hrow5; have HB5 := Lib.hid hb5; have HRK5 := Lib.hid (Row.below_all HRK.out hb5); obtain ⟨A5, c5, rfl, _, _, hA5, hr5⟩ := RowB.form hrow5; have HRD5 := Lib.hid hr5; clear hrow5 hb5 hr5))
                    | (at_builtin; (refine wpList_appB (L := T ++ Chunk.chunks qs) (M := Chunk.writeC (b.drop at_)) rfl (.tmp 118) (.tmp 123) 26 rfl wb.heap.size rfl HRK5.out rfl (SrcB.slice HRD5.out (fun e => (hA5 e).1)) (by have h1 := HCL.out; have h2 := HWL.out; rw [List.length_append]; omega) (by have := HB5.out.size; omega) ?_); go_must (intro v6 w6 hrow6 hb6 _ _; have HR6 := Lib.hid hrow6; have HB6 := Lib.hid hb6; have hz6 : wb.heap.size ≤ w6.heap.size := (by have := HB5.out.size; have := hb6.size; omega); clear hrow6 hb6))
                    | (go_at_call 35; go_must (refine (HEW.out _).mono ?_; rintro _ w7 ⟨v7, rfl, hrow7, hb7⟩; have HB7 := Lib.hid hb7; have HR67 := Lib.hid (Row.below_all HR6.out hb7); obtain ⟨A7, c7, rfl, _, _, hA7, hr7⟩ := RowB.form hrow7; have HRD7 := Lib.hid hr7; have hz7 := hb7.size; clear hrow7 hb7 hr7))
                    | (at_builtin; go_must (refine wpList_appB (L := T ++ Chunk.chunks qs ++ Chunk.writeC (b.drop at_)) (M := [48, 13, 10, 13, 10]) rfl (.tmp 125) (.tmp 126) 26 rfl wb.heap.size rfl HR67.out rfl (SrcB.slice HRD7.out (fun e => (hA7 e).1)) (by have h1 := HCL.out; have h2 := HWL.out; rw [List.length_append, List.length_append]; simp only [List.length_cons, List.length_nil]; omega) (by omega) ?_; intro v8 w8 hrow8 hb8 _ _))
                    | fail)
                  all_goals
                    go_ret2
                    have hs := HSM.out
                    have hfp := HFP.out
                    have hb05 : Below wb.heap.size wb w8 := (hbk0.out.trans ((HB5.out.mono (by omega)).trans (HB6.out.trans ((HB7.out.mono hz6).trans hb8))))
                    have hX : T ++ Chunk.chunks qs ++ Chunk.writeC (b.drop at_) ++ [48, 13, 10, 13, 10] = T ++ (Chunk.chunks (qs ++ [b.drop at_]) ++ Chunk.lastB []) := by
                      rw [chunks_snoc]
                      simp [Chunk.lastB, Chunk.linesF]
                    rw [hX] at hrow8
                    have hmo2 : ∀ q ∈ qs ++ [b.drop at_], q.length ≤ Chunk.most := fun q hq => by
                      rcases List.mem_append.1 hq with hq | hq
                      · exact HK9.out.2.1 q hq
                      · rw [List.mem_singleton.1 hq, List.length_drop, HBL.out]
                        unfold Chunk.most
                        omega
                    refine ⟨HBB.out.trans (hb05.mono hbw), .inr ⟨v8, rfl, T ++ (Chunk.chunks (qs ++ [b.drop at_]) ++ Chunk.lastB []), Row.mono hrow8 (by omega), ⟨rfl, T, HWT.out, fr, ln, by rw [hs.1, hs.2.1]; exact hfp.symm, .inr (.inr ⟨HF2.out, qs ++ [b.drop at_], ?_, hmo2, rfl⟩)⟩, ?_⟩⟩
                    · rw [List.flatten_append, HK9.out.1]
                      simp
                    · have h1 := chunks_len _ hmo2
                      rw [List.flatten_append, HK9.out.1, show b.take at_ ++ [b.drop at_].flatten = b by simp, HBL.out] at h1
                      rw [List.length_append, List.length_append, show (Chunk.lastB []).length = 5 from rfl]
                      omega
                · have HCW := Lib.hid (cwrite_any ((if cb = at_ then Ab else Ab.map (·.add at_))) (nb - at_) (cb - at_) (b.drop at_) wk (HTZ.out.below hbk HTZ.out.lt) HDN.out HDR.out (by omega))
                  have m3 : (at_ : Int) ≤ (nb : Int) := by omega
                  have m5 : (nb : Int) ≤ (cb : Int) := by omega
                  have i1 : (0 : Int) ≤ (at_ : Int) := by omega
                  have HK9 := Lib.hid (And.intro hfl (And.intro hmo HRK.out))
                  have hwl := writeC_len (b.drop at_) (by rw [List.length_drop, HBL.out]; unfold Chunk.most; omega)
                  rw [List.length_drop, HBL.out] at hwl
                  have HWL := Lib.hid hwl
                  have HEW := Lib.hid (fun W => cend_any W)
                  have hbk0 := Lib.hid hbk
                  clear hfl hmo hwl hgo
                  go_wp2_with (first
                    | (go_at_call 34; go_must (refine HCW.out.mono ?_; rintro _ w5 ⟨v5, rfl, hrow5, hb5⟩; have HR5 := Lib.hid hrow5; have HB5 := Lib.hid hb5; have HRK5 := Lib.hid (Row.below_all HRK.out hb5); obtain ⟨A5, c5, rfl, _, _, hA5, hr5⟩ := RowB.form hrow5; have HRD5 := Lib.hid hr5; clear hrow5 hb5 hr5))
                    | (at_builtin; (refine wpList_appB (L := T ++ Chunk.chunks qs) (M := Chunk.writeC (b.drop at_)) rfl (.tmp 118) (.tmp 123) 26 rfl wb.heap.size rfl HRK5.out rfl (SrcB.slice HRD5.out (fun e => (hA5 e).1)) (by have h1 := HCL.out; have h2 := HWL.out; rw [List.length_append]; omega) (by have := HB5.out.size; omega) ?_); go_must (intro v6 w6 hrow6 hb6 _ _; have HR6 := Lib.hid hrow6; have HB6 := Lib.hid hb6; have hz6 : wb.heap.size ≤ w6.heap.size := (by have := HB5.out.size; have := hb6.size; omega); clear hrow6 hb6))
                    | (go_at_call 35; go_must (refine (HEW.out _).mono ?_; rintro _ w7 ⟨v7, rfl, hrow7, hb7⟩; have HB7 := Lib.hid hb7; have HR67 := Lib.hid (Row.below_all HR6.out hb7); obtain ⟨A7, c7, rfl, _, _, hA7, hr7⟩ := RowB.form hrow7; have HRD7 := Lib.hid hr7; have hz7 := hb7.size; clear hrow7 hb7 hr7))
                    | (at_builtin; go_must (refine wpList_appB (L := T ++ Chunk.chunks qs ++ Chunk.writeC (b.drop at_)) (M := [48, 13, 10, 13, 10]) rfl (.tmp 125) (.tmp 126) 26 rfl wb.heap.size rfl HR67.out rfl (SrcB.slice HRD7.out (fun e => (hA7 e).1)) (by have h1 := HCL.out; have h2 := HWL.out; rw [List.length_append, List.length_append]; simp only [List.length_cons, List.length_nil]; omega) (by omega) ?_; intro v8 w8 hrow8 hb8 _ _))
                    | fail)
                  all_goals
                    go_ret2
                    have hs := HSM.out
                    have hfp := HFP.out
                    have hb05 : Below wb.heap.size wb w8 := (hbk0.out.trans ((HB5.out.mono (by omega)).trans (HB6.out.trans ((HB7.out.mono hz6).trans hb8))))
                    have hX : T ++ Chunk.chunks qs ++ Chunk.writeC (b.drop at_) ++ [48, 13, 10, 13, 10] = T ++ (Chunk.chunks (qs ++ [b.drop at_]) ++ Chunk.lastB []) := by
                      rw [chunks_snoc]
                      simp [Chunk.lastB, Chunk.linesF]
                    rw [hX] at hrow8
                    have hmo2 : ∀ q ∈ qs ++ [b.drop at_], q.length ≤ Chunk.most := fun q hq => by
                      rcases List.mem_append.1 hq with hq | hq
                      · exact HK9.out.2.1 q hq
                      · rw [List.mem_singleton.1 hq, List.length_drop, HBL.out]
                        unfold Chunk.most
                        omega
                    refine ⟨HBB.out.trans (hb05.mono hbw), .inr ⟨v8, rfl, T ++ (Chunk.chunks (qs ++ [b.drop at_]) ++ Chunk.lastB []), Row.mono hrow8 (by omega), ⟨rfl, T, HWT.out, fr, ln, by rw [hs.1, hs.2.1]; exact hfp.symm, .inr (.inr ⟨HF2.out, qs ++ [b.drop at_], ?_, hmo2, rfl⟩)⟩, ?_⟩⟩
                    · rw [List.flatten_append, HK9.out.1]
                      simp
                    · have h1 := chunks_len _ hmo2
                      rw [List.flatten_append, HK9.out.1, show b.take at_ ++ [b.drop at_].flatten = b by simp, HBL.out] at h1
                      rw [List.length_append, List.length_append, show (Chunk.lastB []).length = 5 from rfl]
                      omega
          · have q1 : ((fr : Int) == 2) = false := by simp; omega
            go_wp2
            go_ret2
            exact ⟨HBW2.out, .inl rfl⟩
        | false =>
          by_cases hf2 : fr = 2
          · subst hf2
            have q1 : (((2 : Nat) : Int) == 2) = true := rfl
            go_wp2
            go_ret2
            exact ⟨HBW2.out, .inl rfl⟩
          · have q1 : ((fr : Int) == 2) = false := by simp; omega
            by_cases hf1 : fr = 1
            · subst hf1
              have q2 : (((1 : Nat) : Int) == 1) = true := rfl
              have q3 : (((1 : Nat) : Int) == 0) = false := rfl
              by_cases hln : ln = nb
              · have HLN := Lib.hid hln
                subst hln
                have q4 : ((ln : Int) != (ln : Int)) = false := by simp
                go_wp2_with (first
                  | (at_builtin; go_must (refine wpList_appB (L := T) (M := b) rfl (.tmp 66) (.tmp 68) 26 rfl wb.heap.size rfl HR2.out rfl (SrcB.slice (HRB.out.below HBW2.out) (fun e => (hAb e).1)) (by have := HBL.out; omega) (by omega) ?_; intro v3 w3 hrow3 hb3 _ _))
                  | fail)
                go_ret2
                have hs := HSM.out
                have hfp := HFP.out
                refine ⟨HBW2.out.trans (hb3.mono (by omega)), .inr ⟨v3, rfl, T ++ b, Row.mono hrow3 (by omega), ⟨rfl, T, HWT.out, 1, ln, by rw [hs.1, hs.2.1]; exact hfp.symm, .inr (.inl ⟨rfl, HBL.out.symm, rfl⟩)⟩, by rw [List.length_append, HBL.out]; omega⟩⟩
              · have q4 : ((ln : Int) != (nb : Int)) = true := by simp; omega
                go_wp2
                go_ret2
                exact ⟨HBW2.out, .inl rfl⟩
            · have hf0 : fr = 0 := by omega
              subst hf0
              have q2 : (((0 : Nat) : Int) == 1) = false := rfl
              have q3 : (((0 : Nat) : Int) == 0) = true := rfl
              by_cases hnb0 : 0 < nb
              · have q4 : (0 : Int) < (nb : Int) := by omega
                go_wp2
                go_ret2
                exact ⟨HBW2.out, .inl rfl⟩
              · have q4 : ¬ (0 : Int) < (nb : Int) := by omega
                have HBN : Hid (b = []) := Lib.hid (List.eq_nil_of_length_eq_zero (by have := HBL.out; omega))
                go_wp2_with (first
                  | (at_builtin; go_must (refine wpList_appB (L := T) (M := b) rfl (.tmp 66) (.tmp 68) 26 rfl wb.heap.size rfl HR2.out rfl (SrcB.slice (HRB.out.below HBW2.out) (fun e => (hAb e).1)) (by have := HBL.out; omega) (by omega) ?_; intro v3 w3 hrow3 hb3 _ _))
                  | fail)
                go_ret2
                have hs := HSM.out
                have hfp := HFP.out
                refine ⟨HBW2.out.trans (hb3.mono (by omega)), .inr ⟨v3, rfl, T ++ b, Row.mono hrow3 (by omega), ⟨rfl, T, HWT.out, 0, ln, by rw [hs.1, hs.2.1]; exact hfp.symm, .inl ⟨rfl, HBN.out, by rw [HBN.out, List.append_nil]⟩⟩, by rw [List.length_append, HBL.out]; omega⟩⟩
      · have q1 : ((fe : Int) != 0) = true := by simp; omega
        go_wp2
        go_ret2
        exact ⟨HBW2.out, .inl rfl⟩
  · have e3 : ((we.2 : Nat) : Int) ≠ 0 := by omega
    have e4 : (((we.2 : Nat) : Int) != 0) = true := by simpa using e3
    go_wp2
    go_ret2
    exact ⟨HBW1.out, .inl rfl⟩
end Go.Proofs.YtklmpadcfioefaaGreatDoor
