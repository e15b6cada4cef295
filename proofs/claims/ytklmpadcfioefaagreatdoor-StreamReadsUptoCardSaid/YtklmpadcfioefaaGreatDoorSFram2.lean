/- stream.Framing (printed by gen_sfram.py). Conditions: sizes, the world's shape. -/
import Derived.Test.YtklmpadcfioefaaGreatDoorSFram
import Derived.Test.YtklmpadcfioefaaGreatDoorROwn
import Derived.Deep.RegionHeld3
namespace Go.Proofs.YtklmpadcfioefaaGreatDoor
open Go.RowKit

/-- the framing behind the guards -/
def framingR (rq : Bool) (mn : Int) (fs : List Fl) : Nat × Nat × Nat :=
  if vals fs sCod ≠ [] then (if codedP mn fs = true then (2, 0, 0) else (0, 0, 240))
  else if vals fs sLen ≠ [] then (match lengthP (listed (vals fs sLen)) with
    | none => (0, 0, 240)
    | some n => (1, n, 0))
  else if rq = true then (0, 0, 0) else (3, 0, 0)
theorem framing_rest {rq hd : Bool} {st mn : Int} {fs : List Fl} (h1 : ¬ (rq = true ∧ hostedP mn fs = false)) (h2 : ¬ (rq = false ∧ (100 ≤ st ∧ st ≤ 199 ∨ st = 204 ∨ st = 304 ∨ hd = true))) : framingP rq hd st mn fs = framingR rq mn fs := by
  unfold framingP; rw [if_neg h1, if_neg h2]; rfl
theorem framing_host {rq hd : Bool} {st mn : Int} {fs : List Fl} (h1 : rq = true ∧ hostedP mn fs = false) : framingP rq hd st mn fs = (0, 0, 240) := by
  unfold framingP; rw [if_pos h1]
theorem framing_none {rq hd : Bool} {st mn : Int} {fs : List Fl} (h2 : rq = false ∧ (100 ≤ st ∧ st ≤ 199 ∨ st = 204 ∨ st = 304 ∨ hd = true)) : framingP rq hd st mn fs = (0, 0, 0) := by
  unfold framingP; rw [if_neg (fun h => by rw [h2.1] at h; cases h.1), if_pos h2]
def framV (x : Nat × Nat × Nat) : Value := .tuple #[.int .i64 (x.1 : Int), .int .i64 (x.2.1 : Int), .int .i64 (x.2.2 : Int)]
theorem R_cod {rq : Bool} {mn : Int} {fs : List Fl} {C : List ByteArray} (h : vals fs sCod = C) (hc : C ≠ []) : framingR rq mn fs = if codedP mn fs = true then (2, 0, 0) else (0, 0, 240) := by
  unfold framingR; rw [if_pos (by rw [h]; exact hc)]
theorem R_len {rq : Bool} {mn : Int} {fs : List Fl} {L : List ByteArray} (h : vals fs sCod = []) (hl : vals fs sLen = L) (hn : L ≠ []) : framV (framingR rq mn fs) = if (lengthP (listed L)).isSome = true then .tuple #[.int .i64 1, .int .i64 (((lengthP (listed L)).getD 0 : Nat) : Int), .int .i64 0] else .tuple #[.int .i64 0, .int .i64 0, .int .i64 240] := by
  unfold framingR; rw [if_neg (by rw [h]; simp), if_pos (by rw [hl]; exact hn), hl]
  cases lengthP (listed L) <;> rfl
theorem R_none {rq : Bool} {mn : Int} {fs : List Fl} (h : vals fs sCod = []) (hl : vals fs sLen = []) : framingR rq mn fs = if rq = true then (0, 0, 0) else (3, 0, 0) := by
  unfold framingR; rw [if_neg (by rw [h]; simp), if_neg (by rw [hl]; simp)]
set_option maxHeartbeats 8000000 in
set_option maxRecDepth 100000 in
/-- what stands behind the guards -/
theorem sframing_rest (rq : Bool) (m t : ByteArray) (st : Int) (rs : ByteArray) (mn : Int) (A : Option Addr) (n c : Nat) (fs : List Fl) (mth : ByteArray) (w : World) (hsh : w.ShapedOpen Tryz.prog) (hrd : Rd w w.heap.size 2 A n (fieldsV fs))
    (hn : n ≤ 16777216) (hfs : ∀ f ∈ fs, f.1.size ≤ 16777216) (hfz : flSize fs ≤ 16777216)
    (h1 : ¬ (rq = true ∧ hostedP mn fs = false)) (h2 : ¬ (rq = false ∧ (100 ≤ st ∧ st ≤ 199 ∨ st = 204 ∨ st = 304 ∨ decide (mth = ⟨#[72, 69, 65, 68]⟩) = true))) :
    Calls Tryz.prog 33 #[headV rq m t st rs mn (.slice A n c), .string mth] w fun e w' => e = .returned (framV (framingR rq mn fs)) ∧ Below w.heap.size w w' := by
  have B1 : Below w.heap.size w (w.alloc (.cells #[.bool rq, .string m, .string t, .int .i64 st, .string rs, .int .i64 mn, .slice A n c] 52)) := (Below.refl _ _).alloc (Nat.le_refl _) _
  have r1 := (hrd.below B1).more B1.size
  have HV1 := Lib.hid (Var.new w 52 [.bool rq, .string m, .string t, .int .i64 st, .string rs, .int .i64 mn, .slice A n c])
  have HB1 := Lib.hid B1
  have HS := Lib.hid hsh
  have HR1 := Lib.hid r1
  have HHO := Lib.hid (shosted_any rq m t st rs mn A n c fs _ (shaped_below hsh B1) r1 hn hfs hfz)
  have HVC := Lib.hid (fun W h => hValues_any rq m t st rs mn A n c fs ⟨#[84, 114, 97, 110, 115, 102, 101, 114, 45, 69, 110, 99, 111, 100, 105, 110, 103]⟩ W h hn (by decide) hfs)
  have HVL := Lib.hid (fun W h => hValues_any rq m t st rs mn A n c fs ⟨#[67, 111, 110, 116, 101, 110, 116, 45, 76, 101, 110, 103, 116, 104]⟩ W h hn (by decide) hfs)
  have htc := vals_total fs sCod
  have htl := vals_total fs sLen
  have hmc := fun v (h : v ∈ vals fs sCod) => vals_mem (name := sCod) h
  have hml := fun v (h : v ∈ vals fs sLen) => vals_mem (name := sLen) h
  have hRC := fun C (h : vals fs sCod = C) => R_cod (rq := rq) (mn := mn) h
  have hRL := fun L (h0 : vals fs sCod = []) (h : vals fs sLen = L) => R_len (rq := rq) (mn := mn) h0 h
  have hRN := R_none (rq := rq) (mn := mn) (fs := fs)
  have hCD : codedP mn fs = (decide (mn = 1) && (vals fs sLen).isEmpty && ((listed (vals fs sCod)).map fd == [bChunked])) := rfl
  obtain ⟨C, hC⟩ : ∃ C, C = vals fs sCod := ⟨_, rfl⟩
  obtain ⟨L, hL⟩ : ∃ L, L = vals fs sLen := ⟨_, rfl⟩
  rw [show vals fs ⟨#[84, 114, 97, 110, 115, 102, 101, 114, 45, 69, 110, 99, 111, 100, 105, 110, 103]⟩ = C from hC.symm] at HVC
  rw [show vals fs ⟨#[67, 111, 110, 116, 101, 110, 116, 45, 76, 101, 110, 103, 116, 104]⟩ = L from hL.symm] at HVL
  rw [← hC] at htc hmc hRC hRL hRN hCD
  rw [← hL] at htl hml hRL hRN hCD
  obtain ⟨R, hR⟩ : ∃ R, R = framingR rq mn fs := ⟨_, rfl⟩
  rw [← hR] at hRC hRL hRN ⊢
  have HRC := Lib.hid (hRC C rfl)
  have HRL := Lib.hid (fun h0 => hRL L h0 rfl)
  have HRN := Lib.hid hRN
  obtain ⟨CD, hCDe⟩ : ∃ CD, CD = codedP mn fs := ⟨_, rfl⟩
  rw [← hCDe] at HRC hCD
  have HCD := Lib.hid hCD
  have hCl : C.length ≤ 16777216 := by rw [hC]; unfold vals; rw [List.length_map]; have := List.length_filter_le (fun f : Fl => fold f.1.data.toList == fold sCod.data.toList) fs; have := hrd.1; rw [fieldsV_len] at this; omega
  have hLl : L.length ≤ 16777216 := by rw [hL]; unfold vals; rw [List.length_map]; have := List.length_filter_le (fun f : Fl => fold f.1.data.toList == fold sLen.data.toList) fs; have := hrd.1; rw [fieldsV_len] at this; omega
  have HMC := Lib.hid hmc
  have HML := Lib.hid hml
  have HLC := Lib.hid (fun A n c W h1 h2 h3 => hList_any A n c C W h1 h2 h3 (fun s hs => by have := hmc s hs; omega) (by omega))
  have HLL := Lib.hid (fun A n c W h1 h2 h3 => hList_any A n c L W h1 h2 h3 (fun s hs => by have := hml s hs; omega) (by omega))
  have hzC : ∀ s ∈ listed C, s.size ≤ 16777216 := fun s hs => by have := listed_size hs; omega
  have hzL : ∀ s ∈ listed L, s.size ≤ 16777216 := fun s hs => by have := listed_size hs; omega
  have hlC := listed_len C
  have hlL := listed_len L
  obtain ⟨LC, hLC⟩ : ∃ LC, LC = listed C := ⟨_, rfl⟩
  obtain ⟨LL, hLL⟩ : ∃ LL, LL = listed L := ⟨_, rfl⟩
  rw [← hLC] at HLC hzC hlC HCD
  rw [← hLL] at HLL hzL hlL HRL
  have HZC := Lib.hid hzC
  have HNUM := Lib.hid (fun A n c W h1 h2 => snumber_any A n c LL W h1 h2 hzL)
  unfold headV at HVC HVL HHO ⊢
  clear hrd B1 r1 hsh hfs hmc hml hRC hRL hRN hR hCD hCDe hC hL hLC hLL hzC hzL
  obtain ⟨w1, hw1⟩ : ∃ w1 : World, w1 = w.alloc (.cells #[.bool rq, .string m, .string t, .int .i64 st, .string rs, .int .i64 mn, .slice A n c] 52) := ⟨_, rfl⟩
  rw [← hw1] at HV1 HB1 HR1 HHO
  have q0 := HV1.out.cell (j := 0) rfl
  have q3 := HV1.out.cell (j := 3) rfl
  have HK : Hid (∀ w' : World, Below w1.heap.size w1 w' → (Below w1.heap.size w1 w' ∧ w'.cell? ⟨w.heap.size, 0, none⟩ = some (.bool rq) ∧ w'.cell? ⟨w.heap.size, 1, none⟩ = some (.string m) ∧ w'.cell? ⟨w.heap.size, 2, none⟩ = some (.string t) ∧ w'.cell? ⟨w.heap.size, 3, none⟩ = some (.int .i64 st) ∧ w'.cell? ⟨w.heap.size, 4, none⟩ = some (.string rs) ∧ w'.cell? ⟨w.heap.size, 5, none⟩ = some (.int .i64 mn) ∧ w'.cell? ⟨w.heap.size, 6, none⟩ = some (.slice A n c))) := Lib.hid (fun w' hB => by
    have a := HV1.out.below_all hB
    exact ⟨hB, a.cell (j := 0) rfl, a.cell (j := 1) rfl, a.cell (j := 2) rfl, a.cell (j := 3) rfl, a.cell (j := 4) rfl, a.cell (j := 5) rfl, a.cell (j := 6) rfl⟩)
  have HZ1 := Lib.hid HB1.out.size
  have HH1 : rq = true → hostedP mn fs = true := fun e => by cases hp : hostedP mn fs with | true => rfl | false => exact absurd ⟨e, hp⟩ h1
  have HS2 : rq = false → ¬ (100 ≤ st ∧ st ≤ 199) ∧ st ≠ 204 ∧ st ≠ 304 ∧ mth ≠ ⟨#[72, 69, 65, 68]⟩ := fun e => ⟨fun x => h2 ⟨e, .inl x⟩, fun x => h2 ⟨e, .inr (.inl x)⟩, fun x => h2 ⟨e, .inr (.inr (.inl x))⟩, fun x => h2 ⟨e, .inr (.inr (.inr (by simp [x])))⟩⟩
  have HH1 := Lib.hid HH1
  have HS2 := Lib.hid HS2
  clear h1 h2
  go_enter Tryz.func33, Tryz.ntmps33
  go_upto_region 1 with (fail)
  rw [← hw1]
  clear hw1
  go_cut [18] (fun v wx => v = .bool false ∧ Below w1.heap.size w1 wx)
  case first =>
    cases rq
    · go_wp2
      go_meet
      exact ⟨rfl, Below.refl _ _⟩
    · rw [HH1.out rfl] at HHO
      go_wp2_with (first
        | (refine wpList_load_mid_g (by rfl) 52 (.tmp 2) rfl w.heap.size 0 rfl [.bool true, .string m, .string t, .int .i64 st, .string rs, .int .i64 mn, .slice A n c] _ HV1.out.range Tryz.underlying52 rfl (by kernel_rfl) ?_)
        | (go_at_call 66; (refine HHO.out.mono ?_; rintro _ w2 ⟨rfl, hb2⟩))
        | fail)
      go_meet
      exact ⟨rfl, hb2⟩
  case rest =>
  obtain ⟨rfl, hcut⟩ := hcut
  have HBC := Lib.hid hcut
  have HVC1 := Lib.hid (HV1.out.below_all hcut)
  have q0 := HVC1.out.cell (j := 0) rfl
  have q3 := HVC1.out.cell (j := 3) rfl
  clear hcut
  go_upto_region 3 with (fail)
  obtain ⟨wk, rfl⟩ : ∃ wk : World, wk = wc := ⟨_, rfl⟩
  go_cut [45] (fun v wx => v = .bool false ∧ wk = wx)
  case first =>
    cases rq
    · obtain ⟨g1, g2, g3, g4⟩ := HS2.out rfl
      have b2 : (st == 204) = false := by simpa using g2
      have b3 : (st == 304) = false := by simpa using g3
      have b4 := toList_ne g4
      clear g2 g3 g4
      by_cases g0 : 100 ≤ st
      · have g5 : decide (st ≤ 199) = false := by simp; omega
        clear g1
        go_wp2
        go_meet
        exact ⟨rfl, rfl⟩
      · clear g1
        go_wp2
        go_meet
        exact ⟨rfl, rfl⟩
    · go_wp2
      go_meet
      exact ⟨rfl, rfl⟩
  case rest =>
  obtain ⟨rfl, rfl⟩ := hcut
  clear q3
  have HK : Hid (∀ w' : World, Below wk.heap.size wk w' → (Below wk.heap.size wk w' ∧ w'.cell? ⟨w.heap.size, 0, none⟩ = some (.bool rq) ∧ w'.cell? ⟨w.heap.size, 1, none⟩ = some (.string m) ∧ w'.cell? ⟨w.heap.size, 2, none⟩ = some (.string t) ∧ w'.cell? ⟨w.heap.size, 3, none⟩ = some (.int .i64 st) ∧ w'.cell? ⟨w.heap.size, 4, none⟩ = some (.string rs) ∧ w'.cell? ⟨w.heap.size, 5, none⟩ = some (.int .i64 mn) ∧ w'.cell? ⟨w.heap.size, 6, none⟩ = some (.slice A n c))) := Lib.hid (fun w' hB => by
    have a := HVC1.out.below_all hB
    exact ⟨hB, a.cell (j := 0) rfl, a.cell (j := 1) rfl, a.cell (j := 2) rfl, a.cell (j := 3) rfl, a.cell (j := 4) rfl, a.cell (j := 5) rfl, a.cell (j := 6) rfl⟩)
  have HRk := Lib.hid (HR1.out.keeps HBC.out)
  go_upto_region 5 with (fail)
  go_cut [7, 8] (fun v7 v8 wx => ∃ (A1 : Option Addr) (c1 : Nat) (A2 : Option Addr) (c2 : Nat), (v7 = .slice A1 C.length c1 ∧ v8 = .slice A2 L.length c2) ∧ Rd wx wx.heap.size 1 A1 C.length (strsV C) ∧ Rd wx wx.heap.size 1 A2 L.length (strsV L) ∧ Below wk.heap.size wk wx)
  case first =>
    refine wp_region_held_drew (S := (fun w' => Below wk.heap.size wk w' ∧ w'.cell? ⟨w.heap.size, 0, none⟩ = some (.bool rq) ∧ w'.cell? ⟨w.heap.size, 1, none⟩ = some (.string m) ∧ w'.cell? ⟨w.heap.size, 2, none⟩ = some (.string t) ∧ w'.cell? ⟨w.heap.size, 3, none⟩ = some (.int .i64 st) ∧ w'.cell? ⟨w.heap.size, 4, none⟩ = some (.string rs) ∧ w'.cell? ⟨w.heap.size, 5, none⟩ = some (.int .i64 mn) ∧ w'.cell? ⟨w.heap.size, 6, none⟩ = some (.slice A n c))) (by as_aux_lemma => kernel_rfl) ?_ (fun hHeld => ?_)
    · exact HK.out _ ((Below.refl _ _).drew)
    refine wpAnyH_take (i := 0) (v := ?_) (by simp only [List.getElem?_toArray, List.getElem?_cons_zero]; exact rfl) (by as_aux_lemma => kernel_rfl) (by as_aux_lemma => kernel_rfl) (by as_aux_lemma => kernel_rfl) (by exact fun _ _ _ h => h) (Or.inl ⟨by rfl, ?_⟩) (by assumption) ?_
    rotate_left
    · intro w hSw
      (try dsimp only at hSw)
      go_simp
      try with_reducible rfl
    (try simp only [Act.put, List.setIfInBounds_toArray, List.set_cons_zero, List.set_cons_succ])
    refine wpAnyH_take (i := 2) (v := ?_) (by simp only [List.getElem?_toArray, List.getElem?_cons_succ, List.getElem?_cons_zero]; exact rfl) (by as_aux_lemma => kernel_rfl) (by as_aux_lemma => kernel_rfl) (by as_aux_lemma => kernel_rfl) (by exact fun _ _ _ h => h) (Or.inl ⟨by rfl, ?_⟩) (by assumption) ?_
    rotate_left
    · intro w hSw
      (try dsimp only at hSw)
      go_simp
      try with_reducible rfl
    (try simp only [Act.put, List.setIfInBounds_toArray, List.set_cons_zero, List.set_cons_succ])
    refine wpAnyH_ready (rs := [1]) (by as_aux_lemma => kernel_rfl) (by simp) ?_
    refine AllReadyH.cons (by simp only [List.getElem?_toArray, List.getElem?_cons_succ, List.getElem?_cons_zero]; exact rfl) (fun K hK => ?_) AllReadyH.nil
    go_simp
    (go_at_call 27; refine (HVC.out _ (Held.rd (by assumption) HRk.out)).mono ?_; rintro _ wx ⟨v, rfl, hrow, hl⟩; have hq := Held.trans (W0 := wk) (by assumption) hl; obtain ⟨A1, c1, rfl, _, _, _, rdC⟩ := hrow.form; have HRC1 := Lib.hid rdC; clear hrow rdC)
    refine hK.out _ _ ?_ (fun hHeld => ?_)
    · (try dsimp only)
      exact HK.out _ hq
    clear hK K
    (try simp only [Act.put, List.setIfInBounds_toArray, List.set_cons_zero, List.set_cons_succ])
    refine wpAnyH_ready (rs := [3]) (by as_aux_lemma => kernel_rfl) (by simp) ?_
    refine AllReadyH.cons (by simp only [List.getElem?_toArray, List.getElem?_cons_succ, List.getElem?_cons_zero]; exact rfl) (fun K hK => ?_) AllReadyH.nil
    go_simp
    (go_at_call 27; refine (HVL.out _ (Held.rd (by assumption) HRk.out)).mono ?_; rintro _ wy ⟨v, rfl, hrow, hl⟩; have hq := Held.trans (W0 := wk) (by assumption) hl; obtain ⟨A2, c2, rfl, _, _, _, rdL⟩ := hrow.form; have HRC2 := Lib.hid (HRC1.out.keeps hl); have HRL2 := Lib.hid rdL; clear hrow rdL)
    refine hK.out _ _ ?_ (fun hHeld => ?_)
    · (try dsimp only)
      exact HK.out _ hq
    clear hK K
    (try simp only [Act.put, List.setIfInBounds_toArray, List.set_cons_zero, List.set_cons_succ])
    refine wpAnyH_take (i := 4) (v := ?_) (by simp only [List.getElem?_toArray, List.getElem?_cons_succ, List.getElem?_cons_zero]; exact rfl) (by as_aux_lemma => kernel_rfl) (by as_aux_lemma => kernel_rfl) (by as_aux_lemma => kernel_rfl) (by exact fun _ _ _ h => h) (Or.inl ⟨by rfl, ?_⟩) (by assumption) ?_
    rotate_left
    · intro w hSw
      (try dsimp only at hSw)
      go_simp
      try with_reducible rfl
    (try simp only [Act.put, List.setIfInBounds_toArray, List.set_cons_zero, List.set_cons_succ])
    refine wpAnyH_take (i := 5) (v := ?_) (by simp only [List.getElem?_toArray, List.getElem?_cons_succ, List.getElem?_cons_zero]; exact rfl) (by as_aux_lemma => kernel_rfl) (by as_aux_lemma => kernel_rfl) (by as_aux_lemma => kernel_rfl) (by exact fun _ _ _ h => h) (Or.inl ⟨by rfl, ?_⟩) (by assumption) ?_
    rotate_left
    · intro w hSw
      (try dsimp only at hSw)
      go_simp
      try with_reducible rfl
    (try simp only [Act.put, List.setIfInBounds_toArray, List.set_cons_zero, List.set_cons_succ])
    refine wpAnyH_done (by as_aux_lemma => kernel_rfl) ?_ _
    go_wp2
    go_meet
    exact ⟨A1, c1, A2, c2, ⟨rfl, rfl⟩, HRC2.out, HRL2.out, hq⟩
  case rest =>
  obtain ⟨A1, c1, A2, c2, ⟨rfl, rfl⟩, rdC, rdL, hbl⟩ := hcut
  obtain ⟨wz, rfl⟩ : ∃ wz : World, wz = wc := ⟨_, rfl⟩
  have HBZ := Lib.hid (HBC.out.trans (hbl.mono HBC.out.size))
  have HVZ := Lib.hid (HVC1.out.below_all hbl)
  have HSZ : Hid (wz.ShapedOpen Tryz.prog) := Lib.hid (shaped_below (shaped_below HS.out HB1.out) HBZ.out)
  have HBW := Lib.hid (HB1.out.trans (HBZ.out.mono HZ1.out))
  have HDC := Lib.hid rdC
  have HDL := Lib.hid rdL
  clear rdC rdL hbl HK HRk HVC HVL HVC1 HBC HV1 HR1 HHO HH1 HS2 q0
  have q0 := HVZ.out.cell (j := 0) rfl
  cases C with
  | nil =>
    cases L with
    | nil =>
      have HE := Lib.hid (HRN.out rfl rfl)
      clear HRC HRL HRN HCD HNUM HLC HLL
      cases rq
      · go_wp2
        go_ret3
        exact ⟨by rw [HE.out]; rfl, HBW.out⟩
      · go_wp2
        go_ret3
        exact ⟨by rw [HE.out]; rfl, HBW.out⟩
    | cons x r =>
      have HE := Lib.hid (HRL.out rfl (by simp))
      have hl0 : 0 < (x :: r).length := by simp
      obtain ⟨nL, hnL⟩ : ∃ nL, nL = (x :: r).length := ⟨_, rfl⟩
      rw [← hnL] at hLl hl0 HDL ⊢
      clear HRC HRL HRN HCD HLC hnL
      unfold numV at HNUM
      obtain ⟨b, hb⟩ : ∃ b, b = (lengthP LL).isSome := ⟨_, rfl⟩
      obtain ⟨N, hN⟩ : ∃ N, N = (lengthP LL).getD 0 := ⟨_, rfl⟩
      rw [← hb, ← hN] at HNUM HE
      clear hb hN
      cases b
      · go_wp2_with (first
          | (go_at_call 50; (refine (HLL.out A2 nL c2 _ HSZ.out HDL.out hLl).mono ?_; rintro _ w3 ⟨v3, rfl, hrow3, hb3⟩; obtain ⟨A3, c3, rfl, _, _, _, rd3⟩ := hrow3.form))
          | (go_at_call 67; (refine (HNUM.out A3 LL.length c3 _ rd3 (by omega)).mono ?_; rintro _ w4 ⟨rfl, rfl⟩))
          | fail)
        go_ret3
        exact ⟨by rw [HE.out]; rfl, HBW.out.trans (hb3.mono HBW.out.size)⟩
      · go_wp2_with (first
          | (go_at_call 50; (refine (HLL.out A2 nL c2 _ HSZ.out HDL.out hLl).mono ?_; rintro _ w3 ⟨v3, rfl, hrow3, hb3⟩; obtain ⟨A3, c3, rfl, _, _, _, rd3⟩ := hrow3.form))
          | (go_at_call 67; (refine (HNUM.out A3 LL.length c3 _ rd3 (by omega)).mono ?_; rintro _ w4 ⟨rfl, rfl⟩))
          | fail)
        go_ret3
        exact ⟨by rw [HE.out]; rfl, HBW.out.trans (hb3.mono HBW.out.size)⟩
  | cons x r =>
    have HE := Lib.hid (HRC.out (by simp))
    have hl0 : 0 < (x :: r).length := by simp
    obtain ⟨nC, hnC⟩ : ∃ nC, nC = (x :: r).length := ⟨_, rfl⟩
    rw [← hnC] at hCl hl0 HDC ⊢
    clear HRC HRL HRN hnC HLL HNUM q0
    by_cases h1 : mn = 1
    · subst h1
      cases L with
      | nil =>
        cases LC with
        | nil =>
          have HE2 : Hid (R = (0, 0, 240)) := Lib.hid (by rw [HE.out, HCD.out]; rfl)
          clear HE HCD
          go_wp2_with (first
            | (go_at_call 50; (refine (HLC.out A1 nC c1 _ HSZ.out HDC.out hCl).mono ?_; rintro _ w3 ⟨v3, rfl, hrow3, hb3⟩; obtain ⟨A3, c3, rfl, _, _, _, rd3⟩ := hrow3.form; have a5 := (HVZ.out.below_all hb3).cell (j := 5) rfl; clear rd3 hrow3))
            | fail)
          go_ret3
          exact ⟨by rw [HE2.out]; rfl, HBW.out.trans (hb3.mono HBW.out.size)⟩
        | cons y s =>
          cases s with
          | nil =>
            have HFO := Lib.hid (fun W => hFold_any y W (HZC.out y (by simp)))
            obtain ⟨F, hF⟩ : ∃ F : ByteArray, F = ⟨(fold y.data.toList).toArray⟩ := ⟨_, rfl⟩
            rw [← hF] at HFO
            have hCE : CD = (F.data.toList == bChunked) := by rw [HCD.out, hF]; simp [fd]
            by_cases hf : F = ⟨#[99, 104, 117, 110, 107, 101, 100]⟩
            · have HE2 : Hid (R = (2, 0, 0)) := Lib.hid (by rw [HE.out, hCE, hf]; rfl)
              clear HE HCD hCE hF
              subst hf
              go_wp2_with (first
                | (go_at_call 50; (refine (HLC.out A1 nC c1 _ HSZ.out HDC.out hCl).mono ?_; rintro _ w3 ⟨v3, rfl, hrow3, hb3⟩; obtain ⟨A3, c3, rfl, _, _, _, rd3⟩ := hrow3.form; have a5 := (HVZ.out.below_all hb3).cell (j := 5) rfl; obtain ⟨g3, o3, rfl, _, c03⟩ := strs_first rd3; clear rd3 hrow3))
                | (go_at_call 52; refine (HFO.out _).mono ?_; rintro _ w4 ⟨rfl, hb4⟩)
                | fail)
              go_ret3
              exact ⟨by rw [HE2.out]; rfl, (HBW.out.trans (hb3.mono HBW.out.size)).trans (hb4.mono (by have := HBW.out.size; have := hb3.size; omega))⟩
            · have HE2 : Hid (R = (0, 0, 240)) := Lib.hid (by rw [HE.out, hCE, show (F.data.toList == bChunked) = false from by rw [beq_eq_false_iff_ne]; exact fun e => hf (byte_ext.2 e)]; rfl)
              have b4 := toList_ne hf
              clear HE HCD hCE hF hf
              go_wp2_with (first
                | (go_at_call 50; (refine (HLC.out A1 nC c1 _ HSZ.out HDC.out hCl).mono ?_; rintro _ w3 ⟨v3, rfl, hrow3, hb3⟩; obtain ⟨A3, c3, rfl, _, _, _, rd3⟩ := hrow3.form; have a5 := (HVZ.out.below_all hb3).cell (j := 5) rfl; obtain ⟨g3, o3, rfl, _, c03⟩ := strs_first rd3; clear rd3 hrow3))
                | (go_at_call 52; refine (HFO.out _).mono ?_; rintro _ w4 ⟨rfl, hb4⟩)
                | fail)
              go_ret3
              exact ⟨by rw [HE2.out]; rfl, (HBW.out.trans (hb3.mono HBW.out.size)).trans (hb4.mono (by have := HBW.out.size; have := hb3.size; omega))⟩
          | cons z s =>
            have HE2 : Hid (R = (0, 0, 240)) := Lib.hid (by rw [HE.out, HCD.out]; simp)
            have hl1 : ((y :: z :: s).length : Int) ≠ 1 := by simp; omega
            have hl2 : (((y :: z :: s).length : Int) != 1) = true := by rw [bne_iff_ne]; exact hl1
            obtain ⟨nY, hnY⟩ : ∃ nY, nY = (y :: z :: s).length := ⟨_, rfl⟩
            rw [← hnY] at HLC hl2
            clear HE HCD hl1 hnY
            go_wp2_with (first
              | (go_at_call 50; (refine (HLC.out A1 nC c1 _ HSZ.out HDC.out hCl).mono ?_; rintro _ w3 ⟨v3, rfl, hrow3, hb3⟩; obtain ⟨A3, c3, rfl, _, _, _, rd3⟩ := hrow3.form; have a5 := (HVZ.out.below_all hb3).cell (j := 5) rfl; clear rd3 hrow3))
              | fail)
            go_ret3
            exact ⟨by rw [HE2.out]; rfl, HBW.out.trans (hb3.mono HBW.out.size)⟩
      | cons y s =>
        have HE2 : Hid (R = (0, 0, 240)) := Lib.hid (by rw [HE.out, HCD.out]; rfl)
        have hl1 : 0 < (y :: s).length := by simp
        obtain ⟨nY, hnY⟩ : ∃ nY, nY = (y :: s).length := ⟨_, rfl⟩
        rw [← hnY] at hl1 hLl ⊢
        clear HE HCD hnY
        go_wp2_with (first
          | (go_at_call 50; (refine (HLC.out A1 nC c1 _ HSZ.out HDC.out hCl).mono ?_; rintro _ w3 ⟨v3, rfl, hrow3, hb3⟩; obtain ⟨A3, c3, rfl, _, _, _, rd3⟩ := hrow3.form; have a5 := (HVZ.out.below_all hb3).cell (j := 5) rfl; clear rd3 hrow3))
          | fail)
        go_ret3
        exact ⟨by rw [HE2.out]; rfl, HBW.out.trans (hb3.mono HBW.out.size)⟩
    · have HE2 : Hid (R = (0, 0, 240)) := Lib.hid (by rw [HE.out, HCD.out, decide_eq_false h1]; rfl)
      have q1 : (mn != 1) = true := by rw [bne_iff_ne]; exact h1
      clear HE HCD h1
      go_wp2_with (first
        | (go_at_call 50; (refine (HLC.out A1 nC c1 _ HSZ.out HDC.out hCl).mono ?_; rintro _ w3 ⟨v3, rfl, hrow3, hb3⟩; obtain ⟨A3, c3, rfl, _, _, _, rd3⟩ := hrow3.form; have a5 := (HVZ.out.below_all hb3).cell (j := 5) rfl; clear rd3 hrow3))
        | fail)
      go_ret3
      exact ⟨by rw [HE2.out]; rfl, HBW.out.trans (hb3.mono HBW.out.size)⟩

set_option maxHeartbeats 8000000 in
set_option maxRecDepth 100000 in
/-- stream.Framing -/
theorem sframing_any (rq : Bool) (m t : ByteArray) (st : Int) (rs : ByteArray) (mn : Int) (A : Option Addr) (n c : Nat) (fs : List Fl) (mth : ByteArray) (w : World) (hsh : w.ShapedOpen Tryz.prog) (hrd : Rd w w.heap.size 2 A n (fieldsV fs))
    (hn : n ≤ 16777216) (hfs : ∀ f ∈ fs, f.1.size ≤ 16777216) (hfz : flSize fs ≤ 16777216) :
    Calls Tryz.prog 33 #[headV rq m t st rs mn (.slice A n c), .string mth] w fun e w' => e = .returned (framV (framingP rq (decide (mth = ⟨#[72, 69, 65, 68]⟩)) st mn fs)) ∧ Below w.heap.size w w' := by
  by_cases h1 : rq = true ∧ hostedP mn fs = false
  · rw [framing_host h1]
    obtain ⟨rfl, hh⟩ := h1
    have B1 : Below w.heap.size w (w.alloc (.cells #[.bool true, .string m, .string t, .int .i64 st, .string rs, .int .i64 mn, .slice A n c] 52)) := (Below.refl _ _).alloc (Nat.le_refl _) _
    have r1 := (hrd.below B1).more B1.size
    have HV1 := Lib.hid (Var.new w 52 [.bool true, .string m, .string t, .int .i64 st, .string rs, .int .i64 mn, .slice A n c])
    have hH := shosted_any true m t st rs mn A n c fs _ (shaped_below hsh B1) r1 hn hfs hfz
    rw [hh] at hH
    have HHO := Lib.hid hH
    have HB1 := Lib.hid B1
    unfold headV at HHO ⊢
    clear hH B1 r1 hrd hsh hh hfs
    go_enter Tryz.func33, Tryz.ntmps33
    go_wp2_with (first
      | (refine wpList_load_mid_g (by rfl) 52 (.tmp 2) rfl w.heap.size 0 rfl [.bool true, .string m, .string t, .int .i64 st, .string rs, .int .i64 mn, .slice A n c] _ HV1.out.range Tryz.underlying52 rfl (by kernel_rfl) ?_)
      | (go_at_call 66; (refine HHO.out.mono ?_; rintro _ w2 ⟨rfl, hb2⟩))
      | fail)
    go_ret3
    exact ⟨rfl, HB1.out.trans (hb2.mono HB1.out.size)⟩
  by_cases h2 : rq = false ∧ (100 ≤ st ∧ st ≤ 199 ∨ st = 204 ∨ st = 304 ∨ decide (mth = ⟨#[72, 69, 65, 68]⟩) = true)
  · rw [framing_none h2]
    obtain ⟨rfl, h3⟩ := h2
    have B1 : Below w.heap.size w (w.alloc (.cells #[.bool false, .string m, .string t, .int .i64 st, .string rs, .int .i64 mn, .slice A n c] 52)) := (Below.refl _ _).alloc (Nat.le_refl _) _
    have HB1 := Lib.hid B1
    unfold headV
    clear B1 hrd hsh hfs h1
    by_cases k1 : 100 ≤ st ∧ st ≤ 199
    · obtain ⟨g1, g2⟩ := k1
      clear h3
      (go_enter Tryz.func33, Tryz.ntmps33
       go_wp2
       go_ret3
       exact ⟨rfl, HB1.out⟩)
    · have k2 : st = 204 ∨ st = 304 ∨ decide (mth = ⟨#[72, 69, 65, 68]⟩) = true := by rcases h3 with h | h; exact absurd h k1; exact h
      clear h3
      by_cases k3 : st = 204
      · subst k3
        clear k1 k2
        (go_enter Tryz.func33, Tryz.ntmps33
         go_wp2
         go_ret3
         exact ⟨rfl, HB1.out⟩)
      · by_cases k4 : st = 304
        · subst k4
          clear k1 k2 k3
          (go_enter Tryz.func33, Tryz.ntmps33
           go_wp2
           go_ret3
           exact ⟨rfl, HB1.out⟩)
        · have k5 : mth = ⟨#[72, 69, 65, 68]⟩ := by
            rcases k2 with h | h | h
            · exact absurd h k3
            · exact absurd h k4
            · exact of_decide_eq_true h
          subst k5
          have b3 : (st == 204) = false := by simpa using k3
          have b4 : (st == 304) = false := by simpa using k4
          clear k2 k3 k4
          by_cases g1 : 100 ≤ st
          · have g5 : decide (st ≤ 199) = false := by simp; omega
            clear k1
            (go_enter Tryz.func33, Tryz.ntmps33
             go_wp2
             go_ret3
             exact ⟨rfl, HB1.out⟩)
          · clear k1
            (go_enter Tryz.func33, Tryz.ntmps33
             go_wp2
             go_ret3
             exact ⟨rfl, HB1.out⟩)
  rw [framing_rest h1 h2]
  exact sframing_rest rq m t st rs mn A n c fs mth w hsh hrd hn hfs hfz h1 h2
end Go.Proofs.YtklmpadcfioefaaGreatDoor
