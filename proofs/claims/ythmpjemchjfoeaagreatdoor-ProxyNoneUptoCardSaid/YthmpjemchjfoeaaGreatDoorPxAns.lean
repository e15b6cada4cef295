/- What a new proxy answers. No condition. -/
import Derived.Test.YthmpjemchjfoeaaGreatDoorPxDo
namespace Go.Proofs.YthmpjemchjfoeaaGreatDoor
open Go.RowKit Go.MapKept Go.Maps Go.Sort Go.Shelf
section
variable {w : World} {pb xb yb : Nat} {out : Value}
set_option maxRecDepth 100000 in
theorem qTold (A : Option Addr) (n c : Nat) (h : Px w pb xb yb (.slice A n c)) : Calls Tryz.prog 43 #[.pointer (some ⟨pb, 0, none⟩)] w fun e w' => e = .returned (.slice A n c) ∧ Px w' pb xb yb (.slice none 0 0) ∧ Chg (fun x => x = pb) w w' := by
  have hcell := h.cells
  have q0 := hcell.2.2.1
  have f0 := hcell.2.2.2
  have HP := Lib.hid h
  have hset : Chg (fun x => x = pb) w (w.setCell ⟨pb, 12, none⟩ (.slice none 0 0)) := (show Chg (fun x => x = pb) w w from Chg.refl _ _).setCell (p := ⟨pb, 12, none⟩) (fun _ => rfl) _
  clear h hcell
  go_enter Tryz.func43, Tryz.ntmps43
  go_wp2
  go_ret
  exact ⟨rfl, HP.out.put _, hset⟩
set_option maxRecDepth 100000 in
theorem qDial (h : Px w pb xb yb (.slice none 0 0)) : Calls Tryz.prog 16 #[.pointer (some ⟨pb, 0, none⟩), .int .i64 5, .int .i64 7] w fun e w' => ∃ v, e = .returned v ∧ Px w' pb xb yb (.slice none 0 0) ∧ Row w' w.heap.size 5 v 1 act7 ∧ Chg (fun x => x = pb) w w' := by
  have hcell := h.cells
  have qx := hcell.1
  have qy := hcell.2.1
  have lx := h.lookX 7
  have ly := h.lookY 5
  have HD := Lib.hid (qDo h)
  have HT := Lib.hid (fun W A n c (h : Px W pb xb yb (.slice A n c)) => qTold A n c h)
  have hlt := h.lt
  clear h hcell
  go_enter Tryz.func16, Tryz.ntmps16
  go_upto_region 8 with (first
    | (go_at_call 42; go_must (refine HD.out.mono ?_; rintro _ w1 ⟨v, rfl, p1, r1, c1⟩))
    | fail)
  obtain ⟨A1, k1, rfl, _, _, _, _⟩ := Row.form r1
  have HT1 := Lib.hid (HT.out _ _ _ _ p1)
  have HR1 := Lib.hid r1
  have HC1 := Lib.hid c1
  clear p1 r1 c1
  go_wp2_with (first
    | (go_at_call 43; go_must (refine HT1.out.mono ?_; rintro _ w2 ⟨rfl, p2, c2⟩))
    | fail)
  go_ret
  exact ⟨_, rfl, p2, HR1.out.chg c2 (fun b hb e => by have := (HR1.out.lt b hb).1; omega), HC1.out.trans c2 (fun _ _ e => e)⟩
set_option maxRecDepth 100000 in
theorem qDialNo (h : Px w pb xb yb out) : Calls Tryz.prog 16 #[.pointer (some ⟨pb, 0, none⟩), .int .i64 5, .int .i64 (-1)] w fun e w' => e = .returned (.slice none 0 0) ∧ w' = w := by
  have hcell := h.cells
  have qx := hcell.1
  have qy := hcell.2.1
  have ly := h.lookY 5
  clear h hcell
  go_enter Tryz.func16, Tryz.ntmps16
  go_wp2
  go_ret
  exact ⟨rfl, rfl⟩
set_option maxRecDepth 100000 in
theorem qAcceptNo (h : Px w pb xb yb out) : Calls Tryz.prog 14 #[.pointer (some ⟨pb, 0, none⟩), .int .i64 (-1)] w fun e w' => e = .returned (.int .i64 2) ∧ w' = w := by
  go_enter Tryz.func14, Tryz.ntmps14
  go_wp2
  go_ret
  exact ⟨rfl, rfl⟩
set_option maxRecDepth 100000 in
theorem qRefused (h : Px w pb xb yb out) (k : Int) : Calls Tryz.prog 31 #[.pointer (some ⟨pb, 0, none⟩), .int .i64 k] w fun e w' => e = .returned (.slice none 0 0) ∧ w' = w := by
  have hcell := h.cells
  have qy := hcell.2.1
  have ly := h.lookY k
  clear h hcell
  go_enter Tryz.func31, Tryz.ntmps31
  go_wp2
  go_ret
  exact ⟨rfl, rfl⟩
set_option maxRecDepth 100000 in
theorem qOf (h : Px w pb xb yb out) (k : Int) (v : Value) : Calls Tryz.prog 40 #[.pointer (some ⟨pb, 0, none⟩), .int .i64 k, v] w fun e w' => e = .returned (.slice none 0 0) ∧ w' = w := by
  have hcell := h.cells
  have qx := hcell.1
  have lx := h.lookX k
  clear h hcell
  go_enter Tryz.func40, Tryz.ntmps40
  go_wp2
  go_ret
  exact ⟨rfl, rfl⟩
set_option maxRecDepth 100000 in
theorem qRead (A : Option Addr) (n c : Nat) (h : Px w pb xb yb out) (k : Int) : Calls Tryz.prog 15 #[.pointer (some ⟨pb, 0, none⟩), .int .i64 k, .slice A n c] w fun e w' => e = .returned (.slice none 0 0) ∧ Below w.heap.size w w' := by
  have hmk : ∀ fn first cap w, (Instr.makeFunc fn first cap).run Tryz.prog w = .ok (.func fn first cap) w := fun _ _ _ _ => rfl
  have H := Lib.hid (fun (W : World) (hb : Below w.heap.size w W) (v : Value) => qOf (h.below hb) k v)
  clear h
  go_enter Tryz.func15, Tryz.ntmps15
  go_wp2_with (first
    | (go_at_call 40; go_must (refine (H.out _ (by first | exact Below.refl _ _ | exact (Below.refl _ _).alloc (Nat.le_refl _) _) _).mono ?_; rintro _ wx ⟨rfl, hx⟩; obtain rfl := hx.symm))
    | fail)
  go_ret
  exact ⟨rfl, by first | exact Below.refl _ _ | exact (Below.refl _ _).alloc (Nat.le_refl _) _⟩
set_option maxRecDepth 100000 in
theorem qEnded (h : Px w pb xb yb out) (k : Int) : Calls Tryz.prog 29 #[.pointer (some ⟨pb, 0, none⟩), .int .i64 k] w fun e w' => e = .returned (.slice none 0 0) ∧ Below w.heap.size w w' := by
  have hmk : ∀ fn first cap w, (Instr.makeFunc fn first cap).run Tryz.prog w = .ok (.func fn first cap) w := fun _ _ _ _ => rfl
  have H := Lib.hid (fun (W : World) (hb : Below w.heap.size w W) (v : Value) => qOf (h.below hb) k v)
  clear h
  go_enter Tryz.func29, Tryz.ntmps29
  go_wp2_with (first
    | (go_at_call 40; go_must (refine (H.out _ (by first | exact Below.refl _ _ | exact (Below.refl _ _).alloc (Nat.le_refl _) _) _).mono ?_; rintro _ wx ⟨rfl, hx⟩; obtain rfl := hx.symm))
    | fail)
  go_ret
  exact ⟨rfl, by first | exact Below.refl _ _ | exact (Below.refl _ _).alloc (Nat.le_refl _) _⟩
theorem sortsI (m : Nat) : AnyZI.SortsIn Tryz.prog Tryz.rensorted55 Fence.wide m :=
  ⟨fun blk off cap ss W hH hblk hsz => callsIn_wide.2 (AnyM.slices_Sort_int Tryz.sort70 blk off cap ss W hH hblk hsz),
   fun p cap W => callsIn_wide.2 (AnyM.slices_Sort_int_none Tryz.sort70 p cap W)⟩
theorem ikeys_any (mb : Option Nat) (W : World) : Calls Tryz.prog 56 #[.map mb] W fun e w' => e = .returned (.func (.func 73) #[] #[.pointer (some ⟨W.heap.size, 0, none⟩)]) ∧ w' = W.alloc (.cells #[.map mb] 96) :=
  callsIn_wide.1 (AnyZI.keys_in Tryz.keys56 Fence.wide 5 trivial rfl mb W)
theorem owns_empty {W : World} {b c : Nat} (hb : W.heap[b]? = some (.map #[] c)) : W.ownsMap (H := Unit) Tryz.prog 3 (fun _ => none) b 0 (.map []) := by
  exact ⟨#[], c, hb, ⟨by simp, Go.MapKept.stamped_empty c, by simp⟩, Nat.le_refl _, rfl⟩
set_option maxHeartbeats 1000000 in
theorem isorted_any (b c : Nat) (w : World) (hb : w.heap[b]? = some (.map #[] c)) :
    Calls Tryz.prog 55 #[.func (.func 73) #[] #[.pointer (some ⟨w.heap.size, 0, none⟩)]] (w.alloc (.cells #[.map (some b)] 96)) fun e w' => e = .returned (.slice none 0 0) ∧ Below (w.alloc (.cells #[.map (some b)] 96)).heap.size (w.alloc (.cells #[.map (some b)] 96)) w' := by
  have hown := owns_empty hb
  have hbl : b < w.heap.size := (Array.getElem?_eq_some_iff.1 hb).1
  have hseq : SeqGives Fence.wide 2 Tryz.prog 73 #[.pointer (some ⟨w.heap.size, 0, none⟩)] encZ (fun ss => ss.Perm (intKeys (H := Unit) (.map []))) (Maps.size (H := Unit) (.map [])) (w.alloc (.cells #[.map (some b)] 96)) :=
    AnyZI.keys_gives (ρ := Tryz.renkeys56) { Tryz.keys56 with } Fence.wide _ trivial rfl (by omega) w.heap.size b 0 (.map []) _ (by simp) (by simp) (by
      obtain ⟨es, clock, hb, Ft, hs, hD⟩ := hown
      exact ⟨es, clock, (Below.heap_alloc _ _ b hbl).trans hb, Ft, hs, hD⟩)
  have h := AnyZI.sorted_in Tryz.sorted55 Fence.wide 5 trivial trivial trivial trivial rfl (by omega) (sortsI _) (enters_of Tryz.func70 (by kernel_rfl) rfl) 73 #[.pointer (some ⟨w.heap.size, 0, none⟩)] trivial (enters_of Tryz.func73 (by kernel_rfl) rfl) _ _ (Nat.zero_le _) (by decide) _ hseq
  change CallsIn _ _ Tryz.prog 55 _ _ _ at h
  refine (callsIn_wide.1 h).mono ?_
  rintro e w' ⟨v, ss, rfl, hp, hrow, hnil, hb⟩
  have he : ss = [] := List.Perm.eq_nil hp
  exact ⟨by rw [hnil.2 he], hb⟩
set_option maxRecDepth 100000 in
theorem qConns (h : Px w pb xb yb out) : Calls Tryz.prog 24 #[.pointer (some ⟨pb, 0, none⟩)] w fun e w' => e = .returned (.slice none 0 0) ∧ Below w.heap.size w w' := by
  have hcell := h.cells
  have qx := hcell.1
  obtain ⟨c, hx⟩ := h.mx
  have HK := Lib.hid (ikeys_any (some xb) w)
  have HS := Lib.hid (isorted_any xb c w hx)
  clear h hcell hx
  go_enter Tryz.func24, Tryz.ntmps24
  go_wp2_with (first
    | (go_at_call 56; go_must (refine HK.out.mono ?_; rintro _ w1 ⟨rfl, h1⟩; obtain rfl := h1.symm))
    | (go_at_call 55; go_must (refine HS.out.mono ?_; rintro _ w2 ⟨rfl, b2⟩))
    | fail)
  go_ret
  exact ⟨rfl, ((Below.refl _ _).alloc (Nat.le_refl _) _).trans (b2.mono (by simp))⟩
end
end Go.Proofs.YthmpjemchjfoeaaGreatDoor
