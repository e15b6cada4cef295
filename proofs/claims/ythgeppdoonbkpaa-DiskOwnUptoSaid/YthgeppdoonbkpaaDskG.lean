/- what is asked of a disk: ready, find. Conditions: sizes. -/
import Derived.Test.YthgeppdoonbkpaaDskApp
namespace Go.Proofs.Ythgeppdoonbkpaa
open Go.RowKit Go.Maps Go.WideMaps
theorem infoStr : (Try.prog.info? 9).map (fun i => (i.zero, i.size, i.bytes)) = some (some (.string ⟨#[]⟩), 1, 16) := by kernel_rfl
theorem namesV_app (a b : List Bs) : namesV (a ++ b) = namesV a ++ namesV b := by unfold namesV; rw [List.map_append]
/-- append of one string to strings -/
theorem wpList_appS {ops : Array Oper} {rest : List Oper} {o : Oper} {a : Act} {w : World} {Q : Exit → Act → World → Prop} (hgd : o.guard = none) (s x : Operand)
    (ho : o.op = .call { callee := .builtin .append, args := #[s, x], argTypes := #[53, 53] })
    (base : Nat) {v : Value} {L : List Bs} (hs : a.eval s = v) (hown : Row w base 1 v L.length (namesV L)) (n : Bs) (hxv : a.eval x = .slice (some ⟨w.heap.size, 0, none⟩) 1 1)
    (hmax : L.length ≤ 1000000) (hbase : base ≤ w.heap.size)
    (h : ∀ v' w', Row w' base 1 v' (L ++ [n]).length (namesV (L ++ [n])) → (w.alloc (.cells #[.string (strB n)] 9)).grownBy w' v.ownBlock → (v'.ownBlock = v.ownBlock ∨ v'.ownBlock = some (w.heap.size + 1)) → wpList Try.prog ops Q rest (a.put o.dst v') w') : wpList Try.prog ops Q (o :: rest) a (w.alloc (.cells #[.string (strB n)] 9)) := by
  obtain ⟨j0, hj0, jz0, jz1, jz2⟩ := info_parts infoStr
  have hx : Src Try.prog (w.alloc (.cells #[.string (strB n)] 9)) 53 1 (.slice (some ⟨w.heap.size, 0, none⟩) 1 1) 1 [.string (strB n)] := Src.built [.string (strB n)] 9 Try.underlying53 rfl (by intro u hu; rw [List.mem_singleton.1 hu]; rfl)
  refine wpList_app (P := Try.prog) _ hgd s x 53 53 ho base 9 j0 (.string ⟨#[]⟩) 1 16 Try.underlying53 hj0 jz0 jz1 jz2 rfl v L.length (namesV L) hs (hown.alloc _) _ 1 [.string (strB n)] hxv hx (by omega) (by omega) (by omega) (by simp; omega) ?_
  intro v' w' h1 h2 h3
  refine h v' w' ?_ h2 (by simpa using h3)
  rw [List.length_append, namesV_app]
  exact h1
theorem dreadyS {w : World} {db : Nat} {s : Dsk.St} (hc : w.cell? ⟨db, 5, none⟩ = some (.bool s.down)) (A : Option Addr) (n c : Nat) (l : List Bs) (hrd : Rd w w.heap.size 1 A n (namesV l)) (hn : n ≤ 16777216) (hz : ∀ x ∈ l, x.length ≤ 1000000000000) :
    Calls Try.prog 29 #[.pointer (some ⟨db, 0, none⟩), .slice A n c] w fun e w' => e = .returned (.int .i64 (Dsk.ready s l : Nat)) ∧ Below w.heap.size w w' := dready_any hc A n c l hrd hn hz
def findE (s : Dsk.St) (n : Bs) (ms : List Bs) : Nat :=
  if Dsk.ready s (ms ++ [n]) ≠ 0 then Dsk.ready s (ms ++ [n]) else match Dsk.get (Dsk.dn s) n with | none => 30 | some _ => 0
def findP (F : Nat → Nat) (s : Dsk.St) (n : Bs) (ms : List Bs) : Option Addr :=
  if Dsk.ready s (ms ++ [n]) ≠ 0 then none else match Dsk.get (Dsk.dn s) n with | none => none | some i => some ⟨F i, 0, none⟩
theorem find_one (s : Dsk.St) (n : Bs) : findE s n [] = (Dsk.find s n).2 := by
  unfold findE Dsk.find
  rw [List.nil_append]
  split
  · rfl
  · cases Dsk.get (Dsk.dn s) n <;> rfl
theorem findP_one (F : Nat → Nat) (s : Dsk.St) (n : Bs) (h : (Dsk.find s n).2 = 0) : findP F s n [] = some ⟨F (Dsk.find s n).1, 0, none⟩ := by
  unfold findP Dsk.find at *
  rw [List.nil_append]
  split at h
  · exact absurd h ‹_›
  · rename_i hr
    rw [if_neg hr, if_neg hr]
    cases e : Dsk.get (Dsk.dn s) n with
    | none => rw [e] at h; cases h
    | some i => rfl
theorem Mem.down {w : World} {db : Nat} {F : Nat → Nat} {ρ : Roles} {s : Dsk.St} {T : Nat} (hm : Mem w db F ρ s T) : w.cell? ⟨db, 5, none⟩ = some (.bool s.down) := by
  obtain ⟨lb, nb, ln, nn, vl, va, hv, _⟩ := hm.get
  exact hv.cell (j := 5) rfl
theorem Mem.nowm {w : World} {db : Nat} {F : Nat → Nat} {ρ : Roles} {s : Dsk.St} {T : Nat} (hm : Mem w db F ρ s T) : ∃ nb nn, w.cell? ⟨db, 2, none⟩ = some (.map (some nb)) ∧ Dirm w nb nn F (Dsk.dn s) ∧ nn ≤ T := by
  obtain ⟨lb, nb, ln, nn, vl, va, hv, _, ⟨_, h2, h3⟩, _⟩ := hm.get
  exact ⟨nb, nn, hv.cell (j := 2) rfl, h2, h3⟩
theorem Mem.below {w w' : World} {db : Nat} {F : Nat → Nat} {ρ : Roles} {s : Dsk.St} {T : Nat} (hm : Mem w db F ρ s T) (hb : Below w.heap.size w w') : Mem w' db F ρ s T := hm.keep (S := fun _ => False) (Chg.of_below hb) (fun _ _ e => e.elim)
set_option maxHeartbeats 1000000 in
set_option maxRecDepth 100000 in
theorem dfind_any {w : World} {db : Nat} {F : Nat → Nat} {ρ : Roles} {s : Dsk.St} {T : Nat} (hm : Mem w db F ρ s T) (n : Bs) (hn : n.length ≤ 1000000000) {v : Value} (ms : List Bs) (hv : Row w 0 1 v ms.length (namesV ms)) (hml : ms.length ≤ 10) (hmz : ∀ x ∈ ms, x.length ≤ 1000000000) (hro : ∀ b, v.ownBlock = some b → ρ b = none) :
    Calls Try.prog 31 #[.pointer (some ⟨db, 0, none⟩), .string (strB n), v] w fun e w' => e = .returned (.tuple #[.pointer (findP F s n ms), .int .i64 (findE s n ms : Nat)]) ∧ Chg (fun b => v.ownBlock = some b) w w' := by
  have HM := Lib.hid hm
  have HV := Lib.hid hv
  obtain ⟨A0, c0, rfl, hh1, hh2, hh3, hh4⟩ := Row.form hv
  have HRO := Lib.hid hro
  have HKZ : Hid (∀ x ∈ ms ++ [n], x.length ≤ 1000000000000) := Lib.hid (fun x hx => by
    rcases List.mem_append.1 hx with h | h
    · have := hmz x h; omega
    · rw [List.mem_singleton.1 h]; omega)
  have HMX : Hid (∀ W, Chg (fun b => (Value.slice A0 ms.length c0).ownBlock = some b) w W → Mem W db F ρ s T) := Lib.hid (fun W hW => HM.out.keep hW (fun b _ e => HRO.out b e))
  have HNZ : Hid ((strB n).size ≤ maxLen) := Lib.hid (by rw [strB_size]; unfold maxLen; omega)
  have HL1 : Hid ((ms ++ [n]).length ≤ 16777216) := Lib.hid (by rw [List.length_append, List.length_singleton]; omega)
  obtain ⟨ml, hml2⟩ : ∃ ml, ml = ms ++ [n] := ⟨_, rfl⟩
  rw [← hml2] at HKZ HL1
  obtain ⟨nl, hnl⟩ : ∃ nl, nl = ml.length := ⟨_, rfl⟩
  rw [← hnl] at HL1
  have HML := Lib.hid hml2
  have HNL := Lib.hid hnl
  obtain ⟨r, hr⟩ : ∃ r, r = Dsk.ready s (ms ++ [n]) := ⟨_, rfl⟩
  have HR2 : Hid (Dsk.ready s ml = r) := Lib.hid (by rw [hr, hml2])
  clear hml2 hnl
  have HR := Lib.hid hr
  obtain ⟨nm, hnm⟩ : ∃ nm, nm = ms.length := ⟨_, rfl⟩
  have hnm2 : nm ≤ 10 := by omega
  have HNM := Lib.hid hnm
  rw [← hnm] at HMX ⊢
  clear hm hv hh1 hh2 hh3 hh4 hro hmz hr hnm hml hn
  go_enter Try.func31, Try.ntmps31
  go_upto_if 17 with (first
    | (at_builtin; (refine wpList_appS (v := .slice A0 nm c0) (L := ms) rfl (.tmp 11) (.tmp 13) rfl 0 rfl (by rw [HNM.out]; exact HV.out) n rfl (by have := HNM.out; omega) (Nat.zero_le _) ?_); intro v3 w3 hrow3 hg3 _; have hmm := HMX.out w3 (((show Chg (fun b => (Value.slice A0 nm c0).ownBlock = some b) w w from Chg.refl _ _).alloc _).grown hg3 (fun k _ e => e)); have HM3 := Lib.hid hmm; have HC3 := Lib.hid (((show Chg (fun b => (Value.slice A0 nm c0).ownBlock = some b) w w from Chg.refl _ _).alloc _).grown hg3 (fun k _ e => e)); rw [← HML.out, ← HNL.out] at hrow3; obtain ⟨A3, c3, rfl, _, _, _, hrd3⟩ := Row.form hrow3; have HRD := Lib.hid (dreadyS (s := s) hmm.down A3 nl c3 ml hrd3 HL1.out HKZ.out); rw [HR2.out] at HRD; clear hmm hrow3 hrd3 hg3)
    | (go_at_call 29; go_must (refine HRD.out.mono ?_; rintro _ w4 ⟨rfl, hb4⟩))
    | fail)
  have HC4 := Lib.hid (HC3.out.then_below hb4)
  have HM4 := Lib.hid (HM3.out.below hb4)
  clear hb4 HC3 HM3
  by_cases h0 : r = 0
  · subst h0
    have HE : Hid (findE s n ms = match Dsk.get (Dsk.dn s) n with | none => 30 | some _ => 0) := Lib.hid (by unfold findE; rw [← HR.out, if_neg (fun h => h rfl)])
    have HP : Hid (findP F s n ms = match Dsk.get (Dsk.dn s) n with | none => none | some i => some ⟨F i, 0, none⟩) := Lib.hid (by unfold findP; rw [← HR.out, if_neg (fun h => h rfl)])
    obtain ⟨nb, nn, e2, hd, _⟩ := HM4.out.nowm
    have hlk := dir_get hd (strB n) HNZ.out
    rw [strB_list] at hlk
    generalize strB n = sn at *
    clear hd
    cases hg : Dsk.get (Dsk.dn s) n with
    | none =>
      rw [hg] at hlk HE HP
      dsimp only at hlk HE HP
      clear hg
      go_wp2
      go_ret2
      rw [HE.out, HP.out]
      exact ⟨rfl, HC4.out⟩
    | some i =>
      rw [hg] at hlk HE HP
      dsimp only at hlk HE HP
      clear hg
      go_wp2
      go_ret2
      rw [HE.out, HP.out]
      exact ⟨rfl, HC4.out⟩
  · have HE : Hid (findE s n ms = r) := Lib.hid (by unfold findE; rw [← HR.out, if_pos h0])
    have HP : Hid (findP F s n ms = none) := Lib.hid (by unfold findP; rw [← HR.out, if_pos h0])
    have hne : ((r : Int) != 0) = true := by rw [bne_iff_ne]; omega
    go_wp2
    go_ret2
    rw [HE.out, HP.out]
    exact ⟨rfl, HC4.out⟩
end Go.Proofs.Ythgeppdoonbkpaa
