/- the reference's field: a field line. Condition: sizes. -/
import Derived.Test.YtklmpadcfioefaaGreatDoorQSize2
import Derived.Test.YtklmpadcfioefaaGreatDoorRdr
import Derived.Deep.RegionHeld3
import Derived.Test.YtklmpadcfioefaaGreatDoorMA
import Derived.Test.YtklmpadcfioefaaGreatDoorMB
import Derived.Test.YtklmpadcfioefaaGreatDoorParse
import Derived.IntWalk
import Derived.OpenShut
import Derived.Lib.SmallJoins
import Derived.Deep.DeepCutAuto
namespace Go.Proofs.YtklmpadcfioefaaGreatDoor
open Go.RowKit

def curQ (s : Bs) (f q : Nat) : Bs := (s.drop f).take (q - f)
theorem curQ_next (s : Bs) (f q : Nat) (hf : f ≤ q) (hq : q < s.length) : curQ s f (q + 1) = curQ s f q ++ [s[q]] := by
  unfold curQ
  have h : q - f < (s.drop f).length := by rw [List.length_drop]; omega
  rw [show q + 1 - f = (q - f) + 1 by omega, List.take_succ_eq_append_getElem h, List.getElem_drop]
  congr 2
  simp only [show f + (q - f) = q by omega]
theorem partQ_str {w : World} {B : Nat} {g o n c : Nat} {l : Bs} (hr : Rd w B 1 (some ⟨g, o, none⟩) n (bytesV l)) (f q : Nat) (hfq : f ≤ q) (hq : q ≤ n) (hfc : f < c) (hnc : n ≤ c) :
    (convert 26 9 (.slice (some ⟨g, o + f, none⟩) (q - f) (c - f))).run Tryz.prog w = .ok (.string ⟨(curQ l f q).toArray⟩) w := by
  have h := hr.pre (k := q) hq
  have h2 := h.shift (k := f) (cap := c) hfq (by omega)
  rw [if_neg (by omega)] at h2
  simp only [Nat.mul_one, Option.map_some, Addr.add_lit, bytesV_take, bytesV_drop] at h2
  have e : (l.take q).drop f = curQ l f q := by rw [curQ, List.drop_take]
  rw [e] at h2
  exact conv_str (P := Tryz.prog) 26 9 5 Tryz.underlying26 Tryz.underlying5 Tryz.underlying9 h2 (fun e => by cases e)


theorem results_var3 {P : Program} {fn : Func} {p u v : Tmp} {ty : TypeId} (h : fn.results = #[.cell p ty, .tmp u, .tmp v]) (tmps : Array Value) {w : World} {b : Nat} {t : TypeId} {cs : List Value} (d : TypeDesc)
    (hp : tmps.getD p undef = .pointer (some ⟨b, 0, none⟩)) (hv : Var w b t cs) (hu : P.underlying ty = some d) (hd : (match d with | .struct _ | .array _ _ => true | _ => false) = true) (hi : (P.info? ty).map (·.size) = some cs.length) :
    (results fn tmps).run P w = .ok (.tuple #[.agg cs.toArray, tmps.getD u undef, tmps.getD v undef]) w := by
  have hl := run_loadVar_row (P := P) w b t ty cs.toArray (0, 0) d hv hu hd (by simpa using hi)
  have hp' : tmps[p]?.getD undef = .pointer (some ⟨b, 0, none⟩) := by simpa using hp
  simp only [results, h]
  simp [Result.andThen, hp', asAddr, hl]
theorem fieldA_def (c : UInt8) (l : Bs) (i ahead k : Nat) (nm : Bs) (val : Option Bs) : Chunk.fieldA (c :: l) i ahead k nm val =
    if 16384 ≤ ahead + k then (([], []), i, -1)
    else if c = 13 ∧ val.isSome then
      match l with
      | [] => (([], []), i + 1, 0)
      | d :: _ => if d ≠ 10 ∨ 16384 ≤ ahead + k + 1 then (([], []), i + 1, -1) else ((nm, trim (val.getD [])), i + 2, 1)
    else if 4096 ≤ k then (([], []), i, -1)
    else match val with
      | none => if c = 58 ∧ 0 < k then Chunk.fieldA l (i + 1) ahead (k + 1) nm (some [])
          else if isTok c = false then (([], []), i, -1) else Chunk.fieldA l (i + 1) ahead (k + 1) (nm ++ [c]) none
      | some v => if Chunk.plain c = false then (([], []), i, -1) else Chunk.fieldA l (i + 1) ahead (k + 1) nm (some (v ++ [c])) := by
  conv => lhs; unfold Chunk.fieldA
  rfl

def FieldPost (x : (Bs × Bs) × Nat × Int) (w : World) (e : Ending) (w' : World) : Prop := e = .returned (.tuple #[.agg #[.string ⟨x.1.1.toArray⟩, .string ⟨x.1.2.toArray⟩], .int .i64 x.2.1, .int .i64 x.2.2]) ∧ Below w.heap.size w w'
/-- where a reading of a field line stands: what was read of the name, of the value -/
structure FieldIs (w wr : World) (l : Bs) (n a ahead : Nat) (col : Value) (j : Nat) (nm : Bs) (val : Option Bs) : Prop where
  ge : a ≤ j
  le : j ≤ n
  eq : Chunk.fieldA (l.drop a) a ahead 0 [] none = Chunk.fieldA (l.drop j) j ahead (j - a) nm val
  here : (val = none ∧ col = .int .i64 (-1) ∧ nm = curQ l a j) ∨ (∃ (q : Nat) (v : Bs), val = some v ∧ col = .int .i64 q ∧ a ≤ q ∧ q < j ∧ nm = curQ l a q ∧ v = curQ l (q + 1) j)
  below : Below w.heap.size w wr
  var : Var wr w.heap.size 89 [.string ⟨#[]⟩, .string ⟨#[]⟩]

set_option maxHeartbeats 4000000 in
set_option maxRecDepth 100000 in
theorem qfield_any (A : Option Addr) (n c : Nat) (l : Bs) (a ahead : Nat) (w : World) (hnc : n ≤ c) (hrd : Rd w w.heap.size 1 A n (bytesV l)) (hn : n ≤ 100000000) (ha : a ≤ n) (hh : ahead ≤ 100000000) :
    Calls Tryz.prog 107 #[.slice A n c, .int .i64 (a : Int), .int .i64 (ahead : Int)] w (FieldPost (Chunk.fieldA (l.drop a) a ahead 0 [] none) w) := by
  have hlen : l.length = n := by have := hrd.1; rw [bytesV_len] at this; omega
  have HL := Lib.hid hlen
  clear hlen
  go_enter Tryz.func107, Tryz.ntmps107
  go_wp2
  go_loopw [9, 10] (fun col i wr => ∃ (j : Nat) (nm : Bs) (val : Option Bs), i = .int .i64 j ∧ FieldIs w wr l n a ahead col j nm val) (fun _ i _ => n - (intOf i).toNat)
  case atStart => exact ⟨a, [], none, rfl, ⟨Nat.le_refl _, ha, by rw [Nat.sub_self], Or.inl ⟨rfl, rfl, by simp [curQ]⟩, (Below.refl _ _).alloc (Nat.le_refl _) _, Var.new w 89 [.string ⟨#[]⟩, .string ⟨#[]⟩]⟩⟩
  case round =>
    obtain ⟨j, nm, val, rfl, hf⟩ := hrel
    have HF := Lib.hid hf
    have haj := hf.ge
    have hjn := hf.le
    have hst := hf.here
    have HV := Lib.hid hf.var
    have HB := Lib.hid hf.below
    have hvl := hf.var.lt
    clear hf
    rcases Nat.lt_or_ge j n with h1 | h1
    · have hjl : j < l.length := by have := HL.out; omega
      obtain ⟨g, o, rfl, hg, _⟩ := hrd.2 (by omega)
      have HRW := Lib.hid (hrd.below HB.out)
      have k1 := byte_cell HRW.out j hjl
      have HD := Lib.hid (drop_cons (l := l) (k := j) hjl)
      have HSN : Hid (∀ f, f ≤ j → curQ l f (j + 1) = curQ l f j ++ [l[j]]) := Lib.hid (fun f hf => curQ_next l f j hf hjl)
      have i0 : (j : Int) < (n : Int) := by omega
      have hx := UInt8.toNat_lt l[j]
      generalize hch : l[j] = ch at k1 HD hx HSN
      clear hch
      have hq : Chunk.fieldA (l.drop a) a ahead 0 [] none = Chunk.fieldA (ch :: l.drop (j + 1)) j ahead (j - a) nm val := by rw [HF.out.eq, HD.out]
      rw [fieldA_def] at hq
      by_cases hroom : 16384 ≤ ahead + (j - a)
      · have HE : Hid (Chunk.fieldA (l.drop a) a ahead 0 [] none = (([], []), j, -1)) := Lib.hid (by rw [hq, if_pos hroom])
        have ir : (16384 : Int) ≤ (ahead : Int) + (j : Int) - (a : Int) := by omega
        clear hq hroom hst
        go_wp2_with (first
          | (refine wpList_put rfl 89 (.tmp 6) (.tmp 24) rfl w.heap.size rfl HV.out [.string ⟨#[]⟩, .string ⟨#[]⟩] rfl rfl (by kernel_rfl) (by simp [Value.oneCell']) ?_; intro w9 hv9 hg9 hs9)
          | fail)
        refine bodyPost_ret (results_var3 rfl _ _ rfl hv9 Tryz.underlying89 rfl (by kernel_rfl)) rfl ⟨by rw [HE.out]; rfl, ?_⟩
        exact Below.grown HB.out hg9 HB.out.size (by intro k hk; simp at hk; omega)
      · rw [if_neg hroom] at hq
        have ir : ¬ (16384 : Int) ≤ (ahead : Int) + (j : Int) - (a : Int) := by omega
        rcases hst with ⟨rfl, hcol, hnm⟩ | ⟨q, v, rfl, hcol, haq, hqj, hnm, hv⟩
        · subst hcol
          rw [if_neg (by simp)] at hq
          have HNM := Lib.hid hnm
          clear hnm
          by_cases hk : 4096 ≤ j - a
          · have HE : Hid (Chunk.fieldA (l.drop a) a ahead 0 [] none = (([], []), j, -1)) := Lib.hid (by rw [hq, if_pos hk])
            have ik : (4096 : Int) ≤ (j : Int) - (a : Int) := by omega
            clear hq hk
            cases e13 : ((ch.toNat : Int) == 13)
            all_goals
              go_wp2_with (first
                | (refine wpList_put rfl 89 (.tmp 6) (.tmp 80) rfl w.heap.size rfl HV.out [.string ⟨#[]⟩, .string ⟨#[]⟩] rfl rfl (by kernel_rfl) (by simp [Value.oneCell']) ?_; intro w9 hv9 hg9 hs9)
                | fail)
              refine bodyPost_ret (results_var3 rfl _ _ rfl hv9 Tryz.underlying89 rfl (by kernel_rfl)) rfl ⟨by rw [HE.out]; rfl, ?_⟩
              exact Below.grown HB.out hg9 HB.out.size (by intro k hk; simp at hk; omega)
          · rw [if_neg hk] at hq
            have ik : ¬ (4096 : Int) ≤ (j : Int) - (a : Int) := by omega
            simp only at hq
            by_cases h58 : ch = 58 ∧ 0 < j - a
            · rw [if_pos h58] at hq
              have HE : Hid (Chunk.fieldA (l.drop a) a ahead 0 [] none = Chunk.fieldA (l.drop (j + 1)) (j + 1) ahead (j + 1 - a) nm (some [])) := Lib.hid (by rw [hq, show j - a + 1 = j + 1 - a by omega])
              obtain ⟨rfl, h0⟩ := h58
              have ig : (a : Int) < (j : Int) := by omega
              clear hq hk h0
              go_wp2
              go_roundw
              case rel => exact ⟨j + 1, nm, some [], by go_num, ⟨by omega, by omega, HE.out, Or.inr ⟨j, [], rfl, rfl, haj, by omega, HNM.out, by simp [curQ]⟩, HB.out, HV.out⟩⟩
              case measure => simp [intOf]; omega
            · rw [if_neg h58] at hq
              by_cases ht : isTok ch = false
              · have HE : Hid (Chunk.fieldA (l.drop a) a ahead 0 [] none = (([], []), j, -1)) := Lib.hid (by rw [hq, if_pos ht])
                have RT := Lib.hid ht
                have b58 : ((ch.toNat : Int) == 58) = true → ¬ (a : Int) < (j : Int) := by
                  intro e x
                  simp only [beq_iff_eq] at e
                  exact h58 ⟨UInt8.toNat_inj.mp (by rw [show ch.toNat = 58 by omega]; rfl), by omega⟩
                clear hq hk h58 ht
                cases e13 : ((ch.toNat : Int) == 13)
                all_goals
                  cases e58 : ((ch.toNat : Int) == 58)
                  · clear b58
                    go_wp2_with (first
                      | (go_at_call 137; go_must (refine (qtoken_any ch _).mono ?_; rintro _ w1 ⟨rfl, hb1⟩; rw [RT.out]; have HV1 := Lib.hid (HV.out.below_all hb1); have HB1 := Lib.hid (HB.out.trans (hb1.mono HB.out.size)); have hvl1 := HV1.out.lt))
                      | (refine wpList_put rfl 89 (.tmp 6) (.tmp 119) rfl w.heap.size rfl HV1.out [.string ⟨#[]⟩, .string ⟨#[]⟩] rfl rfl (by kernel_rfl) (by simp [Value.oneCell']) ?_; intro w9 hv9 hg9 hs9)
                      | fail)
                    refine bodyPost_ret (results_var3 rfl _ _ rfl hv9 Tryz.underlying89 rfl (by kernel_rfl)) rfl ⟨by rw [HE.out]; rfl, ?_⟩
                    exact Below.grown HB1.out hg9 HB1.out.size (by intro k hk; simp at hk; omega)
                  · have ig := b58 e58
                    clear b58
                    go_wp2_with (first
                      | (go_at_call 137; go_must (refine (qtoken_any ch _).mono ?_; rintro _ w1 ⟨rfl, hb1⟩; rw [RT.out]; have HV1 := Lib.hid (HV.out.below_all hb1); have HB1 := Lib.hid (HB.out.trans (hb1.mono HB.out.size)); have hvl1 := HV1.out.lt))
                      | (refine wpList_put rfl 89 (.tmp 6) (.tmp 119) rfl w.heap.size rfl HV1.out [.string ⟨#[]⟩, .string ⟨#[]⟩] rfl rfl (by kernel_rfl) (by simp [Value.oneCell']) ?_; intro w9 hv9 hg9 hs9)
                      | fail)
                    refine bodyPost_ret (results_var3 rfl _ _ rfl hv9 Tryz.underlying89 rfl (by kernel_rfl)) rfl ⟨by rw [HE.out]; rfl, ?_⟩
                    exact Below.grown HB1.out hg9 HB1.out.size (by intro k hk; simp at hk; omega)
              · have htt : isTok ch = true := by simpa using ht
                have HE : Hid (Chunk.fieldA (l.drop a) a ahead 0 [] none = Chunk.fieldA (l.drop (j + 1)) (j + 1) ahead (j + 1 - a) (nm ++ [ch]) none) := Lib.hid (by rw [hq, if_neg ht, show j - a + 1 = j + 1 - a by omega])
                have RT := Lib.hid htt
                have h58' : ch ≠ 58 := fun e => by rw [e] at htt; cases htt
                have h13' : ch ≠ 13 := fun e => by rw [e] at htt; cases htt
                obtain ⟨u1, u2⟩ := u8_ne h58' 58 rfl
                obtain ⟨u3, u4⟩ := u8_ne h13' 13 rfl
                clear hq hk h58 ht htt h58' h13'
                go_wp2_with (first
                  | (go_at_call 137; go_must (refine (qtoken_any ch _).mono ?_; rintro _ w1 ⟨rfl, hb1⟩; rw [RT.out]; have HV1 := Lib.hid (HV.out.below_all hb1); have HB1 := Lib.hid (HB.out.trans (hb1.mono HB.out.size))))
                  | fail)
                go_roundw
                case rel => exact ⟨j + 1, nm ++ [ch], none, by go_num, ⟨by omega, by omega, HE.out, Or.inl ⟨rfl, rfl, by rw [HNM.out, HSN.out a haj]⟩, HB1.out, HV1.out⟩⟩
                case measure => simp [intOf]; omega
        · subst hcol
          have HNM := Lib.hid hnm
          have HVV := Lib.hid hv
          clear hnm hv
          by_cases h13 : ch = 13
          · subst h13
            rw [if_pos ⟨rfl, rfl⟩] at hq
            rcases Nat.lt_or_ge (j + 1) n with h2 | h2
            · have hjl2 : j + 1 < l.length := by have := HL.out; omega
              have k2 := byte_cell HRW.out (j + 1) hjl2
              have hD2 := drop_cons (l := l) (k := j + 1) hjl2
              have i2 : (j : Int) + 1 < (n : Int) := by omega
              have e2 : ((j : Int) + 1 == (n : Int)) = false := by simp; omega
              have hy := UInt8.toNat_lt l[j + 1]
              generalize hcy : l[j + 1] = cy at k2 hD2 hy
              clear hcy
              rw [hD2] at hq
              simp only at hq
              by_cases hbad : cy ≠ 10 ∨ 16384 ≤ ahead + (j - a) + 1
              · have HE : Hid (Chunk.fieldA (l.drop a) a ahead 0 [] none = (([], []), j + 1, -1)) := Lib.hid (by rw [hq, if_pos hbad])
                clear hq hD2
                by_cases h10 : cy = 10
                · have ir2 : (16384 : Int) ≤ (ahead : Int) + (j : Int) + 1 - (a : Int) := by rcases hbad with x | x; exact absurd h10 x; omega
                  subst h10
                  have ir3 : decide ((16384 : Int) ≤ (ahead : Int) + (j : Int) + 1 - (a : Int)) = true := by simpa using ir2
                  clear hbad
                  go_wp2_with (first
                    | (refine wpList_put rfl 89 (.tmp 6) (.tmp 58) rfl w.heap.size rfl HV.out [.string ⟨#[]⟩, .string ⟨#[]⟩] rfl rfl (by kernel_rfl) (by simp [Value.oneCell']) ?_; intro w9 hv9 hg9 hs9)
                    | fail)
                  refine bodyPost_ret (results_var3 rfl _ _ rfl hv9 Tryz.underlying89 rfl (by kernel_rfl)) rfl ⟨by rw [HE.out]; rfl, ?_⟩
                  exact Below.grown HB.out hg9 HB.out.size (by intro k hk; simp at hk; omega)
                · obtain ⟨u1, u2⟩ := u8_ne h10 10 rfl
                  clear hbad h10
                  go_wp2_with (first
                    | (refine wpList_put rfl 89 (.tmp 6) (.tmp 58) rfl w.heap.size rfl HV.out [.string ⟨#[]⟩, .string ⟨#[]⟩] rfl rfl (by kernel_rfl) (by simp [Value.oneCell']) ?_; intro w9 hv9 hg9 hs9)
                    | fail)
                  refine bodyPost_ret (results_var3 rfl _ _ rfl hv9 Tryz.underlying89 rfl (by kernel_rfl)) rfl ⟨by rw [HE.out]; rfl, ?_⟩
                  exact Below.grown HB.out hg9 HB.out.size (by intro k hk; simp at hk; omega)
              · have h10 : cy = 10 := by
                  by_cases x : cy = 10
                  · exact x
                  · exact absurd (Or.inl x) hbad
                have ir2 : ¬ (16384 : Int) ≤ (ahead : Int) + (j : Int) + 1 - (a : Int) := by
                  have : ¬ 16384 ≤ ahead + (j - a) + 1 := fun x => hbad (Or.inr x)
                  omega
                have ir3 : decide ((16384 : Int) ≤ (ahead : Int) + (j : Int) + 1 - (a : Int)) = false := by simpa using ir2
                have HE : Hid (Chunk.fieldA (l.drop a) a ahead 0 [] none = ((nm, trim v), j + 2, 1)) := Lib.hid (by rw [hq, if_neg hbad]; rfl)
                subst h10
                clear hq hD2 hbad
                have p1 := partQ_str HRW.out a q haq (by omega) (by omega) hnc
                have p2 := partQ_str HRW.out (q + 1) j (by omega) hjn (by omega) hnc
                rw [← HNM.out] at p1
                rw [← HVV.out] at p2
                have pd1 : (convert 26 9 (.slice (some ⟨g, o + a, none⟩) (q - a) (c - a))).run Tryz.prog wr.drew = .ok (.string ⟨nm.toArray⟩) wr.drew := by
                  have := partQ_str HRW.out.drew a q haq (by omega) (by omega) hnc
                  rw [← HNM.out] at this; exact this
                have pd2 : (convert 26 9 (.slice (some ⟨g, o + (q + 1), none⟩) (j - (q + 1)) (c - (q + 1)))).run Tryz.prog wr.drew = .ok (.string ⟨v.toArray⟩) wr.drew := by
                  have := partQ_str HRW.out.drew (q + 1) j (by omega) hjn (by omega) hnc
                  rw [← HVV.out] at this; exact this
                have HT : Hid (∀ W : World, Calls Tryz.prog 136 #[.string ⟨v.toArray⟩] W fun e w' => e = .returned (.string ⟨(trim v).toArray⟩) ∧ W = w') := Lib.hid (fun W => qtrimmed_any ⟨v.toArray⟩ W (by
                  have hvl : v.length ≤ n := by rw [HVV.out, curQ, List.length_take]; omega
                  show v.length ≤ _
                  omega))
                have pw1 : ∀ W : World, wr.drew.grownBy W (some w.heap.size) → (convert 26 9 (.slice (some ⟨g, o + a, none⟩) (q - a) (c - a))).run Tryz.prog W = .ok (.string ⟨nm.toArray⟩) W := fun W hW => by
                  have := partQ_str (HRW.out.drew.grown hW HB.out.size (fun k hk => by injection hk with hk; omega)) a q haq (by omega) (by omega) hnc
                  rw [← HNM.out] at this; exact this
                have pw2 : ∀ W : World, wr.drew.grownBy W (some w.heap.size) → (convert 26 9 (.slice (some ⟨g, o + (q + 1), none⟩) (j - (q + 1)) (c - (q + 1)))).run Tryz.prog W = .ok (.string ⟨v.toArray⟩) W := fun W hW => by
                  have := partQ_str (HRW.out.drew.grown hW HB.out.size (fun k hk => by injection hk with hk; omega)) (q + 1) j (by omega) hjn (by omega) hnc
                  rw [← HVV.out] at this; exact this
                have z0 := HV.out.cell (j := 0) rfl
                have z1 := HV.out.cell (j := 1) rfl
                have z2 := HV.out.frozen 0
                have z3 := HV.out.frozen 1
                go_upto_region 12 with (fail)
                have s1 : (0 : Int) ≤ (a : Int) := by omega
                have s2 : (a : Int) ≤ (q : Int) := by omega
                have s3 : (q : Int) ≤ (c : Int) := by omega
                have s4 : (0 : Int) ≤ (q : Int) + 1 := by omega
                have s5 : (q : Int) + 1 ≤ (j : Int) := by omega
                have s6 : (j : Int) ≤ (c : Int) := by omega
                have s7 : ((q : Int) + 1).toNat = q + 1 := by omega
                have s10 : ¬ c = a := by omega
                have s11 : ¬ c = q + 1 := by omega
                have s8 : IntKind.i64.wrap ((q : Int) + 1) = (q : Int) + 1 := IntWalk.i64_in _ (by omega)
                have s9 : IntKind.i64.wrap ((j : Int) + 2) = (j : Int) + 2 := IntWalk.i64_in _ (by omega)
                go_region_held3 (fun w' => (convert 26 9 (.slice (some ⟨g, o + a, none⟩) (q - a) (c - a))).run Tryz.prog w' = .ok (.string ⟨nm.toArray⟩) w' ∧ (convert 26 9 (.slice (some ⟨g, o + (q + 1), none⟩) (j - (q + 1)) (c - (q + 1)))).run Tryz.prog w' = .ok (.string ⟨v.toArray⟩) w')
                  (first
                    | exact ⟨pd1, pd2⟩
                    | exact ⟨pw1 _ (World.grownBy.comp (World.grownBy.set _ ⟨w.heap.size, 0, none⟩ _) (World.grownBy.set _ ⟨w.heap.size, 1, none⟩ _)), pw2 _ (World.grownBy.comp (World.grownBy.set _ ⟨w.heap.size, 0, none⟩ _) (World.grownBy.set _ ⟨w.heap.size, 1, none⟩ _))⟩
                    | go_keep)
                  (first
                    | (go_at_call 136; refine (HT.out _).mono ?_; rintro _ _ ⟨rfl, rfl⟩))
                go_wp2
                refine bodyPost_ret (results_var3 rfl _ _ rfl ((HV.out.drew.set 0 _).set 1 _) Tryz.underlying89 rfl (by kernel_rfl)) rfl ⟨by rw [HE.out]; rfl, ?_⟩
                exact (HB.out.drew.setCell (Nat.le_refl _) _).setCell (Nat.le_refl _) _
            · have HE : Hid (Chunk.fieldA (l.drop a) a ahead 0 [] none = (([], []), j + 1, 0)) := Lib.hid (by rw [hq, List.drop_of_length_le (by have := HL.out; omega)])
              have e2 : ((j : Int) + 1 == (n : Int)) = true := by simp; omega
              clear hq
              go_wp2_with (first
                | (refine wpList_put rfl 89 (.tmp 6) (.tmp 40) rfl w.heap.size rfl HV.out [.string ⟨#[]⟩, .string ⟨#[]⟩] rfl rfl (by kernel_rfl) (by simp [Value.oneCell']) ?_; intro w9 hv9 hg9 hs9)
                | fail)
              refine bodyPost_ret (results_var3 rfl _ _ rfl hv9 Tryz.underlying89 rfl (by kernel_rfl)) rfl ⟨by rw [HE.out]; rfl, ?_⟩
              exact Below.grown HB.out hg9 HB.out.size (by intro k hk; simp at hk; omega)
          · rw [if_neg (fun x => h13 x.1)] at hq
            obtain ⟨u3, u4⟩ := u8_ne h13 13 rfl
            clear h13
            by_cases hk : 4096 ≤ j - a
            · have HE : Hid (Chunk.fieldA (l.drop a) a ahead 0 [] none = (([], []), j, -1)) := Lib.hid (by rw [hq, if_pos hk])
              have ik : (4096 : Int) ≤ (j : Int) - (a : Int) := by omega
              clear hq hk
              go_wp2_with (first
                | (refine wpList_put rfl 89 (.tmp 6) (.tmp 80) rfl w.heap.size rfl HV.out [.string ⟨#[]⟩, .string ⟨#[]⟩] rfl rfl (by kernel_rfl) (by simp [Value.oneCell']) ?_; intro w9 hv9 hg9 hs9)
                | fail)
              refine bodyPost_ret (results_var3 rfl _ _ rfl hv9 Tryz.underlying89 rfl (by kernel_rfl)) rfl ⟨by rw [HE.out]; rfl, ?_⟩
              exact Below.grown HB.out hg9 HB.out.size (by intro k hk; simp at hk; omega)
            · rw [if_neg hk] at hq
              have ik : ¬ (4096 : Int) ≤ (j : Int) - (a : Int) := by omega
              simp only at hq
              by_cases hp : Chunk.plain ch = false
              · have HE : Hid (Chunk.fieldA (l.drop a) a ahead 0 [] none = (([], []), j, -1)) := Lib.hid (by rw [hq, if_pos hp])
                have RT := Lib.hid hp
                clear hq hk hp
                go_wp2_with (first
                  | (go_at_call 135; go_must (refine (qplain_any ch _).mono ?_; rintro _ _ ⟨rfl, rfl⟩; rw [RT.out]))
                  | (refine wpList_put rfl 89 (.tmp 6) (.tmp 119) rfl w.heap.size rfl HV.out [.string ⟨#[]⟩, .string ⟨#[]⟩] rfl rfl (by kernel_rfl) (by simp [Value.oneCell']) ?_; intro w9 hv9 hg9 hs9)
                  | fail)
                refine bodyPost_ret (results_var3 rfl _ _ rfl hv9 Tryz.underlying89 rfl (by kernel_rfl)) rfl ⟨by rw [HE.out]; rfl, ?_⟩
                exact Below.grown HB.out hg9 HB.out.size (by intro k hk; simp at hk; omega)
              · have HE : Hid (Chunk.fieldA (l.drop a) a ahead 0 [] none = Chunk.fieldA (l.drop (j + 1)) (j + 1) ahead (j + 1 - a) nm (some (v ++ [ch]))) := Lib.hid (by rw [hq, if_neg hp, show j - a + 1 = j + 1 - a by omega])
                have hpt : Chunk.plain ch = true := by simpa using hp
                have RT := Lib.hid hpt
                clear hq hk hp hpt
                go_wp2_with (first
                  | (go_at_call 135; go_must (refine (qplain_any ch _).mono ?_; rintro _ _ ⟨rfl, rfl⟩; rw [RT.out]))
                  | fail)
                go_roundw
                case rel => exact ⟨j + 1, nm, some (v ++ [ch]), by go_num, ⟨by omega, by omega, HE.out, Or.inr ⟨q, v ++ [ch], rfl, rfl, haq, by omega, HNM.out, by rw [HVV.out, HSN.out (q + 1) (by omega)]⟩, HB.out, HV.out⟩⟩
                case measure => simp [intOf]; omega
    · have HE : Hid (Chunk.fieldA (l.drop a) a ahead 0 [] none = (([], []), n, 0)) := Lib.hid (by rw [HF.out.eq, List.drop_of_length_le (by have := HL.out; omega), show j = n by omega]; rfl)
      have i0 : ¬ (j : Int) < (n : Int) := by omega
      clear hst
      go_wp2_with (first
        | (refine wpList_put rfl 89 (.tmp 6) (.tmp 121) rfl w.heap.size rfl HV.out [.string ⟨#[]⟩, .string ⟨#[]⟩] rfl rfl (by kernel_rfl) (by simp [Value.oneCell']) ?_; intro w9 hv9 hg9 hs9)
        | fail)
      refine bodyPost_ret (results_var3 rfl _ _ rfl hv9 Tryz.underlying89 rfl (by kernel_rfl)) rfl ⟨by rw [HE.out]; rfl, ?_⟩
      exact Below.grown HB.out hg9 HB.out.size (by intro k hk; simp at hk; omega)
end Go.Proofs.YtklmpadcfioefaaGreatDoor
