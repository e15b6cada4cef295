/- rewrite's own: the names that a head's connection calls its own. Conditions: sizes, the library's variables. -/
import Derived.Test.YtklmpadcfioefaaGreatDoorMA
import Derived.Test.YtklmpadcfioefaaGreatDoorMB
import Derived.Test.YtklmpadcfioefaaGreatDoorMX0
namespace Go.Proofs.YtklmpadcfioefaaGreatDoor
open Go.RowKit

theorem total_mem {s : ByteArray} : ∀ {vs : List ByteArray}, s ∈ vs → s.size + 1 ≤ total vs
  | v :: vs, h => by
    simp only [total, List.map_cons, List.sum_cons]
    rcases List.mem_cons.1 h with rfl | h
    · omega
    · have := total_mem h; unfold total at this; omega
theorem listed_size {s : ByteArray} {vs : List ByteArray} (h : s ∈ listed vs) : s.size ≤ total vs := by
  unfold listed at h
  obtain ⟨v, hv, hs⟩ := List.mem_flatMap.1 h
  have h1 := total_mem hv
  unfold sel at hs
  obtain ⟨p, hp, rfl⟩ := List.mem_map.1 (List.mem_filter.1 hs).1
  have h2 := pieces_le _ _ _ hp
  have h3 := trim_le p
  have h4 := size_data v
  show (trim p).length ≤ _
  simp only [List.length_nil] at h2
  omega
theorem inP_take (vs : List ByteArray) (j : Nat) (h : j < vs.length) (k : Bs) : inP (vs.take (j + 1)) k = (inP (vs.take j) k || fd vs[j] == k) := by
  unfold inP
  rw [List.take_succ_eq_append_getElem h, List.any_append]
  simp

set_option maxHeartbeats 1000000 in
set_option maxRecDepth 100000 in
theorem wown1_any (A : Option Addr) (n c : Nat) (vs : List ByteArray) (q b m : Nat) (S : Bs → Bool) (w : World) (hq : Var w q 157 [.map (some b)]) (hm : Mine w b m S) (hqb : q ≠ b)
    (hrd : Rd w w.heap.size 1 A n (strsV vs)) (hrb : ∀ g o, A = some ⟨g, o, none⟩ → 0 < n → g ≠ b) (hn : n ≤ 16777216) (hm0 : m ≤ 16777216) (hvs : ∀ s ∈ vs, s.size ≤ 16777216) :
    Calls Tryz.prog 146 #[.slice A n c, .pointer (some ⟨q, 0, none⟩)] w fun e w' => e = .returned (.tuple #[]) ∧ Mine w' b (m + n) (fun k => S k || inP vs k) ∧ w.grownBy w' (some b) := by
  have hlen : vs.length = n := by have := hrd.1; rw [strsV_len] at this; omega
  go_enter Tryz.func146, Tryz.ntmps146
  go_wp2
  go_loopw [7] (fun i wr => ∃ k : Nat, k ≤ n ∧ i = .int .i64 k ∧ Mine wr b (m + k) (fun x => S x || inP (vs.take k) x) ∧ w.grownBy wr (some b)) (fun i _ => n - (intOf i).toNat)
  case atStart => exact ⟨0, Nat.zero_le _, rfl, hm.ext (fun k => by simp [inP]), World.grownBy.refl _ _⟩
  case round =>
    obtain ⟨k, hk, rfl, hmr, hg⟩ := hrel
    have HM := Lib.hid hmr
    have HG := Lib.hid hg
    by_cases hlt : k < n
    · obtain ⟨g, o, rfl, hgl, hcell⟩ := hrd.2 (by omega)
      have hgb := hrb g o rfl (by omega)
      have c1 : ∀ u, (wr.drewN u).cell? ⟨g, o + k, none⟩ = some (.string vs[k]) := fun u => (World.cell?_of_block (w := w) (a := ⟨g, o + k, none⟩) (hg.block g hgl (by simpa using hgb))).trans (hcell k _ (strs_get (l := vs) (j := k) (by omega)))
      have q1 : ∀ u, (wr.drewN u).cell? ⟨q, 0, none⟩ = some (.map (some b)) := fun u => (hq.grown hg (by simpa using fun e => hqb e.symm)).cell (j := 0) rfl
      have d1 : wr.cell? ⟨g, o + k, none⟩ = some (.string vs[k]) := c1 0
      have p1 : wr.cell? ⟨q, 0, none⟩ = some (.map (some b)) := q1 0
      have hsz : vs[k].size ≤ 16777216 := hvs _ (List.getElem_mem _)
      have HT := Lib.hid (fun x => inP_take vs k (by omega) x)
      generalize vs[k] = s at c1 d1 hsz HT
      clear hcell hmr hg
      go_wp2
      have hml : s.size ≤ maxLen := by unfold maxLen; omega
      go_region_with (go_at_call 52; refine (hFold_any s _ hsz).mono ?_; rintro _ w1 ⟨rfl, hb1⟩; have G1 := World.grownBy.comp HG.out (grown_of_below (Below.of_drew hb1) (some b)); have p2 := (hq.grown G1 (by simpa using fun e => hqb e.symm)).cell (j := 0) rfl; obtain ⟨w2, hru, hm2, hg2⟩ := (HM.out.below_all (Below.of_drew hb1)).run_put (by unfold maxLen; omega) ⟨(fold s.data.toList).toArray⟩ (by show (fold s.data.toList).length ≤ _; rw [fold_len, size_data]; omega) true; have H2 := Lib.hid hm2; have G2 := Lib.hid (World.grownBy.comp G1 hg2); clear hm2 hg2 G1)
      all_goals
        clear p2 hru
        go_wp2
        go_roundw
        case rel =>
          refine ⟨k + 1, by omega, by go_num, H2.out.ext fun x => ?_, G2.out⟩
          rw [HT.out]
          show (if x = fold s.data.toList then true else (S x || inP (vs.take k) x)) = _
          by_cases e : x = fold s.data.toList
          · subst e; rw [if_pos rfl]; simp [fd]
          · have e2 : (fd s == x) = false := by simpa [fd] using fun h => e h.symm
            rw [if_neg e, e2]; simp
        case measure => simp [intOf]; omega
    · obtain rfl : k = n := by omega
      have HE := Lib.hid (show vs.take k = vs by rw [List.take_of_length_le (by omega)])
      clear hmr hg
      go_wp2
      go_end0
      refine ⟨rfl, ?_, HG.out⟩
      have := HM.out
      rw [HE.out] at this
      exact this

def alwB : List ByteArray := always.map fun l => ⟨l.toArray⟩
theorem inP_alw (k : Bs) : inP alwB k = always.contains k := by
  unfold inP alwB
  have h : ∀ L : List Bs, (∀ l ∈ L, fold l = l) → ((L.map fun l => (⟨l.toArray⟩ : ByteArray)).any fun p => fd p == k) = L.contains k := by
    intro L hL
    induction L with
    | nil => rfl
    | cons l L ih =>
      have e : fd ⟨l.toArray⟩ = l := by unfold fd; exact hL l (by simp)
      rw [List.map_cons, List.any_cons, List.contains_cons, ih fun x hx => hL x (by simp [hx]), e]
      congr 1
      rw [Bool.eq_iff_iff, beq_iff_eq, beq_iff_eq]; exact eq_comm
  exact h always (by decide +kernel)
/-- rewrite's own -/
def OwnPost (w : World) (fs : List Fl) (e : Ending) (w' : World) : Prop :=
  ∃ b n, e = .returned (.map (some b)) ∧ w.heap.size ≤ b ∧ n ≤ 16777216 ∧ Mine w' b n (ownK fs) ∧ Below w.heap.size w w'
theorem alw_small : ∀ s ∈ alwB, s.size ≤ 16777216 := by decide +kernel
theorem alw_cells : (#[.string ⟨#[99, 111, 110, 110, 101, 99, 116, 105, 111, 110]⟩, .string ⟨#[99, 108, 111, 115, 101]⟩, .string ⟨#[107, 101, 101, 112, 45, 97, 108, 105, 118, 101]⟩, .string ⟨#[112, 114, 111, 120, 121, 45, 99, 111, 110, 110, 101, 99, 116, 105, 111, 110]⟩, .string ⟨#[116, 101]⟩, .string ⟨#[116, 114, 97, 105, 108, 101, 114]⟩, .string ⟨#[116, 114, 97, 110, 115, 102, 101, 114, 45, 101, 110, 99, 111, 100, 105, 110, 103]⟩, .string ⟨#[117, 112, 103, 114, 97, 100, 101]⟩, .string ⟨#[101, 120, 112, 101, 99, 116]⟩, .string ⟨#[99, 111, 110, 116, 101, 110, 116, 45, 108, 101, 110, 103, 116, 104]⟩] : Array Value) = (strsV alwB).toArray := by kernel_rfl
set_option maxRecDepth 100000 in
theorem own_first (w : World) (O : Obj) : Calls Tryz.prog 146 #[.slice (some ⟨w.heap.size + 1 + 1 + 1, 0, none⟩) 10 10, .pointer (some ⟨w.heap.size + 1 + 1, 0, none⟩)]
    ((((w.alloc O).alloc (.map #[] 0)).alloc (.cells #[.map (some (w.heap.size + 1))] 157)).alloc (.cells #[.string ⟨#[99, 111, 110, 110, 101, 99, 116, 105, 111, 110]⟩, .string ⟨#[99, 108, 111, 115, 101]⟩, .string ⟨#[107, 101, 101, 112, 45, 97, 108, 105, 118, 101]⟩, .string ⟨#[112, 114, 111, 120, 121, 45, 99, 111, 110, 110, 101, 99, 116, 105, 111, 110]⟩, .string ⟨#[116, 101]⟩, .string ⟨#[116, 114, 97, 105, 108, 101, 114]⟩, .string ⟨#[116, 114, 97, 110, 115, 102, 101, 114, 45, 101, 110, 99, 111, 100, 105, 110, 103]⟩, .string ⟨#[117, 112, 103, 114, 97, 100, 101]⟩, .string ⟨#[101, 120, 112, 101, 99, 116]⟩, .string ⟨#[99, 111, 110, 116, 101, 110, 116, 45, 108, 101, 110, 103, 116, 104]⟩] 9)) fun e w' =>
    e = .returned (.tuple #[]) ∧ Mine w' (w.heap.size + 1) 10 always.contains ∧ ((((w.alloc O).alloc (.map #[] 0)).alloc (.cells #[.map (some (w.heap.size + 1))] 157)).alloc (.cells #[.string ⟨#[99, 111, 110, 110, 101, 99, 116, 105, 111, 110]⟩, .string ⟨#[99, 108, 111, 115, 101]⟩, .string ⟨#[107, 101, 101, 112, 45, 97, 108, 105, 118, 101]⟩, .string ⟨#[112, 114, 111, 120, 121, 45, 99, 111, 110, 110, 101, 99, 116, 105, 111, 110]⟩, .string ⟨#[116, 101]⟩, .string ⟨#[116, 114, 97, 105, 108, 101, 114]⟩, .string ⟨#[116, 114, 97, 110, 115, 102, 101, 114, 45, 101, 110, 99, 111, 100, 105, 110, 103]⟩, .string ⟨#[117, 112, 103, 114, 97, 100, 101]⟩, .string ⟨#[101, 120, 112, 101, 99, 116]⟩, .string ⟨#[99, 111, 110, 116, 101, 110, 116, 45, 108, 101, 110, 103, 116, 104]⟩] 9)).grownBy w' (some (w.heap.size + 1)) := by
  rw [alw_cells]
  have z1 : (w.alloc O).heap.size = w.heap.size + 1 := by simp
  have z2 : ((w.alloc O).alloc (.map #[] 0)).heap.size = w.heap.size + 1 + 1 := by simp
  have z3 : (((w.alloc O).alloc (.map #[] 0)).alloc (.cells #[.map (some (w.heap.size + 1))] 157)).heap.size = w.heap.size + 1 + 1 + 1 := by simp
  have m1 : Mine ((w.alloc O).alloc (.map #[] 0)) (w.heap.size + 1) 0 fun _ => false := z1 ▸ Mine.made (w.alloc O)
  have v2 : Var (((w.alloc O).alloc (.map #[] 0)).alloc (.cells #[.map (some (w.heap.size + 1))] 157)) (w.heap.size + 1 + 1) 157 [.map (some (w.heap.size + 1))] := z2 ▸ Var.new _ _ _
  have hr := Rd.built (((w.alloc O).alloc (.map #[] 0)).alloc (.cells #[.map (some (w.heap.size + 1))] 157)) (strsV alwB) 9 (0, 0) 10 rfl
  rw [z3] at hr
  refine (wown1_any (some ⟨w.heap.size + 1 + 1 + 1, 0, none⟩) 10 10 alwB (w.heap.size + 1 + 1) (w.heap.size + 1) 0 (fun _ => false) _ (v2.alloc _) ((m1.alloc _).alloc _) (by omega) hr (fun g o e _ => by injection e with e; injection e with e _ _; omega) (by omega) (by omega) alw_small).mono ?_
  rintro e w' ⟨he, hm, hg⟩
  exact ⟨he, (hm.ext fun k => by rw [inP_alw]; rfl), hg⟩

set_option maxHeartbeats 2000000 in
set_option maxRecDepth 100000 in
theorem wown_any (rq : Bool) (mt t : ByteArray) (st : Int) (rs : ByteArray) (mn : Int) (A : Option Addr) (n c : Nat) (fs : List Fl) (w : World) (hsh : w.ShapedOpen Tryz.prog) (hrd : Rd w w.heap.size 2 A n (fieldsV fs))
    (hn : n ≤ 1048576) (hfs : ∀ f ∈ fs, f.1.size ≤ 16777216) (hvs : total (vals fs sConn) ≤ 8388608) :
    Calls Tryz.prog 116 #[headV rq mt t st rs mn (.slice A n c)] w (OwnPost w fs) := by
  have hmm := @run_makeMap Tryz.prog
  unfold headV
  go_enter Tryz.func116, Tryz.ntmps116
  go_upto_region 4 with (first
    | (go_at_call 146; (refine (own_first w _).mono ?_; rintro _ w1 ⟨rfl, hm1, hg1⟩))
    | fail)
  have z1 : (w.alloc (.cells #[.bool rq, .string mt, .string t, .int .i64 st, .string rs, .int .i64 mn, .slice A n c] 52)).heap.size = w.heap.size + 1 := by simp
  have hz1 : w.heap.size + 4 ≤ w1.heap.size := by have := hg1.size; simp at this; omega
  have V1 : Var w1 w.heap.size 52 [.bool rq, .string mt, .string t, .int .i64 st, .string rs, .int .i64 mn, .slice A n c] :=
    ((((Var.new w 52 [.bool rq, .string mt, .string t, .int .i64 st, .string rs, .int .i64 mn, .slice A n c]).alloc _).alloc _).alloc _).grown hg1 (by simp)
  have Q1 : Var w1 (w.heap.size + 1 + 1) 157 [.map (some (w.heap.size + 1))] :=
    (Var.alloc (by have := Var.new ((w.alloc (.cells #[.bool rq, .string mt, .string t, .int .i64 st, .string rs, .int .i64 mn, .slice A n c] 52)).alloc (.map #[] 0)) 157 [.map (some (w.heap.size + 1))]; simpa using this) _).grown hg1 (by simp)
  have B1 : Below w.heap.size w w1 := (((((Below.refl _ _).alloc (Nat.le_refl _) _).alloc (by simp) _).alloc (by simp <;> omega) _).alloc (by simp <;> omega) _).grown hg1 (by simp <;> omega) (by intro k hk; simp at hk; omega)
  have r1 := (hrd.below B1).more B1.size
  have HS1 : Hid (w1.ShapedOpen Tryz.prog) := Lib.hid (shaped_below hsh B1)
  have HV1 := Lib.hid V1
  have HQ1 := Lib.hid Q1
  have HM1 := Lib.hid hm1
  have HB1 := Lib.hid B1
  have hvl : (vals fs sConn).length ≤ 1048576 := Nat.le_trans (vals_le _ _) (by have := hrd.1; rw [fieldsV_len] at this; omega)
  have hvz : ∀ s ∈ vals fs sConn, s.size ≤ 16777216 := fun s hs => by have := total_mem hs; omega
  have hll := listed_len (vals fs sConn)
  have HC : Hid (∀ k, ownK fs k = (always.contains k || inP (listed (vals fs sConn)) k)) := Lib.hid (fun _ => rfl)
  have hlz : ∀ s ∈ listed (vals fs sConn), s.size ≤ 16777216 := fun s hs => by have := listed_size hs; omega
  have HVA := Lib.hid (fun W hr => hValues_any rq mt t st rs mn A n c fs sConn W hr (by omega) (by decide) hfs)
  have HLI := Lib.hid (fun A n c W h1 h2 h3 => hList_any A n c (vals fs sConn) W h1 h2 h3 hvz (by omega))
  generalize listed (vals fs sConn) = L at hll HC hlz HLI
  unfold headV at HVA
  generalize vals fs sConn = VS at hvs hvl hvz hll HVA HLI
  clear hg1 V1 Q1 B1 hm1 z1 hrd hsh
  go_upto_region 5 with (first
    | (refine wpList_load_mid rfl 52 (.tmp 1) rfl w.heap.size 0 rfl [.bool rq, .string mt, .string t, .int .i64 st, .string rs, .int .i64 mn, .slice A n c] _ HV1.out.range Tryz.underlying52 rfl (by kernel_rfl) ?_)
    | (go_at_call 27; (refine (HVA.out _ r1).mono ?_; rintro _ w2 ⟨v2, rfl, hrow2, hb2⟩; obtain ⟨A2, c2, rfl, _, _, _, rd2⟩ := hrow2.form))
    | (go_at_call 50; (refine (HLI.out A2 VS.length c2 w2 (shaped_below HS1.out hb2) rd2 (by omega)).mono ?_; rintro _ w3 ⟨v3, rfl, hrow3, hb3⟩; obtain ⟨A3, c3, rfl, _, _, _, rd3⟩ := hrow3.form; have M3 := (HM1.out.below_all hb2).below_all hb3; have Q3 := (HQ1.out.below_all hb2).below_all hb3; have k3 := hrow3.lt; have z2 := hb2.size; have z3 := hb3.size))
    | (go_at_call 146; (refine (wown1_any A3 L.length c3 L (w.heap.size + 1 + 1) (w.heap.size + 1) 10 always.contains w3 Q3 M3 (by omega) rd3 (fun g o e _ => by subst e; have := (k3 g rfl).1; omega) (by omega) (by omega) hlz).mono ?_; rintro _ w4 ⟨rfl, hm4, hg4⟩; have q4 := (Q3.grown hg4 (by simp)).cell (j := 0) rfl))
    | fail)
  have HM4 := Lib.hid hm4
  have HG4 := Lib.hid hg4
  clear hm4 hg4 hrow2 hrow3 rd2 rd3 M3 Q3 k3
  go_wp2
  go_ret
  refine ⟨w.heap.size + 1, 10 + L.length, rfl, by omega, by omega, HM4.out.ext fun k => (HC.out k).symm, ?_⟩
  exact ((HB1.out.trans (hb2.mono (by omega))).trans (hb3.mono (by omega))).grown HG4.out (by omega) (by intro k hk; simp at hk; omega)
end Go.Proofs.YtklmpadcfioefaaGreatDoor
