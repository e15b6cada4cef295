/- The step of a reader of streams that reads a head: what comes before a head is whole. Conditions: sizes, the world's shape. -/
import Derived.Test.YtklmpadcfioefaaGreatDoorMX0
import Derived.StillTailTactics
import Derived.Outline
import Derived.Deep.CutBlock
namespace Go.Proofs.YtklmpadcfioefaaGreatDoor
open Go.RowKit

def zHeadV : List Value := [.bool false, .string ⟨#[]⟩, .string ⟨#[]⟩, .int .i64 0, .string ⟨#[]⟩, .int .i64 0, .slice none 0 0]
theorem halloc (w : World) (o : Obj) : (w.alloc o).heap.size = w.heap.size + 1 := by simp
/-- the block grows -/
theorem SMem.block {W w3 : World} {base rb q : Nat} {s : Strm.S} {V : SV} {v3 : Value} {b : Bs} (h : SMem W base rb s V q) (hp : s.ph = 0) (hg : W.grownBy w3 V.kv.ownBlock) (hr : RowB w3 base v3 b) (ho : v3.ownBlock = V.kv.ownBlock ∨ v3.ownBlock = some W.heap.size) :
    SMem (w3.setCell ⟨rb, 3, none⟩ v3) base rb { s with blk := b } { V with kv := v3 } q ∧ Chg (footS rb V) W (w3.setCell ⟨rb, 3, none⟩ v3) ∧ (∀ k, footS rb { V with kv := v3 } k → footS rb V k ∨ W.heap.size ≤ k) := by
  have c1 : Chg (fun k => V.kv.ownBlock = some k) W w3 := (Chg.refl _ _).grown hg (fun k _ hk => hk)
  have c2 : Chg (fun k => k = rb) w3 (w3.setCell ⟨rb, 3, none⟩ v3) := (show Chg (fun k => k = rb) w3 w3 from Chg.refl _ _).setCell (p := ⟨rb, 3, none⟩) (fun _ => rfl) v3
  have hn : ∀ k, v3.ownBlock = some k → V.kv.ownBlock = some k ∨ k = W.heap.size := fun k hk => by
    rcases ho with e | e
    · rw [e] at hk; exact .inl hk
    · rw [e] at hk; injection hk with hk; exact .inr hk.symm
  obtain ⟨o1, o2, o3⟩ := h.off (by omega)
  have hrl := h.var.lt
  have hnr : ∀ k, v3.ownBlock = some k → k ≠ rb := fun k hk => by
    rcases hn k hk with x | x
    · exact (h.a2 k x).1
    · omega
  have h3 : ∀ k, foot V.cb V.vl V.vt k → k = rb := fun k hk => by rw [o1, o2, o3] at hk; exact foot_cut hk
  refine ⟨⟨h.le, ?_, ?_, ?_, fun e => absurd hp e, fun e => (by dsimp only at e; omega), fun _ => ⟨o1, o2, o3⟩, ?_, ?_, fun e => (by dsimp only at e; omega)⟩, ?_, ?_⟩
  · exact (h.var.chg c1 (fun x => (h.a2 rb x).1 rfl)).set 3 v3
  · exact (h.ms.chg c1 (fun k hk => (h.a1 k hk).2.1)).chg c2 (fun k hk => (h.a1 k hk).1)
  · exact Row.chg hr c2 hnr
  · intro k hk
    refine ⟨(h.a1 k hk).1, fun x => ?_, (h.a1 k hk).2.2⟩
    rcases hn k x with y | y
    · exact (h.a1 k hk).2.1 y
    · have := (h.ms.lt k hk).2; omega
  · intro k hk
    exact ⟨hnr k hk, fun x => hnr k hk (h3 k x)⟩
  · exact ((show Chg (footS rb V) W W from Chg.refl _ W).grown hg (fun k _ hk => .inr (.inr (.inl hk)))).setCell (p := ⟨rb, 3, none⟩) (fun _ => .inl rfl) v3
  · intro k hk
    rcases hk with x | x | x | x
    · exact .inl (.inl x)
    · exact .inl (.inr (.inl x))
    · rcases hn k x with y | y
      · exact .inl (.inr (.inr (.inl y)))
      · exact .inr (by omega)
    · exact .inl (.inr (.inr (.inr x)))
/-- behind the block's growth -/
structure HeadSt (w wx : World) (base rb : Nat) (s : Strm.S) (V : SV) (b : Bs) (A3 : Option Addr) (c3 : Nat) (hv : List Value) : Prop where
  m : SMem wx base rb { s with win := true, blk := b } { V with kv := .slice A3 b.length c3 } 0
  c : Chg (footS rb V) w wx
  f : ∀ k, footS rb { V with kv := .slice A3 b.length c3 } k → footS rb V k ∨ w.heap.size + 2 ≤ k
  h : Var wx w.heap.size 52 hv
  r : Rd wx wx.heap.size 1 (some ⟨w.heap.size + 1, 0, none⟩) 4 (bytesV [13, 10, 13, 10])
  z : w.heap.size + 2 ≤ wx.heap.size
  le : b.length ≤ c3
  lt : ∀ k, footS rb V k → k < w.heap.size
theorem HeadSt.of {w W w3 : World} {base rb : Nat} {s : Strm.S} {V : SV} {A3 : Option Addr} {c3 : Nat} {b : Bs} (hlt : ∀ k, footS rb V k → k < w.heap.size) (h : SMem W base rb { s with win := true } V 0) (hp : s.ph = 0) (hc : Chg (footS rb V) w W) (hz : W.heap.size = w.heap.size + 2) (hv : Var W w.heap.size 52 zHeadV)
    (hr : Rd W W.heap.size 1 (some ⟨w.heap.size + 1, 0, none⟩) 4 (bytesV [13, 10, 13, 10])) (hg : W.drew.grownBy w3 V.kv.ownBlock) (hrow : Row w3 base 1 (.slice A3 b.length c3) b.length (bytesV b)) (ho : (Value.slice A3 b.length c3).ownBlock = V.kv.ownBlock ∨ (Value.slice A3 b.length c3).ownBlock = some W.heap.size) (hle : b.length ≤ c3) :
    HeadSt w (w3.setCell ⟨rb, 3, none⟩ (.slice A3 b.length c3)) base rb s V b A3 c3 zHeadV := by
  have hd : SMem W.drew base rb { s with win := true } V 0 := h.below ((Below.refl _ _).drew)
  obtain ⟨k1, k2, k3⟩ := hd.block hp hg hrow ho
  have hs : ∀ k, k < w.heap.size + 2 → w.heap.size ≤ k → ¬ footS rb V k := fun k _ h2 f => by have := hlt k f; omega
  refine ⟨k1, hc.drew.trans k2 (fun _ _ e => e), fun k hk => ?_, ?_, ?_, ?_, hle, hlt⟩
  · rcases k3 k hk with x | x
    · exact .inl x
    · exact .inr (by rw [← hz]; exact x)
  · exact (Var.drew hv).chg k2 (hs _ (by omega) (Nat.le_refl _))
  · exact (Rd.drew hr).apart k2 (Nat.le_refl _) (fun _ g o e => by injection e with e; injection e with e _ _; subst e; exact hs _ (by omega) (by omega))
  · have := k2.size
    rw [← hz]
    exact this
theorem HeadSt.below {w wx W : World} {base rb : Nat} {s : Strm.S} {V : SV} {A3 : Option Addr} {c3 : Nat} {b : Bs} {hv : List Value} (h : HeadSt w wx base rb s V b A3 c3 hv) (hb : Below wx.heap.size wx W) : HeadSt w W base rb s V b A3 c3 hv :=
  ⟨h.m.below hb, h.c.then_below hb, h.f, h.h.below_all hb, (h.r.below hb).more hb.size, by have := hb.size; have := h.z; omega, h.le, h.lt⟩
theorem HeadSt.apart {w wx : World} {base rb : Nat} {s : Strm.S} {V : SV} {A3 : Option Addr} {c3 : Nat} {b : Bs} {hv : List Value} (h : HeadSt w wx base rb s V b A3 c3 hv) : ∀ k, footS rb { V with kv := .slice A3 b.length c3 } k → k ≠ w.heap.size := fun k hk e => by
  rcases h.f k hk with x | x
  · have := h.lt k x; omega
  · omega
/-- the head's variable is written -/
theorem HeadSt.turn {w wx W : World} {base rb : Nat} {s : Strm.S} {V : SV} {A3 : Option Addr} {c3 : Nat} {b : Bs} {hv hv' : List Value} (h : HeadSt w wx base rb s V b A3 c3 hv) (hg : wx.grownBy W (some w.heap.size)) (hn : Var W w.heap.size 52 hv') : HeadSt w W base rb s V b A3 c3 hv' := by
  have hc : Chg (fun k => k = w.heap.size) wx W := (show Chg (fun k => k = w.heap.size) wx wx from Chg.refl _ _).grown hg (fun k _ e => by injection e with e; exact e.symm)
  refine ⟨h.m.chg hc (fun k hk e => h.apart k hk e), h.c.grown hg (fun k hk e => by injection e with e; omega), h.f, hn, ?_, by have := hg.size; have := h.z; omega, h.le, h.lt⟩
  exact h.r.apart hc (Nat.le_refl _) (fun _ g o e x => by injection e with e; injection e with e _ _; omega)
namespace Strm
theorem index_late {b x : Bs} (h : headEnd b = none) : Lib.index (b ++ x) crlf2 = if Lib.index ((b ++ x).drop (b.length - 3)) crlf2 == -1 then -1 else Lib.index ((b ++ x).drop (b.length - 3)) crlf2 + ((b.length - 3 : Nat) : Int) := by
  refine Lib.index_drop (fun j hj => ?_) (by rw [List.length_append]; omega)
  rcases headEnd_spec b with ⟨_, _, hn⟩ | ⟨i, h1, _⟩
  · cases hb : Lib.occAt (b ++ x) crlf2 j with
    | false => rfl
    | true =>
      have := occ_back hb (by simp [crlf2]; omega)
      rw [hn j] at this
      cases this
  · rw [h1] at h; cases h
end Strm
set_option maxHeartbeats 1000000 in
set_option maxRecDepth 100000 in
theorem shead_part {w : World} {base rb : Nat} {s : Strm.S} {V : SV} (hsh : Shp base w) (h : SMem w base rb s V 0) (hp : s.ph = 0) (A : Option Addr) (n c : Nat) (l : Bs) (hn : n ≤ 100000000) (hnc : n ≤ c) (hA : A = none → n = 0 ∧ c = 0)
    (hrd : Rd w w.heap.size 1 A n (bytesV l)) (hsp : Sep A n rb V) (hn1 : 1 ≤ n) (hl : s.blk.length + n < 16384) (he0 : Strm.headEnd s.blk = none) (he : Strm.headEnd (s.blk ++ l) = none) :
    Calls Tryz.prog 29 #[.pointer (some ⟨rb, 0, none⟩), .slice A n c] w (CallPost w base rb V A n c 0 (Strm.callS s l)) := by
  have hlen : l.length = n := by have := hrd.1; rw [bytesV_len] at this; omega
  obtain ⟨m, hm⟩ : ∃ m, m = n := ⟨_, rfl⟩
  have hmn : m ≤ n := by omega
  have hmin : min (n : Int) (16384 - (s.blk.length : Int)) = (m : Int) := by omega
  have HMN := Lib.hid hm
  have HE := Lib.hid he
  have HE0 := Lib.hid he0
  clear hm he he0
  obtain ⟨f0, hf0, fz0, fz1, fz2⟩ := info_parts infoByte
  have kc := Lib.run_convert_bytes_const (P := Tryz.prog) (w.alloc (.cells #[.bool false, .string ⟨#[]⟩, .string ⟨#[]⟩, .int .i64 0, .string ⟨#[]⟩, .int .i64 0, .slice none 0 0] 52)) 26 5 #[.int .u8 13, .int .u8 10, .int .u8 13, .int .u8 10] 4 4 Tryz.underlying26 Tryz.underlying5
  rw [halloc] at kc
  obtain ⟨Ak, ck, hkv, hkc, _, hAk, hrk⟩ := Row.form h.blk
  have d3 := h.cell (j := 3) rfl
  have d7 := h.cell (j := 7) rfl
  have f3 := h.var.frozen 3
  have f7 := h.var.frozen 7
  have hrl := h.var.lt
  rw [hkv] at d3
  have hM0 := (h.put (j := 7) (u := .bool true) (t := { s with win := true }) (q' := 0) rfl rfl rfl rfl Iff.rfl h.nil)
  have hc0 := ((show Chg (footS rb V) w w from Chg.refl _ w).setCell (p := ⟨rb, 7, none⟩) (fun _ => .inl rfl) (.bool true))
  have hz0 : (w.setCell ⟨rb, 7, none⟩ (.bool true)).heap.size = w.heap.size := by simp
  have hV0 := (Var.new (w.setCell ⟨rb, 7, none⟩ (.bool true)) 52 zHeadV).alloc (.cells #[.int .u8 13, .int .u8 10, .int .u8 13, .int .u8 10] 5 (4, 5))
  have hR0 := rd_const ((w.setCell ⟨rb, 7, none⟩ (.bool true)).alloc (.cells zHeadV.toArray 52)) 5 (4, 5) [13, 10, 13, 10]
  have hb0 : Below (w.setCell ⟨rb, 7, none⟩ (.bool true)).heap.size (w.setCell ⟨rb, 7, none⟩ (.bool true)) (((w.setCell ⟨rb, 7, none⟩ (.bool true)).alloc (.cells zHeadV.toArray 52)).alloc (.cells #[.int .u8 13, .int .u8 10, .int .u8 13, .int .u8 10] 5 (4, 5))) := ((Below.refl _ _).alloc (Nat.le_refl _) _).alloc (by rw [halloc]; omega) _
  have hM1 := hM0.below hb0
  have hc1 := hc0.then_below hb0
  rw [hz0] at hV0
  rw [show ((w.setCell ⟨rb, 7, none⟩ (.bool true)).alloc (.cells zHeadV.toArray 52)).heap.size = w.heap.size + 1 by simp] at hR0
  go_enter Tryz.func29, Tryz.ntmps29
  go_wp2
  refine wp_scope_to 0 rfl ?_
  intro JG hJG
  go_upto_region 9 with (fail)
  clear d3 d7 f3 f7 kc hc0 hM0 hb0
  change SMem (((w.setCell ⟨rb, 7, none⟩ (.bool true)).alloc (.cells #[.bool false, .string ⟨#[]⟩, .string ⟨#[]⟩, .int .i64 0, .string ⟨#[]⟩, .int .i64 0, .slice none 0 0] 52)).alloc (.cells #[.int .u8 13, .int .u8 10, .int .u8 13, .int .u8 10] 5 (4, 5))) _ _ _ _ _ at hM1
  change Chg _ _ (((w.setCell ⟨rb, 7, none⟩ (.bool true)).alloc (.cells #[.bool false, .string ⟨#[]⟩, .string ⟨#[]⟩, .int .i64 0, .string ⟨#[]⟩, .int .i64 0, .slice none 0 0] 52)).alloc (.cells #[.int .u8 13, .int .u8 10, .int .u8 13, .int .u8 10] 5 (4, 5))) at hc1
  change Var (((w.setCell ⟨rb, 7, none⟩ (.bool true)).alloc (.cells #[.bool false, .string ⟨#[]⟩, .string ⟨#[]⟩, .int .i64 0, .string ⟨#[]⟩, .int .i64 0, .slice none 0 0] 52)).alloc (.cells #[.int .u8 13, .int .u8 10, .int .u8 13, .int .u8 10] 5 (4, 5))) _ _ _ at hV0
  change Rd (((w.setCell ⟨rb, 7, none⟩ (.bool true)).alloc (.cells #[.bool false, .string ⟨#[]⟩, .string ⟨#[]⟩, .int .i64 0, .string ⟨#[]⟩, .int .i64 0, .slice none 0 0] 52)).alloc (.cells #[.int .u8 13, .int .u8 10, .int .u8 13, .int .u8 10] 5 (4, 5))) (((w.setCell ⟨rb, 7, none⟩ (.bool true)).alloc (.cells #[.bool false, .string ⟨#[]⟩, .string ⟨#[]⟩, .int .i64 0, .string ⟨#[]⟩, .int .i64 0, .slice none 0 0] 52)).alloc (.cells #[.int .u8 13, .int .u8 10, .int .u8 13, .int .u8 10] 5 (4, 5))).heap.size _ _ _ _ at hR0
  have hz1 : (((w.setCell ⟨rb, 7, none⟩ (.bool true)).alloc (.cells #[.bool false, .string ⟨#[]⟩, .string ⟨#[]⟩, .int .i64 0, .string ⟨#[]⟩, .int .i64 0, .slice none 0 0] 52)).alloc (.cells #[.int .u8 13, .int .u8 10, .int .u8 13, .int .u8 10] 5 (4, 5))).heap.size = w.heap.size + 2 := by simp
  generalize (((w.setCell ⟨rb, 7, none⟩ (.bool true)).alloc (.cells #[.bool false, .string ⟨#[]⟩, .string ⟨#[]⟩, .int .i64 0, .string ⟨#[]⟩, .int .i64 0, .slice none 0 0] 52)).alloc (.cells #[.int .u8 13, .int .u8 10, .int .u8 13, .int .u8 10] 5 (4, 5))) = W at hM1 hc1 hV0 hR0 hz1 ⊢
  have hrp := (hrd.pre (k := m) hmn).apart hc1 (Nat.le_refl _) (fun h0 => hsp (by omega))
  rw [Nat.mul_one, bytesV_take] at hrp
  have HM1 := Lib.hid hM1
  have HC1 := Lib.hid hc1
  have HV0 := Lib.hid hV0
  have HR0 := Lib.hid hR0
  have HRP := Lib.hid hrp
  have HZ1 := Lib.hid hz1
  have HK := Lib.hid hkv
  have d3 := hM1.cell (j := 3) rfl
  (try dsimp only at d3)
  rw [hkv] at d3
  have hkb := hM1.blk
  rw [hkv] at hkb
  have HKB := Lib.hid hkb
  clear hM1 hc1 hV0 hR0 hrp hz1 hkb hkv hz0
  have hf3 := HM1.out.var.frozen 3
  have hwz := HM1.out.var.lt
  have hwr : IntKind.i64.wrap (16384 - (s.blk.length : Int)) = 16384 - (s.blk.length : Int) := IntWalk.i64_in _ (by omega)
  have hi0 : (0 : Int) ≤ (m : Int) := by omega
  have hi1 : (m : Int) ≤ (c : Int) := by omega
  have hi2 : m ≤ c := by omega
  have HLT : Hid (∀ k, footS rb V k → k < w.heap.size) := Lib.hid (fun k hk => (h.lt k hk).2)
  have HSH := Lib.hid hsh
  have HLEN := Lib.hid hlen
  have HFB : Hid (∀ k, footS rb V k → base ≤ k) := Lib.hid (fun k hk => (h.lt k hk).1)
  have HP := Lib.hid hp
  have HB : Hid ((s.blk ++ l.take m).length = s.blk.length + m) := Lib.hid (by rw [List.length_append, List.length_take, hlen]; omega)
  clear h hsh hp hrd hrk hAk hlen
  go_cut [] from 26 to 40 (fun wx => ∃ A3 c3, HeadSt w wx base rb s V (s.blk ++ l.take m) A3 c3 zHeadV)
  case first =>
    go_region_law (first
      | (refine step_app _ (by rfl) (.tmp 30) (.tmp 37) 26 26 (by rfl) base 5 f0 (.int .u8 0) 1 1 Tryz.underlying26 hf0 fz0 fz1 fz2 rfl (.slice Ak s.blk.length ck) s.blk.length (bytesV s.blk) (by rfl) (Row.drew HKB.out) (.slice A m c) m (bytesV (l.take m)) (by rfl) (Src.slice Tryz.underlying26 (Rd.drew HRP.out) (fun e => by have := hA e; omega) (bytesV_one _)) (by omega) (by omega) (by omega) (by have := HM1.out.le; simp; omega) ?_; intro v3 w3 hrow3 hg3 ho3; obtain ⟨A3, c3, rfl, hc3, _, _, _⟩ := hrow3.form; have HV3 := Lib.hid ((Var.drew HM1.out.var).grown hg3 (fun e => (HM1.out.a2 rb (by rw [HK.out]; exact e)).1 rfl)); have e3 := HV3.out.cell (j := 3) rfl; have g3 := HV3.out.frozen 3)
      | fail)
    all_goals
      go_wp2
      go_meet
      refine ⟨A3, c3, ?_⟩
      have hrow4 : Row w3 base 1 (.slice A3 (s.blk ++ l.take m).length c3) (s.blk ++ l.take m).length (bytesV (s.blk ++ l.take m)) := by rw [HB.out, bytesV_append]; exact hrow3
      have ho4 : (Value.slice A3 (s.blk ++ l.take m).length c3).ownBlock = V.kv.ownBlock ∨ (Value.slice A3 (s.blk ++ l.take m).length c3).ownBlock = some W.heap.size := by rw [HB.out, HK.out]; exact ho3
      have hz := HeadSt.of HLT.out HM1.out HP.out HC1.out HZ1.out HV0.out HR0.out (by rw [HK.out]; exact hg3) hrow4 ho4 (by rw [HB.out]; exact hc3)
      rw [HB.out] at hz
      exact hz
  case rest =>
  obtain ⟨A3, c3, hst⟩ := hcut
  obtain ⟨B, hB⟩ : ∃ B, B = s.blk ++ l.take m := ⟨_, rfl⟩
  rw [← hB] at hst HB
  obtain ⟨K, hK⟩ : ∃ K, K = s.blk.length - 3 := ⟨_, rfl⟩
  have HKE := Lib.hid hK
  have hbl1 : s.blk.length < B.length := by rw [HB.out]; omega
  have hbl2 : B.length ≤ 16384 := by rw [HB.out]; omega
  have hkl : K ≤ B.length := by omega
  have hkc : ¬ c3 = K := by have := hst.le; omega
  have hmax : max ((s.blk.length : Int) - 3) 0 = (K : Int) := by omega
  have hki : (K : Int) ≤ (B.length : Int) := by omega
  have hki0 : (0 : Int) ≤ (K : Int) := by omega
  obtain ⟨g3, o3, e3, _, _, _, _⟩ := Row.own hst.m.blk (by first | omega | (dsimp only; omega))
  subst e3
  have d3 := hst.m.cell (j := 3) rfl
  have HI := bIndex_any (some ⟨g3, o3 + K, none⟩) (B.length - K) (c3 - K) (B.drop K) ⟨w.heap.size + 1, 0, none⟩ 4 4 [13, 10, 13, 10] wc (Shp.shaped (Shp.chg HSH.out hst.c (fun k hk => HFB.out k hk))) (by have := hst.le; omega) (fun e => by cases e)
    (by
      obtain ⟨_, _, e, _, _, _, hr⟩ := Row.form hst.m.blk
      injection e with e _ e2
      subst e e2
      have h2 := hr.shift (k := K) (cap := c3) hkl hst.le
      rw [if_neg hkc] at h2
      simpa [Addr.add_lit, bytesV_drop] using h2) hst.r (by decide) (by decide) (by omega)
  have HHS := Lib.hid hst
  have HBE := Lib.hid hB
  clear hst hB hK
  have hneg : Lib.index (B.drop K) [13, 10, 13, 10] = -1 := by
    have h1 := (Strm.headEnd_spec (s.blk ++ l)).resolve_right (fun ⟨i, h, _⟩ => by rw [HE.out] at h; cases h)
    have h2 := Strm.index_late (x := l) HE0.out
    rw [h1.2.1, ← HKE.out, show s.blk ++ l = B by rw [HBE.out, HMN.out, List.take_of_length_le (by rw [HLEN.out]; omega)]] at h2
    have h3 := Lib.index_ge (B.drop K) Strm.crlf2
    change Lib.index (B.drop K) Strm.crlf2 = -1
    by_cases h4 : Lib.index (B.drop K) Strm.crlf2 = -1
    · exact h4
    · rw [if_neg (by simpa using h4)] at h2; omega
  have hcs : Strm.callS s l = ([], n, { s with win := true, blk := B }, 0) := by
    have e1 : l.take (16384 - s.blk.length) = l := List.take_of_length_le (by rw [HLEN.out]; omega)
    have e2 : s.blk ++ l = B := by rw [HBE.out, HMN.out, List.take_of_length_le (by rw [HLEN.out]; omega)]
    rw [Strm.call0 HP.out l, e1, HE.out]
    dsimp only
    rw [e2, if_pos (by have := HB.out; have := HMN.out; omega), HLEN.out]
  have HCS := Lib.hid hcs
  clear hcs
  rw [hneg] at HI
  have HID := Lib.hid HI
  have hb16 : (B.length : Int) < 16384 := by have := HB.out; have := HMN.out; omega
  clear HI hneg
  go_wp2_with (first
    | (go_at_call 53; go_must (refine HID.out.mono ?_; rintro _ _ ⟨rfl, q, rfl⟩))
    | fail)
  simp only [jump_ret]
  refine bodyPost_ret (results_tmp4 rfl _ _ _) rfl ?_
  rw [HCS.out]
  refine ⟨.slice none 0 0, .slice none 0 0, nowV rb 0, [], { V with kv := .slice (some ⟨g3, o3, none⟩) B.length c3 }, rfl, rfl, Outs.nil _ _, HHS.out.m.below (below_drewN (Below.refl _ _) q), fun _ => ⟨by dsimp only; rw [HP.out], .inl ⟨rfl, rfl⟩⟩, HHS.out.c.drewN q, fun k hk => (HHS.out.f k hk).imp id (by omega), ?_⟩
  rintro k (hk | ⟨e, he, _⟩)
  · exact (nil_own hk).elim
  · cases he
set_option maxHeartbeats 1000000 in
set_option maxRecDepth 100000 in
theorem shead_long {w : World} {base rb : Nat} {s : Strm.S} {V : SV} (hsh : Shp base w) (h : SMem w base rb s V 0) (hp : s.ph = 0) (A : Option Addr) (n c : Nat) (l : Bs) (hn : n ≤ 100000000) (hnc : n ≤ c) (hA : A = none → n = 0 ∧ c = 0)
    (hrd : Rd w w.heap.size 1 A n (bytesV l)) (hsp : Sep A n rb V) (m : Nat) (hm : s.blk.length + m = 16384) (hm1 : 1 ≤ m) (hmn : m ≤ n) (he0 : Strm.headEnd s.blk = none) (he : Strm.headEnd (s.blk ++ l.take m) = none) :
    Calls Tryz.prog 29 #[.pointer (some ⟨rb, 0, none⟩), .slice A n c] w (CallPost w base rb V A n c 0 (Strm.callS s l)) := by
  have hlen : l.length = n := by have := hrd.1; rw [bytesV_len] at this; omega
  have hmin : min (n : Int) (16384 - (s.blk.length : Int)) = (m : Int) := by omega
  have HMN := Lib.hid hm
  have HE := Lib.hid he
  have HE0 := Lib.hid he0
  have hml1 : s.blk.length + m ≤ 16384 := by omega
  have hml2 : 16384 ≤ s.blk.length + m := by omega
  clear hm he he0
  obtain ⟨f0, hf0, fz0, fz1, fz2⟩ := info_parts infoByte
  have kc := Lib.run_convert_bytes_const (P := Tryz.prog) (w.alloc (.cells #[.bool false, .string ⟨#[]⟩, .string ⟨#[]⟩, .int .i64 0, .string ⟨#[]⟩, .int .i64 0, .slice none 0 0] 52)) 26 5 #[.int .u8 13, .int .u8 10, .int .u8 13, .int .u8 10] 4 4 Tryz.underlying26 Tryz.underlying5
  rw [halloc] at kc
  obtain ⟨Ak, ck, hkv, hkc, _, hAk, hrk⟩ := Row.form h.blk
  have d3 := h.cell (j := 3) rfl
  have d7 := h.cell (j := 7) rfl
  have f3 := h.var.frozen 3
  have f7 := h.var.frozen 7
  have hrl := h.var.lt
  rw [hkv] at d3
  have hM0 := (h.put (j := 7) (u := .bool true) (t := { s with win := true }) (q' := 0) rfl rfl rfl rfl Iff.rfl h.nil)
  have hc0 := ((show Chg (footS rb V) w w from Chg.refl _ w).setCell (p := ⟨rb, 7, none⟩) (fun _ => .inl rfl) (.bool true))
  have hz0 : (w.setCell ⟨rb, 7, none⟩ (.bool true)).heap.size = w.heap.size := by simp
  have hV0 := (Var.new (w.setCell ⟨rb, 7, none⟩ (.bool true)) 52 zHeadV).alloc (.cells #[.int .u8 13, .int .u8 10, .int .u8 13, .int .u8 10] 5 (4, 5))
  have hR0 := rd_const ((w.setCell ⟨rb, 7, none⟩ (.bool true)).alloc (.cells zHeadV.toArray 52)) 5 (4, 5) [13, 10, 13, 10]
  have hb0 : Below (w.setCell ⟨rb, 7, none⟩ (.bool true)).heap.size (w.setCell ⟨rb, 7, none⟩ (.bool true)) (((w.setCell ⟨rb, 7, none⟩ (.bool true)).alloc (.cells zHeadV.toArray 52)).alloc (.cells #[.int .u8 13, .int .u8 10, .int .u8 13, .int .u8 10] 5 (4, 5))) := ((Below.refl _ _).alloc (Nat.le_refl _) _).alloc (by rw [halloc]; omega) _
  have hM1 := hM0.below hb0
  have hc1 := hc0.then_below hb0
  rw [hz0] at hV0
  rw [show ((w.setCell ⟨rb, 7, none⟩ (.bool true)).alloc (.cells zHeadV.toArray 52)).heap.size = w.heap.size + 1 by simp] at hR0
  go_enter Tryz.func29, Tryz.ntmps29
  go_wp2
  refine wp_scope_to 0 rfl ?_
  intro JG hJG
  go_upto_region 9 with (fail)
  clear d3 d7 f3 f7 kc hc0 hM0 hb0
  change SMem (((w.setCell ⟨rb, 7, none⟩ (.bool true)).alloc (.cells #[.bool false, .string ⟨#[]⟩, .string ⟨#[]⟩, .int .i64 0, .string ⟨#[]⟩, .int .i64 0, .slice none 0 0] 52)).alloc (.cells #[.int .u8 13, .int .u8 10, .int .u8 13, .int .u8 10] 5 (4, 5))) _ _ _ _ _ at hM1
  change Chg _ _ (((w.setCell ⟨rb, 7, none⟩ (.bool true)).alloc (.cells #[.bool false, .string ⟨#[]⟩, .string ⟨#[]⟩, .int .i64 0, .string ⟨#[]⟩, .int .i64 0, .slice none 0 0] 52)).alloc (.cells #[.int .u8 13, .int .u8 10, .int .u8 13, .int .u8 10] 5 (4, 5))) at hc1
  change Var (((w.setCell ⟨rb, 7, none⟩ (.bool true)).alloc (.cells #[.bool false, .string ⟨#[]⟩, .string ⟨#[]⟩, .int .i64 0, .string ⟨#[]⟩, .int .i64 0, .slice none 0 0] 52)).alloc (.cells #[.int .u8 13, .int .u8 10, .int .u8 13, .int .u8 10] 5 (4, 5))) _ _ _ at hV0
  change Rd (((w.setCell ⟨rb, 7, none⟩ (.bool true)).alloc (.cells #[.bool false, .string ⟨#[]⟩, .string ⟨#[]⟩, .int .i64 0, .string ⟨#[]⟩, .int .i64 0, .slice none 0 0] 52)).alloc (.cells #[.int .u8 13, .int .u8 10, .int .u8 13, .int .u8 10] 5 (4, 5))) (((w.setCell ⟨rb, 7, none⟩ (.bool true)).alloc (.cells #[.bool false, .string ⟨#[]⟩, .string ⟨#[]⟩, .int .i64 0, .string ⟨#[]⟩, .int .i64 0, .slice none 0 0] 52)).alloc (.cells #[.int .u8 13, .int .u8 10, .int .u8 13, .int .u8 10] 5 (4, 5))).heap.size _ _ _ _ at hR0
  have hz1 : (((w.setCell ⟨rb, 7, none⟩ (.bool true)).alloc (.cells #[.bool false, .string ⟨#[]⟩, .string ⟨#[]⟩, .int .i64 0, .string ⟨#[]⟩, .int .i64 0, .slice none 0 0] 52)).alloc (.cells #[.int .u8 13, .int .u8 10, .int .u8 13, .int .u8 10] 5 (4, 5))).heap.size = w.heap.size + 2 := by simp
  generalize (((w.setCell ⟨rb, 7, none⟩ (.bool true)).alloc (.cells #[.bool false, .string ⟨#[]⟩, .string ⟨#[]⟩, .int .i64 0, .string ⟨#[]⟩, .int .i64 0, .slice none 0 0] 52)).alloc (.cells #[.int .u8 13, .int .u8 10, .int .u8 13, .int .u8 10] 5 (4, 5))) = W at hM1 hc1 hV0 hR0 hz1 ⊢
  have hrp := (hrd.pre (k := m) hmn).apart hc1 (Nat.le_refl _) (fun h0 => hsp (by omega))
  rw [Nat.mul_one, bytesV_take] at hrp
  have HM1 := Lib.hid hM1
  have HC1 := Lib.hid hc1
  have HV0 := Lib.hid hV0
  have HR0 := Lib.hid hR0
  have HRP := Lib.hid hrp
  have HZ1 := Lib.hid hz1
  have HK := Lib.hid hkv
  have d3 := hM1.cell (j := 3) rfl
  (try dsimp only at d3)
  rw [hkv] at d3
  have hkb := hM1.blk
  rw [hkv] at hkb
  have HKB := Lib.hid hkb
  clear hM1 hc1 hV0 hR0 hrp hz1 hkb hkv hz0
  have hf3 := HM1.out.var.frozen 3
  have hwz := HM1.out.var.lt
  have hwr : IntKind.i64.wrap (16384 - (s.blk.length : Int)) = 16384 - (s.blk.length : Int) := IntWalk.i64_in _ (by omega)
  have hi0 : (0 : Int) ≤ (m : Int) := by omega
  have hi1 : (m : Int) ≤ (c : Int) := by omega
  have hi2 : m ≤ c := by omega
  have HLT : Hid (∀ k, footS rb V k → k < w.heap.size) := Lib.hid (fun k hk => (h.lt k hk).2)
  have HSH := Lib.hid hsh
  have HLEN := Lib.hid hlen
  have HFB : Hid (∀ k, footS rb V k → base ≤ k) := Lib.hid (fun k hk => (h.lt k hk).1)
  have HP := Lib.hid hp
  have HB : Hid ((s.blk ++ l.take m).length = s.blk.length + m) := Lib.hid (by rw [List.length_append, List.length_take, hlen]; omega)
  clear h hsh hp hrd hrk hAk hlen
  go_cut [] from 26 to 40 (fun wx => ∃ A3 c3, HeadSt w wx base rb s V (s.blk ++ l.take m) A3 c3 zHeadV)
  case first =>
    go_region_law (first
      | (refine step_app _ (by rfl) (.tmp 30) (.tmp 37) 26 26 (by rfl) base 5 f0 (.int .u8 0) 1 1 Tryz.underlying26 hf0 fz0 fz1 fz2 rfl (.slice Ak s.blk.length ck) s.blk.length (bytesV s.blk) (by rfl) (Row.drew HKB.out) (.slice A m c) m (bytesV (l.take m)) (by rfl) (Src.slice Tryz.underlying26 (Rd.drew HRP.out) (fun e => by have := hA e; omega) (bytesV_one _)) (by omega) (by omega) (by omega) (by have := HM1.out.le; simp; omega) ?_; intro v3 w3 hrow3 hg3 ho3; obtain ⟨A3, c3, rfl, hc3, _, _, _⟩ := hrow3.form; have HV3 := Lib.hid ((Var.drew HM1.out.var).grown hg3 (fun e => (HM1.out.a2 rb (by rw [HK.out]; exact e)).1 rfl)); have e3 := HV3.out.cell (j := 3) rfl; have g3 := HV3.out.frozen 3)
      | fail)
    all_goals
      go_wp2
      go_meet
      refine ⟨A3, c3, ?_⟩
      have hrow4 : Row w3 base 1 (.slice A3 (s.blk ++ l.take m).length c3) (s.blk ++ l.take m).length (bytesV (s.blk ++ l.take m)) := by rw [HB.out, bytesV_append]; exact hrow3
      have ho4 : (Value.slice A3 (s.blk ++ l.take m).length c3).ownBlock = V.kv.ownBlock ∨ (Value.slice A3 (s.blk ++ l.take m).length c3).ownBlock = some W.heap.size := by rw [HB.out, HK.out]; exact ho3
      have hz := HeadSt.of HLT.out HM1.out HP.out HC1.out HZ1.out HV0.out HR0.out (by rw [HK.out]; exact hg3) hrow4 ho4 (by rw [HB.out]; exact hc3)
      rw [HB.out] at hz
      exact hz
  case rest =>
  obtain ⟨A3, c3, hst⟩ := hcut
  obtain ⟨B, hB⟩ : ∃ B, B = s.blk ++ l.take m := ⟨_, rfl⟩
  rw [← hB] at hst HB
  obtain ⟨K, hK⟩ : ∃ K, K = s.blk.length - 3 := ⟨_, rfl⟩
  have HKE := Lib.hid hK
  have hbl1 : s.blk.length < B.length := by rw [HB.out]; omega
  have hbl2 : B.length ≤ 16384 := by rw [HB.out]; omega
  have hkl : K ≤ B.length := by omega
  have hkc : ¬ c3 = K := by have := hst.le; omega
  have hmax : max ((s.blk.length : Int) - 3) 0 = (K : Int) := by omega
  have hki : (K : Int) ≤ (B.length : Int) := by omega
  have hki0 : (0 : Int) ≤ (K : Int) := by omega
  obtain ⟨g3, o3, e3, _, _, _, _⟩ := Row.own hst.m.blk (by first | omega | (dsimp only; omega))
  subst e3
  have d3 := hst.m.cell (j := 3) rfl
  have HI := bIndex_any (some ⟨g3, o3 + K, none⟩) (B.length - K) (c3 - K) (B.drop K) ⟨w.heap.size + 1, 0, none⟩ 4 4 [13, 10, 13, 10] wc (Shp.shaped (Shp.chg HSH.out hst.c (fun k hk => HFB.out k hk))) (by have := hst.le; omega) (fun e => by cases e)
    (by
      obtain ⟨_, _, e, _, _, _, hr⟩ := Row.form hst.m.blk
      injection e with e _ e2
      subst e e2
      have h2 := hr.shift (k := K) (cap := c3) hkl hst.le
      rw [if_neg hkc] at h2
      simpa [Addr.add_lit, bytesV_drop] using h2) hst.r (by decide) (by decide) (by omega)
  have HHS := Lib.hid hst
  have HBE := Lib.hid hB
  clear hst hB hK
  have hneg : Lib.index (B.drop K) [13, 10, 13, 10] = -1 := by
    have h1 := (Strm.headEnd_spec (s.blk ++ l.take m)).resolve_right (fun ⟨i, h, _⟩ => by rw [HE.out] at h; cases h)
    have h2 := Strm.index_late (x := l.take m) HE0.out
    rw [h1.2.1, ← HKE.out, ← HBE.out] at h2
    have h3 := Lib.index_ge (B.drop K) Strm.crlf2
    change Lib.index (B.drop K) Strm.crlf2 = -1
    by_cases h4 : Lib.index (B.drop K) Strm.crlf2 = -1
    · exact h4
    · rw [if_neg (by simpa using h4)] at h2; omega
  have hcs : Strm.callS s l = ([], 0, { s with win := true, blk := B }, Strm.refuseP B) := by
    have e1 : 16384 - s.blk.length = m := by have := HMN.out; omega
    rw [Strm.call0 HP.out l, e1, HE.out]
    dsimp only
    rw [← HBE.out, if_neg (by have := HB.out; omega)]
  have HCS := Lib.hid hcs
  rw [hneg] at HI
  have HID := Lib.hid HI
  have hb16 : ¬ (B.length : Int) < 16384 := by have := HB.out; omega
  have hshw : ∀ q, (wc.drewN q).ShapedOpen Tryz.prog := fun q => shaped_below (Shp.shaped (Shp.chg HSH.out HHS.out.c (fun k hk => HFB.out k hk))) (below_drewN (Below.refl _ _) q)
  have HRF := Lib.hid (fun q => srefuse_any (some ⟨g3, o3, none⟩) B.length c3 B (wc.drewN q) (hshw q) HHS.out.le (fun e => by cases e) (by
    obtain ⟨_, _, e, _, _, _, hr⟩ := Row.form HHS.out.m.blk
    injection e with e _ e2
    subst e e2
    exact hr) (by omega))
  have hne := Strm.refuse_pos B
  obtain ⟨E, hE⟩ : ∃ E, E = Strm.refuseP B := ⟨_, rfl⟩
  rw [← hE] at HRF HCS hne
  have HNE := Lib.hid hne
  clear HI hneg hcs hshw hE hne
  go_wp2_with (first
    | (go_step3; (try simp only [Exit.then, Exit.inBlock, jump_goto]); refine hJG _ _ ?_)
    | (go_at_call 53; go_must (refine HID.out.mono ?_; rintro _ _ ⟨rfl, q, rfl⟩))
    | (go_at_call 54; go_must (refine (HRF.out _).mono ?_; rintro _ w5 ⟨rfl, hb5⟩))
    | fail)
  simp only [jump_ret]
  refine bodyPost_ret (results_tmp4 rfl _ _ _) rfl ?_
  rw [HCS.out]
  refine ⟨.slice none 0 0, .slice none 0 0, _, [], { V with kv := .slice (some ⟨g3, o3, none⟩) B.length c3 }, rfl, rfl, Outs.nil _ _, (HHS.out.m.below (below_drewN (Below.refl _ _) q)).below hb5, fun e => absurd e HNE.out, (HHS.out.c.drewN q).then_below hb5, fun k hk => (HHS.out.f k hk).imp id (by omega), ?_⟩
  rintro k (hk | ⟨e, he, _⟩)
  · exact (nil_own hk).elim
  · cases he
end Go.Proofs.YtklmpadcfioefaaGreatDoor
