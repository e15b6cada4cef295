/- rewrite's framed, written, hosted. Conditions: sizes, the library's variables. -/
import Derived.Test.YtklmpadcfioefaaGreatDoorROth2
import Derived.Test.YtklmpadcfioefaaGreatDoorHWrite
import Derived.Test.YtklmpadcfioefaaGreatDoorMC
namespace Go.Proofs.YtklmpadcfioefaaGreatDoor
open Go.RowKit

theorem built_pair (w : World) (a b : ByteArray) : Src Tryz.prog (w.alloc (.cells #[.string a, .string b] 89)) 50 2 (.slice (some ⟨w.heap.size, 0, none⟩) 1 1) 1 [.string a, .string b] :=
  Src.built [.string a, .string b] 89 Tryz.underlying50 rfl (by intro u hu; simp at hu; rcases hu with rfl | rfl <;> rfl)
def FramedPost (w : World) (base : Nat) (fs : List Fl) (framing length : Int) (e : Ending) (w' : World) : Prop :=
  ∃ v, e = .returned v ∧ Row w' base 2 v (fs ++ frameP framing length).length (fieldsV (fs ++ frameP framing length)) ∧ Below base w w'
set_option maxHeartbeats 2000000 in
set_option maxRecDepth 100000 in
theorem wframed_any (A : Option Addr) (n c base : Nat) (fs : List Fl) (fr ln : Int) (w : World) (ht : Tab w) (hln : isInt ln) (hrow : Row w base 2 (.slice A n c) n (fieldsV fs)) (hb : base ≤ w.heap.size) (hn : n ≤ 16777216) :
    Calls Tryz.prog 73 #[.slice A n c, .int .i64 fr, .int .i64 ln] w (FramedPost w base fs fr ln) := by
  have hlen : fs.length = n := by have := hrow.1; rw [fieldsV_len] at this; omega
  obtain ⟨f0, hf0, fz0, fz1, fz2⟩ := info_parts infoField
  have HR := Lib.hid hrow
  by_cases h1 : fr = 1
  · subst h1
    have HI := Lib.hid (itoa_any ln w hln ht)
    have HP : Hid (∀ s : ByteArray, s = ⟨(Lib.itoa ln).toArray⟩ → fs ++ frameP 1 ln = fs ++ [(sLen, s)]) := Lib.hid (fun s hs => by subst hs; rfl)
    obtain ⟨s, hs⟩ : ∃ s : ByteArray, s = ⟨(Lib.itoa ln).toArray⟩ := ⟨_, rfl⟩
    rw [← hs] at HI
    have HP2 := Lib.hid (HP.out s hs)
    clear HP hs hrow
    go_enter Tryz.func73, Tryz.ntmps73
    go_wp2_with (first
      | (go_at_call 64; go_must (refine HI.out.mono ?_; rintro _ w1 ⟨rfl, hb1⟩; have hz1 := hb1.size))
      | (at_builtin; go_must (refine wpList_app _ rfl (.tmp 10) (.tmp 14) 50 50 rfl base 89 f0 (.agg #[.string ⟨#[]⟩, .string ⟨#[]⟩]) 2 32 Tryz.underlying50 hf0 fz0 fz1 fz2 rfl (.slice A n c) n (fieldsV fs) rfl ((HR.out.below_all hb1).alloc _) _ 1 [.string ⟨#[67, 111, 110, 116, 101, 110, 116, 45, 76, 101, 110, 103, 116, 104]⟩, .string s] rfl (built_pair _ _ _) (by omega) (by omega) (by omega) (by simp; omega) ?_); intro v2 w2 hrow2 hg2 _)
      | fail)
    go_ret
    refine ⟨v2, rfl, ?_, ?_⟩
    · rw [HP2.out, fieldsV_append, List.length_append, hlen]; exact hrow2
    · exact Below.grown (((Below.refl base w).trans (hb1.mono hb)).alloc (by omega) _) hg2 (by simp; omega) (fun k hk => (HR.out.lt k hk).1)
  · by_cases h2 : fr = 2
    · subst h2
      have HP2 : Hid (fs ++ frameP 2 ln = fs ++ [(sCod, sChunked)]) := Lib.hid rfl
      clear hrow h1
      go_enter Tryz.func73, Tryz.ntmps73
      go_wp2_with (first
        | (at_builtin; go_must (refine wpList_app _ rfl (.tmp 18) (.tmp 20) 50 50 rfl base 89 f0 (.agg #[.string ⟨#[]⟩, .string ⟨#[]⟩]) 2 32 Tryz.underlying50 hf0 fz0 fz1 fz2 rfl (.slice A n c) n (fieldsV fs) rfl (HR.out.alloc _) _ 1 [.string ⟨#[84, 114, 97, 110, 115, 102, 101, 114, 45, 69, 110, 99, 111, 100, 105, 110, 103]⟩, .string ⟨#[99, 104, 117, 110, 107, 101, 100]⟩] rfl (built_pair _ _ _) (by omega) (by omega) (by omega) (by simp; omega) ?_); intro v2 w2 hrow2 hg2 _)
        | fail)
      go_ret
      refine ⟨v2, rfl, ?_, ?_⟩
      · rw [HP2.out, fieldsV_append, List.length_append, hlen]; exact hrow2
      · exact Below.grown ((Below.refl base w).alloc hb _) hg2 (by simp; omega) (fun k hk => (HR.out.lt k hk).1)
    · have HP2 : Hid (fs ++ frameP fr ln = fs) := Lib.hid (by unfold frameP; rw [if_neg h1, if_neg h2, List.append_nil])
      have q1 : (fr == 1) = false := by simpa using h1
      have q2 : (fr == 2) = false := by simpa using h2
      clear hrow
      go_enter Tryz.func73, Tryz.ntmps73
      go_wp2
      go_ret
      refine ⟨_, rfl, ?_, Below.refl _ _⟩
      rw [HP2.out, hlen]
      exact HR.out

/-- hosted -/
theorem whosted1_any (x : Nat) (W : World) : Calls Tryz.prog 115 #[.int .i32 (x : Int)] W fun e w' => e = .returned (.bool (unseen x)) ∧ ∃ q, w' = W.drewN q := by
  have HU : Hid (unseen x = (decide (x < 33) || decide (126 < x))) := Lib.hid rfl
  by_cases h : x < 33
  · have e1 : decide ((x : Int) < 33) = true := by simp; omega
    have e2 : decide (x < 33) = true := by simpa using h
    rw [e2] at HU
    go_enter Tryz.func115, Tryz.ntmps115
    go_wp2
    go_ret
    exact ⟨by rw [HU.out]; rfl, 0, rfl⟩
  · have e1 : decide ((x : Int) < 33) = false := by simp; omega
    have e2 : decide (x < 33) = false := by simpa using h
    rw [e2] at HU
    by_cases h6 : 126 < x
    · have e3 : decide ((126 : Int) < (x : Int)) = true := by simp; omega
      have e4 : decide (126 < x) = true := by simpa using h6
      rw [e4] at HU
      go_enter Tryz.func115, Tryz.ntmps115
      go_wp2
      go_ret
      exact ⟨by rw [HU.out]; rfl, 0, rfl⟩
    · have e3 : decide ((126 : Int) < (x : Int)) = false := by simp; omega
      have e4 : decide (126 < x) = false := by simpa using h6
      rw [e4] at HU
      go_enter Tryz.func115, Tryz.ntmps115
      go_wp2
      go_ret
      exact ⟨by rw [HU.out]; rfl, 0, rfl⟩
theorem whosted_any (s : ByteArray) (w : World) : Calls Tryz.prog 70 #[.string s] w fun e w' => e = .returned (.bool (hostP s.data.toList)) ∧ Below w.heap.size w w' := by
  have HH : Hid (hostP s.data.toList = (!s.data.toList.isEmpty && s.data.toList.all isSeen)) := Lib.hid rfl
  by_cases h0 : s = ⟨#[]⟩
  · subst h0
    go_enter Tryz.func70, Tryz.ntmps70
    go_wp2
    go_ret
    exact ⟨rfl, Below.refl _ _⟩
  · have b0 := toList_ne (l := []) h0
    have e0 : s.data.toList.isEmpty = false := by
      cases h : s.data.toList with
      | nil => exact absurd (byte_ext.2 h) h0
      | cons _ _ => rfl
    have b1 : s.toList.isEmpty = false := by rw [Lib.toList_data]; exact e0
    have HC := Lib.hid (Tryz.strings_ContainsFunc_runes 115 #[] (fun args w => by kernel_rfl) unseen s w (fun W x _ _ => whosted1_any x W))
    rw [contains_unseen] at HC
    rw [e0] at HH
    cases hs : s.data.toList.all isSeen
    all_goals
      rw [hs] at HC HH
      clear e0
      go_enter Tryz.func70, Tryz.ntmps70
      go_wp2_with (first
        | (go_at_call 114; go_must (refine HC.out.mono ?_; rintro _ w1 ⟨rfl, hb1⟩))
        | fail)
      go_ret
      exact ⟨by rw [HH.out]; rfl, hb1⟩

/-- written -/
def noHead : Value := headV false ⟨#[]⟩ ⟨#[]⟩ 0 ⟨#[]⟩ 0 (.slice none 0 0)
set_option maxHeartbeats 2000000 in
set_option maxRecDepth 100000 in
theorem wwritten_any (rq : Bool) (mt t : ByteArray) (st : Int) (rs : ByteArray) (mn : Int) (A : Option Addr) (n c : Nat) (fs : List Fl) (w : World) (hsh : w.ShapedOpen Tryz.prog) (htab : Tab w) (hrd : Rd w w.heap.size 2 A n (fieldsV fs))
    (hst : isInt st) (hmn : isInt mn) (hn : n ≤ 2097152) (hm : mt.size + t.size + rs.size ≤ 2097152) (hf : flSize fs ≤ 8388608) :
    Calls Tryz.prog 72 #[headV rq mt t st rs mn (.slice A n c)] w fun e w' =>
      e = .returned (.tuple #[if (writeP (hiOf rq mt t st rs mn fs)).2 = 0 then headV rq mt t st rs mn (.slice A n c) else noHead, .int .i64 ((writeP (hiOf rq mt t st rs mn fs)).2 : Nat)]) ∧ Below w.heap.size w w' := by
  have B1 : Below w.heap.size w ((w.alloc (.cells #[.bool rq, .string mt, .string t, .int .i64 st, .string rs, .int .i64 mn, .slice A n c] 52)).alloc (.cells #[.bool false, .string ⟨#[]⟩, .string ⟨#[]⟩, .int .i64 0, .string ⟨#[]⟩, .int .i64 0, .slice none 0 0] 52)) := ((Below.refl _ _).alloc (Nat.le_refl _) _).alloc (by simp) _
  have R1 := (hrd.below B1).more B1.size
  have V1 := Lib.hid ((Var.new w 52 [.bool rq, .string mt, .string t, .int .i64 st, .string rs, .int .i64 mn, .slice A n c]).alloc (.cells #[.bool false, .string ⟨#[]⟩, .string ⟨#[]⟩, .int .i64 0, .string ⟨#[]⟩, .int .i64 0, .slice none 0 0] 52))
  have z1 := heap_alloc_size w (.cells #[.bool rq, .string mt, .string t, .int .i64 st, .string rs, .int .i64 mn, .slice A n c] 52)
  have U1 := Lib.hid (Var.new (w.alloc (.cells #[.bool rq, .string mt, .string t, .int .i64 st, .string rs, .int .i64 mn, .slice A n c] 52)) 52 [.bool false, .string ⟨#[]⟩, .string ⟨#[]⟩, .int .i64 0, .string ⟨#[]⟩, .int .i64 0, .slice none 0 0])
  rw [z1] at U1
  have HB1 := Lib.hid B1
  have HW := Lib.hid (hWrite_any rq mt t st rs mn A n c fs _ (shaped_below hsh B1) (htab.below B1) R1 hst hmn hn hm hf)
  unfold WritePost headV at HW
  generalize (writeP (hiOf rq mt t st rs mn fs)).1.getD [] = X at HW
  generalize (writeP (hiOf rq mt t st rs mn fs)).2 = en at HW
  unfold noHead headV
  clear hrd B1 R1 hsh htab z1
  by_cases he : en = 0
  · subst he
    rw [if_pos rfl]
    go_enter Tryz.func72, Tryz.ntmps72
    go_wp2_with (first
      | (refine wpList_load_mid rfl 52 (.tmp 1) rfl w.heap.size 0 rfl [.bool rq, .string mt, .string t, .int .i64 st, .string rs, .int .i64 mn, .slice A n c] _ V1.out.range Tryz.underlying52 rfl (by kernel_rfl) ?_)
      | (refine wpList_load_mid rfl 52 (.tmp 1) rfl w.heap.size 0 rfl [.bool rq, .string mt, .string t, .int .i64 st, .string rs, .int .i64 mn, .slice A n c] _ V2.out.range Tryz.underlying52 rfl (by kernel_rfl) ?_)
      | (go_at_call 32; go_must (refine HW.out.mono ?_; rintro _ w2 ⟨v2, rfl, _, hb2⟩; have V2 := Lib.hid (V1.out.below_all hb2); have U2 := Lib.hid (U1.out.below_all hb2)))
      | (refine wpList_put rfl 52 (.tmp 2) (.tmp 15) rfl (w.heap.size + 1) rfl U2.out [.bool rq, .string mt, .string t, .int .i64 st, .string rs, .int .i64 mn, .slice A n c] rfl rfl (by kernel_rfl) (by simp [Value.oneCell']) ?_; intro w3 hv3 hg3 hs3)
      | fail)
    refine bodyPost_ret (results_var rfl _ _ rfl hv3 Tryz.underlying52 rfl (by kernel_rfl)) rfl ⟨rfl, ?_⟩
    have z2 := hb2.size
    have z1 := HB1.out.size
    exact Below.grown (HB1.out.trans (hb2.mono z1)) hg3 (by omega) (by intro k hk; simp at hk; omega)
  · have hen : ((en : Int) != 0) = true := by simpa using he
    rw [if_neg he]
    go_enter Tryz.func72, Tryz.ntmps72
    go_wp2_with (first
      | (refine wpList_load_mid rfl 52 (.tmp 1) rfl w.heap.size 0 rfl [.bool rq, .string mt, .string t, .int .i64 st, .string rs, .int .i64 mn, .slice A n c] _ V1.out.range Tryz.underlying52 rfl (by kernel_rfl) ?_)
      | (go_at_call 32; go_must (refine HW.out.mono ?_; rintro _ w2 ⟨v2, rfl, _, hb2⟩; have U2 := Lib.hid (U1.out.below_all hb2)))
      | (refine wpList_put rfl 52 (.tmp 2) (.tmp 13) rfl (w.heap.size + 1) rfl U2.out [.bool false, .string ⟨#[]⟩, .string ⟨#[]⟩, .int .i64 0, .string ⟨#[]⟩, .int .i64 0, .slice none 0 0] rfl rfl (by kernel_rfl) (by simp [Value.oneCell']) ?_; intro w3 hv3 hg3 hs3)
      | fail)
    refine bodyPost_ret (results_var rfl _ _ rfl hv3 Tryz.underlying52 rfl (by kernel_rfl)) rfl ⟨rfl, ?_⟩
    have z2 := hb2.size
    have z1 := HB1.out.size
    exact Below.grown (HB1.out.trans (hb2.mono z1)) hg3 (by omega) (by intro k hk; simp at hk; omega)
end Go.Proofs.YtklmpadcfioefaaGreatDoor
