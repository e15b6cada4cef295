/- the law RewriteOwn (printed by gen_rown.py). Conditions: sizes, the world's shape, the library's table. -/
import Derived.Test.YtabecgdaiakgiaaDoorWOwnL
import Derived.Test.YtabecgdaiakgiaaDoorRAwake
import Derived.Test.YtabecgdaiakgiaaDoorRHeads
import Derived.Test.YtabecgdaiakgiaaDoorRLoc3
import Derived.Test.YtabecgdaiakgiaaDoorVLent
import Derived.Deep.CutBlock
namespace Go.Proofs.YtabecgdaiakgiaaDoor
open Go.RowKit

theorem infoSl2 : (Tryd.prog.info? 32).map (fun i => (i.zero, i.size, i.bytes)) = some (some (.slice none 0 0), 1, 24) := by kernel_rfl
theorem infoFs2 : (Tryd.prog.info? 22).map (fun i => (i.zero, i.size, i.bytes)) = some (some (.slice none 0 0), 1, 24) := by kernel_rfl
theorem wstep_app2 {P : Program} {w : World} {ops : Array Oper} {o : Oper} {a : Act} {K : Act → World → Prop} {Q : Exit → Act → World → Prop} {E : Prop} (hgd : o.guard = none) (s x : Operand) (ts tx : TypeId)
    (ho : o.op = .call { callee := .builtin .append, args := #[s, x], argTypes := #[ts, tx] })
    (base : Nat) (e : TypeId) (i : TypeInfo) (z : Value) (size bytes : Nat) (ht : P.underlying ts = some (.slice e)) (hi : P.info? e = some i) (hz : i.zero = some z)
    (hsize : i.size = size) (hby : i.bytes = bytes) (hzs : z.cells.size = size)
    (v : Value) (n : Nat) (xs : List Value) (hs : a.eval s = v) (hown : Row w base size v n xs) (xv : Value) (m : Nat) (news : List Value) (hxv : a.eval x = xv) (hx : Src P w tx size xv m news)
    (hmax : n + m ≤ 140737488355328) (hbytes : (n + m) * bytes ≤ 140737488355328) (hb1 : 0 < bytes) (hbase : base ≤ w.heap.size)
    (h : ∀ v' w', Row w' base size v' (n + m) (xs ++ news) → w.grownBy w' v.ownBlock → (v'.ownBlock = v.ownBlock ∨ v'.ownBlock = some w.heap.size) → Row w' base size v n xs → K (a.put o.dst v') w') :
    if Region.wanted o (yielded ops a.tmps) = true then Oper.wp P o a w K Q else E := by
  have hw : Region.wanted o (yielded ops a.tmps) = true := by simp [Region.wanted, hgd]
  rw [if_pos hw]
  exact wp_app2 w s x ts tx ho base e i z size bytes ht hi hz hsize hby hzs v n xs hs hown xv m news hxv hx hmax hbytes hb1 hbase h
theorem put2 {xs : List Value} {r i : Nat} {a b u v : Value} (h0 : xs[r * 2]? = some a) (h1 : xs[r * 2 + 1]? = some b) (hi : i < r + 1) (hx : i < r → xs[i * 2]? = some u ∧ xs[i * 2 + 1]? = some v) :
    ((xs.set (r * 2) u).set (r * 2 + 1) v)[i * 2]? = some u ∧ ((xs.set (r * 2) u).set (r * 2 + 1) v)[i * 2 + 1]? = some v := by
  have l0 := (List.getElem?_eq_some_iff.1 h0).1
  have l1 := (List.getElem?_eq_some_iff.1 h1).1
  by_cases hir : i = r
  · subst hir
    exact ⟨by rw [List.getElem?_set_ne (by omega), List.getElem?_set_self l0], by rw [List.getElem?_set_self (by rw [List.length_set]; exact l1)]⟩
  · obtain ⟨a1, a2⟩ := hx (by omega)
    exact ⟨by rw [List.getElem?_set_ne (by omega), List.getElem?_set_ne (by omega)]; exact a1, by rw [List.getElem?_set_ne (by omega), List.getElem?_set_ne (by omega)]; exact a2⟩
theorem reply_few (cl : Bool) : ((replyP 404 cl).1 ++ (replyP 404 cl).2).length ≤ 4194304 ∧ (replyP 404 cl).1.length ≤ 4194304 := by
  have := reply_small 404 cl
  rw [List.length_append]
  omega
theorem St2.putF {w wr : World} {sl na nl Ba Bl : Nat} {la ll : List El} {va vl : Value} (h : St2 w wr 2 sl na nl Ba Bl la ll va vl) {j : Nat} {e : El} (hj : la[j]? = some e) {g o c : Nat} (he : e.v = .slice (some ⟨g, o, none⟩) e.n c) {r : Nat} (hr : r < e.n) (u1 u2 : Value) :
    St2 w ((wr.setCell ⟨g, o + r * 2, none⟩ u1).setCell ⟨g, o + r * 2 + 1, none⟩ u2) 2 sl na nl Ba Bl (la.set j { e with xs := (e.xs.set (r * 2) u1).set (r * 2 + 1) u2 }) ll va vl := by
  have hrow := h.two.fa.row e (List.mem_of_getElem? hj)
  have hl := hrow.1
  rw [he] at hrow
  have hs := hrow.set (j := r * 2) (u := u1) (by omega)
  have hs2 := hs.set (j := r * 2 + 1) (u := u2) (by rw [List.length_set]; omega)
  refine h.setA hj ?_ (by rw [he]; exact hs2)
  rw [he]
  exact ((show Chg (fun k => (Value.slice (some ⟨g, o, none⟩) e.n c).ownBlock = some k) wr wr from Chg.refl _ _).setCell (p := ⟨g, o + r * 2, none⟩) (fun _ => rfl) u1).setCell (p := ⟨g, o + (r * 2 + 1), none⟩) (fun _ => rfl) u2
theorem St2.putB {w wr : World} {sa na nl Ba Bl : Nat} {la ll : List El} {va vl : Value} (h : St2 w wr sa 1 na nl Ba Bl la ll va vl) {j : Nat} {e : El} (hj : ll[j]? = some e) {g o c : Nat} (he : e.v = .slice (some ⟨g, o, none⟩) e.n c) {r : Nat} (hr : r < e.n) (u : Value) :
    St2 w (wr.setCell ⟨g, o + r, none⟩ u) sa 1 na nl Ba Bl la (ll.set j { e with xs := e.xs.set r u }) va vl := by
  have hrow := h.two.fl.row e (List.mem_of_getElem? hj)
  have hl := hrow.1
  rw [he] at hrow
  have hs := hrow.set (j := r) (u := u) (by omega)
  refine h.setL hj ?_ (by rw [he]; exact hs)
  rw [he]
  exact (show Chg (fun k => (Value.slice (some ⟨g, o, none⟩) e.n c).ownBlock = some k) wr wr from Chg.refl _ _).setCell (p := ⟨g, o + r, none⟩) (fun _ => rfl) u
theorem St2.cast {w wr : World} {sa sl na na' nl nl' Ba Bl : Nat} {la ll : List El} {va vl : Value} (h : St2 w wr sa sl na nl Ba Bl la ll va vl) (e1 : na = na') (e2 : nl = nl') : St2 w wr sa sl na' nl' Ba Bl la ll va vl := by subst e1 e2; exact h
theorem set_six {l : List El} {j : Nat} {f ea : El} (h : l[6]? = some ea) (hj : j < 6) : (l.set j f)[6]? = some ea := by rw [List.getElem?_set_ne (by omega)]; exact h
theorem cellOn2 {w w' : World} (h : Below w.heap.size w w') {p : Addr} {v : Value} (hc : w.cell? p = some v) : w'.cell? p = some v := by
  by_cases hp : p.block < w.heap.size
  · rw [h.cell hp]; exact hc
  · have hn : w.heap[p.block]? = none := Array.getElem?_eq_none (by omega)
    simp [World.cell?, hn] at hc
set_option maxHeartbeats 8000000 in
set_option maxRecDepth 100000 in
theorem rown_any (p1 p2 : AskP) (w : World) (hsh : w.ShapedOpen Tryd.prog) (ht : Tab w) (ha1 : AskOk w p1) (ha2 : AskOk w p2) :
    Calls Tryd.prog 11 #[.agg #[.bool p1.rq, .string p1.mt, .string p1.t, .int .i64 p1.st, .string p1.rs, .int .i64 p1.mn, .slice p1.A p1.n p1.c, .int .i64 p1.fr, .int .i64 p1.ln, .string p1.host, .bool p1.cl, .int .i64 p1.mi], .agg #[.bool p2.rq, .string p2.mt, .string p2.t, .int .i64 p2.st, .string p2.rs, .int .i64 p2.mn, .slice p2.A p2.n p2.c, .int .i64 p2.fr, .int .i64 p2.ln, .string p2.host, .bool p2.cl, .int .i64 p2.mi]] w fun e w' => e = .returned (.bool true) ∧ Below w.heap.size w w' := by
  obtain ⟨j0, hj0, jz0, jz1, jz2⟩ := info_parts infoSl2
  obtain ⟨g0, hg0, gz0, gz1, gz2⟩ := info_parts infoFs2
  obtain ⟨i0, hi0, iz0, iz1, iz2⟩ := info_parts infoByte
  obtain ⟨f0', hf0, fz0, fz1, fz2⟩ := info_parts infoField
  have HS := Lib.hid hsh
  have HT := Lib.hid ht
  have B1 : Below w.heap.size w ((w.alloc (.cells #[.bool p1.rq, .string p1.mt, .string p1.t, .int .i64 p1.st, .string p1.rs, .int .i64 p1.mn, .slice p1.A p1.n p1.c, .int .i64 p1.fr, .int .i64 p1.ln, .string p1.host, .bool p1.cl, .int .i64 p1.mi] 74)).alloc (.cells #[.bool p2.rq, .string p2.mt, .string p2.t, .int .i64 p2.st, .string p2.rs, .int .i64 p2.mn, .slice p2.A p2.n p2.c, .int .i64 p2.fr, .int .i64 p2.ln, .string p2.host, .bool p2.cl, .int .i64 p2.mi] 74)) := ((Below.refl _ _).alloc (Nat.le_refl _) _).alloc (by simp) _
  have HB0 := Lib.hid B1
  have V1 := Lib.hid ((Var.new w 74 [.bool p1.rq, .string p1.mt, .string p1.t, .int .i64 p1.st, .string p1.rs, .int .i64 p1.mn, .slice p1.A p1.n p1.c, .int .i64 p1.fr, .int .i64 p1.ln, .string p1.host, .bool p1.cl, .int .i64 p1.mi]).alloc (.cells #[.bool p2.rq, .string p2.mt, .string p2.t, .int .i64 p2.st, .string p2.rs, .int .i64 p2.mn, .slice p2.A p2.n p2.c, .int .i64 p2.fr, .int .i64 p2.ln, .string p2.host, .bool p2.cl, .int .i64 p2.mi] 74))
  have V2 := Lib.hid (Var.new (w.alloc (.cells #[.bool p1.rq, .string p1.mt, .string p1.t, .int .i64 p1.st, .string p1.rs, .int .i64 p1.mn, .slice p1.A p1.n p1.c, .int .i64 p1.fr, .int .i64 p1.ln, .string p1.host, .bool p1.cl, .int .i64 p1.mi] 74)) 74 [.bool p2.rq, .string p2.mt, .string p2.t, .int .i64 p2.st, .string p2.rs, .int .i64 p2.mn, .slice p2.A p2.n p2.c, .int .i64 p2.fr, .int .i64 p2.ln, .string p2.host, .bool p2.cl, .int .i64 p2.mi])
  rw [heap_alloc_size] at V2
  have HA1 := Lib.hid (ha1.below B1)
  have HA2 := Lib.hid (ha2.below B1)
  have HAW := Lib.hid (vawake_any _ (shaped_below hsh B1) (ht.below B1))
  clear hsh ht ha1 ha2 B1
  go_enter Tryd.func11, Tryd.ntmps11
  go_upto_region 3 with (first
    | (go_at_call 45; go_must (refine HAW.out.mono ?_; rintro _ w2 ⟨rfl, hb1⟩))
    | fail)
  have HB1 := Lib.hid hb1
  have HBW := Lib.hid (HB0.out.trans (hb1.mono HB0.out.size))
  have U1 := Lib.hid (Var.below_all V1.out hb1)
  have U2 := Lib.hid (Var.below_all V2.out hb1)
  have HK1 := Lib.hid (HA1.out.below hb1)
  have HK2 := Lib.hid (HA2.out.below hb1)
  have HS2 := Lib.hid (shaped_below HS.out HBW.out)
  have HT2 := Lib.hid (HT.out.below HBW.out)
  have hbz1 := U1.out.lt
  have hbz2 := U2.out.lt
  clear hb1 HAW V1 V2 HA1 HA2 HB0 HB1 HS HT
  go_upto_block 0 with (fail)
  go_cut [5, 6] from 7 to 79 (fun va vl wx => ∃ la ll, St2 w2 wx 2 1 6 6 4194304 4194304 la ll va vl ∧ la.length = 6 ∧ ll.length = 6)
  case first => as_aux_lemma =>
    go_wp2
    go_loopw [5, 6, 7] (fun va vl i wr => ∃ (k : Nat) (la ll : List El), k ≤ 3 ∧ i = .int .i64 k ∧ la.length = 2 * k ∧ ll.length = 2 * k ∧ St2 w2 wr 2 1 la.length ll.length 4194304 4194304 la ll va vl) (fun _ _ i _ => 3 - (intOf i).toNat)
    case atStart => exact ⟨0, [], [], by omega, rfl, rfl, rfl, ⟨Two2.nil _ _ _ _, Nat.le_refl _, Nat.le_refl _, (by intro e he; cases he), (by intro e he; cases he), Below.refl _ _⟩⟩
    case round =>
    obtain ⟨k, la, ll, hk, rfl, hna, hnl, hst⟩ := hrel
    have HST := Lib.hid hst
    obtain ⟨Av, cv, rfl, _, _, _, _⟩ := hst.two.ca.form
    obtain ⟨Al, cl, rfl, _, _, _, _⟩ := hst.two.cl.form
    have hN12 : la.length ≤ 6 := by omega
    have hM9 : ll.length ≤ 6 := by omega
    have HNA := Lib.hid (And.intro hna hnl)
    have R1 := Lib.hid (Var.below_all U1.out hst.bl)
    have R2 := Lib.hid (Var.below_all U2.out hst.bl)
    clear hst hna hnl
    by_cases hlt : k < 3
    · have hk3 : (k : Int) < 3 := by omega
      go_upto_if 35 with (first
        | (refine wpList_load_mid rfl 74 (.tmp 2) rfl w.heap.size 0 rfl [.bool p1.rq, .string p1.mt, .string p1.t, .int .i64 p1.st, .string p1.rs, .int .i64 p1.mn, .slice p1.A p1.n p1.c, .int .i64 p1.fr, .int .i64 p1.ln, .string p1.host, .bool p1.cl, .int .i64 p1.mi] _ R1.out.range Tryd.underlying74 rfl (by kernel_rfl) ?_)
        | fail)
      go_cut [] from 34 to 36 (fun wx => ∃ p : AskP, AskOk w2 p ∧ wr.alloc (.cells #[.bool p.rq, .string p.mt, .string p.t, .int .i64 p.st, .string p.rs, .int .i64 p.mn, .slice p.A p.n p.c, .int .i64 p.fr, .int .i64 p.ln, .string p.host, .bool p.cl, .int .i64 p.mi] 74) = wx)
      case first =>
        by_cases h1 : k = 1
        · have q1 : ((k : Int) == 1) = true := by rw [h1]; rfl
          clear h1
          go_wp2_with (first
            | (refine wpList_load_mid rfl 74 (.tmp 3) rfl (w.heap.size + 1) 0 rfl [.bool p2.rq, .string p2.mt, .string p2.t, .int .i64 p2.st, .string p2.rs, .int .i64 p2.mn, .slice p2.A p2.n p2.c, .int .i64 p2.fr, .int .i64 p2.ln, .string p2.host, .bool p2.cl, .int .i64 p2.mi] _ (R2.out.alloc _).range Tryd.underlying74 rfl (by kernel_rfl) ?_)
            | fail)
          go_meet
          exact ⟨p2, HK2.out, rfl⟩
        · have q1 : ((k : Int) == 1) = false := by rw [beq_eq_false_iff_ne]; omega
          clear h1
          go_wp2
          go_meet
          exact ⟨p1, HK1.out, rfl⟩
      case rest =>
      obtain ⟨p, hok, rfl⟩ := hcut
      have HB0 : Hid (Below wr.heap.size wr (wr.alloc (.cells #[.bool p.rq, .string p.mt, .string p.t, .int .i64 p.st, .string p.rs, .int .i64 p.mn, .slice p.A p.n p.c, .int .i64 p.fr, .int .i64 p.ln, .string p.host, .bool p.cl, .int .i64 p.mi] 74))) := Lib.hid ((Below.refl _ _).alloc (Nat.le_refl _) _)
      have hokr := hok.below HST.out.bl
      have HOK := Lib.hid hokr
      have HSr := Lib.hid (shaped_below HS2.out HST.out.bl)
      have HTr := Lib.hid (HT2.out.below HST.out.bl)
      have VP := Lib.hid (Var.new wr 74 [.bool p.rq, .string p.mt, .string p.t, .int .i64 p.st, .string p.rs, .int .i64 p.mn, .slice p.A p.n p.c, .int .i64 p.fr, .int .i64 p.ln, .string p.host, .bool p.cl, .int .i64 p.mi])
      have HQ1 := Lib.hid (fun W (hB : Below wr.heap.size wr W) => wRequest_any p.rq p.mt p.t p.st p.rs p.mn p.A p.n p.c p.fs p.fr p.ln p.host W (shaped_below HSr.out hB) (HTr.out.below hB) HOK.out.nA (HOK.out.below hB).rd hokr.ln hokr.n hokr.m hokr.fz hokr.hs hokr.fs hokr.vs)
      have HQ2 := Lib.hid (fun W (hB : Below wr.heap.size wr W) => wResponse_any p.rq p.mt p.t p.st p.rs p.mn p.A p.n p.c p.fs p.fr p.ln p.cl p.mi W (shaped_below HSr.out hB) (HTr.out.below hB) HOK.out.nA (HOK.out.below hB).rd hokr.st hokr.ln hokr.n hokr.m hokr.fz hokr.fs hokr.vs)
      have HQ3 := Lib.hid (fun W (hB : Below w2.heap.size w2 W) => wLocal_any 404 p.cl W (shaped_below HS2.out hB) (HT2.out.below hB) (by unfold isInt; omega))
      have HQ4 := Lib.hid (fun W (hB : Below w2.heap.size w2 W) => wBare_any 404 p.cl W (shaped_below HS2.out hB) (HT2.out.below hB) (by unfold isInt; omega))
      have hq5 := reqP_few ⟨p.rq, p.mt, p.t, p.st, p.rs, p.mn, p.fs⟩ p.fr p.ln p.host
      have hq6 := rspP_few ⟨p.rq, p.mt, p.t, p.st, p.rs, p.mn, p.fs⟩ p.fr p.ln p.cl p.mi
      have hq7 := reply_few p.cl
      obtain ⟨⟨K1, e1⟩, hK1⟩ : ∃ K, K = reqP ⟨p.rq, p.mt, p.t, p.st, p.rs, p.mn, p.fs⟩ p.fr p.ln p.host := ⟨_, rfl⟩
      obtain ⟨⟨⟨K2, e2⟩, x2⟩, hK2⟩ : ∃ K, K = rspP ⟨p.rq, p.mt, p.t, p.st, p.rs, p.mn, p.fs⟩ p.fr p.ln p.cl p.mi := ⟨_, rfl⟩
      obtain ⟨⟨L1, L2⟩, hL⟩ : ∃ L, L = replyP 404 p.cl := ⟨_, rfl⟩
      rw [← hK1] at HQ1 hq5
      rw [← hK2] at HQ2 hq6
      rw [← hL] at HQ3 HQ4 hq7
      unfold HeadPost hbV headV at HQ1
      unfold RspPost hbV headV at HQ2
      dsimp only at HQ1 HQ2 HQ3 HQ4 hq5 hq6 hq7
      obtain ⟨L, hLL⟩ : ∃ L, L = L1 ++ L2 := ⟨_, rfl⟩
      rw [← hLL] at HQ3 hq7
      have H5 := Lib.hid hq5
      have H6 := Lib.hid hq6
      have H7 := Lib.hid hq7
      have hca0 := HST.out.two.ca
      rw [List.take_length] at hca0
      have HCA := Lib.hid hca0
      clear hca0
      have hzw := HST.out.bl.size
      clear hok hokr hK1 hK2 hL hLL hq5 hq6 hq7
      go_upto_region 12 with (first
        | (go_at_call 46; go_must (refine (HQ1.out _ HB0.out).mono ?_; rintro _ w3 ⟨v3, rfl, hrow3, hb3⟩; obtain ⟨A3, c3, rfl, _, _, _, _⟩ := hrow3.form))
        | fail)
      have W3 := Lib.hid (Var.below_all VP.out hb3)
      have HB3 := Lib.hid (HB0.out.trans (hb3.mono HB0.out.size))
      have HR3 := Lib.hid hrow3
      have u0 := W3.out.cell (j := 0) rfl
      have u1 := W3.out.cell (j := 1) rfl
      have u2 := W3.out.cell (j := 2) rfl
      have u3 := W3.out.cell (j := 3) rfl
      have u4 := W3.out.cell (j := 4) rfl
      have u5 := W3.out.cell (j := 5) rfl
      have u6 := W3.out.cell (j := 6) rfl
      have u7 := W3.out.cell (j := 7) rfl
      have u8 := W3.out.cell (j := 8) rfl
      have u10 := W3.out.cell (j := 10) rfl
      have u11 := W3.out.cell (j := 11) rfl
      have hz3 := W3.out.lt
      have K3 := Lib.hid (Var.new w3 24 [.bool K1.rq, .string K1.m, .string K1.t, .int .i64 K1.st, .string K1.rs, .int .i64 K1.mn, .slice A3 K1.fs.length c3])
      clear hrow3 hb3
      go_upto_region 13 with (first
        | (go_at_call 48; go_must (refine (HQ2.out _ (HB3.out.alloc HB3.out.size _)).mono ?_; rintro _ w5 ⟨v5, rfl, hrow5, hb5⟩; obtain ⟨A5, c5, rfl, _, _, _, _⟩ := hrow5.form))
        | fail)
      clear u0 u1 u2 u3 u4 u5 u6 u7 u8 u10 u11
      have hz5 : w3.heap.size + 1 ≤ w5.heap.size := by have := hb5.size; rw [heap_alloc_size] at this; exact this
      have hb35 : Below w3.heap.size w3 w5 := ((Below.refl _ _).alloc (Nat.le_refl _) _).trans (hb5.mono (by rw [heap_alloc_size]; omega))
      have HB35 := Lib.hid hb35
      have K5 := Lib.hid (Var.below_all K3.out hb5)
      have W5 := Lib.hid (Var.below_all W3.out hb35)
      have HB5 := Lib.hid (HB3.out.trans (hb35.mono HB3.out.size))
      have HR5 := Lib.hid hrow5
      have z6 := K5.out.cell (j := 6) rfl
      have hz35 := K5.out.lt
      have hbX : Below w5.heap.size w5 ((w5.alloc (.cells #[.bool K2.rq, .string K2.m, .string K2.t, .int .i64 K2.st, .string K2.rs, .int .i64 K2.mn, .slice A5 K2.fs.length c5] 24)).alloc (.cells #[(.slice A3 K1.fs.length c3), (.slice A5 K2.fs.length c5)] 22)) := ((Below.refl _ _).alloc (Nat.le_refl _) _).alloc (by rw [heap_alloc_size]; omega) _
      have HBX := Lib.hid hbX
      have hsrc : Src Tryd.prog ((w5.alloc (.cells #[.bool K2.rq, .string K2.m, .string K2.t, .int .i64 K2.st, .string K2.rs, .int .i64 K2.mn, .slice A5 K2.fs.length c5] 24)).alloc (.cells #[(.slice A3 K1.fs.length c3), (.slice A5 K2.fs.length c5)] 22)) 35 1 (.slice (some ⟨(w5.alloc (.cells #[.bool K2.rq, .string K2.m, .string K2.t, .int .i64 K2.st, .string K2.rs, .int .i64 K2.mn, .slice A5 K2.fs.length c5] 24)).heap.size, 0, none⟩) 2 2) 2 [(.slice A3 K1.fs.length c3), (.slice A5 K2.fs.length c5)] :=
        Src.built [(.slice A3 K1.fs.length c3), (.slice A5 K2.fs.length c5)] 22 Tryd.underlying35 rfl (by intro u hu; simp only [List.mem_cons, List.not_mem_nil, or_false] at hu; rcases hu with rfl | rfl <;> rfl)
      rw [heap_alloc_size] at hsrc
      have HSRC := Lib.hid hsrc
      clear hsrc
      have HXr := Lib.hid (HB5.out.trans (hbX.mono HB5.out.size))
      clear hrow5 hb5 hb35 hbX
      go_upto_region 14 with (first
        | (at_builtin; go_must (refine wpList_app _ rfl (.tmp 64) (.tmp 69) 35 35 rfl w2.heap.size 22 g0 (.slice none 0 0) 1 24 Tryd.underlying35 hg0 gz0 gz1 gz2 rfl (.slice Av la.length cv) la.length (la.map (·.v)) rfl (HCA.out.below_all HXr.out) _ 2 [(.slice A3 K1.fs.length c3), (.slice A5 K2.fs.length c5)] rfl HSRC.out (by omega) (by omega) (by omega) (by simp; omega) ?_); intro v6 w6 hrow6 hg6 ho6)
        | fail)
      have hr3 : Row w3 wr.heap.size 2 (.slice A3 K1.fs.length c3) K1.fs.length (fieldsV K1.fs) := HR3.out.mono (by rw [heap_alloc_size]; omega)
      have hr5 : Row w5 w3.heap.size 2 (.slice A5 K2.fs.length c5) K2.fs.length (fieldsV K2.fs) := HR5.out.mono (by rw [heap_alloc_size]; omega)
      have hs6 := HST.out.moreA HXr.out ((hr3.below_all HB35.out).below_all HBX.out) (hr5.below_all HBX.out) HB3.out.size (fun q hq => (hr3.lt q hq).2) (by have := H5.out; omega) (by have := H6.out; omega) hg6 hrow6 ho6
      have W6 := Lib.hid ((W5.out.alloc _).alloc _ |>.grown hg6 (fun e => by have := (HCA.out.lt _ e).2; omega))
      obtain ⟨A6, c6, rfl, _, _, _, _⟩ := hrow6.form
      have HS6 := Lib.hid hs6
      have hb6 := hs6.bl.size
      have hz6 := hg6.size
      have u10 := W6.out.cell (j := 10) rfl
      obtain ⟨la3, hla3⟩ : ∃ l, l = la ++ [(⟨(.slice A3 K1.fs.length c3), K1.fs.length, fieldsV K1.fs⟩ : El), ⟨(.slice A5 K2.fs.length c5), K2.fs.length, fieldsV K2.fs⟩] := ⟨_, rfl⟩
      have HN3 : Hid (la3.length = la.length + 2) := Lib.hid (by rw [hla3, List.length_append]; rfl)
      rw [← hla3] at HS6
      clear z6 hr3 hr5 hs6 hrow6 hg6 ho6 hla3 K3 K5 W3 W5 HQ1 HQ2 HR3 HR5 HB3 HB35 HB5 HBX HXr
      refine wp_region_held_drew (S := (fun w' => w'.cell? ⟨wr.heap.size, 10, none⟩ = some (.bool p.cl))) (by as_aux_lemma => kernel_rfl) ?_ (fun hHeld => ?_)
      · exact u10
      clear hHeld u10
      have HS6D := Lib.hid (HS6.out.below (Below.refl _ _).drew)
      have W6D := Lib.hid (Var.below_all W6.out (Below.refl _ _).drew)
      generalize hwd : World.drew _ = wd at HS6D W6D ⊢
      clear hwd HS6 W6
      have hHeld := W6D.out.cell (j := 10) rfl
      have hwz := HS6D.out.bl.size
      have hcl0 := HS6D.out.two.cl
      rw [List.take_length] at hcl0
      have HCL := Lib.hid hcl0
      clear hcl0
      refine wpAnyH_take (i := 0) (v := ?_) (by simp only [List.getElem?_toArray, List.getElem?_cons_zero]; exact rfl) (by as_aux_lemma => kernel_rfl) (by as_aux_lemma => kernel_rfl) (by as_aux_lemma => kernel_rfl) (by exact fun _ _ _ h => h) (Or.inl ⟨by rfl, ?_⟩) (by assumption) ?_
      rotate_left
      · intro w hSw
        (try dsimp only at hSw)
        go_simp
        try with_reducible rfl
      (try simp only [Act.put, List.setIfInBounds_toArray, List.set_cons_zero, List.set_cons_succ])
      refine wpAnyH_take (i := 1) (v := ?_) (by simp only [List.getElem?_toArray, List.getElem?_cons_succ, List.getElem?_cons_zero]; exact rfl) (by as_aux_lemma => kernel_rfl) (by as_aux_lemma => kernel_rfl) (by as_aux_lemma => kernel_rfl) (by exact fun _ _ _ h => h) (Or.inl ⟨by rfl, ?_⟩) (by assumption) ?_
      rotate_left
      · intro w hSw
        (try dsimp only at hSw)
        go_simp
        try with_reducible rfl
      (try simp only [Act.put, List.setIfInBounds_toArray, List.set_cons_zero, List.set_cons_succ])
      refine wpAnyH_take (i := 2) (v := ?_) (by simp only [List.getElem?_toArray, List.getElem?_cons_succ, List.getElem?_cons_zero]; exact rfl) (by as_aux_lemma => kernel_rfl) (by as_aux_lemma => kernel_rfl) (by as_aux_lemma => kernel_rfl) (by exact fun _ _ _ h => h) (Or.inl ⟨by rfl, ?_⟩) (by assumption) ?_
      rotate_left
      · intro w hSw
        (try dsimp only at hSw)
        go_simp
        try with_reducible rfl
      (try simp only [Act.put, List.setIfInBounds_toArray, List.set_cons_zero, List.set_cons_succ])
      refine wpAnyH_take (i := 4) (v := ?_) (by simp only [List.getElem?_toArray, List.getElem?_cons_succ, List.getElem?_cons_zero]; exact rfl) (by as_aux_lemma => kernel_rfl) (by as_aux_lemma => kernel_rfl) (by as_aux_lemma => kernel_rfl) (by exact fun _ _ _ h => h) (Or.inl ⟨by rfl, ?_⟩) (by assumption) ?_
      rotate_left
      · intro w hSw
        (try dsimp only at hSw)
        go_simp
        try with_reducible rfl
      (try simp only [Act.put, List.setIfInBounds_toArray, List.set_cons_zero, List.set_cons_succ])
      refine wpAnyH_take (i := 5) (v := ?_) (by simp only [List.getElem?_toArray, List.getElem?_cons_succ, List.getElem?_cons_zero]; exact rfl) (by as_aux_lemma => kernel_rfl) (by as_aux_lemma => kernel_rfl) (by as_aux_lemma => kernel_rfl) (by exact fun _ _ _ h => h) (Or.inl ⟨by rfl, ?_⟩) (by assumption) ?_
      rotate_left
      · intro w hSw
        (try dsimp only at hSw)
        go_simp
        try with_reducible rfl
      (try simp only [Act.put, List.setIfInBounds_toArray, List.set_cons_zero, List.set_cons_succ])
      refine wpAnyH_ready (rs := [3]) (by as_aux_lemma => kernel_rfl) (by simp) ?_
      refine AllReadyH.cons (by simp only [List.getElem?_toArray, List.getElem?_cons_succ, List.getElem?_cons_zero]; exact rfl) (fun K hK => ?_) AllReadyH.nil
      go_simp
      (go_at_call 43; refine (HQ3.out _ HS6D.out.bl).mono ?_; rintro _ w7 ⟨v7, rfl, hrow7, hb7⟩)
      obtain ⟨A7, c7, rfl, _, _, _, _⟩ := Row.form hrow7
      have HB7 := Lib.hid hb7
      have HR7 := Lib.hid hrow7
      have W7 := Lib.hid (Var.below_all W6D.out hb7)
      have hz7 := hb7.size
      clear hrow7 hb7
      refine hK.out _ _ ?_ (fun hHeld => ?_)
      · (try dsimp only)
        exact W7.out.cell (j := 10) rfl
      clear hK K
      (try simp only [Act.put, List.setIfInBounds_toArray, List.set_cons_zero, List.set_cons_succ])
      refine wpAnyH_ready (rs := [6]) (by as_aux_lemma => kernel_rfl) (by simp) ?_
      refine AllReadyH.cons (by simp only [List.getElem?_toArray, List.getElem?_cons_succ, List.getElem?_cons_zero]; exact rfl) (fun K hK => ?_) AllReadyH.nil
      go_simp
      (go_at_call 44; refine (HQ4.out _ (HS6D.out.bl.trans (HB7.out.mono hwz))).mono ?_; rintro _ w8 ⟨v8, rfl, hrow8, hb8⟩)
      obtain ⟨A8, c8, rfl, _, _, _, _⟩ := Row.form hrow8
      have HB8 := Lib.hid hb8
      have HR8 := Lib.hid hrow8
      have W8 := Lib.hid (Var.below_all W7.out hb8)
      have hz8 := hb8.size
      clear hrow8 hb8
      refine hK.out _ _ ?_ (fun hHeld => ?_)
      · (try dsimp only)
        exact W8.out.cell (j := 10) rfl
      clear hK K
      (try simp only [Act.put, List.setIfInBounds_toArray, List.set_cons_zero, List.set_cons_succ])
      refine wpAnyH_ready (rs := [7]) (by as_aux_lemma => kernel_rfl) (by simp) ?_
      refine AllReadyH.cons (by simp only [List.getElem?_toArray, List.getElem?_cons_succ, List.getElem?_cons_zero]; exact rfl) (fun K hK => ?_) AllReadyH.nil
      go_simp
      refine hK.out _ _ ?_ (fun hHeld => ?_)
      · (try dsimp only)
        exact (W8.out.alloc _).cell (j := 10) rfl
      clear hK K
      (try simp only [Act.put, List.setIfInBounds_toArray, List.set_cons_zero, List.set_cons_succ])
      have hbY : Below wd.heap.size wd (w8.alloc (.cells #[.slice A7 L.length c7, .slice A8 L1.length c8] 32)) := (HB7.out.trans (HB8.out.mono hz7)).alloc (by omega) _
      have HBY := Lib.hid hbY
      clear hbY
      refine wpAnyH_ready (rs := [8]) (by as_aux_lemma => kernel_rfl) (by simp) ?_
      refine AllReadyH.cons (by simp only [List.getElem?_toArray, List.getElem?_cons_succ, List.getElem?_cons_zero]; exact rfl) (fun K hK => ?_) AllReadyH.nil
      (refine step_app _ (by rfl) (.tmp 71) (.tmp 78) 34 34 (by rfl) w2.heap.size 32 j0 (.slice none 0 0) 1 24 Tryd.underlying34 hj0 jz0 jz1 jz2 rfl (.slice Al ll.length cl) ll.length (ll.map (·.v)) (by rfl) (HCL.out.below_all HBY.out) _ 2 [.slice A7 L.length c7, .slice A8 L1.length c8] (by rfl) (Src.built [.slice A7 L.length c7, .slice A8 L1.length c8] 32 Tryd.underlying34 rfl (by intro u hu; simp only [List.mem_cons, List.not_mem_nil, or_false] at hu; rcases hu with rfl | rfl <;> rfl)) (by omega) (by omega) (by omega) (by simp; omega) ?_; intro v9 w9 hrow9 hg9 ho9)
      have hs9 := HS6D.out.moreL HBY.out ((Row.below_all HR7.out HB8.out).alloc _) (Row.alloc HR8.out _) hz7 (fun q hq => (Row.lt HR7.out q hq).2) H7.out.1 H7.out.2 hg9 hrow9 ho9
      have W9 := Lib.hid ((W8.out.alloc _).grown hg9 (fun e => by have := (HST.out.two.cl.lt _ e).2; omega))
      obtain ⟨A9, c9, rfl, _, _, _, _⟩ := hrow9.form
      have HS9 := Lib.hid hs9
      clear hs9 hrow9 hg9 ho9
      refine hK.out _ _ ?_ (fun hHeld => ?_)
      · (try dsimp only)
        exact W9.out.cell (j := 10) rfl
      clear hK K
      refine wpAnyH_take (i := 9) (v := ?_) (by simp only [List.getElem?_toArray, List.getElem?_cons_succ, List.getElem?_cons_zero]; exact rfl) (by as_aux_lemma => kernel_rfl) (by as_aux_lemma => kernel_rfl) (by as_aux_lemma => kernel_rfl) (by exact fun _ _ _ h => h) (Or.inl ⟨by rfl, ?_⟩) (by assumption) ?_
      rotate_left
      · intro w hSw
        (try dsimp only at hSw)
        go_simp
        try with_reducible rfl
      (try simp only [Act.put, List.setIfInBounds_toArray, List.set_cons_zero, List.set_cons_succ])
      refine wpAnyH_done (by as_aux_lemma => kernel_rfl) ?_ _
      go_wp2
      go_roundw
      case rel =>
        obtain ⟨e1, e2⟩ := HNA.out
        refine ⟨k + 1, _, _, by omega, by go_num, by rw [HN3.out]; omega, ?_, HS9.out⟩
        rw [List.length_append]
        simp only [List.length_cons, List.length_nil]
        omega
      case measure => simp [intOf]; omega
    · have hk3 : k = 3 := by omega
      subst hk3
      go_wp2
      go_meet
      obtain ⟨e1, e2⟩ := HNA.out
      have h6 : la.length = 6 := by omega
      have h7 : ll.length = 6 := by omega
      exact ⟨la, ll, HST.out.cast h6 h7, h6, h7⟩
  case rest =>
  obtain ⟨la, ll, hst, h6, h7⟩ := hcut
  obtain ⟨w3, rfl⟩ : ∃ w3 : World, w3 = wc := ⟨_, rfl⟩
  obtain ⟨gc, oc, cv, rfl⟩ := hst.ptrA (by omega)
  obtain ⟨gl, ol, cl, rfl⟩ := hst.ptrL (by omega)
  have HST := Lib.hid hst
  have X1 := Lib.hid (Var.below_all U1.out hst.bl)
  have HO1 := HK1.out.below hst.bl
  have HRD := Lib.hid HO1.rd
  have HNA := Lib.hid HO1.nA
  have hn1 := HO1.n
  have HL := Lib.hid (vlent_any p1.rq p1.mt p1.t p1.st p1.rs p1.mn p1.A p1.n p1.c p1.fs w3 (fun e => (HO1.nA e).1) HO1.rd (by omega))
  unfold headV at HL
  have u0 := X1.out.cell (j := 0) rfl
  have u1 := X1.out.cell (j := 1) rfl
  have u2 := X1.out.cell (j := 2) rfl
  have u3 := X1.out.cell (j := 3) rfl
  have u4 := X1.out.cell (j := 4) rfl
  have u5 := X1.out.cell (j := 5) rfl
  have u6 := X1.out.cell (j := 6) rfl
  have HH6 := Lib.hid h6
  have HH7 := Lib.hid h7
  clear hst HO1 h6 h7
  go_upto_block 2 with (first
    | (go_at_call 13; go_must (refine HL.out.mono ?_; rintro _ w4 ⟨ga, oa, ca, rfl, hca, hra, hba⟩))
    | fail)
  clear u0 u1 u2 u3 u4 u5 u6 HL
  obtain ⟨ea, hea⟩ : ∃ e : El, e = ⟨.slice (some ⟨ga, oa, none⟩) (p1.n + 1) ca, p1.n + 1, fieldsV (p1.fs ++ [(sMark, ⟨#[]⟩)])⟩ := ⟨_, rfl⟩
  obtain ⟨el, hel⟩ : ∃ e : El, e = ⟨.slice (some ⟨w4.heap.size, 0, none⟩) 7 7, 7, [.bool p1.rq, .string p1.mt, .string p1.t, .int .i64 p1.st, .string p1.rs, .int .i64 p1.mn, .slice (some ⟨ga, oa, none⟩) p1.n ca]⟩ := ⟨_, rfl⟩
  have HXT := HST.out.besides (hba.alloc hba.size (.cells #[.bool p1.rq, .string p1.mt, .string p1.t, .int .i64 p1.st, .string p1.rs, .int .i64 p1.mn, .slice (some ⟨ga, oa, none⟩) p1.n ca] 24)) (ea := ea) (el := el)
    (by rw [hea]; exact hra.alloc _) (by rw [hel]; exact Row.of_var (Var.new w4 24 [.bool p1.rq, .string p1.mt, .string p1.t, .int .i64 p1.st, .string p1.rs, .int .i64 p1.mn, .slice (some ⟨ga, oa, none⟩) p1.n ca]) (Nat.le_refl _) (by unfold maxLen; simp)) hba.size (by rw [hea]; exact fun k hk => (hra.lt k hk).2) (by rw [hea]; dsimp only; omega) (by rw [hel]; show (7 : Nat) ≤ 4194304; omega)
  have HEA0 : (la ++ [ea])[6]? = some ea := by rw [List.getElem?_append_right (by rw [HH6.out]; exact Nat.le_refl _), HH6.out]; rfl
  have HEL0 : (ll ++ [el])[6]? = some el := by rw [List.getElem?_append_right (by rw [HH7.out]; exact Nat.le_refl _), HH7.out]; rfl
  obtain ⟨la0, hla⟩ : ∃ l, l = la ++ [ea] := ⟨_, rfl⟩
  obtain ⟨ll0, hll⟩ : ∃ l, l = ll ++ [el] := ⟨_, rfl⟩
  rw [← hla] at HEA0 HXT
  rw [← hll] at HEL0 HXT
  have HST2 := Lib.hid HXT
  have HEA := Lib.hid HEA0
  have HEL := Lib.hid HEL0
  have HVA := Lib.hid hea
  have HVL := Lib.hid hel
  clear hra hba HH6 HH7 HST HXT HEA0 HEL0 hla hll hea hel
  go_cut [] from 15 to 108 (fun wx => ∃ la, St2 w2 wx 2 1 6 6 4194304 4194304 la ll0 (.slice (some ⟨gc, oc, none⟩) 6 cv) (.slice (some ⟨gl, ol, none⟩) 6 cl) ∧ Done okF la 6 ∧ la[6]? = some ea)
  case first => as_aux_lemma =>
    go_wp2
    go_loopw [15] (fun i wr => ∃ (j : Nat) (la : List El), j ≤ 6 ∧ i = .int .i64 j ∧ St2 w2 wr 2 1 6 6 4194304 4194304 la ll0 (.slice (some ⟨gc, oc, none⟩) 6 cv) (.slice (some ⟨gl, ol, none⟩) 6 cl) ∧ Done okF la j ∧ la[6]? = some ea) (fun i _ => 6 - (intOf i).toNat)
    case atStart => exact ⟨0, la0, by omega, rfl, HST2.out, fun i hi => by omega, HEA.out⟩
    case round =>
    obtain ⟨j, la, hj, rfl, hst, hdn, h6⟩ := hrel
    have HQ := Lib.hid hst
    have HDN := Lib.hid hdn
    have H6 := Lib.hid h6
    clear hst hdn h6
    by_cases hlt : j < 6
    · obtain ⟨e, he⟩ : ∃ e, la[j]? = some e := ⟨la[j]'(by have := HQ.out.ha; omega), List.getElem?_eq_getElem _⟩
      have HE := Lib.hid he
      have HJ := Lib.hid hlt
      have hcc0 := HQ.out.cellA he hlt
      obtain ⟨Ae0, ce0, e30, _, _, _, _⟩ := (HQ.out.two.fa.row e (List.mem_of_getElem? he)).form
      rw [e30] at hcc0
      obtain ⟨N, hN⟩ : ∃ N, N = e.n := ⟨_, rfl⟩
      rw [← hN] at hcc0
      have HN := Lib.hid hN
      have hNb : N ≤ 4194304 := by rw [hN]; exact HQ.out.za e (List.mem_of_getElem? HE.out)
      have hj3 : (j : Int) < 6 := by omega
      clear he hN e30 hcc0
      go_wp2
      go_loopw [16] (fun q wr2 => ∃ (r : Nat) (la2 : List El) (e2 : El), q = .int .i64 r ∧ r ≤ N ∧ St2 w2 wr2 2 1 6 6 4194304 4194304 la2 ll0 (.slice (some ⟨gc, oc, none⟩) 6 cv) (.slice (some ⟨gl, ol, none⟩) 6 cl) ∧ Done okF la2 j ∧ la2[j]? = some e2 ∧ e2.n = N ∧ (∀ i, i < r → e2.xs[i * 2]? = some (.string ⟨#[111, 119, 110]⟩) ∧ e2.xs[i * 2 + 1]? = some (.string ⟨#[UInt8.ofNat j]⟩)) ∧ la2[6]? = some ea) (fun q _ => N - (intOf q).toNat)
      case atStart => exact ⟨0, la, e, rfl, Nat.zero_le _, HQ.out, HDN.out, HE.out, HN.out.symm, fun i hi => by omega, H6.out⟩
      case round =>
      obtain ⟨r, la2, e2, rfl, hr, hq, hd, he2, hn2, hx, h62⟩ := hrel
      have hcc := hq.cellA he2 HJ.out
      have hrow := hq.two.fa.row e2 (List.mem_of_getElem? he2)
      obtain ⟨Ae, ce, e3, _, _, _, _⟩ := hrow.form
      rw [e3, hn2] at hcc
      rw [e3] at hrow
      have hown := hrow.own
      have hxl := hrow.1
      rw [hn2] at hown hxl
      have HQ2 := Lib.hid hq
      have HD2 := Lib.hid hd
      have HE2 := Lib.hid he2
      have HN2 := Lib.hid hn2
      have HX := Lib.hid hx
      have HE3 := Lib.hid e3
      have H62 := Lib.hid h62
      clear hq hd he2 hn2 hx e3 h62 hrow
      by_cases hrt : r < N
      · obtain ⟨ge, oe, e5, _, _, hcl, hfr⟩ := hown (by omega)
        subst e5
        obtain ⟨u0, hxu0⟩ : ∃ u, e2.xs[r * 2]? = some u := ⟨_, List.getElem?_eq_getElem (by omega)⟩
        obtain ⟨u1, hxu1⟩ : ∃ u, e2.xs[r * 2 + 1]? = some u := ⟨_, List.getElem?_eq_getElem (by omega)⟩
        have hcu0 := hcl _ _ hxu0
        have hcu1 := hcl _ _ hxu1
        have hf0 := hfr (r * 2) (by omega)
        have hf1 := hfr (r * 2 + 1) (by omega)
        rw [← Nat.add_assoc] at hcu1 hf1
        have HX0 := Lib.hid hxu0
        have HX1 := Lib.hid hxu1
        have HRT := Lib.hid hrt
        have hcv : ∀ (W : World) (b : Nat), W.cell? ⟨b, 0, none⟩ = some (.int .u8 (j : Int)) → (convert 32 9 (.slice (some ⟨b, 0, none⟩) 1 1)).run Tryd.prog W = .ok (.string ⟨#[UInt8.ofNat j]⟩) W := fun W b hc => conv_one W b (j : Int) (by omega) (by omega) hc
        have hltg := ((HQ2.out.two.fa.row e2 (List.mem_of_getElem? HE2.out)).lt ge (by rw [HE3.out]; rfl)).2
        have hwu : IntKind.u8.wrap (j : Int) = (j : Int) := IntWalk.u8_in _ (by omega)
        have HPL := Lib.hid ((St2.putF HQ2.out HE2.out (c := ce) (by rw [HN2.out]; exact HE3.out.trans (by rw [HN2.out])) (by rw [HN2.out]; exact HRT.out) (.string ⟨#[111, 119, 110]⟩) (.string ⟨#[UInt8.ofNat j]⟩)).below (((Below.refl _ _).alloc (Nat.le_refl _) (.cells #[.int .u8 (j : Int)] 5)).drew))
        have HPA := Lib.hid (HQ2.out.below (((Below.refl _ _).alloc (Nat.le_refl _) (.cells #[.int .u8 (j : Int)] 5)).drew))
        clear hcl hfr hown hxu0 hxu1 hxl
        go_upto_region 22 with (fail)
        refine wp_region_held_drew (S := (fun w' => w'.cell? ⟨gc, oc + j, none⟩ = some (.slice (some ⟨ge, oe, none⟩) N ce))) (by as_aux_lemma => kernel_rfl) ?_ (fun hHeld => ?_)
        · exact hcc
        refine wpAnyH_take (i := 0) (v := ?_) (by simp only [List.getElem?_toArray, List.getElem?_cons_zero]; exact rfl) (by as_aux_lemma => kernel_rfl) (by as_aux_lemma => kernel_rfl) (by as_aux_lemma => kernel_rfl) (by exact fun _ _ _ h => h) (Or.inl ⟨by rfl, ?_⟩) (by assumption) ?_
        rotate_left
        · intro w hSw
          (try dsimp only at hSw)
          go_simp
          try with_reducible rfl
        (try simp only [Act.put, List.setIfInBounds_toArray, List.set_cons_zero, List.set_cons_succ])
        refine wpAnyH_take (i := 1) (v := ?_) (by simp only [List.getElem?_toArray, List.getElem?_cons_succ, List.getElem?_cons_zero]; exact rfl) (by as_aux_lemma => kernel_rfl) (by as_aux_lemma => kernel_rfl) (by as_aux_lemma => kernel_rfl) (by exact fun _ _ _ h => h) (Or.inl ⟨by rfl, ?_⟩) (by assumption) ?_
        rotate_left
        · intro w hSw
          (try dsimp only at hSw)
          go_simp
          try with_reducible rfl
        (try simp only [Act.put, List.setIfInBounds_toArray, List.set_cons_zero, List.set_cons_succ])
        refine wpAnyH_take (i := 2) (v := ?_) (by simp only [List.getElem?_toArray, List.getElem?_cons_succ, List.getElem?_cons_zero]; exact rfl) (by as_aux_lemma => kernel_rfl) (by as_aux_lemma => kernel_rfl) (by as_aux_lemma => kernel_rfl) (by exact fun _ _ _ h => h) (Or.inl ⟨by rfl, ?_⟩) (by assumption) ?_
        rotate_left
        · intro w hSw
          (try dsimp only at hSw)
          go_simp
          try with_reducible rfl
        (try simp only [Act.put, List.setIfInBounds_toArray, List.set_cons_zero, List.set_cons_succ])
        refine wpAnyH_take (i := 3) (v := ?_) (by simp only [List.getElem?_toArray, List.getElem?_cons_succ, List.getElem?_cons_zero]; exact rfl) (by as_aux_lemma => kernel_rfl) (by as_aux_lemma => kernel_rfl) (by as_aux_lemma => kernel_rfl) (by exact fun _ _ _ h => h) (Or.inl ⟨by rfl, ?_⟩) (by assumption) ?_
        rotate_left
        · intro w hSw
          (try dsimp only at hSw)
          go_simp
          try with_reducible rfl
        (try simp only [Act.put, List.setIfInBounds_toArray, List.set_cons_zero, List.set_cons_succ])
        refine wpAnyH_take (i := 4) (v := ?_) (by simp only [List.getElem?_toArray, List.getElem?_cons_succ, List.getElem?_cons_zero]; exact rfl) (by as_aux_lemma => kernel_rfl) (by as_aux_lemma => kernel_rfl) (by as_aux_lemma => kernel_rfl) (by exact fun _ _ _ h => h) (Or.inl ⟨by rfl, ?_⟩) (by assumption) ?_
        rotate_left
        · intro w hSw
          (try dsimp only at hSw)
          go_simp
          try with_reducible rfl
        (try simp only [Act.put, List.setIfInBounds_toArray, List.set_cons_zero, List.set_cons_succ])
        refine wpAnyH_take (i := 5) (v := ?_) (by simp only [List.getElem?_toArray, List.getElem?_cons_succ, List.getElem?_cons_zero]; exact rfl) (by as_aux_lemma => kernel_rfl) (by as_aux_lemma => kernel_rfl) (by as_aux_lemma => kernel_rfl) (by exact fun _ _ _ h => h) (Or.inl ⟨by rfl, ?_⟩) (by assumption) ?_
        rotate_left
        · intro w hSw
          (try dsimp only at hSw)
          go_simp
          try with_reducible rfl
        (try simp only [Act.put, List.setIfInBounds_toArray, List.set_cons_zero, List.set_cons_succ])
        refine wpAnyH_take (i := 6) (v := ?_) (by simp only [List.getElem?_toArray, List.getElem?_cons_succ, List.getElem?_cons_zero]; exact rfl) (by as_aux_lemma => kernel_rfl) (by as_aux_lemma => kernel_rfl) (by as_aux_lemma => kernel_rfl) (by exact fun _ _ _ h => h) (Or.inl ⟨by rfl, ?_⟩) (by assumption) ?_
        rotate_left
        · intro w hSw
          (try dsimp only at hSw)
          go_simp
          try with_reducible rfl
        (try simp only [Act.put, List.setIfInBounds_toArray, List.set_cons_zero, List.set_cons_succ])
        refine wpAnyH_ready (rs := [7]) (by as_aux_lemma => kernel_rfl) (by simp) ?_
        refine AllReadyH.cons (by simp only [List.getElem?_toArray, List.getElem?_cons_succ, List.getElem?_cons_zero]; exact rfl) (fun K hK => ?_) AllReadyH.nil
        go_simp
        refine hK.out _ _ ?_ (fun hHeld => ?_)
        · (try dsimp only)
          exact (St2.cellA HPA.out HE2.out HJ.out).trans (by rw [HE3.out, HN2.out])
        clear hK K
        (try simp only [Act.put, List.setIfInBounds_toArray, List.set_cons_zero, List.set_cons_succ])
        refine wpAnyH_ready (rs := [8]) (by as_aux_lemma => kernel_rfl) (by simp) ?_
        refine AllReadyH.cons (by simp only [List.getElem?_toArray, List.getElem?_cons_succ, List.getElem?_cons_zero]; exact rfl) (fun K hK => ?_) AllReadyH.nil
        go_simp
        refine hK.out _ _ ?_ (fun hHeld => ?_)
        · (try dsimp only)
          exact (St2.cellA HPA.out HE2.out HJ.out).trans (by rw [HE3.out, HN2.out])
        clear hK K
        (try simp only [Act.put, List.setIfInBounds_toArray, List.set_cons_zero, List.set_cons_succ])
        refine wpAnyH_take (i := 9) (v := ?_) (by simp only [List.getElem?_toArray, List.getElem?_cons_succ, List.getElem?_cons_zero]; exact rfl) (by as_aux_lemma => kernel_rfl) (by as_aux_lemma => kernel_rfl) (by as_aux_lemma => kernel_rfl) (by exact fun _ _ _ h => h) (Or.inl ⟨by rfl, ?_⟩) (by assumption) ?_
        rotate_left
        · intro w hSw
          (try dsimp only at hSw)
          go_simp
          try with_reducible rfl
        (try simp only [Act.put, List.setIfInBounds_toArray, List.set_cons_zero, List.set_cons_succ])
        refine wpAnyH_take (i := 10) (v := ?_) (by simp only [List.getElem?_toArray, List.getElem?_cons_succ, List.getElem?_cons_zero]; exact rfl) (by as_aux_lemma => kernel_rfl) (by as_aux_lemma => kernel_rfl) (by as_aux_lemma => kernel_rfl) (by exact fun _ _ _ h => h) (Or.inl ⟨by rfl, ?_⟩) (by assumption) ?_
        rotate_left
        · intro w hSw
          (try dsimp only at hSw)
          go_simp
          try with_reducible rfl
        (try simp only [Act.put, List.setIfInBounds_toArray, List.set_cons_zero, List.set_cons_succ])
        refine wpAnyH_ready (rs := [11]) (by as_aux_lemma => kernel_rfl) (by simp) ?_
        refine AllReadyH.cons (by simp only [List.getElem?_toArray, List.getElem?_cons_succ, List.getElem?_cons_zero]; exact rfl) (fun K hK => ?_) AllReadyH.nil
        go_simp
        refine hK.out _ _ ?_ (fun hHeld => ?_)
        · (try dsimp only)
          exact (St2.cellA HPL.out (List.getElem?_set_self (List.getElem?_eq_some_iff.1 HE2.out).1) HJ.out).trans (by rw [HE3.out, HN2.out])
        clear hK K
        refine wpAnyH_done (by as_aux_lemma => kernel_rfl) ?_ _
        go_wp2
        go_roundw
        case rel =>
          refine ⟨r + 1, _, { e2 with xs := (e2.xs.set (r * 2) (.string ⟨#[111, 119, 110]⟩)).set (r * 2 + 1) (.string ⟨#[UInt8.ofNat j]⟩) }, by go_num, HRT.out, HPL.out, HD2.out.set _, ?_, HN2.out, ?_, set_six H62.out HJ.out⟩
          · rw [List.getElem?_set_self (List.getElem?_eq_some_iff.1 HE2.out).1]
          · intro i hi
            exact put2 HX0.out HX1.out hi (fun h => HX.out i h)
        case measure => have := HRT.out; simp [intOf]; omega
      · have hrN : r = N := by omega
        subst hrN
        clear hown hxl
        go_wp2
        go_roundw
        case rel => exact ⟨j + 1, la2, by have := HJ.out; omega, by go_num, HQ2.out, HD2.out.more HE2.out (by unfold okF; rw [HN2.out]; exact HX.out), H62.out⟩
        case measure => have := HJ.out; simp [intOf]; omega
    · have hj12 : j = 6 := by omega
      subst hj12
      go_wp2
      go_meet
      exact ⟨la, HQ.out, HDN.out, H6.out⟩
  case rest =>
  obtain ⟨la, hst, hdn, h6⟩ := hcut
  obtain ⟨w5, rfl⟩ : ∃ w5 : World, w5 = wc := ⟨_, rfl⟩
  have HST3 := Lib.hid hst
  have HDA := Lib.hid hdn
  have HEA2 := Lib.hid h6
  clear hst hdn h6 HST2 HEA
  go_upto_block 6 with (fail)
  go_cut [] from 109 to 132 (fun wx => ∃ ll, St2 w2 wx 2 1 6 6 4194304 4194304 la ll (.slice (some ⟨gc, oc, none⟩) 6 cv) (.slice (some ⟨gl, ol, none⟩) 6 cl) ∧ Done okB ll 6 ∧ ll[6]? = some el)
  case first => as_aux_lemma =>
    go_wp2
    go_loopw [17] (fun i wr => ∃ (j : Nat) (ll : List El), j ≤ 6 ∧ i = .int .i64 j ∧ St2 w2 wr 2 1 6 6 4194304 4194304 la ll (.slice (some ⟨gc, oc, none⟩) 6 cv) (.slice (some ⟨gl, ol, none⟩) 6 cl) ∧ Done okB ll j ∧ ll[6]? = some el) (fun i _ => 6 - (intOf i).toNat)
    case atStart => exact ⟨0, ll0, by omega, rfl, HST3.out, fun i hi => by omega, HEL.out⟩
    case round =>
    obtain ⟨j, ll, hj, rfl, hst, hdn, h6⟩ := hrel
    have HQ := Lib.hid hst
    have HDN := Lib.hid hdn
    have H6 := Lib.hid h6
    clear hst hdn h6
    by_cases hlt : j < 6
    · obtain ⟨e, he⟩ : ∃ e, ll[j]? = some e := ⟨ll[j]'(by have := HQ.out.hl; omega), List.getElem?_eq_getElem _⟩
      have HE := Lib.hid he
      have HJ := Lib.hid hlt
      obtain ⟨N, hN⟩ : ∃ N, N = e.n := ⟨_, rfl⟩
      have HN := Lib.hid hN
      have hNb : N ≤ 4194304 := by rw [hN]; exact HQ.out.zl e (List.mem_of_getElem? HE.out)
      have hj3 : (j : Int) < 6 := by omega
      clear he hN
      go_wp2
      go_loopw [18] (fun q wr2 => ∃ (r : Nat) (ll2 : List El) (e2 : El), q = .int .i64 r ∧ r ≤ N ∧ St2 w2 wr2 2 1 6 6 4194304 4194304 la ll2 (.slice (some ⟨gc, oc, none⟩) 6 cv) (.slice (some ⟨gl, ol, none⟩) 6 cl) ∧ Done okB ll2 j ∧ ll2[j]? = some e2 ∧ e2.n = N ∧ (∀ i, i < r → e2.xs[i]? = some (.int .u8 (3 * (j : Int)))) ∧ ll2[6]? = some el) (fun q _ => N - (intOf q).toNat)
      case atStart => exact ⟨0, ll, e, rfl, Nat.zero_le _, HQ.out, HDN.out, HE.out, HN.out.symm, fun i hi => by omega, H6.out⟩
      case round =>
      obtain ⟨r, ll2, e2, rfl, hr, hq, hd, he2, hn2, hx, h62⟩ := hrel
      have hcc := hq.cellL he2 HJ.out
      have hrow := hq.two.fl.row e2 (List.mem_of_getElem? he2)
      obtain ⟨Ae, ce, e3, _, _, _, _⟩ := hrow.form
      rw [e3, hn2] at hcc
      rw [e3] at hrow
      have hown := hrow.own
      have hxl := hrow.1
      rw [hn2] at hown hxl
      have HQ2 := Lib.hid hq
      have HD2 := Lib.hid hd
      have HE2 := Lib.hid he2
      have HN2 := Lib.hid hn2
      have HX := Lib.hid hx
      have HE3 := Lib.hid e3
      have H62 := Lib.hid h62
      clear hq hd he2 hn2 hx e3 h62 hrow
      by_cases hrt : r < N
      · obtain ⟨ge, oe, e5, _, _, hcl, hfr⟩ := hown (by omega)
        subst e5
        obtain ⟨u, hxu⟩ : ∃ u, e2.xs[r]? = some u := ⟨_, List.getElem?_eq_getElem (by omega)⟩
        have hcu := hcl _ _ hxu
        have hfz := hfr r (by omega)
        have HXU := Lib.hid hxu
        have HRT := Lib.hid hrt
        clear hcl hfr hown hxu hxl
        go_wp2
        go_roundw
        case rel =>
          refine ⟨r + 1, _, { e2 with xs := e2.xs.set r (.int .u8 (3 * (j : Int))) }, by go_num, HRT.out, HQ2.out.putB HE2.out (c := ce) (by rw [HN2.out]; exact HE3.out.trans (by rw [HN2.out])) (by rw [HN2.out]; exact HRT.out) _, HD2.out.set _, ?_, HN2.out, ?_, set_six H62.out HJ.out⟩
          · rw [List.getElem?_set_self (List.getElem?_eq_some_iff.1 HE2.out).1]
          · intro i hi
            dsimp only
            by_cases hir : i = r
            · subst hir
              rw [List.getElem?_set_self (List.getElem?_eq_some_iff.1 HXU.out).1]
            · rw [List.getElem?_set_ne (by omega)]
              exact HX.out i (by omega)
        case measure => have := HRT.out; simp [intOf]; omega
      · have hrN : r = N := by omega
        subst hrN
        clear hown hxl
        go_wp2
        go_roundw
        case rel => exact ⟨j + 1, ll2, by have := HJ.out; omega, by go_num, HQ2.out, HD2.out.more HE2.out (by unfold okB; rw [HN2.out]; exact HX.out), H62.out⟩
        case measure => have := HJ.out; simp [intOf]; omega
    · have hj12 : j = 6 := by omega
      subst hj12
      go_wp2
      go_meet
      exact ⟨ll, HQ.out, HDN.out, H6.out⟩
  case rest =>
  obtain ⟨ll, hst, hdn, h6⟩ := hcut
  obtain ⟨w6, rfl⟩ : ∃ w6 : World, w6 = wc := ⟨_, rfl⟩
  have HST4 := Lib.hid hst
  have HDL := Lib.hid hdn
  have HEL2 := Lib.hid h6
  clear hst hdn h6 HST3 HEL
  go_upto_block 10 with (fail)
  go_cut [19] from 21 to 152 (fun vo wx => ∃ lo, Long2 w2 wx 2 1 6 6 4194304 4194304 maF la ll (.slice (some ⟨gc, oc, none⟩) 6 cv) (.slice (some ⟨gl, ol, none⟩) 6 cl) 6 lo vo)
  case first => as_aux_lemma =>
    go_wp2
    go_loopw [19, 21] (fun vo i wr => ∃ (j : Nat) (lo : List El), j ≤ 6 ∧ i = .int .i64 j ∧ Long2 w2 wr 2 1 6 6 4194304 4194304 maF la ll (.slice (some ⟨gc, oc, none⟩) 6 cv) (.slice (some ⟨gl, ol, none⟩) 6 cl) j lo vo) (fun _ i _ => 6 - (intOf i).toNat)
    case atStart => exact ⟨0, [], by omega, rfl, Long2.nil HST4.out⟩
    case round =>
    obtain ⟨j, mo, hj, rfl, hms⟩ := hrel
    have HQ0 := Lib.hid hms
    obtain ⟨Am, cm, rfl, _, _, _, _⟩ := hms.c.form
    clear hms
    by_cases hlt : j < 6
    · obtain ⟨e, he⟩ : ∃ e, la[j]? = some e := ⟨la[j]'(by have := HQ0.out.st.ha; omega), List.getElem?_eq_getElem _⟩
      have HE := Lib.hid he
      have HJ := Lib.hid hlt
      have hNb := HQ0.out.st.za e (List.mem_of_getElem? he)
      obtain ⟨Ae, ce, e3, _, _, _, _⟩ := (HQ0.out.st.two.fa.row e (List.mem_of_getElem? he)).form
      obtain ⟨N, hN⟩ : ∃ N, N = e.n := ⟨_, rfl⟩
      rw [← hN] at hNb e3
      have HE3 := Lib.hid e3
      have HN := Lib.hid hN
      have hj3 : (j : Int) < 6 := by omega
      have hwu : IntKind.u8.wrap (j : Int) = (j : Int) := IntWalk.u8_in _ (by omega)
      have hcv : ∀ (W : World) (b : Nat), W.cell? ⟨b, 0, none⟩ = some (.int .u8 (j : Int)) → (convert 32 9 (.slice (some ⟨b, 0, none⟩) 1 1)).run Tryd.prog W = .ok (.string ⟨#[UInt8.ofNat j]⟩) W := fun W b hc => conv_one W b (j : Int) (by omega) (by omega) hc
      have HLL : Hid ((mo.map (·.v)).length = j) := Lib.hid (by rw [List.length_map]; exact HQ0.out.len)
      clear he hN e3
      go_upto_region 35 with (fail)
      refine wp_region_held_drew (S := (fun w' => w'.cell? ⟨gc, oc + j, none⟩ = some (.slice Ae N ce))) (by as_aux_lemma => kernel_rfl) ?_ (fun hHeld => ?_)
      · exact (HQ0.out.st.cellA HE.out HJ.out).trans (by rw [HE3.out])
      have HQ := Lib.hid (HQ0.out.below (Below.refl _ _).drew)
      clear hHeld
      generalize hwd : World.drew _ = wd at HQ ⊢
      clear hwd
      have hHeld := (HQ.out.st.cellA HE.out HJ.out).trans (show some e.v = some (Value.slice Ae N ce) by rw [HE3.out])
      have hwz := HQ.out.st.bl.size
      have hrow := HQ.out.st.two.fa.row e (List.mem_of_getElem? HE.out)
      rw [HE3.out, ← HN.out] at hrow
      have HROW := Lib.hid hrow
      obtain ⟨M, hM⟩ : ∃ M : ByteArray, M = ⟨#[UInt8.ofNat j]⟩ := ⟨_, rfl⟩
      have HM : Hid (maF j = [.string ⟨#[109, 111, 114, 101]⟩, .string M]) := Lib.hid (by rw [hM]; rfl)
      rw [← hM] at hcv
      have hba : Below wd.heap.size wd (wd.alloc (.cells #[.int .u8 (j : Int)] 5)) := (Below.refl _ _).alloc (Nat.le_refl _) _
      have hbb : Below wd.heap.size wd ((wd.alloc (.cells #[.int .u8 (j : Int)] 5)).alloc (.cells #[.string ⟨#[109, 111, 114, 101]⟩, .string M] 48)) := hba.alloc hba.size _
      have HBA := Lib.hid hba
      have HBB := Lib.hid hbb
      have hsrc : Src Tryd.prog ((wd.alloc (.cells #[.int .u8 (j : Int)] 5)).alloc (.cells #[.string ⟨#[109, 111, 114, 101]⟩, .string M] 48)) 22 2 (.slice (some ⟨(wd.alloc (.cells #[.int .u8 (j : Int)] 5)).heap.size, 0, none⟩) 1 1) 1 [.string ⟨#[109, 111, 114, 101]⟩, .string M] :=
        Src.built [.string ⟨#[109, 111, 114, 101]⟩, .string M] 48 Tryd.underlying22 rfl (by intro u hu; simp at hu; rcases hu with rfl | rfl <;> rfl)
      rw [show (wd.alloc (.cells #[.int .u8 (j : Int)] 5)).heap.size = wd.heap.size + 1 by simp] at hsrc
      have HSRC := Lib.hid hsrc
      clear hrow hM hba hbb hsrc
      refine wpAnyH_take (i := 0) (v := ?_) (by simp only [List.getElem?_toArray, List.getElem?_cons_zero]; exact rfl) (by as_aux_lemma => kernel_rfl) (by as_aux_lemma => kernel_rfl) (by as_aux_lemma => kernel_rfl) (by exact fun _ _ _ h => h) (Or.inl ⟨by rfl, ?_⟩) (by assumption) ?_
      rotate_left
      · intro w hSw
        (try dsimp only at hSw)
        go_simp
        try with_reducible rfl
      (try simp only [Act.put, List.setIfInBounds_toArray, List.set_cons_zero, List.set_cons_succ])
      refine wpAnyH_take (i := 1) (v := ?_) (by simp only [List.getElem?_toArray, List.getElem?_cons_succ, List.getElem?_cons_zero]; exact rfl) (by as_aux_lemma => kernel_rfl) (by as_aux_lemma => kernel_rfl) (by as_aux_lemma => kernel_rfl) (by exact fun _ _ _ h => h) (Or.inl ⟨by rfl, ?_⟩) (by assumption) ?_
      rotate_left
      · intro w hSw
        (try dsimp only at hSw)
        go_simp
        try with_reducible rfl
      (try simp only [Act.put, List.setIfInBounds_toArray, List.set_cons_zero, List.set_cons_succ])
      refine wpAnyH_take (i := 2) (v := ?_) (by simp only [List.getElem?_toArray, List.getElem?_cons_succ, List.getElem?_cons_zero]; exact rfl) (by as_aux_lemma => kernel_rfl) (by as_aux_lemma => kernel_rfl) (by as_aux_lemma => kernel_rfl) (by exact fun _ _ _ h => h) (Or.inl ⟨by rfl, ?_⟩) (by assumption) ?_
      rotate_left
      · intro w hSw
        (try dsimp only at hSw)
        go_simp
        try with_reducible rfl
      (try simp only [Act.put, List.setIfInBounds_toArray, List.set_cons_zero, List.set_cons_succ])
      refine wpAnyH_take (i := 3) (v := ?_) (by simp only [List.getElem?_toArray, List.getElem?_cons_succ, List.getElem?_cons_zero]; exact rfl) (by as_aux_lemma => kernel_rfl) (by as_aux_lemma => kernel_rfl) (by as_aux_lemma => kernel_rfl) (by exact fun _ _ _ h => h) (Or.inl ⟨by rfl, ?_⟩) (by assumption) ?_
      rotate_left
      · intro w hSw
        (try dsimp only at hSw)
        go_simp
        try with_reducible rfl
      (try simp only [Act.put, List.setIfInBounds_toArray, List.set_cons_zero, List.set_cons_succ])
      refine wpAnyH_take (i := 4) (v := ?_) (by simp only [List.getElem?_toArray, List.getElem?_cons_succ, List.getElem?_cons_zero]; exact rfl) (by as_aux_lemma => kernel_rfl) (by as_aux_lemma => kernel_rfl) (by as_aux_lemma => kernel_rfl) (by exact fun _ _ _ h => h) (Or.inl ⟨by rfl, ?_⟩) (by assumption) ?_
      rotate_left
      · intro w hSw
        (try dsimp only at hSw)
        go_simp
        try with_reducible rfl
      (try simp only [Act.put, List.setIfInBounds_toArray, List.set_cons_zero, List.set_cons_succ])
      refine wpAnyH_take (i := 5) (v := ?_) (by simp only [List.getElem?_toArray, List.getElem?_cons_succ, List.getElem?_cons_zero]; exact rfl) (by as_aux_lemma => kernel_rfl) (by as_aux_lemma => kernel_rfl) (by as_aux_lemma => kernel_rfl) (by exact fun _ _ _ h => h) (Or.inl ⟨by rfl, ?_⟩) (by assumption) ?_
      rotate_left
      · intro w hSw
        (try dsimp only at hSw)
        go_simp
        try with_reducible rfl
      (try simp only [Act.put, List.setIfInBounds_toArray, List.set_cons_zero, List.set_cons_succ])
      refine wpAnyH_take (i := 6) (v := ?_) (by simp only [List.getElem?_toArray, List.getElem?_cons_succ, List.getElem?_cons_zero]; exact rfl) (by as_aux_lemma => kernel_rfl) (by as_aux_lemma => kernel_rfl) (by as_aux_lemma => kernel_rfl) (by exact fun _ _ _ h => h) (Or.inl ⟨by rfl, ?_⟩) (by assumption) ?_
      rotate_left
      · intro w hSw
        (try dsimp only at hSw)
        go_simp
        try with_reducible rfl
      (try simp only [Act.put, List.setIfInBounds_toArray, List.set_cons_zero, List.set_cons_succ])
      refine wpAnyH_ready (rs := [7]) (by as_aux_lemma => kernel_rfl) (by simp) ?_
      refine AllReadyH.cons (by simp only [List.getElem?_toArray, List.getElem?_cons_succ, List.getElem?_cons_zero]; exact rfl) (fun K hK => ?_) AllReadyH.nil
      go_simp
      refine hK.out _ _ ?_ (fun hHeld => ?_)
      · (try dsimp only)
        exact ((HQ.out.below HBA.out).st.cellA HE.out HJ.out).trans (by rw [HE3.out])
      clear hK K
      (try simp only [Act.put, List.setIfInBounds_toArray, List.set_cons_zero, List.set_cons_succ])
      refine wpAnyH_ready (rs := [8]) (by as_aux_lemma => kernel_rfl) (by simp) ?_
      refine AllReadyH.cons (by simp only [List.getElem?_toArray, List.getElem?_cons_succ, List.getElem?_cons_zero]; exact rfl) (fun K hK => ?_) AllReadyH.nil
      go_simp
      refine hK.out _ _ ?_ (fun hHeld => ?_)
      · (try dsimp only)
        exact ((HQ.out.below HBA.out).st.cellA HE.out HJ.out).trans (by rw [HE3.out])
      clear hK K
      (try simp only [Act.put, List.setIfInBounds_toArray, List.set_cons_zero, List.set_cons_succ])
      refine wpAnyH_take (i := 9) (v := ?_) (by simp only [List.getElem?_toArray, List.getElem?_cons_succ, List.getElem?_cons_zero]; exact rfl) (by as_aux_lemma => kernel_rfl) (by as_aux_lemma => kernel_rfl) (by as_aux_lemma => kernel_rfl) (by exact fun _ _ _ h => h) (Or.inl ⟨by rfl, ?_⟩) (by assumption) ?_
      rotate_left
      · intro w hSw
        (try dsimp only at hSw)
        go_simp
        try with_reducible rfl
      (try simp only [Act.put, List.setIfInBounds_toArray, List.set_cons_zero, List.set_cons_succ])
      refine wpAnyH_ready (rs := [10]) (by as_aux_lemma => kernel_rfl) (by simp) ?_
      refine AllReadyH.cons (by simp only [List.getElem?_toArray, List.getElem?_cons_succ, List.getElem?_cons_zero]; exact rfl) (fun K hK => ?_) AllReadyH.nil
      go_simp
      refine hK.out _ _ ?_ (fun hHeld => ?_)
      · (try dsimp only)
        exact ((HQ.out.below HBB.out).st.cellA HE.out HJ.out).trans (by rw [HE3.out])
      clear hK K
      (try simp only [Act.put, List.setIfInBounds_toArray, List.set_cons_zero, List.set_cons_succ])
      refine wpAnyH_ready (rs := [11]) (by as_aux_lemma => kernel_rfl) (by simp) ?_
      refine AllReadyH.cons (by simp only [List.getElem?_toArray, List.getElem?_cons_succ, List.getElem?_cons_zero]; exact rfl) (fun K hK => ?_) AllReadyH.nil
      (refine wstep_app2 (by rfl) (.tmp 143) (.tmp 149) 22 22 (by rfl) w2.heap.size 48 f0' (.agg #[.string ⟨#[]⟩, .string ⟨#[]⟩]) 2 32 Tryd.underlying22 hf0 fz0 fz1 fz2 rfl (.slice Ae N ce) N e.xs (by rfl) ((HROW.out.alloc _).alloc _) (.slice (some ⟨wd.heap.size + 1, 0, none⟩) 1 1) 1 [.string ⟨#[109, 111, 114, 101]⟩, .string M] (by rfl) HSRC.out (by omega) (by omega) (by omega) (by simp; omega) ?_; intro v7 w7 hrow7 hg7 ho7 hro7)
      have hl1 := HQ.out.one HE.out HBB.out (by rw [HE3.out]; exact hg7) (by rw [HE3.out, ← HN.out]; exact hro7)
      have HL1 := Lib.hid hl1
      have hmid := HQ.out.mid HE.out HBB.out (by rw [HE3.out]; exact hg7)
      have HMID := Lib.hid hmid
      obtain ⟨A7, c7, rfl, _, _, _, _⟩ := hrow7.form
      have hz7 := hg7.size
      clear hl1 hmid
      refine hK.out _ _ ?_ (fun hHeld => ?_)
      · (try dsimp only)
        exact (HL1.out.cellA HE.out HJ.out).trans (by rw [HE3.out])
      clear hK K
      (try simp only [Act.put, List.setIfInBounds_toArray, List.set_cons_zero, List.set_cons_succ])
      refine wpAnyH_ready (rs := [12]) (by as_aux_lemma => kernel_rfl) (by simp) ?_
      refine AllReadyH.cons (by simp only [List.getElem?_toArray, List.getElem?_cons_succ, List.getElem?_cons_zero]; exact rfl) (fun K hK => ?_) AllReadyH.nil
      go_simp
      refine hK.out _ _ ?_ (fun hHeld => ?_)
      · (try dsimp only)
        exact ((HL1.out.below ((Below.refl _ _).alloc (Nat.le_refl _) _)).cellA HE.out HJ.out).trans (by rw [HE3.out])
      clear hK K
      (try simp only [Act.put, List.setIfInBounds_toArray, List.set_cons_zero, List.set_cons_succ])
      refine wpAnyH_ready (rs := [13]) (by as_aux_lemma => kernel_rfl) (by simp) ?_
      refine AllReadyH.cons (by simp only [List.getElem?_toArray, List.getElem?_cons_succ, List.getElem?_cons_zero]; exact rfl) (fun K hK => ?_) AllReadyH.nil
      (refine step_app _ (by rfl) (.tmp 139) (.tmp 151) 35 35 (by rfl) w2.heap.size 22 g0 (.slice none 0 0) 1 24 Tryd.underlying35 hg0 gz0 gz1 gz2 rfl (.slice Am j cm) j (mo.map (·.v)) (by rfl) (HMID.out.alloc _) _ 1 [.slice A7 (N + 1) c7] (by rfl) (Src.built [.slice A7 (N + 1) c7] 22 Tryd.underlying35 rfl (by intro u hu; simp at hu; subst hu; rfl)) (by omega) (by omega) (by omega) (by simp; simp at hz7; omega) ?_; intro v10 w10 hrow10 hg10 ho10)
      have hms := HQ.out.step HE.out HBB.out (by rw [HE3.out]; exact hg7) (by rw [HE3.out, ← HN.out]; exact hro7) (by rw [HM.out, ← HN.out]; exact hrow7) (by rw [HE3.out]; exact ho7) ((Below.refl _ _).alloc (Nat.le_refl _) _) hg10 hrow10 ho10
      have HMS := Lib.hid hms
      obtain ⟨A10, c10, rfl, _, _, _, _⟩ := hrow10.form
      clear hms hrow7 hg7 ho7 hro7 hrow10 hg10 ho10
      refine hK.out _ _ ?_ (fun hHeld => ?_)
      · (try dsimp only)
        exact (HMS.out.st.cellA HE.out HJ.out).trans (by rw [HE3.out])
      clear hK K
      refine wpAnyH_take (i := 14) (v := ?_) (by simp only [List.getElem?_toArray, List.getElem?_cons_succ, List.getElem?_cons_zero]; exact rfl) (by as_aux_lemma => kernel_rfl) (by as_aux_lemma => kernel_rfl) (by as_aux_lemma => kernel_rfl) (by exact fun _ _ _ h => h) (Or.inl ⟨by rfl, ?_⟩) (by assumption) ?_
      rotate_left
      · intro w hSw
        (try dsimp only at hSw)
        go_simp
        try with_reducible rfl
      (try simp only [Act.put, List.setIfInBounds_toArray, List.set_cons_zero, List.set_cons_succ])
      refine wpAnyH_done (by as_aux_lemma => kernel_rfl) ?_ _
      go_wp2
      go_roundw
      case rel => exact ⟨j + 1, _, by have := HJ.out; omega, by go_num, HMS.out⟩
      case measure => have := HJ.out; simp [intOf]; omega
    · have hj9 : j = 6 := by omega
      subst hj9
      go_wp2
      go_meet
      exact ⟨mo, HQ0.out⟩
  case rest =>
  obtain ⟨lo, hlg⟩ := hcut
  obtain ⟨w7, rfl⟩ : ∃ w7 : World, w7 = wc := ⟨_, rfl⟩
  obtain ⟨Ao, co, rfl, _, _, _, _⟩ := hlg.c.form
  obtain ⟨gk, ok, ek, _⟩ := (show ∃ g o, Ao = some ⟨g, o, none⟩ ∧ True by
    obtain ⟨g, o, e, _⟩ := hlg.c.own (by omega)
    exact ⟨g, o, e, trivial⟩)
  subst ek
  have HLG := Lib.hid hlg
  clear hlg HST4
  go_upto_block 12 with (fail)
  go_cut [20] from 22 to 171 (fun vm wx => ∃ mo, More2 w2 wx 2 1 6 6 4194304 4194304 maF maB la ll lo (.slice (some ⟨gc, oc, none⟩) 6 cv) (.slice (some ⟨gl, ol, none⟩) 6 cl) (.slice (some ⟨gk, ok, none⟩) 6 co) 6 mo vm)
  case first => as_aux_lemma =>
    go_wp2
    go_loopw [20, 22] (fun vm i wr => ∃ (j : Nat) (mo : List El), j ≤ 6 ∧ i = .int .i64 j ∧ More2 w2 wr 2 1 6 6 4194304 4194304 maF maB la ll lo (.slice (some ⟨gc, oc, none⟩) 6 cv) (.slice (some ⟨gl, ol, none⟩) 6 cl) (.slice (some ⟨gk, ok, none⟩) 6 co) j mo vm) (fun _ i _ => 6 - (intOf i).toNat)
    case atStart => exact ⟨0, [], by omega, rfl, More2.nil HLG.out⟩
    case round =>
    obtain ⟨j, mo, hj, rfl, hls⟩ := hrel
    have HQ := Lib.hid hls
    obtain ⟨Ao, co2, rfl, _, _, _, _⟩ := hls.c.form
    clear hls
    by_cases hlt : j < 6
    · obtain ⟨e, he⟩ : ∃ e, ll[j]? = some e := ⟨ll[j]'(by have := HQ.out.lg.st.hl; omega), List.getElem?_eq_getElem _⟩
      have HE := Lib.hid he
      have HJ := Lib.hid hlt
      have hcc := HQ.out.lg.st.cellL he hlt
      have hrow := HQ.out.lg.st.two.fl.row e (List.mem_of_getElem? he)
      have hNb := HQ.out.lg.st.zl e (List.mem_of_getElem? he)
      obtain ⟨Ae, ce, e3, _, _, _, _⟩ := hrow.form
      rw [e3] at hcc hrow
      obtain ⟨N, hN⟩ : ∃ N, N = e.n := ⟨_, rfl⟩
      rw [← hN] at hcc hrow hNb
      have HE3 : Hid (e.v = .slice Ae N ce) := Lib.hid (by rw [hN]; exact e3)
      have HN := Lib.hid hN
      have HROW := Lib.hid hrow
      have hj3 : (j : Int) < 6 := by omega
      have hwu : IntKind.u8.wrap (3 * (j : Int) + 1) = 3 * (j : Int) + 1 := IntWalk.u8_in _ (by omega)
      have hwz := HQ.out.lg.st.bl.size
      have HLL : Hid ((mo.map (·.v)).length = j) := Lib.hid (by rw [List.length_map]; exact HQ.out.len)
      clear he hrow e3 hN
      go_wp2_with (first
        | (have hmid := HMID.out; at_builtin; go_must (refine wpList_app _ rfl (.tmp 159) (.tmp 170) 34 34 rfl w2.heap.size 32 j0 (.slice none 0 0) 1 24 Tryd.underlying34 hj0 jz0 jz1 jz2 rfl (.slice Ao j co2) j (mo.map (·.v)) rfl (HMID.out.alloc _) _ 1 [.slice A7 (N + 1) c7] rfl (Src.built [.slice A7 (N + 1) c7] 32 Tryd.underlying34 rfl (by intro u hu; simp at hu; subst hu; rfl)) (by omega) (by omega) (by omega) (by simp; simp at hz7; omega) ?_); intro v10 w10 hrow10 hg10 ho10; clear hmid)
        | (at_builtin; go_must (refine wpList_app2 _ rfl (.tmp 163) (.tmp 168) 32 32 rfl w2.heap.size 5 i0 (.int .u8 0) 1 1 Tryd.underlying32 hi0 iz0 iz1 iz2 rfl (.slice Ae N ce) N e.xs rfl (HROW.out.alloc _) _ 1 [.int .u8 (3 * (j : Int) + 1)] rfl (Src.built [.int .u8 (3 * (j : Int) + 1)] 5 Tryd.underlying32 rfl (by intro u hu; simp at hu; subst hu; rfl)) (by omega) (by omega) (by omega) (by simp; omega) ?_); intro v7 w7 hrow7 hg7 ho7 hro7; obtain ⟨A7, c7, rfl, _, _, _, _⟩ := hrow7.form; have HMID := Lib.hid (HQ.out.mid HE.out ((Below.refl _ _).alloc (Nat.le_refl _) (.cells #[.int .u8 (3 * (j : Int) + 1)] 5)) (by rw [HE3.out]; exact hg7)); have hz7 := hg7.size)
        | fail)
      have hls := HQ.out.step HE.out ((Below.refl _ _).alloc (Nat.le_refl _) (.cells #[.int .u8 (3 * (j : Int) + 1)] 5)) (by rw [HE3.out]; exact hg7) (by rw [HE3.out, ← HN.out]; exact hro7) (by rw [← HN.out]; exact hrow7) (by rw [HE3.out]; exact ho7) ((Below.refl _ _).alloc (Nat.le_refl _) _) hg10 hrow10 ho10
      have HLS := Lib.hid hls
      obtain ⟨A10, c10, rfl, _, _, _, _⟩ := hrow10.form
      clear hls hrow7 hg7 ho7 hro7 hrow10 hg10 ho10
      go_roundw
      case rel => exact ⟨j + 1, _, by have := HJ.out; omega, by go_num, HLS.out⟩
      case measure => have := HJ.out; simp [intOf]; omega
    · have hj12 : j = 6 := by omega
      subst hj12
      go_wp2
      go_meet
      exact ⟨mo, HQ.out⟩
  case rest =>
  obtain ⟨mo, hms⟩ := hcut
  obtain ⟨w8, rfl⟩ : ∃ w8 : World, w8 = wc := ⟨_, rfl⟩
  obtain ⟨Am, cm, rfl, _, _, _, _⟩ := hms.c.form
  obtain ⟨gm, om, em, _⟩ := (show ∃ g o, Am = some ⟨g, o, none⟩ ∧ True by
    obtain ⟨g, o, e, _⟩ := hms.c.own (by omega)
    exact ⟨g, o, e, trivial⟩)
  subst em
  have HMS := Lib.hid hms
  clear hms HLG
  go_upto_block 14 with (fail)
  go_cut [] from 23 to 227 (fun wx => More2 w2 wx 2 1 6 6 4194304 4194304 maF maB la ll lo (.slice (some ⟨gc, oc, none⟩) 6 cv) (.slice (some ⟨gl, ol, none⟩) 6 cl) (.slice (some ⟨gk, ok, none⟩) 6 co) 6 mo (.slice (some ⟨gm, om, none⟩) 6 cm))
  case first => as_aux_lemma =>
    go_wp2
    go_loopw [23] (fun i wr => ∃ (j : Nat), j ≤ 6 ∧ i = .int .i64 j ∧ More2 w2 wr 2 1 6 6 4194304 4194304 maF maB la ll lo (.slice (some ⟨gc, oc, none⟩) 6 cv) (.slice (some ⟨gl, ol, none⟩) 6 cl) (.slice (some ⟨gk, ok, none⟩) 6 co) 6 mo (.slice (some ⟨gm, om, none⟩) 6 cm)) (fun i _ => 6 - (intOf i).toNat)
    case atStart => exact ⟨0, by omega, rfl, HMS.out⟩
    case round =>
    obtain ⟨j, hj, rfl, hms⟩ := hrel
    have HQ := Lib.hid hms
    clear hms
    by_cases hlt : j < 6
    · obtain ⟨e, he⟩ : ∃ e, la[j]? = some e := ⟨la[j]'(by have := HQ.out.lg.st.ha; omega), List.getElem?_eq_getElem _⟩
      have HE := Lib.hid he
      have HJ := Lib.hid hlt
      have hNb := HQ.out.lg.st.za e (List.mem_of_getElem? he)
      obtain ⟨N, hN⟩ : ∃ N, N = e.n := ⟨_, rfl⟩
      rw [← hN] at hNb
      have HN := Lib.hid hN
      have hj3 : (j : Int) < 6 := by omega
      have hwu : IntKind.u8.wrap (j : Int) = (j : Int) := IntWalk.u8_in _ (by omega)
      have hcv : ∀ (W : World) (b : Nat), W.cell? ⟨b, 0, none⟩ = some (.int .u8 (j : Int)) → (convert 32 9 (.slice (some ⟨b, 0, none⟩) 1 1)).run Tryd.prog W = .ok (.string ⟨#[UInt8.ofNat j]⟩) W := fun W b hc => conv_one W b (j : Int) (by omega) (by omega) hc
      obtain ⟨M, hM⟩ : ∃ M : ByteArray, M = ⟨#[UInt8.ofNat j]⟩ := ⟨_, rfl⟩
      rw [← hM] at hcv
      have HMM := Lib.hid hM
      clear he hN hM
      go_wp2
      go_loopw [24] (fun q wr2 => ∃ (r : Nat), q = .int .i64 r ∧ r ≤ N ∧ More2 w2 wr2 2 1 6 6 4194304 4194304 maF maB la ll lo (.slice (some ⟨gc, oc, none⟩) 6 cv) (.slice (some ⟨gl, ol, none⟩) 6 cl) (.slice (some ⟨gk, ok, none⟩) 6 co) 6 mo (.slice (some ⟨gm, om, none⟩) 6 cm)) (fun q _ => N - (intOf q).toNat)
      case atStart => exact ⟨0, rfl, Nat.zero_le _, HQ.out⟩
      case round =>
      obtain ⟨r, rfl, hr, hms⟩ := hrel
      have HQ2 := Lib.hid hms
      clear hms
      obtain ⟨gf, of, cf, Ae, ce, k1, k2, k3, k4, k5⟩ := HQ2.out.lg.check rfl rfl HE.out HJ.out (by decide) rfl
      have hok := HDA.out j HJ.out e HE.out
      unfold okF at hok
      rw [← HN.out] at k1 k2 k3 k5 hok
      rw [← HMM.out] at hok
      by_cases hrt : r < N
      · obtain ⟨ge, oe, e5, k6⟩ := k3 (by omega)
        subst e5
        have k7 := k6 _ _ (hok r hrt).2
        have k8 := k4 _ _ (hok r hrt).1
        rw [← Nat.add_assoc] at k7
        have HRT := Lib.hid hrt
        have hrt2 : (r : Int) < (N : Int) := by omega
        have hrt3 : (r : Int) < (N : Int) + 1 := by omega
        clear k3 k4 k5 k6 hok
        go_upto_region 46 with (fail)
        refine wp_region_held_drew (S := (fun w' => w'.cell? ⟨gc, oc + j, none⟩ = some (.slice (some ⟨ge, oe, none⟩) N ce) ∧ w'.cell? ⟨gk, ok + j, none⟩ = some (.slice (some ⟨gf, of, none⟩) (N + 1) cf) ∧ w'.cell? ⟨ge, oe + r * 2 + 1, none⟩ = some (.string M) ∧ w'.cell? ⟨gf, of + r * 2, none⟩ = some (.string ⟨#[111, 119, 110]⟩))) (by as_aux_lemma => kernel_rfl) ?_ (fun hHeld => ?_)
        · exact ⟨k1, k2, k7, k8⟩
        generalize hwd : World.drew _ = wd at hHeld ⊢
        have hqd := HQ2.out.below (Below.refl _ _).drew
        rw [hwd] at hqd
        have HQD := Lib.hid hqd
        have hHeld0 := hHeld
        have HHD := Lib.hid hHeld0
        have hba : Below wd.heap.size wd (wd.alloc (.cells #[.int .u8 (j : Int)] 5)) := (Below.refl _ _).alloc (Nat.le_refl _) _
        have HBA := Lib.hid hba
        clear hwd hqd hba hHeld0 k1 k2 k7 k8
        refine wpAnyH_take (i := 0) (v := ?_) (by simp only [List.getElem?_toArray, List.getElem?_cons_zero]; exact rfl) (by as_aux_lemma => kernel_rfl) (by as_aux_lemma => kernel_rfl) (by as_aux_lemma => kernel_rfl) (by exact fun _ _ _ h => h) (Or.inl ⟨by rfl, ?_⟩) (by assumption) ?_
        rotate_left
        · intro w hSw
          (try dsimp only at hSw)
          go_simp
          try with_reducible rfl
        (try simp only [Act.put, List.setIfInBounds_toArray, List.set_cons_zero, List.set_cons_succ])
        refine wpAnyH_take (i := 1) (v := ?_) (by simp only [List.getElem?_toArray, List.getElem?_cons_succ, List.getElem?_cons_zero]; exact rfl) (by as_aux_lemma => kernel_rfl) (by as_aux_lemma => kernel_rfl) (by as_aux_lemma => kernel_rfl) (by exact fun _ _ _ h => h) (Or.inl ⟨by rfl, ?_⟩) (by assumption) ?_
        rotate_left
        · intro w hSw
          (try dsimp only at hSw)
          go_simp
          try with_reducible rfl
        (try simp only [Act.put, List.setIfInBounds_toArray, List.set_cons_zero, List.set_cons_succ])
        refine wpAnyH_take (i := 2) (v := ?_) (by simp only [List.getElem?_toArray, List.getElem?_cons_succ, List.getElem?_cons_zero]; exact rfl) (by as_aux_lemma => kernel_rfl) (by as_aux_lemma => kernel_rfl) (by as_aux_lemma => kernel_rfl) (by exact fun _ _ _ h => h) (Or.inl ⟨by rfl, ?_⟩) (by assumption) ?_
        rotate_left
        · intro w hSw
          (try dsimp only at hSw)
          go_simp
          try with_reducible rfl
        (try simp only [Act.put, List.setIfInBounds_toArray, List.set_cons_zero, List.set_cons_succ])
        refine wpAnyH_take (i := 3) (v := ?_) (by simp only [List.getElem?_toArray, List.getElem?_cons_succ, List.getElem?_cons_zero]; exact rfl) (by as_aux_lemma => kernel_rfl) (by as_aux_lemma => kernel_rfl) (by as_aux_lemma => kernel_rfl) (by exact fun _ _ _ h => h) (Or.inl ⟨by rfl, ?_⟩) (by assumption) ?_
        rotate_left
        · intro w hSw
          (try dsimp only at hSw)
          go_simp
          try with_reducible rfl
        (try simp only [Act.put, List.setIfInBounds_toArray, List.set_cons_zero, List.set_cons_succ])
        refine wpAnyH_take (i := 4) (v := ?_) (by simp only [List.getElem?_toArray, List.getElem?_cons_succ, List.getElem?_cons_zero]; exact rfl) (by as_aux_lemma => kernel_rfl) (by as_aux_lemma => kernel_rfl) (by as_aux_lemma => kernel_rfl) (by exact fun _ _ _ h => h) (Or.inl ⟨by rfl, ?_⟩) (by assumption) ?_
        rotate_left
        · intro w hSw
          (try dsimp only at hSw)
          go_simp
          try with_reducible rfl
        (try simp only [Act.put, List.setIfInBounds_toArray, List.set_cons_zero, List.set_cons_succ])
        refine wpAnyH_take (i := 5) (v := ?_) (by simp only [List.getElem?_toArray, List.getElem?_cons_succ, List.getElem?_cons_zero]; exact rfl) (by as_aux_lemma => kernel_rfl) (by as_aux_lemma => kernel_rfl) (by as_aux_lemma => kernel_rfl) (by exact fun _ _ _ h => h) (Or.inl ⟨by rfl, ?_⟩) (by assumption) ?_
        rotate_left
        · intro w hSw
          (try dsimp only at hSw)
          go_simp
          try with_reducible rfl
        (try simp only [Act.put, List.setIfInBounds_toArray, List.set_cons_zero, List.set_cons_succ])
        refine wpAnyH_take (i := 6) (v := ?_) (by simp only [List.getElem?_toArray, List.getElem?_cons_succ, List.getElem?_cons_zero]; exact rfl) (by as_aux_lemma => kernel_rfl) (by as_aux_lemma => kernel_rfl) (by as_aux_lemma => kernel_rfl) (by exact fun _ _ _ h => h) (Or.inl ⟨by rfl, ?_⟩) (by assumption) ?_
        rotate_left
        · intro w hSw
          (try dsimp only at hSw)
          go_simp
          try with_reducible rfl
        (try simp only [Act.put, List.setIfInBounds_toArray, List.set_cons_zero, List.set_cons_succ])
        refine wpAnyH_take (i := 7) (v := ?_) (by simp only [List.getElem?_toArray, List.getElem?_cons_succ, List.getElem?_cons_zero]; exact rfl) (by as_aux_lemma => kernel_rfl) (by as_aux_lemma => kernel_rfl) (by as_aux_lemma => kernel_rfl) (by exact fun _ _ _ h => h) (Or.inl ⟨by rfl, ?_⟩) (by assumption) ?_
        rotate_left
        · intro w hSw
          (try dsimp only at hSw)
          go_simp
          try with_reducible rfl
        (try simp only [Act.put, List.setIfInBounds_toArray, List.set_cons_zero, List.set_cons_succ])
        refine wpAnyH_take (i := 8) (v := ?_) (by simp only [List.getElem?_toArray, List.getElem?_cons_succ, List.getElem?_cons_zero]; exact rfl) (by as_aux_lemma => kernel_rfl) (by as_aux_lemma => kernel_rfl) (by as_aux_lemma => kernel_rfl) (by exact fun _ _ _ h => h) (Or.inl ⟨by rfl, ?_⟩) (by assumption) ?_
        rotate_left
        · intro w hSw
          (try dsimp only at hSw)
          go_simp
          try with_reducible rfl
        (try simp only [Act.put, List.setIfInBounds_toArray, List.set_cons_zero, List.set_cons_succ])
        refine wpAnyH_take (i := 9) (v := ?_) (by simp only [List.getElem?_toArray, List.getElem?_cons_succ, List.getElem?_cons_zero]; exact rfl) (by as_aux_lemma => kernel_rfl) (by as_aux_lemma => kernel_rfl) (by as_aux_lemma => kernel_rfl) (by exact fun _ _ _ h => h) (Or.inl ⟨by rfl, ?_⟩) (by assumption) ?_
        rotate_left
        · intro w hSw
          (try dsimp only at hSw)
          go_simp
          try with_reducible rfl
        (try simp only [Act.put, List.setIfInBounds_toArray, List.set_cons_zero, List.set_cons_succ])
        refine wpAnyH_ready (rs := [10]) (by as_aux_lemma => kernel_rfl) (by simp) ?_
        refine AllReadyH.cons (by simp only [List.getElem?_toArray, List.getElem?_cons_succ, List.getElem?_cons_zero]; exact rfl) (fun K hK => ?_) AllReadyH.nil
        go_simp
        refine hK.out _ _ ?_ (fun hHeld => ?_)
        · (try dsimp only)
          exact ⟨cellOn2 HBA.out HHD.out.1, cellOn2 HBA.out HHD.out.2.1, cellOn2 HBA.out HHD.out.2.2.1, cellOn2 HBA.out HHD.out.2.2.2⟩
        clear hK K
        (try simp only [Act.put, List.setIfInBounds_toArray, List.set_cons_zero, List.set_cons_succ])
        refine wpAnyH_ready (rs := [11]) (by as_aux_lemma => kernel_rfl) (by simp) ?_
        refine AllReadyH.cons (by simp only [List.getElem?_toArray, List.getElem?_cons_succ, List.getElem?_cons_zero]; exact rfl) (fun K hK => ?_) AllReadyH.nil
        go_simp
        refine hK.out _ _ ?_ (fun hHeld => ?_)
        · (try dsimp only)
          exact ⟨cellOn2 HBA.out HHD.out.1, cellOn2 HBA.out HHD.out.2.1, cellOn2 HBA.out HHD.out.2.2.1, cellOn2 HBA.out HHD.out.2.2.2⟩
        clear hK K
        (try simp only [Act.put, List.setIfInBounds_toArray, List.set_cons_zero, List.set_cons_succ])
        refine wpAnyH_take (i := 12) (v := ?_) (by simp only [List.getElem?_toArray, List.getElem?_cons_succ, List.getElem?_cons_zero]; exact rfl) (by as_aux_lemma => kernel_rfl) (by as_aux_lemma => kernel_rfl) (by as_aux_lemma => kernel_rfl) (by exact fun _ _ _ h => h) (Or.inl ⟨by rfl, ?_⟩) (by assumption) ?_
        rotate_left
        · intro w hSw
          (try dsimp only at hSw)
          go_simp
          try with_reducible rfl
        (try simp only [Act.put, List.setIfInBounds_toArray, List.set_cons_zero, List.set_cons_succ])
        refine wpAnyH_take (i := 13) (v := ?_) (by simp only [List.getElem?_toArray, List.getElem?_cons_succ, List.getElem?_cons_zero]; exact rfl) (by as_aux_lemma => kernel_rfl) (by as_aux_lemma => kernel_rfl) (by as_aux_lemma => kernel_rfl) (by exact fun _ _ _ h => h) (Or.inl ⟨by rfl, ?_⟩) (by assumption) ?_
        rotate_left
        · intro w hSw
          (try dsimp only at hSw)
          go_simp
          try with_reducible rfl
        (try simp only [Act.put, List.setIfInBounds_toArray, List.set_cons_zero, List.set_cons_succ])
        refine wpAnyH_take (i := 14) (v := ?_) (by simp only [List.getElem?_toArray, List.getElem?_cons_succ, List.getElem?_cons_zero]; exact rfl) (by as_aux_lemma => kernel_rfl) (by as_aux_lemma => kernel_rfl) (by as_aux_lemma => kernel_rfl) (by exact fun _ _ _ h => h) (Or.inl ⟨by rfl, ?_⟩) (by assumption) ?_
        rotate_left
        · intro w hSw
          (try dsimp only at hSw)
          go_simp
          try with_reducible rfl
        (try simp only [Act.put, List.setIfInBounds_toArray, List.set_cons_zero, List.set_cons_succ])
        refine wpAnyH_take (i := 15) (v := ?_) (by simp only [List.getElem?_toArray, List.getElem?_cons_succ, List.getElem?_cons_zero]; exact rfl) (by as_aux_lemma => kernel_rfl) (by as_aux_lemma => kernel_rfl) (by as_aux_lemma => kernel_rfl) (by exact fun _ _ _ h => h) (Or.inl ⟨by rfl, ?_⟩) (by assumption) ?_
        rotate_left
        · intro w hSw
          (try dsimp only at hSw)
          go_simp
          try with_reducible rfl
        (try simp only [Act.put, List.setIfInBounds_toArray, List.set_cons_zero, List.set_cons_succ])
        refine wpAnyH_take (i := 16) (v := ?_) (by simp only [List.getElem?_toArray, List.getElem?_cons_succ, List.getElem?_cons_zero]; exact rfl) (by as_aux_lemma => kernel_rfl) (by as_aux_lemma => kernel_rfl) (by as_aux_lemma => kernel_rfl) (by exact fun _ _ _ h => h) (Or.inl ⟨by rfl, ?_⟩) (by assumption) ?_
        rotate_left
        · intro w hSw
          (try dsimp only at hSw)
          go_simp
          try with_reducible rfl
        (try simp only [Act.put, List.setIfInBounds_toArray, List.set_cons_zero, List.set_cons_succ])
        refine wpAnyH_take (i := 17) (v := ?_) (by simp only [List.getElem?_toArray, List.getElem?_cons_succ, List.getElem?_cons_zero]; exact rfl) (by as_aux_lemma => kernel_rfl) (by as_aux_lemma => kernel_rfl) (by as_aux_lemma => kernel_rfl) (by exact fun _ _ _ h => h) (Or.inl ⟨by rfl, ?_⟩) (by assumption) ?_
        rotate_left
        · intro w hSw
          (try dsimp only at hSw)
          go_simp
          try with_reducible rfl
        (try simp only [Act.put, List.setIfInBounds_toArray, List.set_cons_zero, List.set_cons_succ])
        refine wpAnyH_take (i := 18) (v := ?_) (by simp only [List.getElem?_toArray, List.getElem?_cons_succ, List.getElem?_cons_zero]; exact rfl) (by as_aux_lemma => kernel_rfl) (by as_aux_lemma => kernel_rfl) (by as_aux_lemma => kernel_rfl) (by exact fun _ _ _ h => h) (Or.inl ⟨by rfl, ?_⟩) (by assumption) ?_
        rotate_left
        · intro w hSw
          (try dsimp only at hSw)
          go_simp
          try with_reducible rfl
        (try simp only [Act.put, List.setIfInBounds_toArray, List.set_cons_zero, List.set_cons_succ])
        refine wpAnyH_take (i := 19) (v := ?_) (by simp only [List.getElem?_toArray, List.getElem?_cons_succ, List.getElem?_cons_zero]; exact rfl) (by as_aux_lemma => kernel_rfl) (by as_aux_lemma => kernel_rfl) (by as_aux_lemma => kernel_rfl) (by exact fun _ _ _ h => h) (Or.inl ⟨by rfl, ?_⟩) (by assumption) ?_
        rotate_left
        · intro w hSw
          (try dsimp only at hSw)
          go_simp
          try with_reducible rfl
        (try simp only [Act.put, List.setIfInBounds_toArray, List.set_cons_zero, List.set_cons_succ])
        refine wpAnyH_take (i := 20) (v := ?_) (by simp only [List.getElem?_toArray, List.getElem?_cons_succ, List.getElem?_cons_zero]; exact rfl) (by as_aux_lemma => kernel_rfl) (by as_aux_lemma => kernel_rfl) (by as_aux_lemma => kernel_rfl) (by exact fun _ _ _ h => h) (Or.inl ⟨by rfl, ?_⟩) (by assumption) ?_
        rotate_left
        · intro w hSw
          (try dsimp only at hSw)
          go_simp
          try with_reducible rfl
        (try simp only [Act.put, List.setIfInBounds_toArray, List.set_cons_zero, List.set_cons_succ])
        refine wpAnyH_take (i := 21) (v := ?_) (by simp only [List.getElem?_toArray, List.getElem?_cons_succ, List.getElem?_cons_zero]; exact rfl) (by as_aux_lemma => kernel_rfl) (by as_aux_lemma => kernel_rfl) (by as_aux_lemma => kernel_rfl) (by exact fun _ _ _ h => h) (Or.inl ⟨by rfl, ?_⟩) (by assumption) ?_
        rotate_left
        · intro w hSw
          (try dsimp only at hSw)
          go_simp
          try with_reducible rfl
        (try simp only [Act.put, List.setIfInBounds_toArray, List.set_cons_zero, List.set_cons_succ])
        refine wpAnyH_take (i := 22) (v := ?_) (by simp only [List.getElem?_toArray, List.getElem?_cons_succ, List.getElem?_cons_zero]; exact rfl) (by as_aux_lemma => kernel_rfl) (by as_aux_lemma => kernel_rfl) (by as_aux_lemma => kernel_rfl) (by exact fun _ _ _ h => h) (Or.inl ⟨by rfl, ?_⟩) (by assumption) ?_
        rotate_left
        · intro w hSw
          (try dsimp only at hSw)
          go_simp
          try with_reducible rfl
        (try simp only [Act.put, List.setIfInBounds_toArray, List.set_cons_zero, List.set_cons_succ])
        refine wpAnyH_take (i := 23) (v := ?_) (by simp only [List.getElem?_toArray, List.getElem?_cons_succ, List.getElem?_cons_zero]; exact rfl) (by as_aux_lemma => kernel_rfl) (by as_aux_lemma => kernel_rfl) (by as_aux_lemma => kernel_rfl) (by exact fun _ _ _ h => h) (Or.inl ⟨by rfl, ?_⟩) (by assumption) ?_
        rotate_left
        · intro w hSw
          (try dsimp only at hSw)
          go_simp
          try with_reducible rfl
        (try simp only [Act.put, List.setIfInBounds_toArray, List.set_cons_zero, List.set_cons_succ])
        refine wpAnyH_done (by as_aux_lemma => kernel_rfl) ?_ _
        go_wp2
        go_roundw
        case rel => exact ⟨r + 1, by go_num, HRT.out, HQD.out.below HBA.out⟩
        case measure => have := HRT.out; simp [intOf]; omega
      · have hrN : r = N := by omega
        subst hrN
        have hrt3 : (r : Int) < (r : Int) + 1 := by omega
        have k6 := k5 0 _ rfl
        have k7 := k5 1 _ rfl
        rw [Nat.add_zero] at k6
        rw [← Nat.add_assoc, ← HMM.out] at k7
        clear k3 k4 k5 hok
        go_upto_region 48 with (fail)
        refine wp_region_held_drew (S := (fun w' => w'.cell? ⟨gc, oc + j, none⟩ = some (.slice Ae r ce) ∧ w'.cell? ⟨gk, ok + j, none⟩ = some (.slice (some ⟨gf, of, none⟩) (r + 1) cf) ∧ w'.cell? ⟨gf, of + r * 2, none⟩ = some (.string ⟨#[109, 111, 114, 101]⟩) ∧ w'.cell? ⟨gf, of + r * 2 + 1, none⟩ = some (.string M))) (by as_aux_lemma => kernel_rfl) ?_ (fun hHeld => ?_)
        · exact ⟨k1, k2, k6, k7⟩
        generalize hwd : World.drew _ = wd at hHeld ⊢
        have hqd := HQ2.out.below (Below.refl _ _).drew
        rw [hwd] at hqd
        have HQD := Lib.hid hqd
        have hHeld0 := hHeld
        have HHD := Lib.hid hHeld0
        have hba : Below wd.heap.size wd (wd.alloc (.cells #[.int .u8 (j : Int)] 5)) := (Below.refl _ _).alloc (Nat.le_refl _) _
        have HBA := Lib.hid hba
        clear hwd hqd hba hHeld0 k1 k2 k6 k7
        refine wpAnyH_take (i := 0) (v := ?_) (by simp only [List.getElem?_toArray, List.getElem?_cons_zero]; exact rfl) (by as_aux_lemma => kernel_rfl) (by as_aux_lemma => kernel_rfl) (by as_aux_lemma => kernel_rfl) (by exact fun _ _ _ h => h) (Or.inl ⟨by rfl, ?_⟩) (by assumption) ?_
        rotate_left
        · intro w hSw
          (try dsimp only at hSw)
          go_simp
          try with_reducible rfl
        (try simp only [Act.put, List.setIfInBounds_toArray, List.set_cons_zero, List.set_cons_succ])
        refine wpAnyH_take (i := 1) (v := ?_) (by simp only [List.getElem?_toArray, List.getElem?_cons_succ, List.getElem?_cons_zero]; exact rfl) (by as_aux_lemma => kernel_rfl) (by as_aux_lemma => kernel_rfl) (by as_aux_lemma => kernel_rfl) (by exact fun _ _ _ h => h) (Or.inl ⟨by rfl, ?_⟩) (by assumption) ?_
        rotate_left
        · intro w hSw
          (try dsimp only at hSw)
          go_simp
          try with_reducible rfl
        (try simp only [Act.put, List.setIfInBounds_toArray, List.set_cons_zero, List.set_cons_succ])
        refine wpAnyH_take (i := 2) (v := ?_) (by simp only [List.getElem?_toArray, List.getElem?_cons_succ, List.getElem?_cons_zero]; exact rfl) (by as_aux_lemma => kernel_rfl) (by as_aux_lemma => kernel_rfl) (by as_aux_lemma => kernel_rfl) (by exact fun _ _ _ h => h) (Or.inl ⟨by rfl, ?_⟩) (by assumption) ?_
        rotate_left
        · intro w hSw
          (try dsimp only at hSw)
          go_simp
          try with_reducible rfl
        (try simp only [Act.put, List.setIfInBounds_toArray, List.set_cons_zero, List.set_cons_succ])
        refine wpAnyH_take (i := 3) (v := ?_) (by simp only [List.getElem?_toArray, List.getElem?_cons_succ, List.getElem?_cons_zero]; exact rfl) (by as_aux_lemma => kernel_rfl) (by as_aux_lemma => kernel_rfl) (by as_aux_lemma => kernel_rfl) (by exact fun _ _ _ h => h) (Or.inl ⟨by rfl, ?_⟩) (by assumption) ?_
        rotate_left
        · intro w hSw
          (try dsimp only at hSw)
          go_simp
          try with_reducible rfl
        (try simp only [Act.put, List.setIfInBounds_toArray, List.set_cons_zero, List.set_cons_succ])
        refine wpAnyH_take (i := 4) (v := ?_) (by simp only [List.getElem?_toArray, List.getElem?_cons_succ, List.getElem?_cons_zero]; exact rfl) (by as_aux_lemma => kernel_rfl) (by as_aux_lemma => kernel_rfl) (by as_aux_lemma => kernel_rfl) (by exact fun _ _ _ h => h) (Or.inl ⟨by rfl, ?_⟩) (by assumption) ?_
        rotate_left
        · intro w hSw
          (try dsimp only at hSw)
          go_simp
          try with_reducible rfl
        (try simp only [Act.put, List.setIfInBounds_toArray, List.set_cons_zero, List.set_cons_succ])
        refine wpAnyH_take (i := 5) (v := ?_) (by simp only [List.getElem?_toArray, List.getElem?_cons_succ, List.getElem?_cons_zero]; exact rfl) (by as_aux_lemma => kernel_rfl) (by as_aux_lemma => kernel_rfl) (by as_aux_lemma => kernel_rfl) (by exact fun _ _ _ h => h) (Or.inl ⟨by rfl, ?_⟩) (by assumption) ?_
        rotate_left
        · intro w hSw
          (try dsimp only at hSw)
          go_simp
          try with_reducible rfl
        (try simp only [Act.put, List.setIfInBounds_toArray, List.set_cons_zero, List.set_cons_succ])
        refine wpAnyH_take (i := 6) (v := ?_) (by simp only [List.getElem?_toArray, List.getElem?_cons_succ, List.getElem?_cons_zero]; exact rfl) (by as_aux_lemma => kernel_rfl) (by as_aux_lemma => kernel_rfl) (by as_aux_lemma => kernel_rfl) (by exact fun _ _ _ h => h) (Or.inl ⟨by rfl, ?_⟩) (by assumption) ?_
        rotate_left
        · intro w hSw
          (try dsimp only at hSw)
          go_simp
          try with_reducible rfl
        (try simp only [Act.put, List.setIfInBounds_toArray, List.set_cons_zero, List.set_cons_succ])
        refine wpAnyH_take (i := 7) (v := ?_) (by simp only [List.getElem?_toArray, List.getElem?_cons_succ, List.getElem?_cons_zero]; exact rfl) (by as_aux_lemma => kernel_rfl) (by as_aux_lemma => kernel_rfl) (by as_aux_lemma => kernel_rfl) (by exact fun _ _ _ h => h) (Or.inl ⟨by rfl, ?_⟩) (by assumption) ?_
        rotate_left
        · intro w hSw
          (try dsimp only at hSw)
          go_simp
          try with_reducible rfl
        (try simp only [Act.put, List.setIfInBounds_toArray, List.set_cons_zero, List.set_cons_succ])
        refine wpAnyH_take (i := 11) (v := ?_) (by simp only [List.getElem?_toArray, List.getElem?_cons_succ, List.getElem?_cons_zero]; exact rfl) (by as_aux_lemma => kernel_rfl) (by as_aux_lemma => kernel_rfl) (by as_aux_lemma => kernel_rfl) (by exact fun _ _ _ h => h) (Or.inl ⟨by rfl, ?_⟩) (by assumption) ?_
        rotate_left
        · intro w hSw
          (try dsimp only at hSw)
          go_simp
          try with_reducible rfl
        (try simp only [Act.put, List.setIfInBounds_toArray, List.set_cons_zero, List.set_cons_succ])
        refine wpAnyH_take (i := 8) (v := ?_) (by simp only [List.getElem?_toArray, List.getElem?_cons_succ, List.getElem?_cons_zero]; exact rfl) (by as_aux_lemma => kernel_rfl) (by as_aux_lemma => kernel_rfl) (by as_aux_lemma => kernel_rfl) (by exact fun _ _ _ h => h) (Or.inl ⟨by rfl, ?_⟩) (by assumption) ?_
        rotate_left
        · intro w hSw
          (try dsimp only at hSw)
          go_simp
          try with_reducible rfl
        (try simp only [Act.put, List.setIfInBounds_toArray, List.set_cons_zero, List.set_cons_succ])
        refine wpAnyH_take (i := 9) (v := ?_) (by simp only [List.getElem?_toArray, List.getElem?_cons_succ, List.getElem?_cons_zero]; exact rfl) (by as_aux_lemma => kernel_rfl) (by as_aux_lemma => kernel_rfl) (by as_aux_lemma => kernel_rfl) (by exact fun _ _ _ h => h) (Or.inl ⟨by rfl, ?_⟩) (by assumption) ?_
        rotate_left
        · intro w hSw
          (try dsimp only at hSw)
          go_simp
          try with_reducible rfl
        (try simp only [Act.put, List.setIfInBounds_toArray, List.set_cons_zero, List.set_cons_succ])
        refine wpAnyH_take (i := 10) (v := ?_) (by simp only [List.getElem?_toArray, List.getElem?_cons_succ, List.getElem?_cons_zero]; exact rfl) (by as_aux_lemma => kernel_rfl) (by as_aux_lemma => kernel_rfl) (by as_aux_lemma => kernel_rfl) (by exact fun _ _ _ h => h) (Or.inl ⟨by rfl, ?_⟩) (by assumption) ?_
        rotate_left
        · intro w hSw
          (try dsimp only at hSw)
          go_simp
          try with_reducible rfl
        (try simp only [Act.put, List.setIfInBounds_toArray, List.set_cons_zero, List.set_cons_succ])
        refine wpAnyH_take (i := 12) (v := ?_) (by simp only [List.getElem?_toArray, List.getElem?_cons_succ, List.getElem?_cons_zero]; exact rfl) (by as_aux_lemma => kernel_rfl) (by as_aux_lemma => kernel_rfl) (by as_aux_lemma => kernel_rfl) (by exact fun _ _ _ h => h) (Or.inl ⟨by rfl, ?_⟩) (by assumption) ?_
        rotate_left
        · intro w hSw
          (try dsimp only at hSw)
          go_simp
          try with_reducible rfl
        (try simp only [Act.put, List.setIfInBounds_toArray, List.set_cons_zero, List.set_cons_succ])
        refine wpAnyH_ready (rs := [13]) (by as_aux_lemma => kernel_rfl) (by simp) ?_
        refine AllReadyH.cons (by simp only [List.getElem?_toArray, List.getElem?_cons_succ, List.getElem?_cons_zero]; exact rfl) (fun K hK => ?_) AllReadyH.nil
        go_simp
        refine hK.out _ _ ?_ (fun hHeld => ?_)
        · (try dsimp only)
          exact ⟨cellOn2 HBA.out HHD.out.1, cellOn2 HBA.out HHD.out.2.1, cellOn2 HBA.out HHD.out.2.2.1, cellOn2 HBA.out HHD.out.2.2.2⟩
        clear hK K
        (try simp only [Act.put, List.setIfInBounds_toArray, List.set_cons_zero, List.set_cons_succ])
        refine wpAnyH_ready (rs := [14]) (by as_aux_lemma => kernel_rfl) (by simp) ?_
        refine AllReadyH.cons (by simp only [List.getElem?_toArray, List.getElem?_cons_succ, List.getElem?_cons_zero]; exact rfl) (fun K hK => ?_) AllReadyH.nil
        go_simp
        refine hK.out _ _ ?_ (fun hHeld => ?_)
        · (try dsimp only)
          exact ⟨cellOn2 HBA.out HHD.out.1, cellOn2 HBA.out HHD.out.2.1, cellOn2 HBA.out HHD.out.2.2.1, cellOn2 HBA.out HHD.out.2.2.2⟩
        clear hK K
        (try simp only [Act.put, List.setIfInBounds_toArray, List.set_cons_zero, List.set_cons_succ])
        refine wpAnyH_take (i := 15) (v := ?_) (by simp only [List.getElem?_toArray, List.getElem?_cons_succ, List.getElem?_cons_zero]; exact rfl) (by as_aux_lemma => kernel_rfl) (by as_aux_lemma => kernel_rfl) (by as_aux_lemma => kernel_rfl) (by exact fun _ _ _ h => h) (Or.inl ⟨by rfl, ?_⟩) (by assumption) ?_
        rotate_left
        · intro w hSw
          (try dsimp only at hSw)
          go_simp
          try with_reducible rfl
        (try simp only [Act.put, List.setIfInBounds_toArray, List.set_cons_zero, List.set_cons_succ])
        refine wpAnyH_take (i := 16) (v := ?_) (by simp only [List.getElem?_toArray, List.getElem?_cons_succ, List.getElem?_cons_zero]; exact rfl) (by as_aux_lemma => kernel_rfl) (by as_aux_lemma => kernel_rfl) (by as_aux_lemma => kernel_rfl) (by exact fun _ _ _ h => h) (Or.inl ⟨by rfl, ?_⟩) (by assumption) ?_
        rotate_left
        · intro w hSw
          (try dsimp only at hSw)
          go_simp
          try with_reducible rfl
        (try simp only [Act.put, List.setIfInBounds_toArray, List.set_cons_zero, List.set_cons_succ])
        refine wpAnyH_done (by as_aux_lemma => kernel_rfl) ?_ _
        go_wp2
        go_roundw
        case rel => exact ⟨j + 1, by have := HJ.out; omega, by go_num, HQD.out.below HBA.out⟩
        case measure => have := HJ.out; simp [intOf]; omega
    · have hj9 : j = 6 := by omega
      subst hj9
      go_wp2
      go_meet
      exact HQ.out
  case rest =>
  obtain ⟨w9, rfl⟩ : ∃ w9 : World, w9 = wc := ⟨_, rfl⟩
  have HM9 := Lib.hid hcut
  clear hcut HMS
  go_upto_block 18 with (fail)
  go_cut [] from 25 to 282 (fun wx => More2 w2 wx 2 1 6 6 4194304 4194304 maF maB la ll lo (.slice (some ⟨gc, oc, none⟩) 6 cv) (.slice (some ⟨gl, ol, none⟩) 6 cl) (.slice (some ⟨gk, ok, none⟩) 6 co) 6 mo (.slice (some ⟨gm, om, none⟩) 6 cm))
  case first => as_aux_lemma =>
    go_wp2
    go_loopw [25] (fun i wr => ∃ (j : Nat), j ≤ 6 ∧ i = .int .i64 j ∧ More2 w2 wr 2 1 6 6 4194304 4194304 maF maB la ll lo (.slice (some ⟨gc, oc, none⟩) 6 cv) (.slice (some ⟨gl, ol, none⟩) 6 cl) (.slice (some ⟨gk, ok, none⟩) 6 co) 6 mo (.slice (some ⟨gm, om, none⟩) 6 cm)) (fun i _ => 6 - (intOf i).toNat)
    case atStart => exact ⟨0, by omega, rfl, HM9.out⟩
    case round =>
    obtain ⟨j, hj, rfl, hms⟩ := hrel
    have HQ := Lib.hid hms
    clear hms
    by_cases hlt : j < 6
    · obtain ⟨e, he⟩ : ∃ e, ll[j]? = some e := ⟨ll[j]'(by have := HQ.out.lg.st.hl; omega), List.getElem?_eq_getElem _⟩
      have HE := Lib.hid he
      have HJ := Lib.hid hlt
      have hNb := HQ.out.lg.st.zl e (List.mem_of_getElem? he)
      obtain ⟨N, hN⟩ : ∃ N, N = e.n := ⟨_, rfl⟩
      rw [← hN] at hNb
      have HN := Lib.hid hN
      have hj3 : (j : Int) < 6 := by omega
      have hwu : IntKind.u8.wrap (3 * (j : Int)) = 3 * (j : Int) := IntWalk.u8_in _ (by omega)
      have hwv : IntKind.u8.wrap (3 * (j : Int) + 1) = 3 * (j : Int) + 1 := IntWalk.u8_in _ (by omega)
      have hb0 : (3 * (j : Int) != 3 * (j : Int)) = false := by simp
      have hb1 : (3 * (j : Int) + 1 != 3 * (j : Int) + 1) = false := by simp
      clear he hN
      go_wp2
      go_loopw [26] (fun q wr2 => ∃ (r : Nat), q = .int .i64 r ∧ r ≤ N ∧ More2 w2 wr2 2 1 6 6 4194304 4194304 maF maB la ll lo (.slice (some ⟨gc, oc, none⟩) 6 cv) (.slice (some ⟨gl, ol, none⟩) 6 cl) (.slice (some ⟨gk, ok, none⟩) 6 co) 6 mo (.slice (some ⟨gm, om, none⟩) 6 cm)) (fun q _ => N - (intOf q).toNat)
      case atStart => exact ⟨0, rfl, Nat.zero_le _, HQ.out⟩
      case round =>
      obtain ⟨r, rfl, hr, hms⟩ := hrel
      have HQ2 := Lib.hid hms
      clear hms
      obtain ⟨gf, of, cf, Ae, ce, k1, k2, k3, k4, k5⟩ := HQ2.out.check rfl rfl HE.out HJ.out (by decide) rfl
      have hok := HDL.out j HJ.out e HE.out
      unfold okB at hok
      rw [← HN.out] at k1 k2 k3 k5 hok
      by_cases hrt : r < N
      · obtain ⟨ge, oe, e5, k6⟩ := k3 (by omega)
        subst e5
        have k7 := k6 _ _ (hok r hrt)
        have k8 := k4 _ _ (hok r hrt)
        have HRT := Lib.hid hrt
        clear k3 k4 k5 k6 hok
        go_wp2
        go_roundw
        case rel => exact ⟨r + 1, by go_num, HRT.out, HQ2.out⟩
        case measure => have := HRT.out; simp [intOf]; omega
      · have hrN : r = N := by omega
        subst hrN
        have hlr : (r : Int) < (r : Int) + 1 := by omega
        have hi1 : IntKind.i64.wrap (3 * (j : Int)) = 3 * (j : Int) := IntWalk.i64_in _ (by omega)
        have hi2 : IntKind.i64.wrap (3 * (j : Int) + 1) = 3 * (j : Int) + 1 := IntWalk.i64_in _ (by omega)
        have k6 := k5 0 _ rfl
        rw [Nat.mul_one, Nat.add_zero] at k6
        clear k3 k4 k5 hok
        go_upto_region 58 with (fail)
        refine wp_region_held_drew (S := (fun w' => w'.cell? ⟨gl, ol + j, none⟩ = some (.slice Ae r ce) ∧ w'.cell? ⟨gm, om + j, none⟩ = some (.slice (some ⟨gf, of, none⟩) (r + 1) cf) ∧ w'.cell? ⟨gf, of + r, none⟩ = some (.int .u8 (3 * (j : Int) + 1)))) (by as_aux_lemma => kernel_rfl) ?_ (fun hHeld => ?_)
        · exact ⟨k1, k2, k6⟩
        refine wpAnyH_take (i := 0) (v := ?_) (by simp only [List.getElem?_toArray, List.getElem?_cons_zero]; exact rfl) (by as_aux_lemma => kernel_rfl) (by as_aux_lemma => kernel_rfl) (by as_aux_lemma => kernel_rfl) (by exact fun _ _ _ h => h) (Or.inl ⟨by rfl, ?_⟩) (by assumption) ?_
        rotate_left
        · intro w hSw
          (try dsimp only at hSw)
          go_simp
          try with_reducible rfl
        (try simp only [Act.put, List.setIfInBounds_toArray, List.set_cons_zero, List.set_cons_succ])
        refine wpAnyH_take (i := 1) (v := ?_) (by simp only [List.getElem?_toArray, List.getElem?_cons_succ, List.getElem?_cons_zero]; exact rfl) (by as_aux_lemma => kernel_rfl) (by as_aux_lemma => kernel_rfl) (by as_aux_lemma => kernel_rfl) (by exact fun _ _ _ h => h) (Or.inl ⟨by rfl, ?_⟩) (by assumption) ?_
        rotate_left
        · intro w hSw
          (try dsimp only at hSw)
          go_simp
          try with_reducible rfl
        (try simp only [Act.put, List.setIfInBounds_toArray, List.set_cons_zero, List.set_cons_succ])
        refine wpAnyH_take (i := 2) (v := ?_) (by simp only [List.getElem?_toArray, List.getElem?_cons_succ, List.getElem?_cons_zero]; exact rfl) (by as_aux_lemma => kernel_rfl) (by as_aux_lemma => kernel_rfl) (by as_aux_lemma => kernel_rfl) (by exact fun _ _ _ h => h) (Or.inl ⟨by rfl, ?_⟩) (by assumption) ?_
        rotate_left
        · intro w hSw
          (try dsimp only at hSw)
          go_simp
          try with_reducible rfl
        (try simp only [Act.put, List.setIfInBounds_toArray, List.set_cons_zero, List.set_cons_succ])
        refine wpAnyH_take (i := 3) (v := ?_) (by simp only [List.getElem?_toArray, List.getElem?_cons_succ, List.getElem?_cons_zero]; exact rfl) (by as_aux_lemma => kernel_rfl) (by as_aux_lemma => kernel_rfl) (by as_aux_lemma => kernel_rfl) (by exact fun _ _ _ h => h) (Or.inl ⟨by rfl, ?_⟩) (by assumption) ?_
        rotate_left
        · intro w hSw
          (try dsimp only at hSw)
          go_simp
          try with_reducible rfl
        (try simp only [Act.put, List.setIfInBounds_toArray, List.set_cons_zero, List.set_cons_succ])
        refine wpAnyH_take (i := 4) (v := ?_) (by simp only [List.getElem?_toArray, List.getElem?_cons_succ, List.getElem?_cons_zero]; exact rfl) (by as_aux_lemma => kernel_rfl) (by as_aux_lemma => kernel_rfl) (by as_aux_lemma => kernel_rfl) (by exact fun _ _ _ h => h) (Or.inl ⟨by rfl, ?_⟩) (by assumption) ?_
        rotate_left
        · intro w hSw
          (try dsimp only at hSw)
          go_simp
          try with_reducible rfl
        (try simp only [Act.put, List.setIfInBounds_toArray, List.set_cons_zero, List.set_cons_succ])
        refine wpAnyH_take (i := 5) (v := ?_) (by simp only [List.getElem?_toArray, List.getElem?_cons_succ, List.getElem?_cons_zero]; exact rfl) (by as_aux_lemma => kernel_rfl) (by as_aux_lemma => kernel_rfl) (by as_aux_lemma => kernel_rfl) (by exact fun _ _ _ h => h) (Or.inl ⟨by rfl, ?_⟩) (by assumption) ?_
        rotate_left
        · intro w hSw
          (try dsimp only at hSw)
          go_simp
          try with_reducible rfl
        (try simp only [Act.put, List.setIfInBounds_toArray, List.set_cons_zero, List.set_cons_succ])
        refine wpAnyH_take (i := 6) (v := ?_) (by simp only [List.getElem?_toArray, List.getElem?_cons_succ, List.getElem?_cons_zero]; exact rfl) (by as_aux_lemma => kernel_rfl) (by as_aux_lemma => kernel_rfl) (by as_aux_lemma => kernel_rfl) (by exact fun _ _ _ h => h) (Or.inl ⟨by rfl, ?_⟩) (by assumption) ?_
        rotate_left
        · intro w hSw
          (try dsimp only at hSw)
          go_simp
          try with_reducible rfl
        (try simp only [Act.put, List.setIfInBounds_toArray, List.set_cons_zero, List.set_cons_succ])
        refine wpAnyH_take (i := 7) (v := ?_) (by simp only [List.getElem?_toArray, List.getElem?_cons_succ, List.getElem?_cons_zero]; exact rfl) (by as_aux_lemma => kernel_rfl) (by as_aux_lemma => kernel_rfl) (by as_aux_lemma => kernel_rfl) (by exact fun _ _ _ h => h) (Or.inl ⟨by rfl, ?_⟩) (by assumption) ?_
        rotate_left
        · intro w hSw
          (try dsimp only at hSw)
          go_simp
          try with_reducible rfl
        (try simp only [Act.put, List.setIfInBounds_toArray, List.set_cons_zero, List.set_cons_succ])
        refine wpAnyH_take (i := 11) (v := ?_) (by simp only [List.getElem?_toArray, List.getElem?_cons_succ, List.getElem?_cons_zero]; exact rfl) (by as_aux_lemma => kernel_rfl) (by as_aux_lemma => kernel_rfl) (by as_aux_lemma => kernel_rfl) (by exact fun _ _ _ h => h) (Or.inl ⟨by rfl, ?_⟩) (by assumption) ?_
        rotate_left
        · intro w hSw
          (try dsimp only at hSw)
          go_simp
          try with_reducible rfl
        (try simp only [Act.put, List.setIfInBounds_toArray, List.set_cons_zero, List.set_cons_succ])
        refine wpAnyH_take (i := 12) (v := ?_) (by simp only [List.getElem?_toArray, List.getElem?_cons_succ, List.getElem?_cons_zero]; exact rfl) (by as_aux_lemma => kernel_rfl) (by as_aux_lemma => kernel_rfl) (by as_aux_lemma => kernel_rfl) (by exact fun _ _ _ h => h) (Or.inl ⟨by rfl, ?_⟩) (by assumption) ?_
        rotate_left
        · intro w hSw
          (try dsimp only at hSw)
          go_simp
          try with_reducible rfl
        (try simp only [Act.put, List.setIfInBounds_toArray, List.set_cons_zero, List.set_cons_succ])
        refine wpAnyH_take (i := 13) (v := ?_) (by simp only [List.getElem?_toArray, List.getElem?_cons_succ, List.getElem?_cons_zero]; exact rfl) (by as_aux_lemma => kernel_rfl) (by as_aux_lemma => kernel_rfl) (by as_aux_lemma => kernel_rfl) (by exact fun _ _ _ h => h) (Or.inl ⟨by rfl, ?_⟩) (by assumption) ?_
        rotate_left
        · intro w hSw
          (try dsimp only at hSw)
          go_simp
          try with_reducible rfl
        (try simp only [Act.put, List.setIfInBounds_toArray, List.set_cons_zero, List.set_cons_succ])
        refine wpAnyH_take (i := 14) (v := ?_) (by simp only [List.getElem?_toArray, List.getElem?_cons_succ, List.getElem?_cons_zero]; exact rfl) (by as_aux_lemma => kernel_rfl) (by as_aux_lemma => kernel_rfl) (by as_aux_lemma => kernel_rfl) (by exact fun _ _ _ h => h) (Or.inl ⟨by rfl, ?_⟩) (by assumption) ?_
        rotate_left
        · intro w hSw
          (try dsimp only at hSw)
          go_simp
          try with_reducible rfl
        (try simp only [Act.put, List.setIfInBounds_toArray, List.set_cons_zero, List.set_cons_succ])
        refine wpAnyH_take (i := 8) (v := ?_) (by simp only [List.getElem?_toArray, List.getElem?_cons_succ, List.getElem?_cons_zero]; exact rfl) (by as_aux_lemma => kernel_rfl) (by as_aux_lemma => kernel_rfl) (by as_aux_lemma => kernel_rfl) (by exact fun _ _ _ h => h) (Or.inl ⟨by rfl, ?_⟩) (by assumption) ?_
        rotate_left
        · intro w hSw
          (try dsimp only at hSw)
          go_simp
          try with_reducible rfl
        (try simp only [Act.put, List.setIfInBounds_toArray, List.set_cons_zero, List.set_cons_succ])
        refine wpAnyH_take (i := 9) (v := ?_) (by simp only [List.getElem?_toArray, List.getElem?_cons_succ, List.getElem?_cons_zero]; exact rfl) (by as_aux_lemma => kernel_rfl) (by as_aux_lemma => kernel_rfl) (by as_aux_lemma => kernel_rfl) (by exact fun _ _ _ h => h) (Or.inl ⟨by rfl, ?_⟩) (by assumption) ?_
        rotate_left
        · intro w hSw
          (try dsimp only at hSw)
          go_simp
          try with_reducible rfl
        (try simp only [Act.put, List.setIfInBounds_toArray, List.set_cons_zero, List.set_cons_succ])
        refine wpAnyH_take (i := 10) (v := ?_) (by simp only [List.getElem?_toArray, List.getElem?_cons_succ, List.getElem?_cons_zero]; exact rfl) (by as_aux_lemma => kernel_rfl) (by as_aux_lemma => kernel_rfl) (by as_aux_lemma => kernel_rfl) (by exact fun _ _ _ h => h) (Or.inl ⟨by rfl, ?_⟩) (by assumption) ?_
        rotate_left
        · intro w hSw
          (try dsimp only at hSw)
          go_simp
          try with_reducible rfl
        (try simp only [Act.put, List.setIfInBounds_toArray, List.set_cons_zero, List.set_cons_succ])
        refine wpAnyH_take (i := 15) (v := ?_) (by simp only [List.getElem?_toArray, List.getElem?_cons_succ, List.getElem?_cons_zero]; exact rfl) (by as_aux_lemma => kernel_rfl) (by as_aux_lemma => kernel_rfl) (by as_aux_lemma => kernel_rfl) (by exact fun _ _ _ h => h) (Or.inl ⟨by rfl, ?_⟩) (by assumption) ?_
        rotate_left
        · intro w hSw
          (try dsimp only at hSw)
          go_simp
          try with_reducible rfl
        (try simp only [Act.put, List.setIfInBounds_toArray, List.set_cons_zero, List.set_cons_succ])
        refine wpAnyH_done (by as_aux_lemma => kernel_rfl) ?_ _
        go_wp2
        go_roundw
        case rel => exact ⟨j + 1, by have := HJ.out; omega, by go_num, HQ2.out.below (Below.refl _ _).drew⟩
        case measure => have := HJ.out; simp [intOf]; omega
    · have hj12 : j = 6 := by omega
      subst hj12
      go_wp2
      go_meet
      exact HQ.out
  case rest =>
  obtain ⟨w10, rfl⟩ : ∃ w10 : World, w10 = wc := ⟨_, rfl⟩
  have hbl := hcut.lg.st.bl
  have X1 := Lib.hid (Var.below_all U1.out hbl)
  have ha := hcut.lg.st.two.fa.row ea (List.mem_of_getElem? HEA2.out)
  have hb := hcut.lg.st.two.fl.row el (List.mem_of_getElem? HEL2.out)
  rw [HVA.out] at ha
  rw [HVL.out] at hb
  have HRG := Lib.hid (hb.range (by decide))
  have HHS := Lib.hid (vsame_any p1.rq p1.mt p1.t p1.st p1.rs p1.mn (some ⟨ga, oa, none⟩) p1.A p1.n ca p1.c p1.fs w10 (lent_rd ha) (HK1.out.below hbl).rd (by have := HK1.out.n; omega))
  unfold headV at HHS
  have u0 := X1.out.cell (j := 0) rfl
  have u1 := X1.out.cell (j := 1) rfl
  have u2 := X1.out.cell (j := 2) rfl
  have u3 := X1.out.cell (j := 3) rfl
  have u4 := X1.out.cell (j := 4) rfl
  have u5 := X1.out.cell (j := 5) rfl
  have u6 := X1.out.cell (j := 6) rfl
  have HBL := Lib.hid hbl
  clear ha hb hbl hcut
  go_wp2_with (first
    | (refine wpList_load_mid rfl 24 (.tmp 14) rfl w4.heap.size 0 rfl [.bool p1.rq, .string p1.mt, .string p1.t, .int .i64 p1.st, .string p1.rs, .int .i64 p1.mn, .slice (some ⟨ga, oa, none⟩) p1.n ca] _ HRG.out Tryd.underlying24 rfl (by kernel_rfl) ?_)
    | (go_at_call 47; go_must (refine HHS.out.mono ?_; rintro _ w11 ⟨rfl, hb11⟩))
    | fail)
  go_ret
  exact ⟨rfl, (HBW.out.trans (HBL.out.mono HBW.out.size)).trans (hb11.mono (by have := HBW.out.size; have := HBL.out.size; omega))⟩
end Go.Proofs.YtabecgdaiakgiaaDoor
