/- For StreamBack: messages that came in, and how what is laid of them is read. No program in sight but laid's outcome. No condition. -/
import Derived.Test.YtklmpadcfioefaaGreatDoorSLaid
import Derived.Test.YtklmpadcfioefaaGreatDoorRLocS
namespace Go.Proofs.YtklmpadcfioefaaGreatDoor
open Go.RowKit
/-- a message that came in -/
structure MsgE where
  rq : Bool
  m : ByteArray
  t : ByteArray
  st : Int
  rs : ByteArray
  mn : Int
  fs : List Fl
  body : Bs
  zs : List Int
  cd : Bool
  Af : Option Addr
  nf : Nat
  cf : Nat
  Ab : Option Addr
  nb : Nat
  cb : Nat
  Ac : Option Addr
  nc : Nat
  cc : Nat
  z : Nat
def MsgE.hi (e : MsgE) : HI := hiOf e.rq e.m e.t e.st e.rs e.mn e.fs
def MsgE.cells (e : MsgE) : List Value := [.bool e.rq, .string e.m, .string e.t, .int .i64 e.st, .string e.rs, .int .i64 e.mn, .slice e.Af e.nf e.cf, .slice e.Ab e.nb e.cb, .slice e.Ac e.nc e.cc, .bool e.cd]
structure MsgOK (w : World) (B : Nat) (e : MsgE) : Prop where
  rf : Rd w B 2 e.Af e.nf (fieldsV e.fs)
  rb : Rd w B 1 e.Ab e.nb (bytesV e.body)
  rz : Rd w B 1 e.Ac e.nc (e.zs.map fun x => .int .i64 x)
  bc : e.nb ≤ e.cb
  ab : e.Ab = none → e.nb = 0 ∧ e.cb = 0
  st : isInt e.st
  mn : isInt e.mn
  z10 : 10 ≤ e.z
  sz : e.m.size + e.t.size + e.rs.size ≤ e.z
  fz : flSize e.fs ≤ 2 * e.z
  fs : ∀ f ∈ e.fs, f.1.size ≤ e.z
  nf : e.nf ≤ e.z
  nb : e.nb ≤ e.z
  nc : e.nc ≤ e.z
theorem MsgOK.below {w w' : World} {B : Nat} {e : MsgE} (h : MsgOK w B e) (hb : Below B w w') : MsgOK w' B e :=
  { h with rf := h.rf.below hb, rb := h.rb.below hb, rz := h.rz.below hb }
structure MsgsR (w : World) (A : Option Addr) (n : Nat) (L : List MsgE) : Prop where
  len : L.length = n
  get : 0 < n → ∃ g o, A = some ⟨g, o, none⟩ ∧ g < w.heap.size ∧ ∀ k (h : k < L.length) j v, L[k].cells[j]? = some v → w.cell? ⟨g, o + k * 10 + j, none⟩ = some v
  ok : ∀ e ∈ L, MsgOK w w.heap.size e
  sum : (L.map (·.z)).sum ≤ 1048576
theorem z_le {L : List MsgE} {e : MsgE} (h : e ∈ L) : e.z ≤ (L.map (·.z)).sum := by
  induction L with
  | nil => cases h
  | cons a r ih =>
    rw [List.map_cons, List.sum_cons]
    rcases List.mem_cons.1 h with h | h
    · rw [h]; omega
    · have := ih h; omega
theorem z_take (L : List MsgE) (k : Nat) (hk : k < L.length) : ((L.take (k + 1)).map (·.z)).sum = ((L.take k).map (·.z)).sum + L[k].z := by
  rw [List.take_succ_eq_append_getElem hk, List.map_append, List.sum_append]; simp
theorem z_takes (L : List MsgE) (k : Nat) : ((L.take k).map (·.z)).sum ≤ (L.map (·.z)).sum := by
  have h : (L.map (·.z)).sum = ((L.take k).map (·.z)).sum + ((L.drop k).map (·.z)).sum := by
    rw [← List.sum_append, ← List.map_append, List.take_append_drop]
  omega
theorem zip_take {α β : Type} : ∀ (P : List α) (L : List β), P.zip (L.take P.length) = P.zip L
  | [], L => by simp
  | a :: P, [] => by simp
  | a :: P, b :: L => by simp [zip_take P L]
/-- the events of the first messages -/
def evL (G : List (Hd × Nat × Nat)) (L : List MsgE) : List Strm.E1 := (G.zip L).flatMap fun p => Strm.evs p.1.1 p.1.2.1 p.1.2.2 p.2.body
theorem evL_snoc (G : List (Hd × Nat × Nat)) (L : List MsgE) (x : Hd × Nat × Nat) (h : G.length < L.length) : evL (G ++ [x]) L = evL G L ++ Strm.evs x.1 x.2.1 x.2.2 L[G.length].body := by
  unfold evL
  have e : (G ++ [x]).zip L = G.zip L ++ [(x, L[G.length])] := by
    conv => lhs; rw [← List.take_append_drop G.length L]
    rw [List.drop_eq_getElem_cons h, List.zip_append (by rw [List.length_take]; omega)]
    rw [zip_take]
    rfl
  rw [e, List.flatMap_append]
  simp
theorem evL_split (G : List (Hd × Nat × Nat)) (L : List MsgE) (i : Nat) (h : i < G.length) (hl : G.length ≤ L.length) : ∃ post, evL G L = evL (G.take i) L ++ (Strm.evs G[i].1 G[i].2.1 G[i].2.2 (L[i]'(by omega)).body ++ post) := by
  have e1 : G = (G.take i ++ [G[i]]) ++ G.drop (i + 1) := by rw [← List.take_succ_eq_append_getElem h, List.take_append_drop]
  have hti : (G.take i).length = i := by rw [List.length_take]; omega
  have e2 := evL_snoc (G.take i) L G[i] (by rw [hti]; omega)
  simp only [hti] at e2
  have e3 : ∀ (P Q : List (Hd × Nat × Nat)), P.length ≤ L.length → ∃ post, evL (P ++ Q) L = evL P L ++ post := by
    intro P Q hP
    unfold evL
    refine ⟨(Q.zip (L.drop P.length)).flatMap fun p => Strm.evs p.1.1 p.1.2.1 p.1.2.2 p.2.body, ?_⟩
    have e : (P ++ Q).zip L = P.zip L ++ Q.zip (L.drop P.length) := by
      conv => lhs; rw [← List.take_append_drop P.length L]
      rw [List.zip_append (by rw [List.length_take]; omega)]
      rw [zip_take]
    rw [e, List.flatMap_append]
  obtain ⟨post, hp⟩ := e3 (G.take i ++ [G[i]]) (G.drop (i + 1)) (by rw [List.length_append, hti]; simp; omega)
  refine ⟨post, ?_⟩
  conv => lhs; rw [e1]
  rw [hp, e2, List.append_assoc]
theorem put_evL (G : List (Hd × Nat × Nat)) : ∀ (L : List MsgE) (acc : List Strm.E1), (evL G L).foldl Strm.put acc = acc ++ evL G L := by
  induction G with
  | nil => intro L acc; simp [evL]
  | cons x G ih =>
    intro L acc
    cases L with
    | nil => simp [evL]
    | cons e L =>
      have h : evL (x :: G) (e :: L) = Strm.evs x.1 x.2.1 x.2.2 e.body ++ evL G L := rfl
      rw [h, List.foldl_append, Strm.put_evs, ih, List.append_assoc]
theorem whole_evL (G : List (Hd × Nat × Nat)) (L : List MsgE) : Strm.whole (evL G L) = evL G L := by
  have := put_evL G L []
  unfold Strm.whole
  rw [this]
  rfl
/-- what is laid of a message is read as it -/
theorem laid_feeds {e : MsgE} {X : Bs} (h : Laid e.rq e.hi e.fs e.body X) : ∃ (g : Hd) (fr ln : Nat), g.up = e.hi ∧ ∀ s Tt, Strm.Rdy s Tt → ∃ u, Strm.Feeds s X u (Strm.evs g fr ln e.body) 0 ∧ Strm.Rdy u (Tt + X.length) := by
  obtain ⟨hrq, T, hw, fr, ln, hfr, hx⟩ := h
  obtain ⟨hT, ⟨g, hp, hu⟩, _, hl⟩ := write_back hw
  have hg1 : g.rq = true := (congrArg HI.rq hu).trans hrq
  have hg2 : ((g.st : Nat) : Int) = e.hi.st := congrArg HI.st hu
  have hg3 : ((g.mn : Nat) : Int) = e.hi.mn := congrArg HI.mn hu
  have hg4 : flB g.fs = e.fs := by
    have h1 : g.fs = e.fs.map fun f => (f.1.data.toList, f.2.data.toList) := congrArg HI.fs hu
    rw [h1, flB_back]
  have hp2 : parseP T true = (g, 0) := by
    have : e.hi.rq = true := hrq
    rw [this] at hp
    exact hp
  have he : Strm.headEnd T = some T.length := by
    have hp3 := hp2
    rw [hT, ← hu] at hp3 ⊢
    exact Strm.headEnd_back hp3
  rw [← hg2, ← hg3, ← hg4, hrq] at hfr
  refine ⟨g, fr, ln, hu, fun s Tt hr => ?_⟩
  rcases hx with ⟨h1, h2, h3⟩ | ⟨h1, h2, h3⟩ | ⟨h1, ps, h2, h3, h4⟩
  · subst h3
    rw [h2]
    exact Strm.msg_none hr hp2 he hl hg1 hfr (.inl h1)
  · subst h1 h3
    by_cases hb : e.body = []
    · rw [hb, List.append_nil]
      exact Strm.msg_none hr hp2 he hl hg1 hfr (.inr ⟨rfl, by rw [h2, hb]; rfl⟩)
    · rw [h2] at hfr ⊢
      exact Strm.msg_length hr hp2 he hl hg1 hfr hb
  · subst h1 h4
    rw [← h2]
    exact Strm.msg_chunks hr hp2 he hl hg1 hfr ps h3
/-- how the messages so far are read -/
structure BackSt (L : List MsgE) (k : Nat) (X : Bs) (G : List (Hd × Nat × Nat)) : Prop where
  len : G.length = k
  up : ∀ j (h : j < G.length) (h' : j < L.length), G[j].1.up = L[j].hi
  rd : ∃ u es, Strm.Feeds { rq := true } X u es 0 ∧ Strm.Sim es (evL G L) ∧ Strm.Rdy u X.length
  sz : X.length ≤ 27 * ((L.take k).map (·.z)).sum
theorem BackSt.init (L : List MsgE) : BackSt L 0 [] [] := ⟨rfl, (fun j h => by cases h), ⟨_, [], Strm.Feeds.stop _ rfl, Strm.Sim.refl _, Strm.Rdy.init⟩, Nat.zero_le _⟩
theorem BackSt.step {L : List MsgE} {k : Nat} {X Y : Bs} {G : List (Hd × Nat × Nat)} (h : BackSt L k X G) (hk : k < L.length) (hl : Laid L[k].rq L[k].hi L[k].fs L[k].body Y) (hz : Y.length ≤ 16 * L[k].z + 105) (h10 : 10 ≤ L[k].z) : ∃ x, BackSt L (k + 1) (X ++ Y) (G ++ [x]) := by
  obtain ⟨g, fr, ln, hu, hf⟩ := laid_feeds hl
  obtain ⟨u, es, k1, k2, k3⟩ := h.rd
  obtain ⟨v, k4, k5⟩ := hf u _ k3
  obtain ⟨es', k6, k7⟩ := k1.app rfl (Strm.Inv.init true) k4
  have hlen := h.len
  have hgl : G.length < L.length := by omega
  refine ⟨(g, fr, ln), by rw [List.length_append, hlen]; rfl, fun j hj hj' => ?_, ⟨v, es', k6, ?_, by rw [List.length_append]; exact k5⟩, ?_⟩
  · by_cases hjk : j < G.length
    · rw [List.getElem_append_left hjk]
      exact h.up j hjk hj'
    · have e : j = G.length := by rw [List.length_append] at hj; simp at hj; omega
      subst e
      rw [List.getElem_append_right (Nat.le_refl _)]
      simp only [Nat.sub_self, List.getElem_cons_zero]
      simp only [hlen]
      exact hu
  · rw [evL_snoc G L _ hgl]
    simp only [hlen]
    exact k7.trans (k2.app (Strm.Sim.refl _))
  · rw [z_take L k hk, List.length_append]
    have := h.sz
    omega
end Go.Proofs.YtklmpadcfioefaaGreatDoor
