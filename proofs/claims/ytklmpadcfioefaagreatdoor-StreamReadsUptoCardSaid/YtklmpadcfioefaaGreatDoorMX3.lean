/- Two readers and what they handed out, in memory (for StreamPieces). No condition. | Plain words on the document's reading of a stream, all anew (chapter 24), and that the reader of streams tells what is new. No program in sight. No condition. | Plain law: the reader of streams tells just what the document's reading, all anew, has beyond what it had. No program in sight. No condition. | Plain words for the walk of the document's Read: a round of its loop; messages in memory. No condition. | For StreamOwn: a reader that lives or is dead is fed; events that are spoilt. No condition. -/
import Derived.Test.YtklmpadcfioefaaGreatDoorMX2
import Derived.Test.YtklmpadcfioefaaGreatDoorSWhole
import Derived.Test.YtklmpadcfioefaaGreatDoorQEnd
import Derived.Test.YtklmpadcfioefaaGreatDoorQFram2
import Derived.Test.YtklmpadcfioefaaGreatDoorParse
import Derived.Test.YtklmpadcfioefaaGreatDoorMA
import Derived.Test.YtklmpadcfioefaaGreatDoorSHead2
namespace Go.Proofs.YtklmpadcfioefaaGreatDoor
open Go.RowKit

theorem SMem.mono {w : World} {base base' rb q : Nat} {s : Strm.S} {V : SV} (h : SMem w base rb s V q) (hb : base' ≤ base) : SMem w base' rb s V q :=
  ⟨Nat.le_trans hb h.le, h.var, h.ms.mono hb, Row.mono h.blk hb, h.nil, fun h3 => ⟨(h.on h3).1, (h.on h3).2.mono2 hb⟩, h.off, h.a1, h.a2, h.a3⟩
def ofE (v : Value) (l : List EvE) (k : Nat) : Prop := v.ownBlock = some k ∨ ownE l k
/-- reader 1 with its events, reader 2 with its events -/
structure PcSt (w0 w : World) (rb1 : Nat) (s1 : Strm.S) (V1 : SV) (q1 : Nat) (v1 : Value) (L1 : List EvE) (rb2 : Nat) (s2 : Strm.S) (V2 : SV) (q2 : Nat) (v2 : Value) (L2 : List EvE) : Prop where
  m1 : SMem w w0.heap.size rb1 s1 V1 q1
  m2 : SMem w w0.heap.size rb2 s2 V2 q2
  o1 : Outs w w0.heap.size v1 L1
  o2 : Outs w w0.heap.size v2 L2
  a12 : ∀ k, footS rb1 V1 k → ¬ footS rb2 V2 k
  a1o : ∀ k, footS rb1 V1 k → ¬ ofE v1 L1 k ∧ ¬ ofE v2 L2 k
  a2o : ∀ k, footS rb2 V2 k → ¬ ofE v1 L1 k ∧ ¬ ofE v2 L2 k
  aoo : ∀ k, ofE v1 L1 k → ¬ ofE v2 L2 k
  bl : Below w0.heap.size w0 w
namespace Strm
end Strm
theorem ends_sz (s : Strm.S) : (∀ e ∈ (endsP s).1, evSz e) ∧ (endsP s).1.length ≤ 1 := by
  unfold endsP
  split
  · exact ⟨(fun _ h => by cases h), Nat.zero_le _⟩
  · split
    · refine ⟨fun e h => ?_, Nat.le_refl _⟩
      rw [List.mem_singleton.1 h]
      exact ⟨Nat.zero_le _, Nat.zero_le _⟩
    · exact ⟨(fun _ h => by cases h), Nat.zero_le _⟩
end Go.Proofs.YtklmpadcfioefaaGreatDoor

namespace Go.Proofs.YtklmpadcfioefaaGreatDoor
namespace Strm
/-- a message, as far as it was read -/
structure RM where
  hd : Hd
  fr : Nat
  ln : Nat
  body : Bs
  wh : Bool
abbrev RR := List RM × Nat × Bool
def RR.cons (m : RM) (r : RR) : RR := (m :: r.1, r.2)
def qGET : ByteArray := ⟨#[71, 69, 84]⟩
/-- the rest of a message m whose next step is ph, and what K reads behind it -/
def contB (K : Bs → RR) (m : RM) (ph left : Nat) (bd : Chunk.St) (p : Bs) : RR :=
  if ph = 1 then RR.cons { m with wh := true } (K p)
  else if ph = 2 then
    let k := min left p.length
    if left - k = 0 then RR.cons { m with body := m.body ++ p.take k, wh := true } (K (p.drop k))
    else ([{ m with body := m.body ++ p.take k }], 0, false)
  else if ph = 3 then
    let x := Chunk.feedA bd p
    if x.2.2.2 = 1 then RR.cons { m with body := m.body ++ x.2.1, wh := true } (K (p.drop x.2.2.1))
    else ([{ m with body := m.body ++ x.2.1 }], if x.2.2.2 = 2 then 230 else 0, false)
  else ([{ m with body := m.body ++ p }], 0, false)
theorem contB_congr {K K' : Bs → RR} {p : Bs} (h : ∀ x, x.length ≤ p.length → K x = K' x) (m : RM) (ph left : Nat) (bd : Chunk.St) : contB K m ph left bd p = contB K' m ph left bd p := by
  unfold contB
  split
  · rw [h p (Nat.le_refl _)]
  · split
    · dsimp only
      split
      · rw [h _ (by rw [List.length_drop]; omega)]
      · rfl
    · split
      · dsimp only
        split
        · rw [h _ (by rw [List.length_drop]; omega)]
        · rfl
      · rfl
def readL (rq : Bool) : Nat → Bs → List ByteArray → RR
  | 0, _, _ => ([], 0, false)
  | f + 1, b, ms =>
    if b = [] then ([], 0, false)
    else match headEnd (b.take 16384) with
      | none => if b.length < 16384 then ([], 0, true) else ([], refuseP (b.take 16384), false)
      | some n =>
        let s : S := { rq := rq, ms := ms }
        let g := parseP (b.take n) rq
        if g.2 ≠ 0 then ([], g.2, false)
        else
          let F := headFr s g.1
          let ms' := if takes s g.1 = true then ms.tail else ms
          if F.2.2 ≠ 0 then ([], F.2.2, false)
          else contB (fun x => readL rq f x ms') { hd := g.1, fr := F.1, ln := F.2.1, body := [], wh := false } (F.1 + 1) F.2.1 {} (b.drop n)
theorem headEnd_ge {b : Bs} {n : Nat} (h : headEnd b = some n) : 4 ≤ n ∧ n ≤ b.length := by
  rcases headEnd_spec b with ⟨h1, _⟩ | ⟨i, h1, _, _, _, hl⟩
  · rw [h1] at h; cases h
  · rw [h1] at h
    injection h with h
    omega
theorem readL_fuel (rq : Bool) : ∀ (f f' : Nat) (b : Bs) (ms : List ByteArray), b.length < f → b.length < f' → readL rq f b ms = readL rq f' b ms
  | 0, _, _, _, h, _ => by omega
  | _ + 1, 0, _, _, _, h => by omega
  | f + 1, f' + 1, b, ms, h, h' => by
    unfold readL
    by_cases hb : b = []
    · rw [if_pos hb, if_pos hb]
    · rw [if_neg hb, if_neg hb]
      cases he : headEnd (b.take 16384) with
      | none => rfl
      | some n =>
        dsimp only
        split
        · rfl
        · split
          · rfl
          · have hn := (headEnd_ge he).1
            have hb0 := List.length_pos_iff.2 hb
            exact contB_congr (fun x hx => readL_fuel rq f f' x _ (by rw [List.length_drop] at hx; omega) (by rw [List.length_drop] at hx; omega)) _ _ _ _
def readF (rq : Bool) (b : Bs) (ms : List ByteArray) : RR := readL rq (b.length + 1) b ms
/-- what is read of a piece by a reader in the midst of a stream; o: the message that is open -/
def contR (s : S) (o : Option RM) (p : Bs) : RR :=
  if s.ph = 0 then readF s.rq (s.blk ++ p) s.ms
  else match o with
    | none => ([], 0, false)
    | some m => contB (fun x => readF s.rq x s.ms) m s.ph s.left s.body p
def evM (m : RM) : List E1 := .head m.hd m.fr m.ln :: (data m.body ++ if m.wh = true then [.fin] else [])
/-- the events that are new beyond the open message's -/
def evR : Option RM → List RM → List E1
  | none, l => l.flatMap evM
  | some _, [] => []
  | some m, m' :: l => data (m'.body.drop m.body.length) ++ (if m'.wh = true then [.fin] else []) ++ l.flatMap evM
def RR.app (l : List RM) (r : RR) : RR := (l ++ r.1, r.2)
theorem RR.app_nil (r : RR) : RR.app [] r = r := rfl
theorem RR.cons_app (m : RM) (r : RR) : RR.cons m r = RR.app [m] r := rfl
theorem RR.app_app (a b : List RM) (r : RR) : RR.app a (RR.app b r) = RR.app (a ++ b) r := by unfold RR.app; rw [List.append_assoc]
def Opn (s : S) (o : Option RM) : Prop := (s.ph = 0 → o = none) ∧ (s.ph ≠ 0 → ∃ m, o = some m ∧ m.wh = false ∧ m.fr = s.fr)
/-- a response's head that takes a method -/
def cnt (l : List RM) : Nat := (l.filter (fun m => decide (200 ≤ m.hd.st))).length
theorem cnt_app (a b : List RM) : cnt (a ++ b) = cnt a + cnt b := by unfold cnt; rw [List.filter_append, List.length_append]
theorem cnt_one (m : RM) : cnt [m] = if decide (200 ≤ m.hd.st) = true then 1 else 0 := by
  unfold cnt
  rw [List.filter_cons]
  split <;> rfl
theorem cnt_hd (m m' : RM) (h : m'.hd = m.hd) : cnt [m'] = cnt [m] := by rw [cnt_one, cnt_one, h]
/-- the same methods, the first n; one that is not there is GET -/
def Eqv (n : Nat) (X Y : List ByteArray) : Prop := ∀ i, i < n → X.getD i qGET = Y.getD i qGET
/-- the first message that is told goes on with the open one -/
theorem contB_shape (K : Bs → RR) (m : RM) (ph left : Nat) (bd : Chunk.St) (p : Bs) : ∃ b w rest, (contB K m ph left bd p).1 = { m with body := m.body ++ b, wh := w } :: rest ∧ (ph = 1 → b = []) ∧ (m.wh = false → ph ≠ 1 → True) := by
  unfold contB
  split
  · exact ⟨[], true, _, by rw [List.append_nil]; rfl, fun _ => rfl, fun _ _ => trivial⟩
  · rename_i h1
    split
    · dsimp only
      split
      · exact ⟨_, true, _, rfl, fun h => absurd h h1, fun _ _ => trivial⟩
      · exact ⟨_, m.wh, [], rfl, fun h => absurd h h1, fun _ _ => trivial⟩
    · split
      · dsimp only
        split
        · exact ⟨_, true, _, rfl, fun h => absurd h h1, fun _ _ => trivial⟩
        · exact ⟨_, m.wh, [], rfl, fun h => absurd h h1, fun _ _ => trivial⟩
      · exact ⟨_, m.wh, [], rfl, fun h => absurd h h1, fun _ _ => trivial⟩
theorem contR_nil {u : S} {T : Nat} (hi : Inv u T) (hd : u.due = false) {o : Option RM} (ho : Opn u o) : contR u o [] = (o.toList, 0, decide (u.ph = 0 ∧ u.blk ≠ [])) := by
  unfold contR
  by_cases p0 : u.ph = 0
  · rw [if_pos p0, ho.1 p0, List.append_nil]
    obtain ⟨hb, hl⟩ := hi.blk p0
    unfold readF readL
    by_cases h0 : u.blk = []
    · rw [if_pos h0, decide_eq_false (fun h => h.2 h0)]; rfl
    · rw [if_neg h0, List.take_of_length_le (by omega), hb]
      dsimp only
      rw [if_pos hl, decide_eq_true (⟨p0, h0⟩ : u.ph = 0 ∧ u.blk ≠ [])]
      rfl
  · rw [if_neg p0, decide_eq_false (fun h => p0 h.1)]
    obtain ⟨m, rfl, hw, _⟩ := ho.2 p0
    dsimp only
    unfold contB
    have h1 : u.ph ≠ 1 := fun e => by have := hi.end_ e; rw [hd] at this; cases this
    have hm : ({ m with body := m.body ++ [] } : RM) = m := by rw [List.append_nil]
    rw [if_neg h1]
    by_cases p2 : u.ph = 2
    · have hl := hi.left p2 hd
      rw [if_pos p2]
      dsimp only
      rw [show min u.left ([] : Bs).length = 0 from Nat.min_eq_right (Nat.zero_le _), if_neg (by omega)]
      show ([{ m with body := m.body ++ [] }], _, _) = _; rw [hm]; rfl
    · rw [if_neg p2]
      by_cases p3 : u.ph = 3
      · obtain ⟨h11, hok⟩ := hi.body p3
        rw [if_pos p3, feedA_feed h11 hok]
        dsimp only
        have e : Chunk.feed u.body [] 0 [] = (u.body, [], 0, 0) := rfl
        rw [e]
        show ([{ m with body := m.body ++ [] }], _, _) = _; rw [hm]; rfl
      · rw [if_neg p3]
        show ([{ m with body := m.body ++ [] }], _, _) = _; rw [hm]; rfl
end Strm
end Go.Proofs.YtklmpadcfioefaaGreatDoor

namespace Go.Proofs.YtklmpadcfioefaaGreatDoor
namespace Strm
/-- how a list of messages goes on with the open one -/
def Shp1 (o : Option RM) (ph : Nat) (l : List RM) : Prop := ∀ m, o = some m → ∃ b w rest, l = { m with body := m.body ++ b, wh := w } :: rest ∧ (ph = 1 → b = [])
theorem readF_head {rq : Bool} {ms : List ByteArray} {b : Bs} {n : Nat} (hn : headEnd (b.take 16384) = some n) (hp : (parseP (b.take n) rq).2 = 0) (hf : (headFr { rq := rq, ms := ms } (parseP (b.take n) rq).1).2.2 = 0) :
    readF rq b ms = contB (fun x => readF rq x (if takes { rq := rq, ms := ms } (parseP (b.take n) rq).1 = true then ms.tail else ms)) { hd := (parseP (b.take n) rq).1, fr := (headFr { rq := rq, ms := ms } (parseP (b.take n) rq).1).1, ln := (headFr { rq := rq, ms := ms } (parseP (b.take n) rq).1).2.1, body := [], wh := false } ((headFr { rq := rq, ms := ms } (parseP (b.take n) rq).1).1 + 1) (headFr { rq := rq, ms := ms } (parseP (b.take n) rq).1).2.1 {} (b.drop n) := by
  have hge := headEnd_ge hn
  have hb : b ≠ [] := fun e => by rw [e] at hge; simp at hge; omega
  have hb0 := List.length_pos_iff.2 hb
  conv => lhs; unfold readF; unfold readL
  rw [if_neg hb, hn]
  dsimp only
  rw [if_neg (by omega), if_neg (by omega)]
  exact contB_congr (fun x hx => readL_fuel rq _ _ x _ (by rw [List.length_drop] at hx; omega) (by omega)) _ _ _ _
theorem end_callR (s : S) (hp : s.ph = 1) (X : Bs) : callS s X = ([.fin], 0, { s with win := false, due := false, ph := 0 }, 0) := by
  unfold callS
  rw [if_neg (by omega), if_pos hp]
theorem takes_eq (rq : Bool) (X : List ByteArray) (h : Hd) : method { rq := rq, ms := X } h = (if (!rq && decide (200 ≤ h.st)) = true then X.getD 0 qGET else qGET) ∧ (if takes { rq := rq, ms := X } h = true then X.tail else X) = X.drop (if (!rq && decide (200 ≤ h.st)) = true then 1 else 0) := by
  unfold method takes
  cases rq <;> cases X <;> by_cases hs : 200 ≤ h.st <;> simp [hs, qGET]
theorem headFr_eqv {rq : Bool} {X Y : List ByteArray} {h : Hd} (e : Eqv (if (!rq && decide (200 ≤ h.st)) = true then 1 else 0) X Y) : headFr { rq := rq, ms := X } h = headFr { rq := rq, ms := Y } h := by
  unfold headFr
  rw [(takes_eq rq X h).1, (takes_eq rq Y h).1]
  split
  · rename_i hc
    rw [if_pos hc] at e
    rw [e 0 (by omega)]
  · rfl
theorem stat_eq {l : Bs} {rq : Bool} {h : Hd} (hp : parseP l rq = (h, 0)) : (!rq && decide (200 ≤ h.st)) = decide (200 ≤ h.st) := by
  cases rq
  · rfl
  · obtain ⟨h0, h1, h2, _⟩ := parse_inv hp
    have : h0.st = 0 := by
      unfold firstP at h1
      simp only [if_true] at h1
      repeat' (split at h1)
      all_goals first | (cases h1; rfl) | cases h1
    rw [h2]
    show _ = decide (200 ≤ h0.st)
    rw [this]
    rfl
/-- a step, no error -/
theorem call_R {s : S} {T : Nat} (hi : Inv s T) {o : Option RM} (ho : Opn s o) (p : Bs) (hgo : ¬ (p = [] ∧ s.due = false)) (h0 : (callS s p).2.2.2 = 0) :
    ∃ (pre : List RM) (o' : Option RM) (c : Nat), Opn (callS s p).2.2.1 o' ∧ (callS s p).2.2.1.rq = s.rq ∧ (callS s p).2.2.1.ms = s.ms.drop c ∧ cnt (pre ++ o'.toList) = cnt o.toList + c ∧ (∀ m ∈ pre, m.wh = true) ∧
      (∀ X, Eqv c s.ms X → ∀ q, contR { s with ms := X } o (p ++ q) = RR.app pre (contR { (callS s p).2.2.1 with ms := X.drop c } o' (p.drop (callS s p).2.1 ++ q))) ∧
      ∀ l, Shp1 o' (callS s p).2.2.1.ph l → (p.drop (callS s p).2.1 = [] ∧ (callS s p).2.2.1.due = false → l = o'.toList) → evR o (pre ++ l) = (callS s p).1 ++ evR o' l ∧ Shp1 o s.ph (pre ++ l) := by
  by_cases p0 : s.ph = 0
  · obtain ⟨hb0, hbl⟩ := hi.blk p0
    have hdue : s.due = false := by
      cases e : s.due with
      | false => rfl
      | true => have := hi.due e; omega
    obtain rfl := ho.1 p0
    have e0 : ∀ X, contR { s with ms := X } none = fun p => readF s.rq (s.blk ++ p) X := fun X => by funext p; unfold contR; exact if_pos p0
    have htk : ∀ q, (s.blk ++ (p ++ q)).take 16384 = (s.blk ++ p.take (16384 - s.blk.length)) ++ ((s.blk ++ (p ++ q)).take 16384).drop (s.blk ++ p.take (16384 - s.blk.length)).length := by
      intro q
      have h1 : ((s.blk ++ (p ++ q)).take 16384).take (s.blk ++ p.take (16384 - s.blk.length)).length = s.blk ++ p.take (16384 - s.blk.length) := by
        rw [List.take_take, List.length_append, List.length_take]
        have e : min (s.blk.length + min (16384 - s.blk.length) p.length) 16384 = s.blk.length + min (16384 - s.blk.length) p.length := by omega
        rw [e, List.take_append, List.take_of_length_le (by omega), Nat.add_sub_cancel_left, List.take_append]
        congr 1
        have h2 : min (16384 - s.blk.length) p.length - p.length = 0 := by omega
        rw [h2, List.take_zero, List.append_nil]
        by_cases hc : 16384 - s.blk.length ≤ p.length
        · congr 1; omega
        · rw [List.take_of_length_le (by omega), List.take_of_length_le (by omega)]
      conv => lhs; rw [← List.take_append_drop (s.blk ++ p.take (16384 - s.blk.length)).length ((s.blk ++ (p ++ q)).take 16384)]
      rw [h1]
    unfold callS at h0 ⊢
    rw [if_pos p0] at h0 ⊢
    dsimp only at h0 ⊢
    cases he : headEnd (s.blk ++ p.take (16384 - s.blk.length)) with
    | none =>
      rw [he] at h0
      dsimp only at h0 ⊢
      by_cases hl : (s.blk ++ p.take (16384 - s.blk.length)).length < 16384
      · rw [if_pos hl] at h0 ⊢
        dsimp only at h0 ⊢
        have hpl : p.take (16384 - s.blk.length) = p := List.take_of_length_le (by rw [List.length_append, List.length_take] at hl; omega)
        refine ⟨[], none, 0, ⟨fun _ => rfl, fun h => absurd p0 h⟩, rfl, rfl, rfl, (fun m hm => by cases hm), fun X _ q => ?_, fun l _ _ => ⟨rfl, (fun m h => by cases h)⟩⟩
        rw [e0, List.drop_length, RR.app_nil]
        unfold contR
        dsimp only
        rw [if_pos p0, hpl, List.nil_append, List.append_assoc]
        rfl
      · rw [if_neg hl] at h0
        dsimp only at h0
        unfold refuseP at h0
        split at h0 <;> cases h0
    | some n =>
      rw [he] at h0
      dsimp only at h0 ⊢
      -- the head is whole
      have hge := headEnd_ge he
      have hbn : (s.blk ++ p.take (16384 - s.blk.length)).length ≤ 16384 := by rw [List.length_append, List.length_take]; omega
      have hlt := (headEnd_late hb0 he).1
      generalize hB : s.blk ++ p.take (16384 - s.blk.length) = B at *
      have hBp : ∀ q, headEnd ((s.blk ++ (p ++ q)).take 16384) = some n := fun q => by rw [htk q]; exact (headEnd_app he _).1
      have hBt : ∀ q, (s.blk ++ (p ++ q)).take n = B.take n := fun q => by
        have h1 : ((s.blk ++ (p ++ q)).take 16384).take n = (s.blk ++ (p ++ q)).take n := by rw [List.take_take, Nat.min_eq_left (by omega)]
        rw [← h1, htk q, List.take_append_of_le_length hge.2]
      have hdr : ∀ q, (s.blk ++ (p ++ q)).drop n = p.drop (n - s.blk.length) ++ q := fun q => by
        rw [← List.append_assoc, List.drop_append_of_le_length (by
          have h1 : B.length ≤ (s.blk ++ p).length := by rw [← hB, List.length_append, List.length_append, List.length_take]; omega
          omega), List.drop_append, List.drop_of_length_le (by omega), List.nil_append]
      unfold headS at h0 ⊢
      dsimp only at h0 ⊢
      by_cases hpe : (parseP (B.take n) s.rq).2 ≠ 0
      · rw [if_pos hpe] at h0
        exact absurd h0 hpe
      · rw [if_neg hpe] at h0 ⊢
        have hpe0 : (parseP (B.take n) s.rq).2 = 0 := by omega
        have hq := stat_eq (Prod.ext rfl hpe0 : parseP (B.take n) s.rq = ((parseP (B.take n) s.rq).1, 0))
        have eH : ∀ g, headFr { s with win := true, blk := B } g = headFr { rq := s.rq, ms := s.ms } g := fun _ => rfl
        have eT : ∀ g, takes { s with win := true, blk := B } g = takes { rq := s.rq, ms := s.ms } g := fun _ => rfl
        rw [eH] at h0 ⊢
        rw [eT]
        by_cases hfe : (headFr { rq := s.rq, ms := s.ms } (parseP (B.take n) s.rq).1).2.2 ≠ 0
        · rw [if_pos hfe] at h0
          exact absurd h0 hfe
        · rw [if_neg hfe]
          dsimp only
          have hfe0 : (headFr { rq := s.rq, ms := s.ms } (parseP (B.take n) s.rq).1).2.2 = 0 := by omega
          refine ⟨[], some { hd := (parseP (B.take n) s.rq).1, fr := (headFr { rq := s.rq, ms := s.ms } (parseP (B.take n) s.rq).1).1, ln := (headFr { rq := s.rq, ms := s.ms } (parseP (B.take n) s.rq).1).2.1, body := [], wh := false }, if decide (200 ≤ (parseP (B.take n) s.rq).1.st) = true then 1 else 0, ⟨(fun h => by cases h), fun _ => ⟨_, rfl, rfl, rfl⟩⟩, rfl, (by rw [← hq]; exact (takes_eq _ _ _).2), ?_, (fun m hm => by cases hm), fun X hX q => ?_, fun l hl _ => ?_⟩
          · rw [List.nil_append]
            show cnt [_] = 0 + _
            rw [cnt_one, Nat.zero_add]
          · have hfr := headFr_eqv (rq := s.rq) (h := (parseP (B.take n) s.rq).1) (by rw [hq]; exact hX)
            have h1 := readF_head (rq := s.rq) (ms := X) (b := s.blk ++ (p ++ q)) (hBp q) (by rw [hBt]; exact hpe0) (by rw [hBt, ← hfr]; exact hfe0)
            rw [hBt, hdr, ← hfr, (takes_eq s.rq X (parseP (B.take n) s.rq).1).2, hq] at h1
            rw [e0, RR.app_nil]
            dsimp only
            rw [h1]
            unfold contR
            exact (if_neg (Nat.succ_ne_zero _)).symm
          · obtain ⟨b, w, rest, hl, _⟩ := hl _ rfl
            subst hl
            rw [List.nil_append]
            refine ⟨?_, (fun m h => by cases h)⟩
            unfold evR evM
            simp
  · obtain ⟨m, rfl, hw, hfr⟩ := ho.2 p0
    have hblk := hi.nil p0
    have e0 : ∀ X p, contR { s with ms := X } (some m) p = contB (fun x => readF s.rq x X) m s.ph s.left s.body p := fun X p => by unfold contR; exact if_neg p0
    by_cases p1 : s.ph = 1
    · have hc := end_callR s p1 p
      rw [hc]
      dsimp only
      refine ⟨[{ m with wh := true }], none, 0, ⟨fun _ => rfl, fun h => absurd rfl h⟩, rfl, rfl, cnt_hd _ _ rfl, (fun m' hm => by rw [List.mem_singleton] at hm; rw [hm]), fun X _ q => ?_, fun l _ _ => ⟨?_, ?_⟩⟩
      · rw [e0, List.drop_zero]
        unfold contB
        rw [if_pos p1, RR.cons_app]
        have e1 : contR { s with win := false, due := false, ph := 0, ms := X } none (p ++ q) = readF s.rq (s.blk ++ (p ++ q)) X := if_pos rfl
        rw [List.drop_zero]
        rw [e1, hblk, List.nil_append]
      · show data (m.body.drop m.body.length) ++ (if true = true then [E1.fin] else []) ++ l.flatMap evM = [.fin] ++ l.flatMap evM
        rw [List.drop_length]
        rfl
      · intro m' h
        injection h with h
        subst h
        exact ⟨[], true, l, by rw [List.append_nil]; rfl, fun _ => rfl⟩
    · have hsh : ∀ (b0 : Bs) (m' : RM) (w' : Bool) (l : List RM), Shp1 (some { m with body := m.body ++ b0, wh := w' }) (callS s p).2.2.1.ph l → some m = some m' → ∃ b w rest, l = { m' with body := m'.body ++ b, wh := w } :: rest ∧ (s.ph = 1 → b = []) := by
        intro b0 m' w' l hl h
        injection h with h
        subst h
        obtain ⟨b, w, rest, hl, _⟩ := hl _ rfl
        exact ⟨b0 ++ b, w, rest, by rw [hl, List.append_assoc], fun h => absurd h p1⟩
      by_cases p2 : s.ph = 2
      · unfold callS at h0 hsh ⊢
        rw [if_neg p0, if_neg p1, if_pos p2] at h0 hsh ⊢
        dsimp only at h0 hsh ⊢
        by_cases hf : s.left - min s.left p.length = 0
        · rw [if_pos hf] at hsh ⊢
          have hle : s.left ≤ p.length := by omega
          have hmin : min s.left p.length = s.left := Nat.min_eq_left hle
          rw [hmin]
          dsimp only
          refine ⟨[], some { m with body := m.body ++ p.take s.left }, 0, ⟨(fun h => by cases h), fun _ => ⟨_, rfl, hw, hfr⟩⟩, rfl, rfl, cnt_hd _ _ rfl, (fun m hm => by cases hm), fun X _ q => ?_, fun l hl _ => ⟨?_, fun m' h => hsh _ m' m.wh l hl h⟩⟩
          · rw [e0, RR.app_nil]
            have hq : min s.left (p ++ q).length = s.left := by rw [List.length_append]; omega
            unfold contB
            rw [if_neg p1, if_pos p2]
            dsimp only
            rw [hq, if_pos (by omega), List.take_append_of_le_length hle, List.drop_append_of_le_length hle]
            rfl
          · obtain ⟨b, w, rest, hl, hb⟩ := hl _ rfl
            obtain rfl := hb rfl
            subst hl
            rw [List.nil_append]
            unfold evR
            simp [data]
        · rw [if_neg hf] at hsh ⊢
          dsimp only at hsh ⊢
          have hlt : p.length < s.left := by omega
          have hmin : min s.left p.length = p.length := Nat.min_eq_right (by omega)
          rw [hmin]
          refine ⟨[], some { m with body := m.body ++ p }, 0, ⟨fun h => absurd (p2.symm.trans h) (by decide), fun _ => ⟨_, rfl, hw, hfr⟩⟩, rfl, rfl, cnt_hd _ _ rfl, (fun m hm => by cases hm), fun X _ q => ?_, fun l hl0 hl => ⟨?_, fun m' h => hsh _ m' m.wh l hl0 h⟩⟩
          · rw [e0, RR.app_nil, List.drop_length, List.nil_append]
            have e1 : contR { s with left := s.left - p.length, ms := X } (some { m with body := m.body ++ p }) q = contB (fun x => readF s.rq x X) { m with body := m.body ++ p } s.ph (s.left - p.length) s.body q := by unfold contR; exact if_neg p0
            rw [List.drop_zero]
            rw [e1]
            unfold contB
            rw [if_neg p1, if_pos p2, if_neg p1, if_pos p2]
            dsimp only
            rw [List.length_append]
            by_cases hc : s.left ≤ p.length + q.length
            · have h1 : min s.left (p.length + q.length) = s.left := by omega
              have h2 : min (s.left - p.length) q.length = s.left - p.length := by omega
              rw [h1, h2, if_pos (by omega), if_pos (by omega), List.take_append, List.take_of_length_le (by omega), List.drop_append, List.drop_of_length_le (by omega), List.nil_append, List.append_assoc]
            · have h1 : min s.left (p.length + q.length) = p.length + q.length := by omega
              have h2 : min (s.left - p.length) q.length = q.length := by omega
              rw [h1, h2, if_neg (by omega), if_neg (by omega), List.take_of_length_le (by rw [List.length_append]; omega), List.take_of_length_le (Nat.le_refl _), List.append_assoc]
          · have hdu : s.due = false := by
              cases e : s.due with
              | false => rfl
              | true =>
                rcases hi.due e with h | ⟨_, h⟩
                · exact absurd h p1
                · omega
            have hl := hl ⟨List.drop_length, hdu⟩
            subst hl
            rw [List.nil_append]
            unfold evR
            simp [data, hw]
      · have hdu : s.due = false := by
          cases e : s.due with
          | false => rfl
          | true => have := hi.due e; omega
        by_cases p3 : s.ph = 3
        · obtain ⟨h11, hok⟩ := hi.body p3
          have happ := fun q => Chunk.feed_app p q s.body 0 []
          unfold callS at h0 hsh ⊢
          rw [if_neg p0, if_neg p1, if_neg p2, if_pos p3, feedA_feed h11 hok] at h0 hsh ⊢
          dsimp only at h0 hsh ⊢
          by_cases hk : (Chunk.feed s.body p 0 []).2.2.2 = 1
          · rw [if_pos hk] at hsh ⊢
            dsimp only at hsh ⊢
            refine ⟨[], some { m with body := m.body ++ (Chunk.feed s.body p 0 []).2.1 }, 0, ⟨(fun h => by cases h), fun _ => ⟨_, rfl, hw, hfr⟩⟩, rfl, rfl, cnt_hd _ _ rfl, (fun m hm => by cases hm), fun X _ q => ?_, fun l hl _ => ⟨?_, fun m' h => hsh _ m' m.wh l hl h⟩⟩
            · rw [e0, RR.app_nil]
              unfold contB
              have hp := happ q
              rw [if_neg (by omega)] at hp
              rw [if_neg p1, if_neg p2, if_pos p3, feedA_feed h11 hok, hp]
              dsimp only
              rw [if_pos hk, List.drop_append_of_le_length (Chunk.feed_read_le p s.body)]
              rfl
            · obtain ⟨b, w, rest, hl, hb⟩ := hl _ rfl
              obtain rfl := hb rfl
              subst hl
              rw [List.nil_append]
              unfold evR
              simp [show data [] = [] from rfl]
          · rw [if_neg hk] at h0 hsh ⊢
            dsimp only at h0 hsh ⊢
            have hk0 : (Chunk.feed s.body p 0 []).2.2.2 = 0 := by
              rcases Chunk.feed_kind' p s.body with h | h | h
              · exact h
              · exact absurd h hk
              · rw [if_pos h] at h0; cases h0
            have hm := Chunk.feed_more p s.body hk0
            have hok2 := Chunk.feed_ok p s.body T hok (by omega)
            have h112 := (Chunk.feed_at p s.body h11).1 hk0
            refine ⟨[], some { m with body := m.body ++ (Chunk.feed s.body p 0 []).2.1 }, 0, ⟨fun h => absurd (p3.symm.trans h) (by decide), fun _ => ⟨_, rfl, hw, hfr⟩⟩, rfl, rfl, cnt_hd _ _ rfl, (fun m hm => by cases hm), fun X _ q => ?_, fun l hl0 hl => ⟨?_, fun m' h => hsh _ m' m.wh l hl0 h⟩⟩
            · rw [e0, RR.app_nil, List.drop_length, List.nil_append]
              have e1 : contR { s with body := (Chunk.feed s.body p 0 []).1, ms := X } (some { m with body := m.body ++ (Chunk.feed s.body p 0 []).2.1 }) q = contB (fun x => readF s.rq x X) { m with body := m.body ++ (Chunk.feed s.body p 0 []).2.1 } s.ph s.left (Chunk.feed s.body p 0 []).1 q := by unfold contR; exact if_neg p0
              rw [List.drop_zero, e1]
              have hp := happ q
              rw [if_pos hk0, Chunk.feed_acc q (Chunk.feed s.body p 0 []).1 (Chunk.feed s.body p 0 []).2.2.1 (Chunk.feed s.body p 0 []).2.1, hm] at hp
              unfold contB
              rw [if_neg p1, if_neg p2, if_pos p3, if_neg p1, if_neg p2, if_pos p3, feedA_feed h11 hok, feedA_feed h112 hok2, hp]
              dsimp only
              split
              · rw [List.drop_append, List.drop_of_length_le (by omega), List.nil_append, Nat.add_sub_cancel_left, List.append_assoc]
              · rw [List.append_assoc]
            · have hl := hl ⟨List.drop_length, hdu⟩
              subst hl
              rw [List.nil_append]
              unfold evR
              simp [hw, show data [] = [] from rfl]
        · unfold callS at h0 hsh ⊢
          rw [if_neg p0, if_neg p1, if_neg p2, if_neg p3] at h0 hsh ⊢
          dsimp only at h0 hsh ⊢
          refine ⟨[], some { m with body := m.body ++ p }, 0, ⟨fun h => absurd h p0, fun _ => ⟨_, rfl, hw, hfr⟩⟩, rfl, rfl, cnt_hd _ _ rfl, (fun m hm => by cases hm), fun X _ q => ?_, fun l hl0 hl => ⟨?_, fun m' h => hsh _ m' m.wh l hl0 h⟩⟩
          · have e1 : contR { s with ms := X } (some { m with body := m.body ++ p }) q = contB (fun x => readF s.rq x X) { m with body := m.body ++ p } s.ph s.left s.body q := by unfold contR; exact if_neg p0
            rw [e0, RR.app_nil, List.drop_length, List.nil_append, List.drop_zero, e1]
            unfold contB
            rw [if_neg p1, if_neg p2, if_neg p3, if_neg p1, if_neg p2, if_neg p3, List.append_assoc]
          · have hl := hl ⟨List.drop_length, hdu⟩
            subst hl
            rw [List.nil_append]
            unfold evR
            simp [data, hw]
theorem contR_shape {s : S} {o : Option RM} (ho : Opn s o) (p : Bs) : Shp1 o s.ph (contR s o p).1 := by
  intro m e
  have p0 : s.ph ≠ 0 := fun h => by rw [ho.1 h] at e; cases e
  have e0 : contR s o p = contB (fun x => readF s.rq x s.ms) m s.ph s.left s.body p := by unfold contR; rw [if_neg p0, e]
  rw [e0]
  obtain ⟨b, w, rest, h1, h2, _⟩ := contB_shape (fun x => readF s.rq x s.ms) m s.ph s.left s.body p
  exact ⟨b, w, rest, h1, h2⟩
/-- a step, an error -/
theorem err_R {s : S} {T : Nat} (hi : Inv s T) {o : Option RM} (ho : Opn s o) (p : Bs) (h0 : (callS s p).2.2.2 ≠ 0) : (callS s p).1 = evR o (contR s o p).1 ∧ (callS s p).2.2.2 = (contR s o p).2.1 := by
  by_cases p0 : s.ph = 0
  · obtain ⟨hb0, hbl⟩ := hi.blk p0
    obtain rfl := ho.1 p0
    have e0 : contR s none p = readF s.rq (s.blk ++ p) s.ms := by unfold contR; exact if_pos p0
    have htk : (s.blk ++ p).take 16384 = s.blk ++ p.take (16384 - s.blk.length) := by
      rw [List.take_append, List.take_of_length_le (by omega)]
    rw [e0]
    unfold callS at h0 ⊢
    rw [if_pos p0] at h0 ⊢
    dsimp only at h0 ⊢
    rw [← htk] at h0 ⊢
    have hne : s.blk ++ p ≠ [] := fun e => by
      have h1 : (s.blk ++ p).take 16384 = [] := by rw [e]; rfl
      rw [h1, show headEnd [] = none from headEnd_nil.1] at h0
      exact absurd rfl h0
    unfold readF readL
    rw [if_neg hne]
    cases he : headEnd ((s.blk ++ p).take 16384) with
    | none =>
      rw [he] at h0
      dsimp only at h0 ⊢
      by_cases hl : ((s.blk ++ p).take 16384).length < 16384
      · rw [if_pos hl] at h0; exact absurd rfl h0
      · rw [if_neg hl]
        rw [if_neg (by rw [List.length_take] at hl; omega)]
        exact ⟨rfl, rfl⟩
    | some n =>
      rw [he] at h0
      dsimp only at h0 ⊢
      have hge := headEnd_ge he
      have hbn : ((s.blk ++ p).take 16384).length ≤ 16384 := by rw [List.length_take]; omega
      have hBt : ((s.blk ++ p).take 16384).take n = (s.blk ++ p).take n := by rw [List.take_take, Nat.min_eq_left (by omega)]
      rw [hBt] at h0 ⊢
      generalize hB : (s.blk ++ p).take 16384 = B at *
      unfold headS at h0 ⊢
      dsimp only at h0 ⊢
      have eH : ∀ g, headFr { s with win := true, blk := B } g = headFr { rq := s.rq, ms := s.ms } g := fun _ => rfl
      rw [eH] at h0 ⊢
      by_cases hpe : (parseP ((s.blk ++ p).take n) s.rq).2 ≠ 0
      · rw [if_pos hpe, if_pos hpe]
        exact ⟨rfl, rfl⟩
      · rw [if_neg hpe] at h0 ⊢
        rw [if_neg hpe]
        by_cases hfe : (headFr { rq := s.rq, ms := s.ms } (parseP ((s.blk ++ p).take n) s.rq).1).2.2 ≠ 0
        · rw [if_pos hfe, if_pos hfe]
          exact ⟨rfl, rfl⟩
        · rw [if_neg hfe] at h0
          exact absurd rfl h0
  · obtain ⟨m, rfl, hw, hfr⟩ := ho.2 p0
    have e0 : contR s (some m) p = contB (fun x => readF s.rq x s.ms) m s.ph s.left s.body p := by unfold contR; exact if_neg p0
    rw [e0]
    unfold callS at h0 ⊢
    unfold contB
    by_cases p1 : s.ph = 1
    · rw [if_neg p0, if_pos p1] at h0
      exact absurd rfl h0
    · by_cases p2 : s.ph = 2
      · rw [if_neg p0, if_neg p1, if_pos p2] at h0
        dsimp only at h0
        split at h0 <;> exact absurd rfl h0
      · by_cases p3 : s.ph = 3
        · rw [if_neg p0, if_neg p1, if_neg p2, if_pos p3] at h0 ⊢
          rw [if_neg p1, if_neg p2, if_pos p3]
          dsimp only at h0 ⊢
          by_cases hk : (Chunk.feedA s.body p).2.2.2 = 1
          · rw [if_pos hk] at h0; exact absurd rfl h0
          · rw [if_neg hk] at h0 ⊢
            rw [if_neg hk]
            refine ⟨?_, rfl⟩
            unfold evR
            simp [hw]
        · rw [if_neg p0, if_neg p1, if_neg p2, if_neg p3] at h0
          exact absurd rfl h0
theorem eqv_more {c d : Nat} {X Y : List ByteArray} (h : Eqv (c + d) X Y) : Eqv c X Y ∧ Eqv d (X.drop c) (Y.drop c) :=
  ⟨fun i hi => h i (by omega), fun i hi => by
    have := h (c + i) (by omega)
    simp only [List.getD_eq_getElem?_getD, List.getElem?_drop] at this ⊢
    exact this⟩
/-- a piece fed: what is told is what is new -/
theorem feeds_R {s u : S} {p : Bs} {es : List E1} {r : Nat} (h : Feeds s p u es r) : ∀ {T : Nat} {o : Option RM}, Inv s T → Opn s o →
    es = evR o (contR s o p).1 ∧ r = (contR s o p).2.1 ∧
    (r = 0 → ∃ (pre : List RM) (o' : Option RM) (c T' : Nat), Inv u T' ∧ Opn u o' ∧ u.due = false ∧ u.rq = s.rq ∧ u.ms = s.ms.drop c ∧ cnt (pre ++ o'.toList) = cnt o.toList + c ∧ (∀ m ∈ pre, m.wh = true) ∧
      ∀ X, Eqv c s.ms X → ∀ q, contR { s with ms := X } o (p ++ q) = RR.app pre (contR { u with ms := X.drop c } o' q)) := by
  induction h with
  | stop s hd =>
    intro T o hi ho
    have hn := contR_nil hi hd ho
    rw [hn]
    refine ⟨?_, rfl, fun _ => ⟨[], o, 0, T, hi, ho, hd, rfl, rfl, by rw [List.nil_append, Nat.add_zero], (fun m hm => by cases hm), fun X _ q => rfl⟩⟩
    cases o with
    | none => rfl
    | some m =>
      have p0 : s.ph ≠ 0 := fun h => by have := ho.1 h; cases this
      obtain ⟨m', e, hw, _⟩ := ho.2 p0
      injection e with e
      subst e
      show [] = evR (some m) [m]
      unfold evR
      simp [hw, show data [] = [] from rfl]
  | err s p hgo h0 =>
    intro T o hi ho
    obtain ⟨h1, h2⟩ := err_R hi ho p h0
    exact ⟨h1, h2, fun e => absurd e h0⟩
  | go s p u es r hgo h0 _ ih =>
    intro T o hi ho
    obtain ⟨pre, o', c, ho', hrq, hms, hcn, hwh, hlaw, hev⟩ := call_R hi ho p hgo h0
    have hi' := (call_inv hi h0).1
    obtain ⟨i1, i2, i3⟩ := ih hi' ho'
    have hl0 := hlaw s.ms (fun _ _ => rfl) []
    rw [List.append_nil, List.append_nil, ← hms] at hl0
    have hl1 : contR s o p = RR.app pre (contR (callS s p).2.2.1 o' (p.drop (callS s p).2.1)) := hl0
    have hev1 := hev (contR (callS s p).2.2.1 o' (p.drop (callS s p).2.1)).1 (contR_shape ho' _) (fun hq => by
      rw [hq.1]
      rw [contR_nil hi' hq.2 ho'])
    refine ⟨?_, ?_, fun hr => ?_⟩
    · rw [hl1]
      show _ = evR o (pre ++ _)
      rw [hev1.1, ← i1]
    · rw [hl1]
      exact i2
    · obtain ⟨pre2, o2, c2, T2, k1, k2, k3, k4, k5, k6, k7, k8⟩ := i3 hr
      refine ⟨pre ++ pre2, o2, c + c2, T2, k1, k2, k3, k4.trans hrq, ?_, ?_, ?_, fun X hX q => ?_⟩
      · rw [k5, hms, List.drop_drop]
      · rw [List.append_assoc, cnt_app, k6, ← Nat.add_assoc, ← Nat.add_assoc, ← hcn, cnt_app]
      · intro m hm
        rcases List.mem_append.1 hm with x | x
        · exact hwh m x
        · exact k7 m x
      · obtain ⟨e1, e2⟩ := eqv_more hX
        rw [hlaw X e1]
        have := k8 (X.drop c) (by rw [hms]; exact e2) q
        rw [this, RR.app_app, List.drop_drop]
/-- the document's reader and the program's: all bytes, all methods; what is whole, what is open -/
structure RelR (rq : Bool) (All : Bs) (M : List ByteArray) (s : S) (pre : List RM) (o : Option RM) : Prop where
  opn : Opn s o
  rqe : s.rq = rq
  due : s.due = false
  inv : ∃ T, Inv s T
  wh : ∀ m ∈ pre, m.wh = true
  ms : s.ms = M.drop (cnt (pre ++ o.toList))
  law : ∀ X, Eqv (cnt (pre ++ o.toList)) M X → ∀ q, readF rq (All ++ q) X = RR.app pre (contR { s with ms := X.drop (cnt (pre ++ o.toList)) } o q)
theorem RelR.init (rq : Bool) : RelR rq [] [] { rq := rq } [] none :=
  ⟨⟨fun _ => rfl, fun h => absurd rfl h⟩, rfl, rfl, ⟨0, Inv.init rq⟩, (fun m hm => by cases hm), rfl, fun X _ q => by
    rw [RR.app_nil]
    unfold contR
    exact (if_pos rfl).symm⟩
/-- what is read of all that came -/
theorem RelR.read {rq : Bool} {All : Bs} {M : List ByteArray} {s : S} {pre : List RM} {o : Option RM} (h : RelR rq All M s pre o) : readF rq All M = (pre ++ o.toList, 0, decide (s.ph = 0 ∧ s.blk ≠ [])) := by
  obtain ⟨T, hi⟩ := h.inv
  have h1 := h.law M (fun _ _ => rfl) []
  rw [List.append_nil, ← h.ms] at h1
  have h2 := contR_nil hi h.due h.opn
  rw [h1]
  show RR.app pre (contR s o []) = _
  rw [h2]
  rfl
theorem RelR.feed {rq : Bool} {All : Bs} {M : List ByteArray} {s u : S} {pre : List RM} {o : Option RM} (h : RelR rq All M s pre o) {p : Bs} {es : List E1} {r : Nat} (k : Feeds s p u es r) :
    ∃ l w, readF rq (All ++ p) M = (pre ++ l, r, w) ∧ es = evR o l ∧ Shp1 o s.ph l ∧ (r = 0 → ∃ pre' o', RelR rq (All ++ p) M u pre' o') := by
  obtain ⟨T, hi⟩ := h.inv
  obtain ⟨k1, k2, k3⟩ := feeds_R k hi h.opn
  have h1 := h.law M (fun _ _ => rfl) p
  rw [← h.ms] at h1
  refine ⟨(contR s o p).1, (contR s o p).2.2, ?_, k1, contR_shape h.opn p, fun hr => ?_⟩
  · rw [h1]
    show (pre ++ (contR s o p).1, (contR s o p).2.1, _) = _
    rw [← k2]
  · obtain ⟨pre2, o2, c, T2, a1, a2, a3, a4, a5, a6, a7, a8⟩ := k3 hr
    have hc : cnt ((pre ++ pre2) ++ o2.toList) = cnt (pre ++ o.toList) + c := by rw [List.append_assoc, cnt_app, a6, ← Nat.add_assoc, ← cnt_app]
    refine ⟨pre ++ pre2, o2, a2, a4.trans h.rqe, a3, ⟨T2, a1⟩, ?_, ?_, fun X hX q => ?_⟩
    · intro m hm
      rcases List.mem_append.1 hm with x | x
      · exact h.wh m x
      · exact a7 m x
    · rw [a5, h.ms, hc, List.drop_drop]
    · rw [hc] at hX ⊢
      obtain ⟨e1, e2⟩ := eqv_more hX
      rw [List.append_assoc, h.law X e1]
      have := a8 (X.drop (cnt (pre ++ o.toList))) (by rw [h.ms]; exact e2) q
      rw [this, RR.app_app, List.drop_drop]
/-- methods: GET till n, and one -/
def padM (M : List ByteArray) (n : Nat) : List ByteArray := M ++ List.replicate (n - M.length) qGET
theorem RelR.expect {rq : Bool} {All : Bs} {M : List ByteArray} {s : S} {pre : List RM} {o : Option RM} (h : RelR rq All M s pre o) (m : ByteArray) :
    RelR rq All (padM M (cnt (pre ++ o.toList)) ++ [m]) { s with ms := s.ms ++ [m] } pre o := by
  obtain ⟨T, hi⟩ := h.inv
  generalize hn : cnt (pre ++ o.toList) = n
  have hl : n ≤ (padM M n).length := by unfold padM; rw [List.length_append, List.length_replicate]; omega
  have hd : (padM M n ++ [m]).drop n = M.drop n ++ [m] := by
    rw [List.drop_append_of_le_length hl]
    congr 1
    unfold padM
    by_cases hc : n ≤ M.length
    · rw [Nat.sub_eq_zero_of_le hc, List.replicate_zero, List.append_nil]
    · rw [List.drop_append, List.drop_of_length_le (by omega), List.nil_append, List.drop_of_length_le (by rw [List.length_replicate]; omega)]
  have hg : ∀ i, i < n → (padM M n ++ [m]).getD i qGET = M.getD i qGET := fun i hi => by
    simp only [List.getD_eq_getElem?_getD]
    rw [List.getElem?_append_left (by omega)]
    unfold padM
    by_cases hc : i < M.length
    · rw [List.getElem?_append_left hc]
    · rw [List.getElem?_append_right (by omega), List.getElem?_eq_none (l := M) (by omega), List.getElem?_replicate]
      split <;> rfl
  refine ⟨h.opn, h.rqe, h.due, ⟨T, hi.ph, hi.due, hi.end_, hi.blk, hi.nil, hi.left, hi.room, hi.body, hi.fr, hi.fr4, hi.win⟩, h.wh, ?_, fun X hX q => ?_⟩
  · rw [hn, hd]
    show s.ms ++ [m] = _
    rw [h.ms, hn]
  · rw [hn] at hX ⊢
    have := h.law X (fun i hi => by rw [hn] at hi; rw [← hg i hi]; exact hX i hi) q
    rw [hn] at this
    exact this
end Strm
end Go.Proofs.YtklmpadcfioefaaGreatDoor

namespace Go.Proofs.YtklmpadcfioefaaGreatDoor
open Go.RowKit
namespace Strm
theorem refuse_lines (x : Bs) : refuseP x = if (lines [] x).length = 1 ∨ 4096 < ((lines [] x).headD []).length then 221 else 222 := by
  unfold refuseP
  rcases index_spec x [13, 10] (by decide) with ⟨h, _⟩ | ⟨i, h, _, _, hl⟩
  · rw [if_pos (.inl (by rw [h]; decide)), lines_index, h, if_pos rfl, if_pos (.inl rfl)]
  · have hl2 : i + 2 ≤ x.length := hl
    have eL : lines [] x = x.take i :: lines [] (x.drop (i + 2)) := by
      rw [lines_index, h, if_neg (by omega), Int.toNat_natCast, List.nil_append]
    rw [eL, h]
    have h2 := List.length_pos_iff.2 (lines_ne (x.drop (i + 2)) [])
    have h1 : ((x.take i :: lines [] (x.drop (i + 2))).length = 1 ∨ 4096 < ((x.take i :: lines [] (x.drop (i + 2))).headD []).length) ↔ ((i : Int) < 0 ∨ 4096 < (i : Int)) := by
      simp only [List.length_cons, List.headD_cons, List.length_take]
      omega
    by_cases hc : (i : Int) < 0 ∨ 4096 < (i : Int)
    · rw [if_pos hc, if_pos (h1.2 hc)]
    · rw [if_neg hc, if_neg (fun e => hc (h1.1 e))]
section
variable {rq : Bool} {b : Bs} {X : List ByteArray} {n : Nat}
theorem rd_short (hb : b ≠ []) (h : headEnd (b.take 16384) = none) (hl : b.length < 16384) : readF rq b X = ([], 0, true) := by
  unfold readF readL
  rw [if_neg hb, h]
  exact if_pos hl
theorem rd_long (hb : b ≠ []) (h : headEnd (b.take 16384) = none) (hl : ¬ b.length < 16384) : readF rq b X = ([], refuseP (b.take 16384), false) := by
  unfold readF readL
  rw [if_neg hb, h]
  exact if_neg hl
theorem rd_perr (hb : b ≠ []) (h : headEnd (b.take 16384) = some n) (hp : (parseP (b.take n) rq).2 ≠ 0) : readF rq b X = ([], (parseP (b.take n) rq).2, false) := by
  unfold readF readL
  rw [if_neg hb, h]
  exact if_pos hp
theorem rd_ferr (hb : b ≠ []) (h : headEnd (b.take 16384) = some n) (hp : (parseP (b.take n) rq).2 = 0) (hf : (headFr { rq := rq, ms := X } (parseP (b.take n) rq).1).2.2 ≠ 0) : readF rq b X = ([], (headFr { rq := rq, ms := X } (parseP (b.take n) rq).1).2.2, false) := by
  unfold readF readL
  rw [if_neg hb, h]
  dsimp only
  rw [if_neg (by omega)]
  exact if_pos hf
end
theorem contB1 (K : Bs → RR) (m : RM) (left : Nat) (bd : Chunk.St) (p : Bs) : contB K m 1 left bd p = RR.app [{ m with wh := true }] (K p) := by
  unfold contB; rw [if_pos rfl]; rfl
theorem contB2 (K : Bs → RR) (m : RM) (left : Nat) (bd : Chunk.St) (p : Bs) : contB K m 2 left bd p = if left ≤ p.length then RR.app [{ m with body := m.body ++ p.take left, wh := true }] (K (p.drop left)) else ([{ m with body := m.body ++ p }], 0, false) := by
  unfold contB
  rw [if_neg (by decide), if_pos rfl]
  dsimp only
  by_cases h : left ≤ p.length
  · rw [if_pos h, Nat.min_eq_left h, if_pos (Nat.sub_self _)]; rfl
  · rw [if_neg h, Nat.min_eq_right (by omega), if_neg (by omega), List.take_of_length_le (Nat.le_refl _)]
theorem contB3 (K : Bs → RR) (m : RM) (left : Nat) (p : Bs) : contB K m 3 left {} p = if (Chunk.readOf p).done = true then RR.app [{ m with body := m.body ++ (Chunk.readOf p).body, wh := true }] (K (p.drop (Chunk.readOf p).read)) else ([{ m with body := m.body ++ (Chunk.readOf p).body }], if (Chunk.readOf p).wrong = true then 230 else 0, false) := by
  unfold contB
  rw [if_neg (by decide), if_neg (by decide), if_pos rfl, Chunk.readOf_feed]
  have e : Chunk.feedA {} p = Chunk.feed {} p 0 [] := by unfold Chunk.feedA; rw [if_neg (by decide), if_neg (by decide)]
  rw [e]
  dsimp only
  by_cases h : (Chunk.feed {} p 0 []).2.2.2 = 1
  · rw [if_pos h, if_pos (by simpa using h)]; rfl
  · rw [if_neg h, decide_eq_false h, if_neg (show ¬ (false = true) by decide)]
    by_cases h2 : (Chunk.feed {} p 0 []).2.2.2 = 2
    · rw [if_pos h2, decide_eq_true h2, if_pos rfl]
    · rw [if_neg h2, decide_eq_false h2, if_neg (show ¬ (false = true) by decide)]
theorem contB4 (K : Bs → RR) (m : RM) (left : Nat) (bd : Chunk.St) (p : Bs) : contB K m 4 left bd p = ([{ m with body := m.body ++ p }], 0, false) := by
  unfold contB
  rw [if_neg (by decide), if_neg (by decide), if_neg (by decide)]
theorem meth_yes {rq : Bool} {M : List ByteArray} {k : Nat} {h : Hd} (h1 : rq = false) (h2 : 200 ≤ h.st) (h3 : k < M.length) : headFr { rq := rq, ms := M.drop k } h = framingP h.rq (decide (M[k] = bHEAD)) h.st h.mn (flB h.fs) ∧ (if takes { rq := rq, ms := M.drop k } h = true then (M.drop k).tail else M.drop k) = M.drop (k + 1) := by
  obtain ⟨e1, e2⟩ := takes_eq rq (M.drop k) h
  have hc : (!rq && decide (200 ≤ h.st)) = true := by rw [h1]; simpa using h2
  unfold headFr
  rw [e1, e2, hc, if_pos rfl, if_pos rfl, List.drop_drop]
  have : (M.drop k).getD 0 qGET = M[k] := by
    rw [List.getD_eq_getElem?_getD, List.getElem?_drop, Nat.add_zero, List.getElem?_eq_getElem h3]; rfl
  rw [this]
  exact ⟨rfl, rfl⟩
theorem meth_no {rq : Bool} {M : List ByteArray} {k : Nat} {h : Hd} (hn : ¬ (rq = false ∧ 200 ≤ h.st ∧ k < M.length)) : headFr { rq := rq, ms := M.drop k } h = framingP h.rq (decide (qGET = bHEAD)) h.st h.mn (flB h.fs) ∧ (if takes { rq := rq, ms := M.drop k } h = true then (M.drop k).tail else M.drop k) = M.drop k := by
  have ht : takes { rq := rq, ms := M.drop k } h = false := by
    unfold takes
    dsimp only
    by_cases h1 : rq = false
    · by_cases h2 : 200 ≤ h.st
      · have h3 : M.drop k = [] := List.drop_eq_nil_of_le (Nat.le_of_not_lt (fun e => hn ⟨h1, h2, e⟩))
        rw [h3]; simp
      · simp [h2]
    · cases rq
      · exact absurd rfl h1
      · rfl
  unfold headFr method
  rw [ht]
  exact ⟨rfl, rfl⟩
end Strm
theorem endN_some {l : Bs} {n : Nat} (h : Strm.headEnd (l.take 16384) = some n) : endN l = n := by unfold endN; rw [h]; rfl
theorem endN_none {l : Bs} (h : Strm.headEnd (l.take 16384) = none) : endN l = 0 := by unfold endN; rw [h]; rfl
/-- a message in memory -/
structure MsE where
  x : Strm.RM
  fv : Value
  dv : Value
def MsE.cells (e : MsE) : List Value := [.bool e.x.hd.rq, .string ⟨e.x.hd.m.toArray⟩, .string ⟨e.x.hd.t.toArray⟩, .int .i64 (e.x.hd.st : Int), .string ⟨e.x.hd.rs.toArray⟩, .int .i64 (e.x.hd.mn : Int), e.fv, .int .i64 (e.x.fr : Int), .int .i64 (e.x.ln : Int), e.dv, .bool e.x.wh]
/-- bytes that can be read -/
def BsR (w : World) (v : Value) (l : Bs) : Prop := ∃ A c, v = .slice A l.length c ∧ l.length ≤ c ∧ c ≤ maxLen ∧ (A = none → l.length = 0 ∧ c = 0) ∧ Rd w w.heap.size 1 A l.length (bytesV l)
/-- fields that can be read -/
def FsR (w : World) (v : Value) (fs : List (Bs × Bs)) : Prop := ∃ A c, v = .slice A fs.length c ∧ fs.length ≤ c ∧ c ≤ maxLen ∧ (A = none → fs.length = 0 ∧ c = 0) ∧ Rd w w.heap.size 2 A fs.length (fieldsV (flB fs))
theorem BsR.below {w w' : World} {v : Value} {l : Bs} (h : BsR w v l) (hb : Below w.heap.size w w') : BsR w' v l := by
  obtain ⟨A, c, h1, h2, h3, h4, h5⟩ := h
  exact ⟨A, c, h1, h2, h3, h4, h5.keeps hb⟩
theorem FsR.below {w w' : World} {v : Value} {l : List (Bs × Bs)} (h : FsR w v l) (hb : Below w.heap.size w w') : FsR w' v l := by
  obtain ⟨A, c, h1, h2, h3, h4, h5⟩ := h
  exact ⟨A, c, h1, h2, h3, h4, h5.keeps hb⟩
theorem BsR.nil (w : World) : BsR w (.slice none 0 0) [] := ⟨none, 0, rfl, Nat.le_refl _, Nat.zero_le _, fun _ => ⟨rfl, rfl⟩, Rd.nil _ _ _ _⟩
theorem BsR.row {w : World} {base : Nat} {v : Value} {l : Bs} (h : RowB w base v l) : BsR w v l := by
  obtain ⟨A, c, h1, h2, h3, h4, h5⟩ := h.form
  exact ⟨A, c, h1, h2, h3, h4, h5⟩
theorem FsR.row {w : World} {base : Nat} {v : Value} {fs : List (Bs × Bs)} (h : Row w base 2 v fs.length (fieldsV (flB fs))) : FsR w v fs := by
  obtain ⟨A, c, h1, h2, h3, h4, h5⟩ := h.form
  exact ⟨A, c, h1, h2, h3, h4, h5⟩
structure MsR (w : World) (e : MsE) : Prop where
  f : FsR w e.fv e.x.hd.fs
  d : BsR w e.dv e.x.body
  z : ∃ (l : Bs) (rq : Bool), parseP l rq = (e.x.hd, 0)
theorem MsR.below {w w' : World} {e : MsE} (h : MsR w e) (hb : Below w.heap.size w w') : MsR w' e := ⟨h.f.below hb, h.d.below hb, h.z⟩
/-- not in that block -/
def Far (X : Option Nat) (v : Value) : Prop := ∀ g o n c, v = .slice (some ⟨g, o, none⟩) n c → 0 < n → X ≠ some g
theorem Rd.grownF {w w' : World} {sz n : Nat} {A : Option Addr} {xs : List Value} {X : Option Nat} (h : Rd w w.heap.size sz A n xs) (hg : w.grownBy w' X) (hX : ∀ g o, A = some ⟨g, o, none⟩ → 0 < n → X ≠ some g) (hz : w.heap.size ≤ w'.heap.size) : Rd w' w'.heap.size sz A n xs :=
  ⟨h.1, fun hn => by
    obtain ⟨g, o, e, hb, hc⟩ := h.2 hn
    exact ⟨g, o, e, by omega, fun j u hu => (World.cell?_of_block (w := w) (a := ⟨g, o + j, none⟩) (hg.block g hb (fun e2 => hX g o e hn e2.symm))).trans (hc j u hu)⟩⟩
theorem BsR.grown {w w' : World} {v : Value} {l : Bs} {X : Option Nat} (h : BsR w v l) (hg : w.grownBy w' X) (hf : Far X v) (hz : w.heap.size ≤ w'.heap.size) : BsR w' v l := by
  obtain ⟨A, c, h1, h2, h3, h4, h5⟩ := h
  exact ⟨A, c, h1, h2, h3, h4, h5.grownF hg (fun g o e hn => hf g o _ c (by rw [h1, e]) hn) hz⟩
theorem FsR.grown {w w' : World} {v : Value} {l : List (Bs × Bs)} {X : Option Nat} (h : FsR w v l) (hg : w.grownBy w' X) (hf : Far X v) (hz : w.heap.size ≤ w'.heap.size) : FsR w' v l := by
  obtain ⟨A, c, h1, h2, h3, h4, h5⟩ := h
  exact ⟨A, c, h1, h2, h3, h4, h5.grownF hg (fun g o e hn => hf g o _ c (by rw [h1, e]) hn) hz⟩
theorem BsR.far {w : World} {v : Value} {l : Bs} (h : BsR w v l) {k : Nat} (hk : w.heap.size ≤ k) : Far (some k) v := by
  obtain ⟨A, c, h1, h2, h3, h4, h5⟩ := h
  intro g o n c' e hn e2
  rw [h1] at e
  injection e with e3 e4 _
  subst e4
  obtain ⟨g', o', e5, hb, _⟩ := h5.2 hn
  rw [e5] at e3
  injection e3 with e3
  injection e3 with e3 _ _
  injection e2 with e2
  omega
theorem FsR.far {w : World} {v : Value} {l : List (Bs × Bs)} (h : FsR w v l) {k : Nat} (hk : w.heap.size ≤ k) : Far (some k) v := by
  obtain ⟨A, c, h1, h2, h3, h4, h5⟩ := h
  intro g o n c' e hn e2
  rw [h1] at e
  injection e with e3 e4 _
  subst e4
  obtain ⟨g', o', e5, hb, _⟩ := h5.2 hn
  rw [e5] at e3
  injection e3 with e3
  injection e3 with e3 _ _
  injection e2 with e2
  omega
theorem Far.nil (X : Option Nat) (n c : Nat) : Far X (.slice none n c) := fun g o n' c' e => by injection e with e; cases e
theorem Far.zero (X : Option Nat) (A : Option Addr) (c : Nat) : Far X (.slice A 0 c) := fun g o n' c' e hn => by injection e with _ e; omega
theorem Far.of_ne {X : Option Nat} {g o n c : Nat} (h : X ≠ some g) : Far X (.slice (some ⟨g, o, none⟩) n c) := fun g' o' n' c' e _ => by
  injection e with e
  injection e with e
  injection e with e
  rw [← e]
  exact h
theorem Far.row {w : World} {X : Option Nat} {base sz n : Nat} {v : Value} {xs : List Value} (h : Row w base sz v n xs) (hX : ∀ k, X = some k → k < base) : Far X v := fun g o n' c e _ e2 => by
  have h1 := (h.lt g (by rw [e]; rfl)).1
  have := hX g e2
  omega
/-- at the head of Read's loop -/
structure RdSt (w wr : World) (rq : Bool) (l : Bs) (M : List ByteArray) (a k : Nat) (vo : Value) (E : List MsE) : Prop where
  le : a ≤ l.length
  ku : k ≤ M.length
  eq : Strm.readF rq l M = Strm.RR.app (E.map (·.x)) (Strm.readF rq (l.drop a) (M.drop k))
  row : Row wr w.heap.size 11 vo E.length (E.flatMap MsE.cells)
  el : ∀ e ∈ E, MsR wr e
  far : ∀ e ∈ E, Far vo.ownBlock e.fv ∧ Far vo.ownBlock e.dv
  cnt : E.length ≤ a
  bl : Below w.heap.size w wr
def RdPost (w : World) (rq : Bool) (l : Bs) (M : List ByteArray) (e : Ending) (w' : World) : Prop :=
  ∃ (v : Value) (E : List MsE), e = .returned (.tuple #[v, .int .i64 ((Strm.readF rq l M).2.1 : Nat), .bool (Strm.readF rq l M).2.2]) ∧ E.map MsE.x = (Strm.readF rq l M).1 ∧ Row w' w.heap.size 11 v E.length (E.flatMap MsE.cells) ∧ (∀ e ∈ E, MsR w' e) ∧ E.length ≤ l.length ∧ Below w.heap.size w w'
theorem RdSt.init {w : World} {rq : Bool} {l : Bs} {M : List ByteArray} : RdSt w w rq l M 0 0 (.slice none 0 0) [] :=
  ⟨Nat.zero_le _, Nat.zero_le _, rfl, Row.nil _ _ _, (fun e he => by cases he), (fun e he => by cases he), Nat.le_refl _, Below.refl _ _⟩
/-- it ends with what it has -/
theorem RdSt.stop {w wr w' : World} {rq : Bool} {l : Bs} {M : List ByteArray} {a k : Nat} {vo : Value} {E : List MsE} (h : RdSt w wr rq l M a k vo E) (hb : Below wr.heap.size wr w') {r : Nat} {b : Bool} (hr : Strm.readF rq (l.drop a) (M.drop k) = ([], r, b)) {e : Ending} (he : e = .returned (.tuple #[vo, .int .i64 (r : Nat), .bool b])) : RdPost w rq l M e w' := by
  have e1 := h.eq
  rw [hr] at e1
  refine ⟨vo, E, ?_, ?_, h.row.below_all hb, fun e he => (h.el e he).below hb, Nat.le_trans h.cnt h.le, h.bl.trans (hb.mono h.bl.size)⟩
  · rw [e1, he]; rfl
  · rw [e1]; exact (List.append_nil _).symm
/-- one more is appended -/
theorem RdSt.more {w wr wx w' : World} {rq : Bool} {l : Bs} {M : List ByteArray} {a k : Nat} {vo v2 : Value} {E : List MsE} {m : MsE} (h : RdSt w wr rq l M a k vo E) (hb : Below wr.heap.size wr wx) (hm : MsR wx m) (hfm : Far vo.ownBlock m.fv ∧ Far vo.ownBlock m.dv)
    (hg : wx.grownBy w' vo.ownBlock) (hrow : Row w' w.heap.size 11 v2 (E.length + 1) (E.flatMap MsE.cells ++ m.cells)) (ho : v2.ownBlock = vo.ownBlock ∨ v2.ownBlock = some wx.heap.size) :
    (∀ e ∈ E ++ [m], MsR w' e) ∧ (∀ e ∈ E ++ [m], Far v2.ownBlock e.fv ∧ Far v2.ownBlock e.dv) ∧ Row w' w.heap.size 11 v2 (E ++ [m]).length ((E ++ [m]).flatMap MsE.cells) ∧ Below w.heap.size w w' := by
  have hz : wx.heap.size ≤ w'.heap.size := hg.size
  have hx : ∀ e ∈ E ++ [m], MsR wx e ∧ Far vo.ownBlock e.fv ∧ Far vo.ownBlock e.dv := fun e he => by
    rcases List.mem_append.1 he with x | x
    · exact ⟨(h.el e x).below hb, h.far e x⟩
    · rw [List.mem_singleton] at x
      rw [x]
      exact ⟨hm, hfm⟩
  refine ⟨fun e he => ?_, fun e he => ?_, ?_, ?_⟩
  · obtain ⟨x1, x2, x3⟩ := hx e he
    exact ⟨x1.f.grown hg x2 hz, x1.d.grown hg x3 hz, x1.z⟩
  · obtain ⟨x1, x2, x3⟩ := hx e he
    rcases ho with e1 | e1
    · rw [e1]; exact ⟨x2, x3⟩
    · rw [e1]; exact ⟨x1.f.far (Nat.le_refl _), x1.d.far (Nat.le_refl _)⟩
  · rw [List.length_append, List.flatMap_append, List.flatMap_singleton]
    exact hrow
  · exact (h.bl.trans (hb.mono h.bl.size)).grown hg (Nat.le_trans h.bl.size hb.size) (fun j hj => (h.row.lt j hj).1)
/-- it ends with one more -/
theorem RdSt.last {w wr wx w' : World} {rq : Bool} {l : Bs} {M : List ByteArray} {a k : Nat} {vo v2 : Value} {E : List MsE} {m : MsE} (h : RdSt w wr rq l M a k vo E) (hb : Below wr.heap.size wr wx) (hm : MsR wx m) (hfm : Far vo.ownBlock m.fv ∧ Far vo.ownBlock m.dv)
    (hg : wx.grownBy w' vo.ownBlock) (hrow : Row w' w.heap.size 11 v2 (E.length + 1) (E.flatMap MsE.cells ++ m.cells)) (ho : v2.ownBlock = vo.ownBlock ∨ v2.ownBlock = some wx.heap.size) {r : Nat} {b : Bool} (hr : Strm.readF rq (l.drop a) (M.drop k) = ([m.x], r, b)) (hal : a < l.length) {e : Ending} (he : e = .returned (.tuple #[v2, .int .i64 (r : Nat), .bool b])) : RdPost w rq l M e w' := by
  obtain ⟨h1, _, h3, h4⟩ := h.more hb hm hfm hg hrow ho
  have e1 := h.eq
  rw [hr] at e1
  refine ⟨v2, E ++ [m], ?_, ?_, h3, h1, by have := h.cnt; rw [List.length_append, List.length_singleton]; omega, h4⟩
  · rw [e1, he]; rfl
  · rw [e1, List.map_append]; rfl
/-- it goes on behind one more -/
theorem RdSt.next {w wr wx w' : World} {rq : Bool} {l : Bs} {M : List ByteArray} {a k a' k' : Nat} {vo v2 : Value} {E : List MsE} {m : MsE} (h : RdSt w wr rq l M a k vo E) (hb : Below wr.heap.size wr wx) (hm : MsR wx m) (hfm : Far vo.ownBlock m.fv ∧ Far vo.ownBlock m.dv)
    (hg : wx.grownBy w' vo.ownBlock) (hrow : Row w' w.heap.size 11 v2 (E.length + 1) (E.flatMap MsE.cells ++ m.cells)) (ho : v2.ownBlock = vo.ownBlock ∨ v2.ownBlock = some wx.heap.size) (ha : a < a') (hl : a' ≤ l.length) (hk : k' ≤ M.length)
    (hr : Strm.readF rq (l.drop a) (M.drop k) = Strm.RR.app [m.x] (Strm.readF rq (l.drop a') (M.drop k'))) : RdSt w w' rq l M a' k' v2 (E ++ [m]) := by
  obtain ⟨h1, h2, h3, h4⟩ := h.more hb hm hfm hg hrow ho
  refine ⟨hl, hk, ?_, h3, h1, h2, ?_, h4⟩
  · rw [h.eq, hr, Strm.RR.app_app, List.map_append]; rfl
  · have := h.cnt; rw [List.length_append, List.length_singleton]; omega
end Go.Proofs.YtklmpadcfioefaaGreatDoor
namespace Go.Proofs.YtklmpadcfioefaaGreatDoor
open Go.RowKit
theorem Rd.part {w : World} {B g o n : Nat} {l : Bs} (h : Rd w B 1 (some ⟨g, o, none⟩) n (bytesV l)) {i j : Nat} (hij : i ≤ j) (hj : j ≤ n) : Rd w B 1 (some ⟨g, o + i, none⟩) (j - i) (bytesV ((l.drop i).take (j - i))) := by
  have hl : l.length = n := by have := h.1; rw [bytesV_len] at this; omega
  refine ⟨by rw [bytesV_len, List.length_take, List.length_drop]; omega, fun hn => ?_⟩
  obtain ⟨g', o', e, hb, hcell⟩ := h.2 (by omega)
  injection e with e
  injection e with e1 e2 _
  subst e1 e2
  refine ⟨g, o + i, rfl, hb, fun q u hu => ?_⟩
  rw [Nat.add_assoc]
  refine hcell _ u ?_
  unfold bytesV at hu ⊢
  rw [List.getElem?_map] at hu ⊢
  rw [List.getElem?_take] at hu
  split at hu
  · rw [List.getElem?_drop] at hu; exact hu
  · cases hu
theorem BsR.part {w : World} {g o n c : Nat} {l : Bs} (h : Rd w w.heap.size 1 (some ⟨g, o, none⟩) n (bytesV l)) (hc : n ≤ c) (hm : c ≤ maxLen) {i j : Nat} (hij : i ≤ j) (hj : j ≤ n) : BsR w (.slice (some ⟨g, o + i, none⟩) (j - i) (c - i)) ((l.drop i).take (j - i)) := by
  have hl : l.length = n := by have := h.1; rw [bytesV_len] at this; omega
  have e : ((l.drop i).take (j - i)).length = j - i := by rw [List.length_take, List.length_drop]; omega
  refine ⟨some ⟨g, o + i, none⟩, c - i, by rw [e], by omega, by omega, (fun e => by cases e), ?_⟩
  rw [e]
  exact h.part hij hj
theorem BsR.zero {w : World} {g o : Nat} : BsR w (.slice (some ⟨g, o, none⟩) 0 0) [] := ⟨some ⟨g, o, none⟩, 0, rfl, Nat.le_refl _, Nat.zero_le _, (fun e => by cases e), Rd.nil _ _ _ _⟩
end Go.Proofs.YtklmpadcfioefaaGreatDoor

namespace Go.Proofs.YtklmpadcfioefaaGreatDoor
open Go.RowKit

namespace Strm
/-- what a call of Feed reads, of a reader that lives or is dead -/
def FdP (s : S) (l : Bs) (u : S) (es : List E1) (r : Nat) : Prop := (s.dead = 0 ∧ Feeds s l u es r) ∨ (s.dead ≠ 0 ∧ u = s ∧ es = [] ∧ r = s.dead)
def Al (s : S) (T q : Nat) : Prop := s.dead = 0 → s.due = false ∧ Inv s T ∧ q = s.ph
theorem FdP.al {s u : S} {l : Bs} {es : List E1} {r T q q' : Nat} (h : FdP s l u es r) (ha : Al s T q) (h0 : r = 0 → q' = u.ph ∧ u.dead = s.dead) (hr : r ≠ 0 → u.dead = r) : Al u (T + l.length) q' := by
  intro hu
  have r0 : r = 0 := by
    by_cases e : r = 0
    · exact e
    · exact absurd ((hr e).symm.trans hu) e
  obtain ⟨e1, e2⟩ := h0 r0
  rcases h with ⟨k0, k⟩ | ⟨k0, _⟩
  · obtain ⟨_, hi, _⟩ := ha k0
    exact ⟨k.due r0, feeds_inv k hi r0, e1⟩
  · exact absurd (e2.symm.trans hu) k0
theorem FdP.sz {s u : S} {l : Bs} {es : List E1} {r T q : Nat} (h : FdP s l u es r) (ha : Al s T q) : (∀ e ∈ es, (eHd e).fs.length ≤ 64) ∧ bodySum es ≤ l.length ∧ es.length ≤ 3 * l.length + 1 := by
  rcases h with ⟨k0, k⟩ | ⟨_, _, k, _⟩
  · obtain ⟨hd, hi, _⟩ := ha k0
    have h3 := feeds_few k hi
    rw [rk_no hd] at h3
    exact ⟨feeds_heads k, feeds_sum k hi, by omega⟩
  · subst k
    exact ⟨(fun _ h => by cases h), Nat.zero_le _, Nat.zero_le _⟩
end Strm
theorem es_sz {es : List Strm.E1} {n : Nat} (hh : ∀ e ∈ es, (eHd e).fs.length ≤ 64) (hs : Strm.bodySum es ≤ n) (hn : n ≤ 100000000) : ∀ e ∈ es, evSz e := fun e he => by
  have h1 := hh e he
  have h2 := Strm.bodySum_one he
  exact ⟨by omega, by omega⟩

/-- what Feed leaves, of a reader that lives or is dead -/
def FeedO (w : World) (base rb : Nat) (s : Strm.S) (V : SV) (l : Bs) (e : Ending) (w' : World) : Prop :=
  ∃ v L u V' r q, e = .returned (.tuple #[v, .int .i64 (r : Nat)]) ∧ Strm.FdP s l u (L.map EvE.x) r ∧ Outs w' w.heap.size v L ∧ SMem w' base rb u V' q ∧ (r = 0 → q = u.ph ∧ u.dead = s.dead) ∧ (r ≠ 0 → u.dead = r) ∧ Chg (footS rb V) w w' ∧ (∀ k, footS rb V' k → footS rb V k ∨ w.heap.size ≤ k) ∧
    (∀ k, v.ownBlock = some k ∨ ownE L k → ¬ footS rb V' k)
theorem sfeed_o {w : World} {base rb T q : Nat} {s : Strm.S} {V : SV} (hsh : Shp base w) (h : SMem w base rb s V q) (ha : Strm.Al s T q) (A : Option Addr) (n c : Nat) (l : Bs) (hT : T + n ≤ 1000000000000) (hn : n ≤ 100000000) (hnc : n ≤ c) (hA : A = none → n = 0 ∧ c = 0)
    (hrd : Rd w w.heap.size 1 A n (bytesV l)) (hsp : Sep A n rb V) :
    Calls Tryz.prog 9 #[.pointer (some ⟨rb, 0, none⟩), .slice A n c] w (FeedO w base rb s V l) := by
  by_cases hd : s.dead = 0
  · obtain ⟨h1, h2, h3⟩ := ha hd
    subst h3
    refine (sfeed_any hsh h h2 h1 hd A n c l hT hn hnc hA hrd hsp).mono ?_
    rintro e w' ⟨v, L, u, V', r, q, he, hf, rest⟩
    exact ⟨v, L, u, V', r, q, he, .inl ⟨hd, hf⟩, rest⟩
  · refine (sfeed_dead h hd A n c).mono ?_
    rintro e w' ⟨rfl, k, rfl⟩
    exact ⟨_, [], s, V, s.dead, q, rfl, .inr ⟨hd, rfl, rfl, rfl⟩, Outs.nil _ _, h.below (below_drewN (Below.refl _ _) k), fun e => absurd e hd, fun _ => rfl, (Chg.refl _ w).then_below (below_drewN (Below.refl w.heap.size w) k), fun k hk => .inl hk, fun k hk => by
      rcases hk with x | ⟨_, x, _⟩
      · exact (nil_own x).elim
      · cases x⟩
def endsA (s : Strm.S) : List Strm.E1 × Nat := if s.dead = 0 then endsP s else ([], s.dead)
theorem endsA_sz (s : Strm.S) : (∀ e ∈ (endsA s).1, evSz e) ∧ (endsA s).1.length ≤ 1 := by
  unfold endsA
  split
  · exact ends_sz s
  · exact ⟨(fun _ h => by cases h), Nat.zero_le _⟩
/-! ### events that are spoilt, one behind the other -/
structure SpSt (w0 w : World) (base : Nat) (v : Value) (L : List EvE) (k : Nat) (C : List Value) : Prop where
  len : C.length = k * 11
  row : Row w base 11 v L.length (C ++ (L.drop k).flatMap EvE.cells)
  out : ∀ e ∈ L.drop k, EvR w base e
  chg : Chg (ofE v L) w0 w
theorem SpSt.init {w : World} {base : Nat} {v : Value} {L : List EvE} (h : Outs w base v L) : SpSt w w base v L 0 [] := ⟨rfl, h.row, h.el, Chg.refl _ _⟩
/-- the row, split at event k -/
theorem SpSt.at {w0 w : World} {base k : Nat} {v : Value} {L : List EvE} {C : List Value} (h : SpSt w0 w base v L k C) (hk : k < L.length) : Row w base 11 v L.length (C ++ L[k].cells ++ (L.drop (k + 1)).flatMap EvE.cells) ∧ EvR w base L[k] := by
  have e : L.drop k = L[k] :: L.drop (k + 1) := List.drop_eq_getElem_cons hk
  have hr := h.row
  rw [e, List.flatMap_cons, ← List.append_assoc] at hr
  exact ⟨hr, h.out _ (by rw [e]; exact List.mem_cons_self)⟩
theorem SpSt.step {w0 w w' : World} {base k : Nat} {v : Value} {L : List EvE} {C c : List Value} (h : SpSt w0 w base v L k C) (hk : k < L.length) (hp : L.Pairwise fun a b => ∀ k, a.own k → ¬ b.own k) (hx : ∀ k, v.ownBlock = some k → ¬ ownE L k)
    (hc : Chg (fun j => v.ownBlock = some j ∨ L[k].own j) w w') (hl : c.length = 11) (hr : Row w' base 11 v L.length (C ++ c ++ (L.drop (k + 1)).flatMap EvE.cells)) : SpSt w0 w' base v L (k + 1) (C ++ c) := by
  have e : L.drop k = L[k] :: L.drop (k + 1) := List.drop_eq_getElem_cons hk
  refine ⟨by rw [List.length_append, h.len, hl]; omega, hr, fun f hf => ?_, h.chg.trans hc (fun j _ hs => ?_)⟩
  · have hm : f ∈ L := List.mem_of_mem_drop hf
    refine (h.out f (by rw [e]; exact List.mem_cons_of_mem _ hf)).chg hc (fun j hj hs => ?_)
    rcases hs with x | x
    · exact hx j x ⟨f, hm, hj⟩
    · have hp2 : (L.drop k).Pairwise fun a b => ∀ k, a.own k → ¬ b.own k := hp.sublist (List.drop_sublist _ _)
      rw [e] at hp2
      exact (List.pairwise_cons.1 hp2).1 f hf j x hj
  · rcases hs with x | x
    · exact .inl x
    · exact .inr ⟨L[k], List.getElem_mem _, x⟩
end Go.Proofs.YtklmpadcfioefaaGreatDoor
