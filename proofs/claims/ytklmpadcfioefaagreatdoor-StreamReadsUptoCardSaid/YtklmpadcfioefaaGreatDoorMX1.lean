/- Plain words on hosts, lengths and framings (chapter 24). No program in sight. No condition. | Plain words on readers that are fed piece by piece: the program's and the document's. No program in sight. No condition. | Plain words on the reader of streams: a call of its state, a piece fed. No program in sight. No condition. | Plain laws on the reader of streams: a stream that comes in two pieces. No program in sight. No condition. | What a call has turned: its own blocks, and new ones. No condition. | the law's 'awake', and head.Parse in the forms that a law's walk wants. Condition: the library's variable. | Pieces of bytes that came in: a slice of slices, out of the second form's bound. No condition. -/
import Derived.Test.YtklmpadcfioefaaGreatDoorMB
import Derived.Test.YtklmpadcfioefaaGreatDoorChunk
import Derived.Test.YtklmpadcfioefaaGreatDoorParse
import Derived.Lib.IndexLaws
import Derived.Test.YtklmpadcfioefaaGreatDoorMA
import Derived.Lib.SmallJoins
import Derived.Lib.SlBytesConst
import Derived.Test.YtklmpadcfioefaaGreatDoorPcJ
import Derived.Deep.Matrix
namespace Go.Proofs.YtklmpadcfioefaaGreatDoor

def isHostC (c : UInt8) : Bool := (97 ≤ c && c ≤ 122) || (65 ≤ c && c ≤ 90) || (48 ≤ c && c ≤ 57) || c == 45 || c == 46
def portP (s : Bs) : Bs := match cutAt 58 s with
  | none => []
  | some p => p.2
def hostOf (s : Bs) : Bs := match cutAt 58 s with
  | none => s
  | some p => p.1
def authP (s : Bs) : Option Bs :=
  if hostOf s = [] ∨ 5 < (portP s).length then none
  else if (portP s).all isDigit = true ∧ (hostOf s).all isHostC = true then some (fold (hostOf s)) else none
def hostedL (mn : Int) : List ByteArray → Bool
  | [] => !(decide (mn = 1))
  | [v] => v.data.toList.isEmpty || (authP v.data.toList).isSome
  | _ :: _ :: _ => false
def hostedP (mn : Int) (fs : List Fl) : Bool := hostedL mn (vals fs sHost)
def lengthP : List ByteArray → Option Nat
  | [] => none
  | a :: r => if 15 < a.size then none else if a.data.toList.all isDigit = true ∧ (∀ b ∈ r, b = a) then some (numP a.data.toList) else none
theorem lengthP_cons (a : ByteArray) (r : List ByteArray) : lengthP (a :: r) = if 15 < a.size then none else if a.data.toList.all isDigit = true ∧ (∀ b ∈ r, b = a) then some (numP a.data.toList) else none := rfl
def bChunked : Bs := [99, 104, 117, 110, 107, 101, 100]
def codedP (mn : Int) (fs : List Fl) : Bool := decide (mn = 1) && (vals fs sLen).isEmpty && ((listed (vals fs sCod)).map fd == [bChunked])
/-- which framing, which length, which error -/
def framingP (rq hd : Bool) (st mn : Int) (fs : List Fl) : Nat × Nat × Nat :=
  if rq = true ∧ hostedP mn fs = false then (0, 0, 240)
  else if rq = false ∧ (100 ≤ st ∧ st ≤ 199 ∨ st = 204 ∨ st = 304 ∨ hd = true) then (0, 0, 0)
  else if vals fs sCod ≠ [] then (if codedP mn fs = true then (2, 0, 0) else (0, 0, 240))
  else if vals fs sLen ≠ [] then (match lengthP (listed (vals fs sLen)) with
    | none => (0, 0, 240)
    | some n => (1, n, 0))
  else if rq = true then (0, 0, 0) else (3, 0, 0)

theorem numF_snoc (l : Bs) (c : UInt8) : numP (l ++ [c]) = 10 * numP l + (c.toNat - 48) := by
  unfold numP; rw [List.foldl_append]; rfl

/-! ### law 25's authority -/
/-! ### lists of one text -/
end Go.Proofs.YtklmpadcfioefaaGreatDoor

namespace Go.Proofs.YtklmpadcfioefaaGreatDoor
namespace Chunk

theorem feed_kind' (l : Bs) : ∀ s : St, (feed s l 0 []).2.2.2 = 0 ∨ (feed s l 0 []).2.2.2 = 1 ∨ (feed s l 0 []).2.2.2 = 2 := by
  induction l with
  | nil => intro s; simp [feed]
  | cons c l ih =>
    intro s
    rw [feed]
    split
    · rw [feed_acc]; exact ih _
    · split
      · simp
      · split
        · simp
        · rw [feed_acc]; exact ih _
/-- where a reader stands behind a piece -/
theorem feed_at (l : Bs) : ∀ s : St, s.at_ ≠ 11 → ((feed s l 0 []).2.2.2 = 0 → (feed s l 0 []).1.at_ ≠ 11) ∧ ((feed s l 0 []).2.2.2 = 1 → (feed s l 0 []).1.at_ = 11) ∧ ((feed s l 0 []).2.2.2 = 2 → (feed s l 0 []).1.at_ = 12) := by
  induction l with
  | nil => intro s h; simp [feed, h]
  | cons c l ih =>
    intro s h
    rw [feed]
    split
    · rw [feed_acc]; exact ih _ (by simp only; split <;> omega)
    · split
      · simp
      · split
        · rename_i h1; simp [h1]
        · rename_i h1; rw [feed_acc]; exact ih _ h1
/-- what Feed does, wherever the reader stands -/
def feedA (s : St) (p : Bs) : St × Bs × Nat × Nat := if s.at_ = 11 then (s, [], 0, 1) else if s.at_ = 12 then (s, [], 0, 2) else feed s p 0 []
/-- what holds of a reader -/
def Good (s : St) (T : Nat) : Prop := s.at_ = 12 ∨ Ok s T
theorem Good.init : Good {} 0 := Or.inr Ok.init
theorem Good.mono {s : St} {T T' : Nat} (h : Good s T) (hT : T ≤ T') : Good s T' := h.imp id (·.mono hT)
theorem Good.few {s : St} {T : Nat} (h : Good s T) (h11 : s.at_ = 11) : s.trailers.length ≤ 64 := by
  rcases h with h | h
  · omega
  · exact h.trailers
theorem Good.goes {s : St} {T : Nat} (h : Good s T) (p : Bs) : Good (feedA s p).1 (T + p.length) := by
  unfold feedA
  by_cases h11 : s.at_ = 11
  · rw [if_pos h11]; exact h.mono (by omega)
  · rw [if_neg h11]
    by_cases h12 : s.at_ = 12
    · rw [if_pos h12]; exact Or.inl h12
    · rw [if_neg h12]
      rcases feed_kind' p s with e | e | e
      · rcases h with h | h
        · exact absurd h h12
        · exact Or.inr (feed_ok p s T h (by omega))
      · rcases h with h | h
        · exact absurd h h12
        · exact Or.inr (feed_ok p s T h (by omega))
      · exact Or.inl ((feed_at p s h11).2.2 e)

/-- the document's reader: all bytes so far, done, dead -/
structure Doc where
  all : Bs
  done : Bool
  dead : Bool
/-- what the document's reader does with a piece -/
def docFeed (d : Doc) (p : Bs) : Doc × Bs × Nat × Bool × Nat :=
  if d.done = true then (d, [], 0, true, 0)
  else if d.dead = true then (d, [], 0, false, 230)
  else (⟨(d.all ++ p).take (readOf (d.all ++ p)).read, (readOf (d.all ++ p)).done, (readOf (d.all ++ p)).wrong⟩, (readOf (d.all ++ p)).body.drop (readOf d.all).body.length, (readOf (d.all ++ p)).read - d.all.length, (readOf (d.all ++ p)).done, if (readOf (d.all ++ p)).wrong = true then 230 else 0)
/-- both have come to the same -/
def Both (d : Doc) (s : St) (b : Bs) : Prop :=
  (d.done = false ∧ d.dead = false ∧ Alive d.all s b ∧ s.at_ ≠ 11) ∨
  (d.done = true ∧ s.at_ = 11 ∧ readOf d.all = ⟨b, d.all.length, true, false, s.trailers⟩ ∧ s.total = b.length) ∨
  (d.done = false ∧ d.dead = true ∧ s.at_ = 12 ∧ readOf d.all = ⟨b, d.all.length, false, false, []⟩ ∧ s.total = b.length)
theorem Both.init : Both ⟨[], false, false⟩ {} [] := Or.inl ⟨rfl, rfl, Alive.init, by decide⟩
theorem Both.total {d : Doc} {s : St} {b : Bs} (h : Both d s b) : (readOf d.all).body.length = s.total := by
  rcases h with ⟨_, _, h, _⟩ | ⟨_, _, h, e⟩ | ⟨_, _, _, h, e⟩
  · rw [h.read, h.total]
  · rw [h, e]
  · rw [h, e]
theorem Both.done {d : Doc} {s : St} {b : Bs} (h : Both d s b) : d.done = decide (s.at_ = 11) := by
  rcases h with ⟨e, _, _, h⟩ | ⟨e, h, _⟩ | ⟨e, _, h, _⟩
  · rw [e]; simp [h]
  · rw [e]; simp [h]
  · rw [e]; simp [h]
theorem Both.trailers {d : Doc} {s : St} {b : Bs} (h : Both d s b) (h11 : s.at_ = 11) : (readOf d.all).trailers = s.trailers ∧ (readOf d.all).done = true := by
  rcases h with ⟨_, _, _, h⟩ | ⟨_, _, h, _⟩ | ⟨_, _, h, _⟩
  · exact absurd h11 h
  · rw [h]; exact ⟨rfl, rfl⟩
  · omega
theorem Alive.at12 {all : Bs} {s : St} {b : Bs} (h : Alive all s b) : s.at_ ≠ 12 := by have := h.ok.at_; omega
/-- THE NEXT PIECE: both answer the same, and have come to the same -/
theorem Both.next {d : Doc} {s : St} {b : Bs} (h : Both d s b) (p : Bs) :
    (docFeed d p).2 = ((feedA s p).2.1, (feedA s p).2.2.1, decide ((feedA s p).2.2.2 = 1), if (feedA s p).2.2.2 = 2 then 230 else 0) ∧ Both (docFeed d p).1 (feedA s p).1 (b ++ (feedA s p).2.1) := by
  have h0 := h
  rcases h with ⟨e1, e2, h, h11⟩ | ⟨e1, h11, h, e⟩ | ⟨e1, e2, h12, h, e⟩
  · have hd : docFeed d p = (⟨(d.all ++ p).take (readOf (d.all ++ p)).read, (readOf (d.all ++ p)).done, (readOf (d.all ++ p)).wrong⟩, (readOf (d.all ++ p)).body.drop (readOf d.all).body.length, (readOf (d.all ++ p)).read - d.all.length, (readOf (d.all ++ p)).done, if (readOf (d.all ++ p)).wrong = true then 230 else 0) := by
      rw [docFeed, e1, e2, if_neg (by simp), if_neg (by simp)]
    have ha : feedA s p = feed s p 0 [] := by rw [feedA, if_neg h11, if_neg h.at12]
    have hn := h.next p
    have hc := h.cut p
    have hg := h.goes p
    have ht := h.dead_total p
    have hat := feed_at p s h11
    have hle := feed_read_le p s
    have hk := feed_kind' p s
    have hm := feed_more p s
    rw [hd, ha, hn, h.read]
    generalize feed s p 0 [] = r at hn hc hg ht hat hle hk hm ⊢
    obtain ⟨s', o, j, q⟩ := r
    simp only at hn hc hg ht hat hle hk hm ⊢
    have htk : (d.all ++ p).take (d.all.length + j) = d.all ++ p.take j := by
      rw [List.take_append, List.take_of_length_le (by omega)]; simp
    have hlen : (d.all ++ p.take j).length = d.all.length + j := by rw [List.length_append, List.length_take]; omega
    rw [htk]
    refine ⟨?_, ?_⟩
    · simp only [List.drop_left, Nat.add_sub_cancel_left, decide_eq_true_eq]
    · rcases hk with rfl | rfl | rfl
      · have hj : p.take j = p := by rw [hm rfl, List.take_length]
        refine Or.inl ⟨by simp, by simp, ?_, hat.1 rfl⟩
        simp only
        rw [hj]
        exact hg rfl
      · refine Or.inr (Or.inl ⟨by simp, hat.2.1 rfl, ?_, ht⟩)
        simp only
        rw [hc, hlen]; simp
      · refine Or.inr (Or.inr ⟨by simp, by simp, hat.2.2 rfl, ?_, ht⟩)
        simp only
        rw [hc, hlen]; simp
  · have hd : docFeed d p = (d, [], 0, true, 0) := by rw [docFeed, if_pos e1]
    have ha : feedA s p = (s, [], 0, 1) := by rw [feedA, if_pos h11]
    rw [hd, ha]
    exact ⟨rfl, by simpa using h0⟩
  · have hd : docFeed d p = (d, [], 0, false, 230) := by rw [docFeed, if_neg (by simp [e1]), if_pos e2]
    have ha : feedA s p = (s, [], 0, 2) := by rw [feedA, if_neg (by omega), if_pos h12]
    rw [hd, ha]
    exact ⟨rfl, by simpa using h0⟩
end Chunk
end Go.Proofs.YtklmpadcfioefaaGreatDoor

namespace Go.Proofs.YtklmpadcfioefaaGreatDoor
namespace Strm

def crlf2 : Bs := [13, 10, 13, 10]
def bHEAD : ByteArray := ⟨#[72, 69, 65, 68]⟩
/-- where a stream is: 0 a head, 1 an end, 2 a length, 3 chunks, 4 the rest -/
structure S where
  rq : Bool
  ms : List ByteArray := []
  ph : Nat := 0
  blk : Bs := []
  left : Nat := 0
  body : Chunk.St := {}
  fr : Nat := 0
  win : Bool := false
  due : Bool := false
  dead : Nat := 0
inductive E1 where
  | head (h : Hd) (fr ln : Nat)
  | body (d : Bs)
  | fin
/-- behind the first 13 10 13 10 -/
def headEnd (b : Bs) : Option Nat := if Lib.index b crlf2 < 0 then none else some ((Lib.index b crlf2).toNat + 4)
def refuseP (b : Bs) : Nat := if Lib.index b [13, 10] < 0 ∨ 4096 < Lib.index b [13, 10] then 221 else 222
def takes (s : S) (h : Hd) : Bool := !s.rq && decide (200 ≤ h.st) && !s.ms.isEmpty
def method (s : S) (h : Hd) : ByteArray := if takes s h = true then s.ms.headD ⟨#[71, 69, 84]⟩ else ⟨#[71, 69, 84]⟩
def headFr (s : S) (h : Hd) : Nat × Nat × Nat := framingP h.rq (decide (method s h = bHEAD)) h.st h.mn (flB h.fs)
/-- a head's block is whole -/
def headS (s : S) (b : Bs) : List E1 × S × Nat :=
  if (parseP b s.rq).2 ≠ 0 then ([], s, (parseP b s.rq).2)
  else
    let h := (parseP b s.rq).1
    let t := { s with ms := if takes s h = true then s.ms.tail else s.ms }
    let f := headFr s h
    if f.2.2 ≠ 0 then ([], t, f.2.2)
    else ([.head h f.1 f.2.1], { t with ph := f.1 + 1, blk := [], left := f.2.1, body := {}, fr := f.1, due := decide (f.1 = 0 ∨ f.1 = 1 ∧ f.2.1 = 0) }, 0)
def data (p : Bs) : List E1 := if p = [] then [] else [.body p]
/-- a call of the state: the events, how many bytes it took, what comes next, the error -/
def callS (s : S) (p : Bs) : List E1 × Nat × S × Nat :=
  if s.ph = 0 then
    let b := s.blk ++ p.take (16384 - s.blk.length)
    let t := { s with win := true, blk := b }
    match headEnd b with
    | none => if b.length < 16384 then ([], p.length, t, 0) else ([], 0, t, refuseP b)
    | some n => ((headS t (b.take n)).1, n - s.blk.length, (headS t (b.take n)).2)
  else if s.ph = 1 then ([.fin], 0, { s with win := false, due := false, ph := 0 }, 0)
  else if s.ph = 2 then
    let n := min s.left p.length
    if s.left - n = 0 then (data (p.take n), n, { s with left := 0, due := true, ph := 1 }, 0)
    else (data (p.take n), p.length, { s with left := s.left - n }, 0)
  else if s.ph = 3 then
    let r := Chunk.feedA s.body p
    if r.2.2.2 = 1 then (data r.2.1, r.2.2.1, { s with body := r.1, due := true, ph := 1 }, 0)
    else (data r.2.1, p.length, { s with body := r.1 }, if r.2.2.2 = 2 then 230 else 0)
  else (data p, p.length, s, 0)
/-- a piece is fed: what is left of the reader, the events, the error -/
inductive Feeds : S → Bs → S → List E1 → Nat → Prop
  | stop (s : S) : s.due = false → Feeds s [] s [] 0
  | err (s : S) (p : Bs) : ¬ (p = [] ∧ s.due = false) → (callS s p).2.2.2 ≠ 0 → Feeds s p { (callS s p).2.2.1 with dead := (callS s p).2.2.2 } (callS s p).1 (callS s p).2.2.2
  | go (s : S) (p : Bs) (u : S) (es : List E1) (r : Nat) : ¬ (p = [] ∧ s.due = false) → (callS s p).2.2.2 = 0 → Feeds (callS s p).2.2.1 (p.drop (callS s p).2.1) u es r → Feeds s p u ((callS s p).1 ++ es) r
end Strm
end Go.Proofs.YtklmpadcfioefaaGreatDoor

namespace Go.Proofs.YtklmpadcfioefaaGreatDoor
namespace Strm

/-- bodies that meet are one -/
def put (acc : List E1) (x : E1) : List E1 :=
  match acc.getLast?, x with
  | some (.body y), .body d => acc.dropLast ++ [.body (y ++ d)]
  | _, _ => acc ++ [x]
def whole (l : List E1) : List E1 := l.foldl put []
def Sim (a b : List E1) : Prop := ∀ acc, a.foldl put acc = b.foldl put acc
theorem Sim.refl (a : List E1) : Sim a a := fun _ => rfl
theorem Sim.symm {a b : List E1} (h : Sim a b) : Sim b a := fun acc => (h acc).symm
theorem Sim.trans {a b c : List E1} (h : Sim a b) (k : Sim b c) : Sim a c := fun acc => (h acc).trans (k acc)
theorem Sim.app {a b c d : List E1} (h : Sim a b) (k : Sim c d) : Sim (a ++ c) (b ++ d) := fun acc => by
  rw [List.foldl_append, List.foldl_append, h acc, k]
theorem Sim.whole {a b : List E1} (h : Sim a b) : whole a = whole b := h []
theorem put_body (acc : List E1) (x y : Bs) : put (put acc (.body x)) (.body y) = put acc (.body (x ++ y)) := by
  unfold put
  cases h : acc.getLast? with
  | none => simp
  | some z =>
    cases z with
    | head _ _ _ => simp
    | fin => simp
    | body w => simp
theorem data_app (x y : Bs) : Sim (data (x ++ y)) (data x ++ data y) := by
  intro acc
  unfold data
  by_cases hx : x = []
  · subst hx; simp
  · by_cases hy : y = []
    · subst hy; simp
    · rw [if_neg (by simp [hx]), if_neg hx, if_neg hy]
      simp [put_body]

/-! ### the end of a head -/
theorem occ_app {x y sub : Bs} {i : Nat} (h : Lib.occAt x sub i = true) : Lib.occAt (x ++ y) sub i = true := by
  unfold Lib.occAt at *
  rw [List.isPrefixOf_iff_prefix] at *
  obtain ⟨t, ht⟩ := h
  by_cases hi : i ≤ x.length
  · rw [List.drop_append_of_le_length hi, ← ht, List.append_assoc]
    exact List.prefix_append _ _
  · rw [List.drop_eq_nil_of_le (by omega)] at ht
    have : sub = [] := by
      cases sub with
      | nil => rfl
      | cons a b => simp at ht
    rw [this]
    exact List.nil_prefix
theorem occ_back {x y sub : Bs} {i : Nat} (h : Lib.occAt (x ++ y) sub i = true) (hi : i + sub.length ≤ x.length) : Lib.occAt x sub i = true := by
  unfold Lib.occAt at *
  rw [List.isPrefixOf_iff_prefix] at *
  rw [List.drop_append_of_le_length (by omega)] at h
  exact List.prefix_of_prefix_length_le h (List.prefix_append _ _) (by rw [List.length_drop]; omega)
theorem occ_len {x sub : Bs} {i : Nat} (h : Lib.occAt x sub i = true) (hs : sub ≠ []) : i + sub.length ≤ x.length := by
  unfold Lib.occAt at h
  rw [List.isPrefixOf_iff_prefix] at h
  have := h.length_le
  rw [List.length_drop] at this
  have : 0 < sub.length := List.length_pos_iff.2 hs
  omega
/-- where the first one is -/
theorem index_spec (x sub : Bs) (hs : sub ≠ []) : (Lib.index x sub = -1 ∧ ∀ i, Lib.occAt x sub i = false) ∨ ∃ i : Nat, Lib.index x sub = i ∧ Lib.occAt x sub i = true ∧ (∀ j, j < i → Lib.occAt x sub j = false) ∧ i + sub.length ≤ x.length := by
  by_cases h : ∃ i, Lib.occAt x sub i = true
  · right
    obtain ⟨i0, h0⟩ := h
    have hex : ∃ i, Lib.occAt x sub i = true := ⟨i0, h0⟩
    have key : ∀ n i, i ≤ n → Lib.occAt x sub i = true → ∃ k, Lib.occAt x sub k = true ∧ ∀ j, j < k → Lib.occAt x sub j = false := by
      intro n
      induction n with
      | zero => intro i hi ho; exact ⟨i, ho, fun j hj => by omega⟩
      | succ n ih =>
        intro i hi ho
        by_cases hq : ∃ j, j < i ∧ Lib.occAt x sub j = true
        · obtain ⟨j, hj, hoj⟩ := hq
          exact ih j (by omega) hoj
        · exact ⟨i, ho, fun j hj => by
            cases hb : Lib.occAt x sub j with
            | false => rfl
            | true => exact absurd ⟨j, hj, hb⟩ hq⟩
    obtain ⟨k, hk, hn⟩ := key i0 i0 (Nat.le_refl _) h0
    have hl := occ_len hk hs
    exact ⟨k, Lib.index_hit hn (by omega) hk, hk, hn, hl⟩
  · left
    have hn : ∀ i, Lib.occAt x sub i = false := fun i => by
      cases hb : Lib.occAt x sub i with
      | false => rfl
      | true => exact absurd ⟨i, hb⟩ h
    refine ⟨Lib.index_past (i := x.length) hs (fun j _ => hn j) ?_, hn⟩
    have : 0 < sub.length := List.length_pos_iff.2 hs
    omega
theorem headEnd_spec (x : Bs) : (headEnd x = none ∧ Lib.index x crlf2 = -1 ∧ ∀ i, Lib.occAt x crlf2 i = false) ∨ ∃ i : Nat, headEnd x = some (i + 4) ∧ Lib.index x crlf2 = i ∧ Lib.occAt x crlf2 i = true ∧ (∀ j, j < i → Lib.occAt x crlf2 j = false) ∧ i + 4 ≤ x.length := by
  rcases index_spec x crlf2 (by decide) with ⟨h, hn⟩ | ⟨i, h, ho, hn, hl⟩
  · exact .inl ⟨by unfold headEnd; rw [h]; rfl, h, hn⟩
  · refine .inr ⟨i, ?_, h, ho, hn, hl⟩
    unfold headEnd
    rw [h, if_neg (by omega)]
    rfl
theorem headEnd_app {x : Bs} {n : Nat} (h : headEnd x = some n) (y : Bs) : headEnd (x ++ y) = some n ∧ n ≤ x.length := by
  rcases headEnd_spec x with ⟨h1, _⟩ | ⟨i, h1, _, ho, hn, hl⟩
  · rw [h1] at h; cases h
  · rw [h1] at h
    injection h with h
    refine ⟨?_, by omega⟩
    have e : Lib.index (x ++ y) crlf2 = i := Lib.index_hit (fun j hj => by
      cases hb : Lib.occAt (x ++ y) crlf2 j with
      | false => rfl
      | true =>
        have := occ_back hb (by simp [crlf2]; omega)
        rw [hn j hj] at this
        cases this) (by rw [List.length_append]; omega) (occ_app ho)
    unfold headEnd
    rw [e, if_neg (by omega), ← h]
    rfl
theorem headEnd_late {x y : Bs} {n : Nat} (h : headEnd x = none) (h2 : headEnd (x ++ y) = some n) : x.length < n ∧ n ≤ (x ++ y).length := by
  rcases headEnd_spec x with ⟨_, _, hn⟩ | ⟨i, h1, _⟩
  · rcases headEnd_spec (x ++ y) with ⟨h3, _⟩ | ⟨i, h3, _, ho, _, hl⟩
    · rw [h3] at h2; cases h2
    · rw [h3] at h2
      injection h2 with h2
      refine ⟨?_, by omega⟩
      by_cases hc : i + 4 ≤ x.length
      · have := occ_back ho (by simp [crlf2]; omega)
        rw [hn i] at this
        cases this
      · omega
  · rw [h1] at h; cases h

theorem headEnd_nil : headEnd [] = none ∧ ([] : Bs).length < 16384 := by decide
/-! ### what is right of a reader -/
structure Inv (s : S) (T : Nat) : Prop where
  ph : s.ph ≤ 4
  due : s.due = true → s.ph = 1 ∨ s.ph = 2 ∧ s.left = 0
  end_ : s.ph = 1 → s.due = true
  blk : s.ph = 0 → headEnd s.blk = none ∧ s.blk.length < 16384
  nil : s.ph ≠ 0 → s.blk = []
  left : s.ph = 2 → s.due = false → 0 < s.left
  room : s.left < 1000000000000000
  body : s.ph = 3 → s.body.at_ ≠ 11 ∧ Chunk.Ok s.body T
  fr : s.fr = 3 ↔ s.ph = 4
  fr4 : s.fr ≤ 3
  win : s.win = false → s.ph = 0 ∧ s.blk = []
theorem Inv.init (rq : Bool) : Inv { rq := rq } 0 := ⟨Nat.zero_le _, (fun h => by cases h), (fun h => by cases h), (fun _ => headEnd_nil), (fun h => absurd rfl h), (fun h => by cases h), (show (0 : Nat) < 1000000000000000 by decide), (fun h => by cases h), (by simp), Nat.zero_le _, (fun _ => ⟨rfl, rfl⟩)⟩
theorem Inv.mono {s : S} {T T' : Nat} (h : Inv s T) (hT : T ≤ T') : Inv s T' := ⟨h.ph, h.due, h.end_, h.blk, h.nil, h.left, h.room, fun h3 => ⟨(h.body h3).1, (h.body h3).2.mono hT⟩, h.fr, h.fr4, h.win⟩
theorem num_step (n c : Nat) (hc : c ≤ 57) (k : Nat) (hn : n < 10 ^ k) : 10 * n + (c - 48) < 10 ^ (k + 1) := by
  rw [Nat.pow_succ]; omega
theorem num_fold : ∀ (l : Bs) (n k : Nat), l.all isDigit = true → n < 10 ^ k → l.foldl (fun n c => 10 * n + (c.toNat - 48)) n < 10 ^ (k + l.length)
  | [], n, k, _, h => by simpa using h
  | c :: l, n, k, hl, h => by
    rw [List.all_cons, Bool.and_eq_true] at hl
    have hc : c.toNat ≤ 57 := by
      have := hl.1
      unfold isDigit at this
      simp only [Bool.and_eq_true, decide_eq_true_eq, UInt8.le_iff_toNat_le] at this
      exact this.2
    have := num_fold l _ (k + 1) hl.2 (num_step n c.toNat hc k h)
    rw [List.foldl_cons, List.length_cons]
    rw [show k + (l.length + 1) = k + 1 + l.length by omega]
    exact this
theorem length_lt {l : List ByteArray} {n : Nat} (h : lengthP l = some n) : n < 1000000000000000 := by
  cases l with
  | nil => cases h
  | cons a r =>
    rw [lengthP_cons] at h
    split at h
    · cases h
    · rename_i h15
      split at h
      · rename_i hd
        injection h with h
        rw [← h]
        have := num_fold a.data.toList 0 0 hd.1 (by decide)
        have h2 : a.data.toList.length ≤ 15 := by rw [Array.length_toList]; exact Nat.le_of_not_lt h15
        have h3 : (10 : Nat) ^ (0 + a.data.toList.length) ≤ 10 ^ 15 := Nat.pow_le_pow_right (by decide) (by omega)
        exact Nat.lt_of_lt_of_le this h3
      · cases h
theorem framing_le (rq hd : Bool) (st mn : Int) (fs : List Fl) : (framingP rq hd st mn fs).1 ≤ 3 ∧ (framingP rq hd st mn fs).2.1 < 1000000000000000 := by
  unfold framingP
  split
  · simp
  · split
    · simp
    · split
      · split <;> simp
      · split
        · cases h : lengthP (listed (vals fs sLen)) with
          | none => simp
          | some n => exact ⟨by simp, length_lt h⟩
        · split <;> simp
theorem headS_inv {s : S} {b : Bs} (hw : s.win = true) (h0 : (headS s b).2.2 = 0) (T : Nat) : Inv (headS s b).2.1 T := by
  unfold headS at *
  by_cases h1 : (parseP b s.rq).2 ≠ 0
  · rw [if_pos h1] at h0; exact absurd h0 h1
  · rw [if_neg h1] at h0 ⊢
    dsimp only at h0 ⊢
    by_cases h2 : (headFr s (parseP b s.rq).1).2.2 ≠ 0
    · rw [if_pos h2] at h0; exact absurd h0 h2
    · rw [if_neg h2]
      obtain ⟨hle, hlt⟩ := framing_le (parseP b s.rq).1.rq (decide (method s (parseP b s.rq).1 = bHEAD)) (parseP b s.rq).1.st (parseP b s.rq).1.mn (flB (parseP b s.rq).1.fs)
      change (headFr s (parseP b s.rq).1).1 ≤ 3 at hle
      change (headFr s (parseP b s.rq).1).2.1 < _ at hlt
      refine ⟨by dsimp only; omega, ?_, ?_, ?_, fun _ => rfl, ?_, hlt, fun _ => ⟨show ({} : Chunk.St).at_ ≠ 11 by decide, Chunk.Ok.init.mono (Nat.zero_le _)⟩, by dsimp only; omega, hle, ?_⟩
      · intro hd
        simp only [decide_eq_true_eq] at hd
        rcases hd with hd | ⟨hd, hd2⟩
        · left; dsimp only; omega
        · right; exact ⟨by dsimp only; omega, hd2⟩
      · intro hp
        simp only [decide_eq_true_eq]
        dsimp only at hp
        left; omega
      · intro hp; dsimp only at hp; omega
      · intro hp hd
        dsimp only at hp hd ⊢
        simp only [decide_eq_false_iff_not] at hd
        omega
      · intro hq
        dsimp only at hq
        rw [hw] at hq
        cases hq

/-! ### one call -/
theorem feedA_feed {s : Chunk.St} (h11 : s.at_ ≠ 11) {T : Nat} (h : Chunk.Ok s T) (p : Bs) : Chunk.feedA s p = Chunk.feed s p 0 [] := by
  have := h.at_
  unfold Chunk.feedA
  rw [if_neg h11, if_neg (by omega)]
theorem call_inv {s : S} {T : Nat} (hi : Inv s T) {p : Bs} (h0 : (callS s p).2.2.2 = 0) : Inv (callS s p).2.2.1 (T + (callS s p).2.1) ∧ (callS s p).2.1 ≤ p.length := by
  unfold callS at *
  by_cases p0 : s.ph = 0
  · rw [if_pos p0] at h0 ⊢
    dsimp only at h0 ⊢
    obtain ⟨hb, hl⟩ := hi.blk p0
    cases he : headEnd (s.blk ++ p.take (16384 - s.blk.length)) with
    | none =>
      rw [he] at h0
      dsimp only at h0 ⊢
      by_cases hs : (s.blk ++ p.take (16384 - s.blk.length)).length < 16384
      · rw [if_pos hs]
        refine ⟨⟨hi.ph, hi.due, hi.end_, fun _ => ⟨he, hs⟩, fun h => absurd p0 h, hi.left, hi.room, fun h3 => ?_, hi.fr, hi.fr4, fun hw => by cases hw⟩, Nat.le_refl _⟩
        dsimp only at h3; omega
      · rw [if_neg hs] at h0
        dsimp only [refuseP] at h0
        split at h0 <;> cases h0
    | some n =>
      rw [he] at h0
      dsimp only at h0 ⊢
      have h3 := headEnd_late hb he
      rw [List.length_append, List.length_take] at h3
      exact ⟨headS_inv rfl h0 _, by omega⟩
  · rw [if_neg p0] at h0 ⊢
    by_cases p1 : s.ph = 1
    · rw [if_pos p1]
      have hf := hi.fr
      refine ⟨⟨by dsimp only; omega, fun hd => (by cases hd), fun h1 => (by cases h1), fun _ => ?_, fun h => absurd rfl h, fun h2 => (by cases h2), hi.room, fun h3 => (by cases h3), by dsimp only; omega, hi.fr4, fun _ => ⟨rfl, hi.nil p0⟩⟩, Nat.zero_le _⟩
      dsimp only
      rw [hi.nil p0]
      exact headEnd_nil
    · rw [if_neg p1] at h0 ⊢
      have hw : s.win = false → False := fun h => p0 (hi.win h).1
      have hf := hi.fr
      by_cases p2 : s.ph = 2
      · rw [if_pos p2]
        dsimp only
        by_cases hn : s.left - min s.left p.length = 0
        · rw [if_pos hn]
          exact ⟨⟨by dsimp only; omega, fun _ => .inl rfl, fun _ => rfl, fun h => (by cases h), fun _ => hi.nil p0, fun h => (by cases h), (show (0 : Nat) < 1000000000000000 by decide), fun h => (by cases h), by dsimp only; omega, hi.fr4, fun h => (hw h).elim⟩, by dsimp only; omega⟩
        · rw [if_neg hn]
          refine ⟨⟨hi.ph, fun h => ?_, hi.end_, fun h => absurd h p0, fun _ => hi.nil p0, fun _ _ => by dsimp only; omega, by have := hi.room; dsimp only; omega, fun h => (by dsimp only at h; omega), hi.fr, hi.fr4, fun h => (hw h).elim⟩, Nat.le_refl _⟩
          have := hi.due h
          dsimp only
          omega
      · rw [if_neg p2] at h0 ⊢
        by_cases p3 : s.ph = 3
        · rw [if_pos p3] at h0 ⊢
          obtain ⟨h11, hok⟩ := hi.body p3
          have hfd := feedA_feed h11 hok p
          dsimp only at h0 ⊢
          rw [hfd] at h0 ⊢
          by_cases hq : (Chunk.feed s.body p 0 []).2.2.2 = 1
          · rw [if_pos hq]
            exact ⟨⟨by dsimp only; omega, fun _ => .inl rfl, fun _ => rfl, fun h => (by cases h), fun _ => hi.nil p0, fun h => (by cases h), hi.room, fun h => (by cases h), by dsimp only; omega, hi.fr4, fun h => (hw h).elim⟩, Chunk.feed_read_le p _⟩
          · rw [if_neg hq] at h0 ⊢
            dsimp only at h0 ⊢
            have hq2 : (Chunk.feed s.body p 0 []).2.2.2 ≠ 2 := fun e => by rw [if_pos e] at h0; cases h0
            have hq0 : (Chunk.feed s.body p 0 []).2.2.2 = 0 := by
              rcases Chunk.feed_kind' p s.body with e | e | e
              · exact e
              · exact absurd e hq
              · exact absurd e hq2
            refine ⟨⟨hi.ph, fun h => ?_, hi.end_, fun h => absurd h p0, fun _ => hi.nil p0, fun h => absurd h p2, hi.room, fun _ => ⟨(Chunk.feed_at p s.body h11).1 hq0, Chunk.feed_ok p s.body T hok hq2⟩, hi.fr, hi.fr4, fun h => (hw h).elim⟩, Nat.le_refl _⟩
            have := hi.due h
            dsimp only
            omega
        · rw [if_neg p3]
          exact ⟨hi.mono (Nat.le_add_right _ _), Nat.le_refl _⟩
/-- one call, of two pieces: either the first one was enough, or all of it was taken -/
def Split (s : S) (a b : Bs) : Prop :=
  ((callS s a).2.2.2 ≠ 0 ∧ (callS s (a ++ b)).1 = (callS s a).1 ∧ (callS s (a ++ b)).2.2.2 = (callS s a).2.2.2) ∨
  ((callS s a).2.2.2 = 0 ∧ callS s (a ++ b) = callS s a) ∨
  ((callS s a).2.2.2 = 0 ∧ (callS s a).2.1 = a.length ∧ (callS s a).2.2.1.due = false ∧
    (callS s (a ++ b)).2.2 = (callS (callS s a).2.2.1 b).2.2 ∧ (b ≠ [] → (callS (callS s a).2.2.1 b).2.2.2 = 0 → (callS s (a ++ b)).2.1 = a.length + (callS (callS s a).2.2.1 b).2.1) ∧ Sim (callS s (a ++ b)).1 ((callS s a).1 ++ (callS (callS s a).2.2.1 b).1))
theorem headS_blk (s : S) (x y b : Bs) : (headS { s with blk := x } b).1 = (headS { s with blk := y } b).1 ∧ (headS { s with blk := x } b).2.2 = (headS { s with blk := y } b).2.2 ∧ ((headS { s with blk := x } b).2.2 = 0 → headS { s with blk := x } b = headS { s with blk := y } b) := by
  unfold headS
  by_cases h1 : (parseP b s.rq).2 ≠ 0
  · simp only [if_pos h1]
    exact ⟨trivial, trivial, fun h => absurd h h1⟩
  · simp only [if_neg h1]
    by_cases h2 : (headFr s (parseP b s.rq).1).2.2 ≠ 0
    · have e1 : (headFr { s with blk := x } (parseP b s.rq).1).2.2 ≠ 0 := h2
      have e2 : (headFr { s with blk := y } (parseP b s.rq).1).2.2 ≠ 0 := h2
      rw [if_pos e1, if_pos e2]
      exact ⟨rfl, rfl, fun h => absurd h h2⟩
    · have e1 : ¬ (headFr { s with blk := x } (parseP b s.rq).1).2.2 ≠ 0 := h2
      have e2 : ¬ (headFr { s with blk := y } (parseP b s.rq).1).2.2 ≠ 0 := h2
      rw [if_neg e1, if_neg e2]
      exact ⟨rfl, rfl, fun _ => rfl⟩
theorem call0 {s : S} (p0 : s.ph = 0) (q : Bs) : callS s q = (match headEnd (s.blk ++ q.take (16384 - s.blk.length)) with
    | none => if (s.blk ++ q.take (16384 - s.blk.length)).length < 16384 then ([], q.length, { s with win := true, blk := s.blk ++ q.take (16384 - s.blk.length) }, 0) else ([], 0, { s with win := true, blk := s.blk ++ q.take (16384 - s.blk.length) }, refuseP (s.blk ++ q.take (16384 - s.blk.length)))
    | some n => ((headS { s with win := true, blk := s.blk ++ q.take (16384 - s.blk.length) } ((s.blk ++ q.take (16384 - s.blk.length)).take n)).1, n - s.blk.length, (headS { s with win := true, blk := s.blk ++ q.take (16384 - s.blk.length) } ((s.blk ++ q.take (16384 - s.blk.length)).take n)).2)) := by
  unfold callS; rw [if_pos p0]; first | done | rfl
theorem refuse_pos (b : Bs) : refuseP b ≠ 0 := by unfold refuseP; split <;> decide
theorem call_split {s : S} {T : Nat} (hi : Inv s T) (a b : Bs) : Split s a b := by
  by_cases p0 : s.ph = 0
  · have hd : s.due = false := by
      cases e : s.due with
      | false => rfl
      | true => have := hi.due e; omega
    obtain ⟨hb, hl⟩ := hi.blk p0
    have eAB : s.blk ++ (a ++ b).take (16384 - s.blk.length) = (s.blk ++ a.take (16384 - s.blk.length)) ++ b.take (16384 - s.blk.length - a.length) := by
      rw [List.take_append, List.append_assoc]
    cases he : headEnd (s.blk ++ a.take (16384 - s.blk.length)) with
    | some n =>
      obtain ⟨h1, h2⟩ := headEnd_app he (b.take (16384 - s.blk.length - a.length))
      have e1 := call0 p0 a
      rw [he] at e1
      have e2 := call0 p0 (a ++ b)
      rw [eAB, h1] at e2
      dsimp only at e1 e2
      rw [List.take_append_of_le_length h2] at e2
      obtain ⟨k1, k2, k3⟩ := headS_blk { s with win := true } (s.blk ++ a.take (16384 - s.blk.length)) ((s.blk ++ a.take (16384 - s.blk.length)) ++ b.take (16384 - s.blk.length - a.length)) ((s.blk ++ a.take (16384 - s.blk.length)).take n)
      by_cases h0 : (callS s a).2.2.2 = 0
      · right; left
        refine ⟨h0, ?_⟩
        rw [e1] at h0
        rw [e1, e2, ← k3 h0]
      · left
        refine ⟨h0, ?_, ?_⟩
        · rw [e1, e2]; exact k1.symm
        · rw [e1, e2]; exact k2.symm
    | none =>
      have e1 := call0 p0 a
      rw [he] at e1
      dsimp only at e1
      by_cases hs : (s.blk ++ a.take (16384 - s.blk.length)).length < 16384
      · rw [if_pos hs] at e1
        have hs2 := hs
        rw [List.length_append, List.length_take] at hs2
        have hal : a.length < 16384 - s.blk.length := by omega
        have eA : a.take (16384 - s.blk.length) = a := List.take_of_length_le (by omega)
        rw [eA] at e1 eAB he hs
        have e2 := call0 p0 (a ++ b)
        have e3 := call0 (s := { s with win := true, blk := s.blk ++ a }) p0 b
        have eM : 16384 - (s.blk ++ a).length = 16384 - s.blk.length - a.length := by rw [List.length_append]; omega
        dsimp only at e3
        rw [eM, ← eAB] at e3
        right; right
        rw [e1]
        refine ⟨rfl, rfl, hd, ?_, ?_, ?_⟩
        · dsimp only
          rw [e2, e3]
          cases h : headEnd (s.blk ++ (a ++ b).take (16384 - s.blk.length)) with
          | none => dsimp only; split <;> rfl
          | some n => rfl
        · intro _ h0
          dsimp only at h0 ⊢
          rw [e3] at h0
          rw [e2, e3]
          cases h : headEnd (s.blk ++ (a ++ b).take (16384 - s.blk.length)) with
          | none =>
            rw [h] at h0
            dsimp only at h0 ⊢
            split
            · exact List.length_append
            · rename_i hx
              rw [if_neg hx] at h0
              exact absurd h0 (refuse_pos _)
          | some n =>
            rw [eAB] at h
            have := (headEnd_late he h).1
            rw [List.length_append] at this
            dsimp only
            rw [List.length_append]
            omega
        · dsimp only
          rw [e2, e3]
          cases h : headEnd (s.blk ++ (a ++ b).take (16384 - s.blk.length)) with
          | none => dsimp only; split <;> exact Sim.refl _
          | some n => exact Sim.refl _
      · rw [if_neg hs] at e1
        have hs2 := hs
        rw [List.length_append, List.length_take] at hs2
        have e0 : 16384 - s.blk.length - a.length = 0 := by omega
        rw [e0, List.take_zero, List.append_nil] at eAB
        have e2 := call0 p0 (a ++ b)
        rw [eAB, he] at e2
        dsimp only at e2
        rw [if_neg hs] at e2
        left
        rw [e1, e2]
        exact ⟨refuse_pos _, rfl, rfl⟩
  · by_cases p1 : s.ph = 1
    · right; left
      have e : ∀ q : Bs, callS s q = ([.fin], 0, { s with win := false, due := false, ph := 0 }, 0) := fun q => by unfold callS; rw [if_neg p0, if_pos p1]
      rw [e, e]
      exact ⟨rfl, rfl⟩
    · by_cases p2 : s.ph = 2
      · have e : ∀ (s : S), s.ph = 2 → ∀ q : Bs, callS s q = if s.left - min s.left q.length = 0 then (data (q.take (min s.left q.length)), min s.left q.length, { s with left := 0, due := true, ph := 1 }, 0)
            else (data (q.take (min s.left q.length)), q.length, { s with left := s.left - min s.left q.length }, 0) := fun s p2 q => by
          unfold callS; rw [if_neg (by omega), if_neg (by omega), if_pos p2]
        by_cases hn : s.left - min s.left a.length = 0
        · right; left
          have e1 : min s.left (a ++ b).length = min s.left a.length := by rw [List.length_append]; omega
          rw [e s p2, e s p2, e1, if_pos hn, if_pos hn, List.take_append_of_le_length (by omega)]
          exact ⟨rfl, rfl⟩
        · right; right
          have hd : s.due = false := by
            cases e : s.due with
            | false => rfl
            | true => have := hi.due e; omega
          have e1 : min s.left a.length = a.length := by omega
          have e2 : min s.left (a ++ b).length = a.length + min (s.left - a.length) b.length := by rw [List.length_append]; omega
          have ea := e s p2 a
          rw [if_neg hn, e1, List.take_length] at ea
          have eb := e { s with left := s.left - a.length } p2 b
          have eab := e s p2 (a ++ b)
          rw [e2, List.take_length_add_append] at eab
          dsimp only at eb
          rw [ea]
          refine ⟨rfl, rfl, hd, ?_, ?_, ?_⟩
          · dsimp only
            rw [eab, eb, show s.left - (a.length + min (s.left - a.length) b.length) = s.left - a.length - min (s.left - a.length) b.length by omega]
            split <;> rfl
          · intro _ _
            dsimp only
            rw [eab, eb, show s.left - (a.length + min (s.left - a.length) b.length) = s.left - a.length - min (s.left - a.length) b.length by omega]
            split
            · rfl
            · exact List.length_append
          · dsimp only
            rw [eab, eb, show s.left - (a.length + min (s.left - a.length) b.length) = s.left - a.length - min (s.left - a.length) b.length by omega]
            split <;> exact data_app _ _
      · by_cases p3 : s.ph = 3
        · obtain ⟨h11, hok⟩ := hi.body p3
          have hd : s.due = false := by
            cases e : s.due with
            | false => rfl
            | true => have := hi.due e; omega
          have e : ∀ (s : S) (T : Nat), s.ph = 3 → s.body.at_ ≠ 11 → Chunk.Ok s.body T → ∀ q : Bs, callS s q = if (Chunk.feed s.body q 0 []).2.2.2 = 1 then (data (Chunk.feed s.body q 0 []).2.1, (Chunk.feed s.body q 0 []).2.2.1, { s with body := (Chunk.feed s.body q 0 []).1, due := true, ph := 1 }, 0)
              else (data (Chunk.feed s.body q 0 []).2.1, q.length, { s with body := (Chunk.feed s.body q 0 []).1 }, if (Chunk.feed s.body q 0 []).2.2.2 = 2 then 230 else 0) := fun s T p3 h11 hok q => by
            unfold callS; rw [if_neg (by omega), if_neg (by omega), if_neg (by omega), if_pos p3, feedA_feed h11 hok]
          have happ := Chunk.feed_app a b s.body 0 []
          have ea := e s T p3 h11 hok a
          have eab := e s T p3 h11 hok (a ++ b)
          rcases Chunk.feed_kind' a s.body with hq | hq | hq
          · right; right
            rw [if_pos hq] at happ
            have hm := Chunk.feed_more a s.body hq
            have hok2 := Chunk.feed_ok a s.body T hok (by omega)
            have h112 := (Chunk.feed_at a s.body h11).1 hq
            rw [Chunk.feed_acc b (Chunk.feed s.body a 0 []).1 (Chunk.feed s.body a 0 []).2.2.1 (Chunk.feed s.body a 0 []).2.1, hm] at happ
            rw [if_neg (by omega), if_neg (by omega)] at ea
            have eb := e { s with body := (Chunk.feed s.body a 0 []).1 } _ p3 h112 hok2 b
            dsimp only at eb
            rw [happ] at eab
            dsimp only at eab
            rw [ea]
            refine ⟨rfl, rfl, hd, ?_, ?_, ?_⟩
            · dsimp only
              rw [eab, eb]
              split <;> rfl
            · intro _ _
              dsimp only
              rw [eab, eb]
              split
              · rfl
              · exact List.length_append
            · dsimp only
              rw [eab, eb]
              split <;> exact data_app _ _
          · right; left
            rw [if_neg (by omega)] at happ
            rw [happ, if_pos hq] at eab
            rw [if_pos hq] at ea
            rw [eab, ea]
            exact ⟨rfl, rfl⟩
          · left
            rw [if_neg (by omega)] at happ
            rw [happ, if_neg (by omega), if_pos hq] at eab
            rw [if_neg (by omega), if_pos hq] at ea
            rw [eab, ea]
            exact ⟨(by decide : (230 : Nat) ≠ 0), rfl, rfl⟩
        · right; right
          have e : ∀ q : Bs, callS s q = (data q, q.length, s, 0) := fun q => by unfold callS; rw [if_neg p0, if_neg p1, if_neg p2, if_neg p3]
          have hd : s.due = false := by
            cases e : s.due with
            | false => rfl
            | true => have := hi.due e; omega
          rw [e, e, e]
          exact ⟨rfl, rfl, hd, rfl, fun _ _ => List.length_append, data_app _ _⟩

theorem data_one (p : Bs) : (data p).length ≤ 1 := by unfold data; split <;> simp
theorem call_one (s : S) (p : Bs) : (callS s p).1.length ≤ 1 := by
  unfold callS
  split
  · dsimp only
    split
    · split <;> exact Nat.zero_le _
    · unfold headS
      split
      · exact Nat.zero_le _
      · dsimp only
        split
        · exact Nat.zero_le _
        · exact Nat.le_refl _
  · split
    · exact Nat.le_refl _
    · split
      · dsimp only
        split <;> exact data_one _
      · split
        · dsimp only
          split <;> exact data_one _
        · exact data_one _
theorem headS_dead (s : S) (b : Bs) : (headS s b).2.1.dead = s.dead := by
  unfold headS
  split
  · rfl
  · dsimp only
    split <;> rfl
theorem call_dead (s : S) (p : Bs) : (callS s p).2.2.1.dead = s.dead := by
  unfold callS
  split
  · dsimp only
    split
    · split <;> rfl
    · exact headS_dead _ _
  · split
    · rfl
    · split
      · dsimp only
        split <;> rfl
      · split
        · dsimp only
          split <;> rfl
        · rfl
/-- an end that is due costs a call, or two -/
def rk (s : S) : Nat := if s.due = true then (if s.ph = 2 then 2 else 1) else 0
theorem feed_one (p : Bs) (s : Chunk.St) (h : (Chunk.feed s p 0 []).2.2.2 = 1) : 1 ≤ (Chunk.feed s p 0 []).2.2.1 := by
  cases p with
  | nil => simp [Chunk.feed] at h
  | cons c l =>
    rw [Chunk.feed] at h ⊢
    split
    · rw [Chunk.feed_acc]; dsimp only; omega
    · split
      · rename_i h1 h2
        rw [if_neg h1, if_pos h2] at h
        simp at h
      · split
        · simp
        · rw [Chunk.feed_acc]; dsimp only; omega
theorem rk_le (s : S) : rk s ≤ 2 := by unfold rk; split <;> (try split) <;> omega
theorem rk_no {s : S} (h : s.due = false) : rk s = 0 := by unfold rk; rw [h]; rfl
theorem call_less {s : S} {T : Nat} (hi : Inv s T) {p : Bs} (hp : ¬ (p = [] ∧ s.due = false)) (h0 : (callS s p).2.2.2 = 0) : 3 * (p.drop (callS s p).2.1).length + rk (callS s p).2.2.1 < 3 * p.length + rk s := by
  have hm := (call_inv hi h0).2
  rw [List.length_drop]
  have hne : s.due = false → 1 ≤ p.length := fun hd => by
    cases p with
    | nil => exact absurd ⟨rfl, hd⟩ hp
    | cons c l => simp
  have h2 := rk_le (callS s p).2.2.1
  by_cases p1 : s.ph = 1
  · have e : callS s p = ([.fin], 0, { s with win := false, due := false, ph := 0 }, 0) := by unfold callS; rw [if_neg (by omega), if_pos p1]
    have hd := hi.end_ p1
    rw [e]
    have e1 : rk s = 1 := by unfold rk; rw [if_pos hd, if_neg (by omega)]
    have e2 : rk { s with win := false, due := false, ph := 0 } = 0 := rfl
    rw [e1, e2]
    dsimp only
    omega
  · by_cases p2 : s.ph = 2
    · have e : callS s p = if s.left - min s.left p.length = 0 then (data (p.take (min s.left p.length)), min s.left p.length, { s with left := 0, due := true, ph := 1 }, 0)
          else (data (p.take (min s.left p.length)), p.length, { s with left := s.left - min s.left p.length }, 0) := by
        unfold callS; rw [if_neg (by omega), if_neg (by omega), if_pos p2]
      by_cases hn : s.left - min s.left p.length = 0
      · rw [if_pos hn] at e
        rw [e]
        have e2 : rk { s with left := 0, due := true, ph := 1 } = 1 := rfl
        rw [e2]
        dsimp only
        cases hd : s.due with
        | false =>
          have := hi.left p2 hd
          have := hne hd
          omega
        | true =>
          have e1 : rk s = 2 := by unfold rk; rw [if_pos hd, if_pos p2]
          omega
      · rw [if_neg hn] at e
        have hd : s.due = false := by
          cases hd : s.due with
          | false => rfl
          | true => have := hi.due hd; omega
        rw [e]
        have e2 : rk { s with left := s.left - min s.left p.length } = 0 := rk_no hd
        rw [e2]
        dsimp only
        have := hne hd
        omega
    · have hd : s.due = false := by
        cases hd : s.due with
        | false => rfl
        | true => have := hi.due hd; omega
      have hl := hne hd
      by_cases hq : 1 ≤ (callS s p).2.1
      · omega
      · exfalso
        apply hq
        by_cases p0 : s.ph = 0
        · obtain ⟨hb, hbl⟩ := hi.blk p0
          have e := call0 p0 p
          cases he : headEnd (s.blk ++ p.take (16384 - s.blk.length)) with
          | none =>
            rw [he] at e
            dsimp only at e
            split at e
            · rw [e]; exact hl
            · rw [e] at h0; exact absurd h0 (refuse_pos _)
          | some n =>
            have := (headEnd_late hb he).1
            rw [he] at e
            rw [e]
            dsimp only
            omega
        · by_cases p3 : s.ph = 3
          · obtain ⟨h11, hok⟩ := hi.body p3
            have e : callS s p = if (Chunk.feed s.body p 0 []).2.2.2 = 1 then (data (Chunk.feed s.body p 0 []).2.1, (Chunk.feed s.body p 0 []).2.2.1, { s with body := (Chunk.feed s.body p 0 []).1, due := true, ph := 1 }, 0)
              else (data (Chunk.feed s.body p 0 []).2.1, p.length, { s with body := (Chunk.feed s.body p 0 []).1 }, if (Chunk.feed s.body p 0 []).2.2.2 = 2 then 230 else 0) := by
              unfold callS; rw [if_neg (by omega), if_neg (by omega), if_neg (by omega), if_pos p3, feedA_feed h11 hok]
            rw [e]
            split
            · rename_i h1; exact feed_one p _ h1
            · exact hl
          · have e : callS s p = (data p, p.length, s, 0) := by unfold callS; rw [if_neg p0, if_neg p1, if_neg p2, if_neg p3]
            rw [e]; exact hl

/-! ### a piece that is fed -/
theorem Feeds.due {s u : S} {p : Bs} {es : List E1} {r : Nat} (h : Feeds s p u es r) (h0 : r = 0) : u.due = false := by
  induction h with
  | stop s hd => exact hd
  | err s p _ h2 => exact absurd h0 h2
  | go s p u es r _ _ _ ih => exact ih h0
theorem Feeds.inv {s u : S} {p : Bs} {es : List E1} {r T : Nat} (h : Feeds s p u es r) (hi : Inv s T) (h0 : r = 0) : ∃ T', Inv u T' := by
  induction h generalizing T with
  | stop s hd => exact ⟨T, hi⟩
  | err s p _ h2 => exact absurd h0 h2
  | go s p u es r _ h2 _ ih => exact ih (call_inv hi h2).1 h0
/-- behind a piece that is right comes another one -/
theorem Feeds.app {s u v : S} {a b : Bs} {ea eb : List E1} {r q T : Nat} (h : Feeds s a u ea r) (h0 : r = 0) (hi : Inv s T) (k : Feeds u b v eb q) : ∃ es, Feeds s (a ++ b) v es q ∧ Sim es (ea ++ eb) := by
  induction h generalizing T with
  | stop s hd => exact ⟨eb, k, Sim.refl _⟩
  | err s p _ h2 => exact absurd h0 h2
  | go s p u es r h1 h2 h3 ih =>
    obtain ⟨hi2, hm⟩ := call_inv hi h2
    rcases call_split hi p b with ⟨x, _⟩ | ⟨_, x⟩ | ⟨_, x1, x2, x3, x4, x5⟩
    · exact absurd h2 x
    · obtain ⟨fs, f1, f2⟩ := ih h0 hi2 k
      refine ⟨(callS s p).1 ++ fs, ?_, ?_⟩
      · have hg := Feeds.go s (p ++ b) v fs q (fun e => h1 ⟨(List.append_eq_nil_iff.1 e.1).1, e.2⟩) (by rw [x]; exact h2) (by
          rw [x, List.drop_append_of_le_length hm]; exact f1)
        rw [x] at hg
        exact hg
      · rw [List.append_assoc]; exact Sim.app (Sim.refl _) f2
    · rw [x1, List.drop_length] at h3
      cases h3 with
      | err _ _ y => exact absurd ⟨rfl, x2⟩ y
      | go _ _ _ _ _ y => exact absurd ⟨rfl, x2⟩ y
      | stop _ _ =>
        rw [List.append_nil]
        by_cases hb : b = []
        · subst hb
          cases k with
          | err _ _ y => exact absurd ⟨rfl, x2⟩ y
          | go _ _ _ _ _ y => exact absurd ⟨rfl, x2⟩ y
          | stop _ _ =>
            refine ⟨(callS s p).1 ++ [], ?_, Sim.refl _⟩
            rw [List.append_nil]
            exact Feeds.go s p _ [] 0 h1 h2 (by rw [x1, List.drop_length]; exact Feeds.stop _ x2)
        · have hne : ¬ (p ++ b = [] ∧ s.due = false) := fun e => hb (List.append_eq_nil_iff.1 e.1).2
          cases k with
          | stop => exact absurd rfl hb
          | err _ _ y1 y2 =>
            refine ⟨(callS s (p ++ b)).1, ?_, x5⟩
            have hg := Feeds.err s (p ++ b) hne (by rw [x3]; exact y2)
            rw [x3] at hg
            exact hg
          | go _ _ _ es2 _ y1 y2 y3 =>
            refine ⟨(callS s (p ++ b)).1 ++ es2, ?_, ?_⟩
            · refine Feeds.go s (p ++ b) v es2 q hne (by rw [x3]; exact y2) ?_
              rw [x3, x4 hb y2, List.drop_length_add_append]
              exact y3
            · rw [← List.append_assoc]; exact Sim.app x5 (Sim.refl _)
/-- behind a wrong piece nothing counts -/
theorem Feeds.wrong {s u : S} {a b : Bs} {ea : List E1} {r T : Nat} (h : Feeds s a u ea r) (h0 : r ≠ 0) (hi : Inv s T) : ∃ v, Feeds s (a ++ b) v ea r := by
  induction h generalizing T with
  | stop s hd => exact absurd rfl h0
  | err s p h1 h2 =>
    rcases call_split hi p b with ⟨_, x1, x2⟩ | ⟨x, _⟩ | ⟨x, _⟩
    · have hg := Feeds.err s (p ++ b) (fun e => h1 ⟨(List.append_eq_nil_iff.1 e.1).1, e.2⟩) (by rw [x2]; exact h2)
      rw [x1, x2] at hg
      exact ⟨_, hg⟩
    · exact absurd x h2
    · exact absurd x h2
  | go s p u es r h1 h2 h3 ih =>
    obtain ⟨hi2, hm⟩ := call_inv hi h2
    rcases call_split hi p b with ⟨x, _⟩ | ⟨_, x⟩ | ⟨_, x1, x2, _⟩
    · exact absurd h2 x
    · obtain ⟨v, f1⟩ := ih h0 hi2
      have hg := Feeds.go s (p ++ b) v es r (fun e => h1 ⟨(List.append_eq_nil_iff.1 e.1).1, e.2⟩) (by rw [x]; exact h2) (by
        rw [x, List.drop_append_of_le_length hm]; exact f1)
      rw [x] at hg
      exact ⟨v, hg⟩
    · rw [x1, List.drop_length] at h3
      cases h3 with
      | err _ _ y => exact absurd ⟨rfl, x2⟩ y
      | go _ _ _ _ _ y => exact absurd ⟨rfl, x2⟩ y
      | stop _ _ => exact absurd rfl h0
end Strm
end Go.Proofs.YtklmpadcfioefaaGreatDoor

namespace Go.Proofs.YtklmpadcfioefaaGreatDoor
open Go.RowKit

/-- w' is w but for the blocks of S, and new ones -/
structure Chg (S : Nat → Prop) (w w' : World) : Prop where
  os : w'.os = w.os
  tape : w'.tape = w.tape
  output : w'.output = w.output
  size : w.heap.size ≤ w'.heap.size
  block : ∀ k, k < w.heap.size → ¬ S k → w'.heap[k]? = w.heap[k]?

section
variable {S S' : Nat → Prop} {w w' w1 w2 : World} {B base sz n b : Nat} {v : Value} {xs cs : List Value} {t : TypeId} {A : Option Addr}
theorem Chg.refl (S : Nat → Prop) (w : World) : Chg S w w := ⟨rfl, rfl, rfl, Nat.le_refl _, fun _ _ _ => rfl⟩
theorem Chg.trans (h : Chg S w w1) (k : Chg S' w1 w2) (hs : ∀ j, j < w.heap.size → S' j → S j) : Chg S w w2 :=
  ⟨k.os.trans h.os, k.tape.trans h.tape, k.output.trans h.output, Nat.le_trans h.size k.size, fun j hj hn => (k.block j (Nat.lt_of_lt_of_le hj h.size) (fun e => hn (hs j hj e))).trans (h.block j hj hn)⟩
theorem Chg.more (h : Chg S w w') (hs : ∀ j, j < w.heap.size → S j → S' j) : Chg S' w w' :=
  ⟨h.os, h.tape, h.output, h.size, fun j hj hn => h.block j hj (fun e => hn (hs j hj e))⟩
theorem Chg.drew (h : Chg S w w') : Chg S w w'.drew := ⟨h.os, h.tape, h.output, h.size, h.block⟩
theorem Chg.drewN (h : Chg S w w') (q : Nat) : Chg S w (w'.drewN q) := ⟨h.os, h.tape, h.output, h.size, h.block⟩
theorem Chg.alloc (h : Chg S w w') (o : Obj) : Chg S w (w'.alloc o) :=
  h.trans (S' := fun _ => False) ⟨rfl, rfl, rfl, by simp, fun k hk _ => Below.heap_alloc w' o k hk⟩ (fun _ _ e => e.elim)
theorem Chg.setCell (h : Chg S w w') {p : Addr} (hp : p.block < w.heap.size → S p.block) (u : Value) : Chg S w (w'.setCell p u) :=
  h.trans (S' := fun k => k = p.block) ⟨rfl, rfl, rfl, by simp, fun k _ hn => Below.heap_setCell _ _ _ _ hn⟩ (fun j hj e => by subst e; exact hp hj)
theorem Chg.grown {row : Option Nat} (h : Chg S w w') (hg : w'.grownBy w1 row) (hr : ∀ k, k < w.heap.size → row = some k → S k) : Chg S w w1 :=
  h.trans (S' := fun k => row = some k) ⟨hg.os, hg.tape, hg.output, hg.size, fun k hk hn => hg.block k hk (fun e => hn e.symm)⟩ hr
theorem Chg.then_below (h : Chg S w w') (hb : Below w'.heap.size w' w1) : Chg S w w1 :=
  h.trans (S' := fun _ => False) ⟨hb.os, hb.tape, hb.output, hb.size, fun k hk _ => hb.block k hk⟩ (fun _ _ e => e.elim)
theorem Chg.of_below (hb : Below w.heap.size w w') : Chg S w w' := (Chg.refl S w).then_below hb
theorem Chg.below (h : Chg S w w') (hB : B ≤ w.heap.size) (hS : ∀ k, S k → B ≤ k) : Below B w w' :=
  ⟨h.os, h.tape, h.output, h.size, fun k hk => h.block k (by omega) (fun e => by have := hS k e; omega)⟩
theorem Below.chg (h0 : Below B w w1) (h : Chg S w1 w2) (hB : B ≤ w1.heap.size) (hS : ∀ k, S k → B ≤ k) : Below B w w2 := h0.trans (h.below hB hS)
theorem Row.chg (h : Row w base sz v n xs) (hc : Chg S w w') (hs : ∀ k, v.ownBlock = some k → ¬ S k) : Row w' base sz v n xs :=
  h.block_eq fun k hk => hc.block k (h.lt k hk).2 (hs k hk)
theorem Var.chg (h : Var w b t cs) (hc : Chg S w w') (hs : ¬ S b) : Var w' b t cs := (hc.block b h.lt hs).trans h
theorem Rd.chg (h : Rd w B sz A n xs) (hc : Chg S w w') (hB : B ≤ w.heap.size) (hs : ∀ k, k < B → ¬ S k) : Rd w' B sz A n xs :=
  h.keep fun g o hg => World.cell?_of_block (w := w) (a := ⟨g, o, none⟩) (hc.block g (by omega) (hs g hg))
end
end Go.Proofs.YtklmpadcfioefaaGreatDoor

namespace Go.Proofs.YtklmpadcfioefaaGreatDoor
open Go.RowKit

theorem Rd.built (w : World) (us : List Value) (t : TypeId) (fr : Nat × Nat) (n : Nat) (h : us.length = n) : Rd (w.alloc (.cells us.toArray t fr)) (w.alloc (.cells us.toArray t fr)).heap.size 1 (some ⟨w.heap.size, 0, none⟩) n us :=
  ⟨by omega, fun _ => ⟨w.heap.size, 0, rfl, by simp, fun j u hu => by
    rw [Nat.zero_add, World.cell?_alloc_mark]
    simpa using hu⟩⟩

end Go.Proofs.YtklmpadcfioefaaGreatDoor

namespace Go.Proofs.YtklmpadcfioefaaGreatDoor
open Go.ChangeShapes Go.WideShapes Go.ChangeAt Go.RowKit

section
variable {H : Type} {enc : TypeId × Value → H}
theorem bulk_sum (f : Nat → DataW H) (m : Nat → Nat) : ∀ n : Nat, (∀ r, r < n → m r ≤ Rows.uptoBulk (f r)) → ((List.range n).map m).sum ≤ Rows.uptoBulkAll ((List.range n).map f) := by
  have app : ∀ (a b : List (DataW H)), Rows.uptoBulkAll (a ++ b) = Rows.uptoBulkAll a + Rows.uptoBulkAll b := by
    intro a b
    induction a with
    | nil => simp [Rows.uptoBulkAll]
    | cons x r ih => simp only [List.cons_append, Rows.uptoBulkAll, ih]; omega
  intro n
  induction n with
  | zero => intro _; simp
  | succ n ih =>
    intro h
    have h1 := ih fun r hr => h r (by omega)
    have h2 := h n (by omega)
    rw [List.range_succ, List.map_append, List.map_append, List.sum_append, app]
    simp only [List.map_cons, List.map_nil, List.sum_cons, List.sum_nil, Rows.uptoBulkAll]
    omega
theorem ints_bytes (xs : List Int) (h : ∀ z ∈ xs, 0 ≤ z ∧ z < 256) : bytesV (xs.map fun z => UInt8.ofNat z.toNat) = xs.map (Value.int .u8) := by
  induction xs with
  | nil => rfl
  | cons z xs ih =>
    have i1 := ih fun y hy => h y (by simp [hy])
    have h0 := h z (by simp)
    have e : ((UInt8.ofNat z.toNat).toNat : Int) = z := by
      rw [UInt8.toNat_ofNat', Nat.mod_eq_of_lt (by omega)]; omega
    simp only [bytesV, List.map_cons, e] at i1 ⊢
    rw [i1]
end
end Go.Proofs.YtklmpadcfioefaaGreatDoor
