/- Plain words on the reader of streams: a call of its state, a piece fed. No program in sight. No condition. -/
import Derived.Test.YtklmpadcfioefaaDoorFramP
import Derived.Test.YtklmpadcfioefaaDoorFeedsLaw
import Derived.Test.YtklmpadcfioefaaDoorParse
namespace Go.Proofs.YtklmpadcfioefaaDoor
namespace Strm

def crlf2 : Bs := [13, 10, 13, 10]
def bHEAD : ByteArray := ⟨#[72, 69, 65, 68]⟩
/-- where a stream is: 0 a head, 1 an end, 2 a length, 3 chunks, 4 the rest -/
structure S where
  rq : Bool
  ms : List ByteArray := []
  ph : Nat := 0
  blk : Bs := []
  left : Nat := 0
  body : Chunk.St := {}
  fr : Nat := 0
  win : Bool := false
  due : Bool := false
  dead : Nat := 0
inductive E1 where
  | head (h : Hd) (fr ln : Nat)
  | body (d : Bs)
  | fin
/-- behind the first 13 10 13 10 -/
def headEnd (b : Bs) : Option Nat := if Lib.index b crlf2 < 0 then none else some ((Lib.index b crlf2).toNat + 4)
def refuseP (b : Bs) : Nat := if Lib.index b [13, 10] < 0 ∨ 4096 < Lib.index b [13, 10] then 221 else 222
def takes (s : S) (h : Hd) : Bool := !s.rq && decide (200 ≤ h.st) && !s.ms.isEmpty
def method (s : S) (h : Hd) : ByteArray := if takes s h = true then s.ms.headD ⟨#[71, 69, 84]⟩ else ⟨#[71, 69, 84]⟩
def headFr (s : S) (h : Hd) : Nat × Nat × Nat := framingP h.rq (decide (method s h = bHEAD)) h.st h.mn (flB h.fs)
/-- a head's block is whole -/
def headS (s : S) (b : Bs) : List E1 × S × Nat :=
  if (parseP b s.rq).2 ≠ 0 then ([], s, (parseP b s.rq).2)
  else
    let h := (parseP b s.rq).1
    let t := { s with ms := if takes s h = true then s.ms.tail else s.ms }
    let f := headFr s h
    if f.2.2 ≠ 0 then ([], t, f.2.2)
    else ([.head h f.1 f.2.1], { t with ph := f.1 + 1, blk := [], left := f.2.1, body := {}, fr := f.1, due := decide (f.1 = 0 ∨ f.1 = 1 ∧ f.2.1 = 0) }, 0)
def data (p : Bs) : List E1 := if p = [] then [] else [.body p]
/-- a call of the state: the events, how many bytes it took, what comes next, the error -/
def callS (s : S) (p : Bs) : List E1 × Nat × S × Nat :=
  if s.ph = 0 then
    let b := s.blk ++ p.take (16384 - s.blk.length)
    let t := { s with win := true, blk := b }
    match headEnd b with
    | none => if b.length < 16384 then ([], p.length, t, 0) else ([], 0, t, refuseP b)
    | some n => ((headS t (b.take n)).1, n - s.blk.length, (headS t (b.take n)).2)
  else if s.ph = 1 then ([.fin], 0, { s with win := false, due := false, ph := 0 }, 0)
  else if s.ph = 2 then
    let n := min s.left p.length
    if s.left - n = 0 then (data (p.take n), n, { s with left := 0, due := true, ph := 1 }, 0)
    else (data (p.take n), p.length, { s with left := s.left - n }, 0)
  else if s.ph = 3 then
    let r := Chunk.feedA s.body p
    if r.2.2.2 = 1 then (data r.2.1, r.2.2.1, { s with body := r.1, due := true, ph := 1 }, 0)
    else (data r.2.1, p.length, { s with body := r.1 }, if r.2.2.2 = 2 then 230 else 0)
  else (data p, p.length, s, 0)
/-- a piece is fed: what is left of the reader, the events, the error -/
inductive Feeds : S → Bs → S → List E1 → Nat → Prop
  | stop (s : S) : s.due = false → Feeds s [] s [] 0
  | err (s : S) (p : Bs) : ¬ (p = [] ∧ s.due = false) → (callS s p).2.2.2 ≠ 0 → Feeds s p { (callS s p).2.2.1 with dead := (callS s p).2.2.2 } (callS s p).1 (callS s p).2.2.2
  | go (s : S) (p : Bs) (u : S) (es : List E1) (r : Nat) : ¬ (p = [] ∧ s.due = false) → (callS s p).2.2.2 = 0 → Feeds (callS s p).2.2.1 (p.drop (callS s p).2.1) u es r → Feeds s p u ((callS s p).1 ++ es) r
end Strm
end Go.Proofs.YtklmpadcfioefaaDoor
