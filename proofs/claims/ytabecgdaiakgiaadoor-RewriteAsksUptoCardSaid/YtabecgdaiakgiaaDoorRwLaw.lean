/- Plain words on what is rewritten (chapter 25): the connection's own fields, paths, framings, replies. No program in sight. No condition. -/
import Derived.Test.YtabecgdaiakgiaaDoorHeadLaw
import Derived.Test.YtabecgdaiakgiaaDoorFields
import Derived.Test.YtabecgdaiakgiaaDoorText
namespace Go.Proofs.YtabecgdaiakgiaaDoor

def sConn : ByteArray := ⟨#[99, 111, 110, 110, 101, 99, 116, 105, 111, 110]⟩
def sConnC : ByteArray := ⟨#[67, 111, 110, 110, 101, 99, 116, 105, 111, 110]⟩
def sHost : ByteArray := ⟨#[72, 111, 115, 116]⟩
def sLen : ByteArray := ⟨#[67, 111, 110, 116, 101, 110, 116, 45, 76, 101, 110, 103, 116, 104]⟩
def sCod : ByteArray := ⟨#[84, 114, 97, 110, 115, 102, 101, 114, 45, 69, 110, 99, 111, 100, 105, 110, 103]⟩
def sChunked : ByteArray := ⟨#[99, 104, 117, 110, 107, 101, 100]⟩
def sClose : ByteArray := ⟨#[99, 108, 111, 115, 101]⟩
def sKeep : ByteArray := ⟨#[107, 101, 101, 112, 45, 97, 108, 105, 118, 101]⟩
def bHost : Bs := [104, 111, 115, 116]
def bClose : Bs := [99, 108, 111, 115, 101]
def bKeep : Bs := [107, 101, 101, 112, 45, 97, 108, 105, 118, 101]
/-- the names that are always a connection's own, folded -/
def always : List Bs := [
  [99, 111, 110, 110, 101, 99, 116, 105, 111, 110],
  [99, 108, 111, 115, 101],
  [107, 101, 101, 112, 45, 97, 108, 105, 118, 101],
  [112, 114, 111, 120, 121, 45, 99, 111, 110, 110, 101, 99, 116, 105, 111, 110],
  [116, 101],
  [116, 114, 97, 105, 108, 101, 114],
  [116, 114, 97, 110, 115, 102, 101, 114, 45, 101, 110, 99, 111, 100, 105, 110, 103],
  [117, 112, 103, 114, 97, 100, 101],
  [101, 120, 112, 101, 99, 116],
  [99, 111, 110, 116, 101, 110, 116, 45, 108, 101, 110, 103, 116, 104]]
/-- a name, folded -/
def fd (s : ByteArray) : Bs := fold s.data.toList
/-- what Connection lists -/
def connP (fs : List Fl) : List ByteArray := listed (vals fs sConn)
def inP (l : List ByteArray) (k : Bs) : Bool := l.any fun p => fd p == k
/-- is a folded name a connection's own? -/
def ownK (fs : List Fl) (k : Bs) : Bool := always.contains k || inP (connP fs) k
def ownP (fs : List Fl) (name : ByteArray) : Bool := ownK fs (fd name)
def mineK (rq : Bool) (fs : List Fl) (k : Bs) : Bool := ownK fs k || (rq && k == bHost)
def othersP (rq : Bool) (fs : List Fl) : List Fl := fs.filter fun f => !(mineK rq fs (fd f.1))
def cutP : Bs → Bs
  | [] => [47]
  | c :: r => if c = 47 then c :: r else if c = 63 then 47 :: c :: r else cutP r
def bHttp : Bs := [104, 116, 116, 112, 58, 47, 47]
def pathP (t : Bs) : Option Bs :=
  if t = [42] ∨ t.head? = some 47 then some t
  else if t.length < 8 ∨ fold (t.take 7) ≠ bHttp ∨ t[7]? = some 47 ∨ t[7]? = some 63 then none
  else some (cutP (t.drop 7))
def frameP (framing length : Int) : List Fl :=
  if framing = 1 then [(sLen, ⟨(Lib.itoa length).toArray⟩)] else if framing = 2 then [(sCod, sChunked)] else []
def hostP (s : Bs) : Bool := !s.isEmpty && s.all isSeen

theorem vals_fold (fs : List Fl) {a b : ByteArray} (h : fold a.data.toList = fold b.data.toList) : vals fs a = vals fs b := by
  unfold vals; rw [h]
theorem vals_conn (fs : List Fl) : vals fs sConnC = vals fs sConn := vals_fold fs (by decide +kernel)

/-- a head, its texts as in memory -/
structure HB where
  rq : Bool := false
  m : ByteArray := ⟨#[]⟩
  t : ByteArray := ⟨#[]⟩
  st : Int := 0
  rs : ByteArray := ⟨#[]⟩
  mn : Int := 0
  fs : List Fl := []
def HB.hi (h : HB) : HI := hiOf h.rq h.m h.t h.st h.rs h.mn h.fs
/-- a head, if it can be written -/
def okH (r : HB) : HB × Nat := if (writeP r.hi).2 = 0 then (r, 0) else ({}, (writeP r.hi).2)
def reqH (h : HB) (framing length : Int) (host : ByteArray) (p : Bs) : HB :=
  { rq := true, m := h.m, t := ⟨p.toArray⟩, mn := 1, fs := (sHost, host) :: othersP h.rq h.fs ++ frameP framing length }
def reqG (h : HB) (framing length : Int) (host : ByteArray) : Bool :=
  h.rq && decide (0 ≤ framing ∧ framing ≤ 2 ∧ (framing = 1 → 0 ≤ length)) && hostP host.data.toList
def reqP (h : HB) (framing length : Int) (host : ByteArray) : HB × Nat :=
  match pathP h.t.data.toList with
  | none => ({}, 2)
  | some p => if reqG h framing length host = true then okH (reqH h framing length host p) else ({}, 2)
def rspG (h : HB) (framing length minor : Int) : Bool :=
  !h.rq && decide (0 ≤ framing ∧ framing ≤ 3 ∧ (framing = 1 → 0 ≤ length) ∧ (minor = 0 ∨ minor = 1))
def shuts (framing : Int) (close : Bool) (minor : Int) : Bool := close || decide (framing = 3) || (decide (framing = 2) && decide (minor = 0))
def connF (framing : Int) (close : Bool) (minor : Int) : List Fl :=
  if shuts framing close minor = true then [(sConnC, sClose)] else if minor = 0 then [(sConnC, sKeep)] else []
def rspH (h : HB) (framing length : Int) (close : Bool) (minor : Int) : HB :=
  { st := h.st, rs := h.rs, mn := 1, fs := othersP false h.fs ++ (if framing = 2 ∧ minor = 0 then [] else frameP framing length) ++ connF framing close minor }
def rspP (h : HB) (framing length : Int) (close : Bool) (minor : Int) : (HB × Nat) × Bool :=
  if rspG h framing length minor = true then (okH (rspH h framing length close minor), shuts framing close minor && decide ((okH (rspH h framing length close minor)).2 = 0)) else (({}, 2), false)
def keepsP (mn : Int) (fs : List Fl) : Bool := !(inP (connP fs) bClose) && (decide (mn = 1) || inP (connP fs) bKeep)
end Go.Proofs.YtabecgdaiakgiaaDoor
