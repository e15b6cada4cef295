/- law RewriteOnce (printed by gen_once.py from the law RewriteHeads). Conditions: sizes, the library's variables. -/
import Derived.Test.YtabecgdaiakgiaaDoorROnceL
namespace Go.Proofs.YtabecgdaiakgiaaDoor
open Go.RowKit

theorem okH_err {r R : HB} {E : Nat} (h : okH r = (R, E)) (hE : E ≠ 0) : R = {} := by
  unfold okH at h
  split at h
  · injection h with _ h; exact absurd h.symm hE
  · injection h with h _; exact h.symm
theorem reqP_err {h R : HB} {fr ln : Int} {host : ByteArray} {E : Nat} (e : reqP h fr ln host = (R, E)) (hE : E ≠ 0) : R = {} := by
  unfold reqP at e
  split at e
  · injection e with e _; exact e.symm
  · split at e
    · exact okH_err e hE
    · injection e with e _; exact e.symm
theorem rspP_err {h R : HB} {fr ln : Int} {cl x : Bool} {mi : Int} {E : Nat} (e : rspP h fr ln cl mi = ((R, E), x)) (hE : E ≠ 0) : R = {} ∧ x = false := by
  unfold rspP at e
  split at e
  · injection e with e1 e2
    refine ⟨okH_err e1 hE, ?_⟩
    rw [← e2, e1]
    simp [hE]
  · injection e with e1 e2
    injection e1 with e1 _
    exact ⟨e1.symm, e2.symm⟩
/-- rewrite.Request of what it made -/
theorem wRequest_twice {l : Bs} {rq : Bool} {g : Hd} {fr ln : Int} {host : ByteArray} (hp : parseP l rq = (g, 0)) (hw : writeP g.up = (some l, 0)) (hl : l.length ≤ 16384) (hq : reqP (ofHd g) fr ln host = (ofHd g, 0)) (A : Option Addr) (c : Nat) (w : World) (hsh : w.ShapedOpen Tryd.prog) (htab : Tab w) (hA : A = none → g.fs.length = 0 ∧ c = 0) (hrd : Rd w w.heap.size 2 A g.fs.length (fieldsV (flB g.fs))) (hln : isInt ln) (hhs : host.size ≤ 1048576) :
    Calls Tryd.prog 46 #[.agg #[.bool g.rq, .string ⟨g.m.toArray⟩, .string ⟨g.t.toArray⟩, .int .i64 (g.st : Int), .string ⟨g.rs.toArray⟩, .int .i64 (g.mn : Int), .slice A g.fs.length c], .int .i64 fr, .int .i64 ln, .string host] w fun e w' =>
      ∃ v, e = .returned (.tuple #[.agg #[.bool g.rq, .string ⟨g.m.toArray⟩, .string ⟨g.t.toArray⟩, .int .i64 (g.st : Int), .string ⟨g.rs.toArray⟩, .int .i64 (g.mn : Int), v], .int .i64 0]) ∧ Row w' w.heap.size 2 v (flB g.fs).length (fieldsV (flB g.fs)) ∧ Below w.heap.size w w' := by
  obtain ⟨k3, k4, k5⟩ := parse_sizes hp
  obtain ⟨s1, s2, s3⟩ := back_sizes hw hl
  have h := wRequest_any g.rq ⟨g.m.toArray⟩ ⟨g.t.toArray⟩ (g.st : Int) ⟨g.rs.toArray⟩ (g.mn : Int) A g.fs.length c (flB g.fs) fr ln host w hsh htab hA hrd hln (by omega) (by show g.m.length + g.t.length + g.rs.length ≤ _; omega) (by omega) hhs s2 (by omega)
  rw [show (⟨g.rq, ⟨g.m.toArray⟩, ⟨g.t.toArray⟩, (g.st : Int), ⟨g.rs.toArray⟩, (g.mn : Int), flB g.fs⟩ : HB) = ofHd g from rfl, hq] at h
  refine h.mono ?_
  rintro e w' ⟨v, rfl, hr, hb⟩
  exact ⟨v, rfl, hr, hb⟩
/-- rewrite.Response of what it made -/
theorem wResponse_twice {l : Bs} {rq : Bool} {g : Hd} {fr ln : Int} {cl x : Bool} {mi : Int} (hp : parseP l rq = (g, 0)) (hw : writeP g.up = (some l, 0)) (hl : l.length ≤ 16384) (hq : rspP (ofHd g) fr ln cl mi = ((ofHd g, 0), x)) (A : Option Addr) (c : Nat) (w : World) (hsh : w.ShapedOpen Tryd.prog) (htab : Tab w) (hA : A = none → g.fs.length = 0 ∧ c = 0) (hrd : Rd w w.heap.size 2 A g.fs.length (fieldsV (flB g.fs))) (hln : isInt ln) :
    Calls Tryd.prog 48 #[.agg #[.bool g.rq, .string ⟨g.m.toArray⟩, .string ⟨g.t.toArray⟩, .int .i64 (g.st : Int), .string ⟨g.rs.toArray⟩, .int .i64 (g.mn : Int), .slice A g.fs.length c], .int .i64 fr, .int .i64 ln, .bool cl, .int .i64 mi] w fun e w' =>
      ∃ v, e = .returned (.tuple #[.agg #[.bool g.rq, .string ⟨g.m.toArray⟩, .string ⟨g.t.toArray⟩, .int .i64 (g.st : Int), .string ⟨g.rs.toArray⟩, .int .i64 (g.mn : Int), v], .bool x, .int .i64 0]) ∧ Row w' w.heap.size 2 v (flB g.fs).length (fieldsV (flB g.fs)) ∧ Below w.heap.size w w' := by
  obtain ⟨k3, k4, k5⟩ := parse_sizes hp
  obtain ⟨k1, k2⟩ := parse_nums hp
  obtain ⟨s1, s2, s3⟩ := back_sizes hw hl
  have h := wResponse_any g.rq ⟨g.m.toArray⟩ ⟨g.t.toArray⟩ (g.st : Int) ⟨g.rs.toArray⟩ (g.mn : Int) A g.fs.length c (flB g.fs) fr ln cl mi w hsh htab hA hrd (isInt_small _ (by omega)) hln (by omega) (by show g.m.length + g.t.length + g.rs.length ≤ _; omega) (by omega) s2 (by omega)
  rw [show (⟨g.rq, ⟨g.m.toArray⟩, ⟨g.t.toArray⟩, (g.st : Int), ⟨g.rs.toArray⟩, (g.mn : Int), flB g.fs⟩ : HB) = ofHd g from rfl, hq] at h
  refine h.mono ?_
  rintro e w' ⟨v, rfl, hr, hb⟩
  exact ⟨v, rfl, hr, hb⟩
end Go.Proofs.YtabecgdaiakgiaaDoor
