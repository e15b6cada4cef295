/- What a head that can be written reads back as. No condition. -/
import Derived.Test.YtabecgdaiakgiaaDoorRAwL
import Derived.Test.YtabecgdaiakgiaaDoorRRsp2
import Derived.Test.YtabecgdaiakgiaaDoorOne
namespace Go.Proofs.YtabecgdaiakgiaaDoor
open Go.RowKit

def ofHd (g : Hd) : HB := ⟨g.rq, ⟨g.m.toArray⟩, ⟨g.t.toArray⟩, (g.st : Int), ⟨g.rs.toArray⟩, (g.mn : Int), flB g.fs⟩
theorem ok_hd {R : HB} (h : (writeP R.hi).2 = 0) : ∃ (g : Hd) (l : Bs), l.length ≤ 16384 ∧ parseP l R.rq = (g, 0) ∧ writeP g.up = (some l, 0) ∧ R = ofHd g := by
  obtain ⟨rq, m, t, st, rs, mn, fs⟩ := R
  have hw := write_ok h
  obtain ⟨_, ⟨g, hp, hu⟩, _, hl⟩ := write_back hw
  have he : eqH g.rq rq ⟨g.m.toArray⟩ m ⟨g.t.toArray⟩ t (g.st : Int) st ⟨g.rs.toArray⟩ rs (g.mn : Int) mn (flB g.fs) fs = true := by
    rw [eqH_up]; exact decide_eq_true hu
  unfold eqH at he
  obtain ⟨rfl, rfl, rfl, rfl, rfl, rfl, rfl⟩ := of_decide_eq_true he
  exact ⟨g, _, hl, hp, by rw [hu]; exact hw, rfl⟩
theorem okH_ok {r R : HB} (h : okH r = (R, 0)) : R = r ∧ (writeP R.hi).2 = 0 := by
  unfold okH at h
  split at h
  · rename_i c; cases h; exact ⟨rfl, c⟩
  · rename_i c; injection h with _ h; exact absurd h c
theorem reqP_ok {h R : HB} {fr ln : Int} {host : ByteArray} (e : reqP h fr ln host = (R, 0)) : R.rq = true ∧ (writeP R.hi).2 = 0 := by
  unfold reqP at e
  split at e
  · cases e
  · split at e
    · obtain ⟨rfl, k⟩ := okH_ok e; exact ⟨rfl, k⟩
    · cases e
theorem rspP_ok {h R : HB} {fr ln : Int} {cl x : Bool} {mi : Int} (e : rspP h fr ln cl mi = ((R, 0), x)) : R.rq = false ∧ (writeP R.hi).2 = 0 := by
  unfold rspP at e
  split at e
  · injection e with e _
    obtain ⟨rfl, k⟩ := okH_ok e; exact ⟨rfl, k⟩
  · cases e
/-- head.Write of what can be written -/
theorem hWrite_back {l : Bs} {rq : Bool} {g : Hd} (hp : parseP l rq = (g, 0)) (hw : writeP g.up = (some l, 0)) (A : Option Addr) (c : Nat) (w : World) (hsh : w.ShapedOpen Tryd.prog) (htab : Tab w) (hrd : Rd w w.heap.size 2 A g.fs.length (fieldsV (flB g.fs))) :
    Calls Tryd.prog 36 #[.agg #[.bool g.rq, .string ⟨g.m.toArray⟩, .string ⟨g.t.toArray⟩, .int .i64 (g.st : Int), .string ⟨g.rs.toArray⟩, .int .i64 (g.mn : Int), .slice A g.fs.length c]] w fun e w' =>
      ∃ A' c', e = .returned (.tuple #[.slice A' l.length c', .int .i64 0]) ∧ (A' = none → l.length = 0) ∧ Rd w' w'.heap.size 1 A' l.length (bytesV l) ∧ Below w.heap.size w w' :=
  (hWrite_hd hp A c w hsh htab hrd).mono fun e w' ⟨v, he, hr, hb⟩ => by
    rw [hw] at he hr
    change RowB _ _ _ l at hr
    obtain ⟨A2, c2, rfl, _, _, hA2, hr2⟩ := hr.form
    exact ⟨A2, c2, he, fun e => (hA2 e).1, hr2, hb⟩
theorem wResponse_any (rq : Bool) (mt t : ByteArray) (st : Int) (rs : ByteArray) (mn : Int) (A : Option Addr) (n c : Nat) (fs : List Fl) (fr ln : Int) (cl : Bool) (mi : Int) (w : World) (hsh : w.ShapedOpen Tryd.prog) (htab : Tab w) (hA : A = none → n = 0 ∧ c = 0) (hrd : Rd w w.heap.size 2 A n (fieldsV fs))
    (hst : isInt st) (hln : isInt ln) (hn : n ≤ 1048576) (hm : mt.size + t.size + rs.size ≤ 1048576) (hfz : flSize fs ≤ 2097152) (hfs : ∀ f ∈ fs, f.1.size ≤ 16777216) (hvs : total (vals fs sConn) ≤ 8388608) :
    Calls Tryd.prog 48 #[headV rq mt t st rs mn (.slice A n c), .int .i64 fr, .int .i64 ln, .bool cl, .int .i64 mi] w (RspPost w (rspP ⟨rq, mt, t, st, rs, mn, fs⟩ fr ln cl mi)) := by
  cases hg : rspG ⟨rq, mt, t, st, rs, mn, fs⟩ fr ln mi with
  | false => exact wResponse_no rq mt t st rs mn A n c fs fr ln cl mi w hg
  | true =>
    obtain rfl : rq = false := by unfold rspG at hg; cases rq <;> simp at hg ⊢
    exact wResponse_yes mt t st rs mn A n c fs fr ln cl mi w hsh htab hA hrd hst hln hn hm hfz hfs hvs hg
theorem rd_none {w : World} {B sz n : Nat} {xs : List Value} {A : Option Addr} (h : Rd w B sz A n xs) : A = none → n = 0 := fun e => by
  by_cases h0 : n = 0
  · exact h0
  · obtain ⟨g, o, e1, _⟩ := h.2 (by omega)
    rw [e] at e1; cases e1
end Go.Proofs.YtabecgdaiakgiaaDoor
