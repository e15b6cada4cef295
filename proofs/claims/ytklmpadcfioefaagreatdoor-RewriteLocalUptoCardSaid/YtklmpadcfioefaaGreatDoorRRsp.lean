/- rewrite.Request joined; rewrite.Response. Conditions: sizes, the library's variables. -/
import Derived.Test.YtklmpadcfioefaaGreatDoorRReq2
namespace Go.Proofs.YtklmpadcfioefaaGreatDoor
open Go.RowKit

theorem wRequest_any (rq : Bool) (mt t : ByteArray) (st : Int) (rs : ByteArray) (mn : Int) (A : Option Addr) (n c : Nat) (fs : List Fl) (fr ln : Int) (host : ByteArray) (w : World) (hsh : w.ShapedOpen Tryz.prog) (htab : Tab w) (hA : A = none → n = 0 ∧ c = 0) (hrd : Rd w w.heap.size 2 A n (fieldsV fs))
    (hln : isInt ln) (hn : n ≤ 1048576) (hm : mt.size + t.size + rs.size ≤ 1048576) (hfz : flSize fs ≤ 2097152) (hhs : host.size ≤ 1048576) (hfs : ∀ f ∈ fs, f.1.size ≤ 16777216) (hvs : total (vals fs sConn) ≤ 8388608) :
    Calls Tryz.prog 36 #[headV rq mt t st rs mn (.slice A n c), .int .i64 fr, .int .i64 ln, .string host] w (HeadPost w (reqP ⟨rq, mt, t, st, rs, mn, fs⟩ fr ln host)) := by
  cases hp : pathP t.data.toList with
  | none => exact wRequest_no rq mt t st rs mn A n c fs fr ln host w hsh htab hA hrd hln hn hm hfz hhs hfs hvs (.inl hp)
  | some p =>
    cases hg : reqG ⟨rq, mt, t, st, rs, mn, fs⟩ fr ln host with
    | false => exact wRequest_no rq mt t st rs mn A n c fs fr ln host w hsh htab hA hrd hln hn hm hfz hhs hfs hvs (.inr hg)
    | true =>
      unfold reqG at hg
      simp only [Bool.and_eq_true, decide_eq_true_eq] at hg
      obtain ⟨⟨rfl, h1, h2, h3⟩, h4⟩ := hg
      exact wRequest_yes mt t st rs mn A n c fs fr ln host w hsh htab hA hrd hln hn hm hfz hhs hfs hvs hp h4 (by omega) (by omega) h3

def RspPost (w : World) (r : (HB × Nat) × Bool) (e : Ending) (w' : World) : Prop :=
  ∃ v, e = .returned (.tuple #[hbV r.1.1 v, .bool r.2, .int .i64 (r.1.2 : Int)]) ∧ Row w' w.heap.size 2 v r.1.1.fs.length (fieldsV r.1.1.fs) ∧ Below w.heap.size w w'
theorem results_cell_tmp2 {fn : Func} {p u x : Tmp} {ty : TypeId} (h : fn.results = #[.cell p ty, .tmp u, .tmp x]) (tmps : Array Value) (P : Program) (w : World) :
    (results fn tmps).run P w =
      ((asAddr (tmps.getD p undef)).run P w).andThen fun a w₁ => ((loadVar ty a).run P w₁).andThen fun v w₂ => .ok (.tuple #[v, tmps.getD u undef, tmps.getD x undef]) w₂ := by
  simp only [results, h]
  simp [Sem.run_bind, Result.andThen]
theorem results_var3 {P : Program} {fn : Func} {p u x : Tmp} {ty : TypeId} (h : fn.results = #[.cell p ty, .tmp u, .tmp x]) (tmps : Array Value) {w : World} {b : Nat} {t : TypeId} {cs : List Value} (d : TypeDesc)
    (hp : tmps.getD p undef = .pointer (some ⟨b, 0, none⟩)) (hv : Var w b t cs) (hu : P.underlying ty = some d) (hd : (match d with | .struct _ | .array _ _ => true | _ => false) = true) (hi : (P.info? ty).map (·.size) = some cs.length) :
    (results fn tmps).run P w = .ok (.tuple #[.agg cs.toArray, tmps.getD u undef, tmps.getD x undef]) w := by
  have hl := run_loadVar_row (P := P) w b t ty cs.toArray (0, 0) d hv hu hd (by simpa using hi)
  rw [results_cell_tmp2 h, hp]
  simp [asAddr, Result.andThen, hl]
theorem rspP_yes {h : HB} {fr ln : Int} {cl : Bool} {mi : Int} (hn : rspG h fr ln mi = true) : rspP h fr ln cl mi = (okH (rspH h fr ln cl mi), shuts fr cl mi && decide ((okH (rspH h fr ln cl mi)).2 = 0)) := by
  unfold rspP; rw [if_pos hn]

end Go.Proofs.YtklmpadcfioefaaGreatDoor
