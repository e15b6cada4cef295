/- RewriteFrames, the second form's card: whatever Ask of bulk at most 1048576 is handed in: in a head that rewrite.Request or rewrite.Response has made, stream.Framing finds just the framing and the length that were said (lengths below 10^15, a host that is an authority, a status from 200 on but 204 and 304). Condition: the bound of the second form. -/
import Derived.Test.YtabecgdaiakgiaaDoorCards
import Derived.Test.YtabecgdaiakgiaaDoorTie
import Derived.Test.YtabecgdaiakgiaaDoorMA
import Derived.Test.YtabecgdaiakgiaaDoorRFrms
import Derived.Test.YtabecgdaiakgiaaDoorMB
import Derived.Deep.DeepHandedRow
namespace Go.Proofs.YtabecgdaiakgiaaDoor.rewriteFrames
open Go.ChangeShapes Go.WideShapes Go.ChangeAt Go.RowKit
open Go.ChangeMaps (open_string shut_string)

theorem own : ownKnob Tryd.prog.godebug = none := by kernel_rfl

set_option maxRecDepth 100000 in
theorem contract (H : Type) (enc : TypeId × Value → H) (W : World) (base : Nat) (args : Array Value) (ds gs : List (DataW H)) (before : List MemPlace)
    (hval : ∀ (j : Nat) t v, Tryd.f12.params[j]? = some t → args[j]? = some v → Value.okWide Tryd.prog W .any base t v)
    (hW : DataW.Whole enc Tryd.prog Tryd.f12.params.toList Rows.rewriteFramesSpec.vars false W args.toList ds gs before) (hk : Rows.uptoSmall H (ds ++ gs) = true) (hsh : W.ShapedOpen Tryd.prog) (htab : Tab W) :
    Calls Tryd.prog 12 args W fun e W' => ∃ v, e = .returned v ∧ Rows.rewriteFramesSpec.post enc Tryd.prog Tryd.f12 false true false false W args v W' := by
  have hW' := hW
  obtain ⟨p, q, hA0, hV, rfl, hfz, hnd⟩ := hW
  have hA : DataW.TrodAll enc Tryd.prog W 0 (fun _ => true) true Tryd.f12.params.toList args.toList ds p := hA0
  have hbk : Rows.uptoBulkAll (ds ++ gs) ≤ 1048576 := of_decide_eq_true hk
  rw [Tryd.params12] at hA hval
  obtain ⟨v0, vs0, d0, ds0, p0, q0, hargs, rfl, rfl, h0, r0⟩ := trodAll_cons hA
  obtain ⟨rfl, rfl, rfl⟩ := trodAll_nil r0
  obtain rfl : args = #[v0] := by cases args; simp_all
  obtain ⟨rfl, rfl⟩ := trodVars_none hV
  simp only [List.append_nil, Rows.uptoBulkAll] at hbk
  obtain ⟨rq, m, t, st, rs, mn, A, n, c, fs, fr, ln, host, cl, mi, rfl, _, zA, hrd, wst, wmn, wfr, wln, wmi, hn, hms, hfs, hfsz, hho⟩ := open_ask (hval 0 74 v0 rfl rfl) h0
  have htot := vals_total fs sConn
  have HW := rframes_any rq m t st rs mn A n c fs fr ln host cl mi W hsh htab zA hrd (isInt_wf wst) (isInt_wf wln) (by omega) (by omega) (by omega) (by omega) (fun f hf => by have := hfsz f hf; omega) (by omega)
  refine HW.mono fun e W' ⟨he, hb⟩ => ?_
  subst he
  simp only [List.append_nil] at hW'
  exact ⟨_, rfl, law_post (tb := 4) hW' rfl rfl rfl Tryd.underlying4 laidOut (by kernel_rfl) hb⟩

/-- the cells that a table's datum lays -/
def flat (d : DataW Unit) : List Value := match d with
  | .lit (.int k n) => [.int k n]
  | .agg ps => ps.flatMap fun p => match p with
    | .lit (.int k n) => [.int k n]
    | .agg qs => qs.flatMap fun q => match q with
      | .lit (.int k n) => [.int k n]
      | _ => []
    | _ => []
  | _ => []
def lay (h : Array Obj) (g : Nat) (d : DataW Unit) : Array Obj := h.modify g fun
  | .cells _ t frozen => .cells (flat d).toArray t frozen
  | o => o
/-- a world for the witness: the tables hold what their initialisers lay -/
noncomputable def laidWorld (os : Os) : World :=
  { World.holding Tryd.prog os ⟨#[], #[], []⟩ with heap := lay (lay (lay (lay (lay (World.holding Tryd.prog os ⟨#[], #[], []⟩).heap 4 Rows.laid_math_bits_deBruijn32tab) 5 Rows.laid_math_bits_deBruijn64tab) 1 Rows.laid_internal_strconv_uint64pow10) 3 Rows.laid_unicode_utf8_acceptRanges) 2 Rows.laid_unicode_utf8_first }
theorem laid_met (os : Os) : laidMet Tryd.prog Rows.rewriteFramesRow.laid ((laidWorld os).forCall (fun _ _ => 0) ⟨#[], #[.agg #[.bool false, .string .empty, .string .empty, .int .i64 0, .string .empty, .int .i64 0, .slice none 0 0, .int .i64 0, .int .i64 0, .string .empty, .bool false, .int .i64 0]], []⟩).memory :=
  laidMet_of_run' 8 (by kernel_rfl) (by kernel_rfl)
theorem reads (os : Os) {H : Type} (enc : TypeId × Value → H) : ∃ places, DataW.whole enc Tryd.prog ((laidWorld os).forCall (fun _ _ => 0) ⟨#[], #[.agg #[.bool false, .string .empty, .string .empty, .int .i64 0, .string .empty, .int .i64 0, .slice none 0 0, .int .i64 0, .int .i64 0, .string .empty, .bool false, .int .i64 0]], []⟩).memory Tryd.f12.params.toList Rows.rewriteFramesSpec.vars false #[.agg #[.bool false, .string .empty, .string .empty, .int .i64 0, .string .empty, .int .i64 0, .slice none 0 0, .int .i64 0, .int .i64 0, .string .empty, .bool false, .int .i64 0]].toList 8 = some ([.agg [.agg [.lit (.bool false), .lit (.string []), .lit (.string []), .lit (.int .i64 0), .lit (.string []), .lit (.int .i64 0), .nil], .lit (.int .i64 0), .lit (.int .i64 0), .lit (.string []), .lit (.bool false), .lit (.int .i64 0)]], [], places) :=
  ⟨[], by kernel_rfl⟩

set_option maxRecDepth 100000 in
theorem lifted (os : Os) (started : os.Started) (H : Type) (enc : TypeId × Value → H) (F : Stop.Interp) :
    ReturnsInHanded {} Tryd.checked os 12 .any ((Rows.OpenSpec.upto Rows.rewriteFramesSpec).preRow enc Tryd.prog Tryd.f12 Rows.rewriteFramesUptoRow.domain false Rows.rewriteFramesUptoRow.laid) (((Rows.OpenSpec.upto Rows.rewriteFramesSpec).at F).post enc Tryd.prog Tryd.f12 false true false false) := by
  obtain ⟨places, hx⟩ := reads os enc
  refine returnsInHanded_of_row (C := Tryd.checked) (s := Rows.OpenSpec.upto Rows.rewriteFramesSpec) own started (by kernel_rfl) Tryd.func12
    (witness_row_at (enc := enc) (C := Tryd.checked) false (laidWorld os) #[.agg #[.bool false, .string .empty, .string .empty, .int .i64 0, .string .empty, .int .i64 0, .slice none 0 0, .int .i64 0, .int .i64 0, .string .empty, .bool false, .int .i64 0]] rfl (by kernel_rfl) (by kernel_rfl) (by kernel_rfl)
      (OpenSpec.preRow_of_cond 8 hx (by kernel_rfl) (fun k hk => by cases hk; kernel_rfl) (by kernel_rfl) (laid_met os))) ?_
  intro W base args ds gs before hval hW _ hcond _ hlaid hsh _
  exact contract H enc W base args ds gs before hval hW (hcond _ rfl) hsh (tab_of_laid hlaid)

theorem said : Rows.RewriteFramesUptoSaid :=
  OpenClaim.holds_of_cond 12 Tryd.f12 rfl rfl rfl rfl rfl rfl rfl ⟨rfl, rfl, rfl, rfl, rfl⟩ rfl rfl rfl rfl rfl (by kernel_rfl) Tryd.func12 (by kernel_rfl)
    (of_decide_eq_true (by kernel_rfl)) (by unfold Func.isWrapper; first | (rw [if_pos (by decide +kernel)]; kernel_rfl) | (rw [if_neg (by decide +kernel)]; exact ⟨rfl, rfl⟩))
    (fun os started H enc _ F => by rw [OpenClaim.pre_eq_preRow]; exact lifted os started H enc F)

theorem plain (f : FuncId) (fn : Func) (hf : Tryd.pinned.checked.prog.funcNamed "turnpike/turnpikelaw25.RewriteFrames" = some f) (hfn : Tryd.pinned.checked.prog.funcs[f]? = some fn) :
    false = Tryd.pinned.checked.prog.looks [] ∧ ∀ (j : Nat) t, fn.params[j]? = some t → Tryd.pinned.checked.prog.wantsStandIn t = false := by
  obtain rfl : f = 12 := Option.some.inj ((show Tryd.prog.funcNamed "turnpike/turnpikelaw25.RewriteFrames" = some 12 by kernel_rfl).symm.trans hf) |>.symm
  obtain rfl : fn = Tryd.f12 := (Option.some.inj (Tryd.func12.symm.trans hfn)).symm
  refine ⟨by kernel_rfl, fun j t ht => ?_⟩
  rw [Tryd.params12] at ht
  have ht' := Array.mem_of_getElem? ht
  simp only [List.mem_toArray, List.mem_cons, List.not_mem_nil, or_false] at ht'
  obtain rfl := ht'
  · exact (show Tryd.prog.wantsStandIn 74 = false by kernel_rfl)

/-- the card -/
theorem proved : Rows.RewriteFramesUptoCardSaid :=
  Claim7.holds_tied_plain_at .later [] _ _ _ _ said (fun _ h => by cases h) (by kernel_rfl) (fun _ h => by cases h) rewriteFramesUpto_row_tie rfl ⟨rfl, rfl⟩ (by kernel_rfl) rfl plain (by kernel_rfl)
end Go.Proofs.YtabecgdaiakgiaaDoor.rewriteFrames
