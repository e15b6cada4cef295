/- RewriteOwn, the second form's card: of whatever two Asks of bulk at most 1048576: heads and replies that are answered are new memory: what is done to one changes nothing of another, nor of what was handed in. Condition: the bound of the second form. -/
import Derived.Test.YtabecgdaiakgiaaDoorCards
import Derived.Test.YtabecgdaiakgiaaDoorTie
import Derived.Test.YtabecgdaiakgiaaDoorMA
import Derived.Test.YtabecgdaiakgiaaDoorWOwn
import Derived.Test.YtabecgdaiakgiaaDoorOpenN
import Derived.Test.YtabecgdaiakgiaaDoorMB
import Derived.Deep.DeepHandedRow
namespace Go.Proofs.YtabecgdaiakgiaaDoor.rewriteOwn
open Go.ChangeShapes Go.WideShapes Go.ChangeAt Go.RowKit
open Go.ChangeMaps (open_string shut_string)

theorem own : ownKnob Tryd.prog.godebug = none := by kernel_rfl

set_option maxRecDepth 100000 in
theorem contract (H : Type) (enc : TypeId × Value → H) (W : World) (base : Nat) (args : Array Value) (ds gs : List (DataW H)) (before : List MemPlace)
    (hval : ∀ (j : Nat) t v, Tryd.f11.params[j]? = some t → args[j]? = some v → Value.okWide Tryd.prog W .any base t v)
    (hW : DataW.Whole enc Tryd.prog Tryd.f11.params.toList Rows.rewriteOwnSpec.vars false W args.toList ds gs before) (hk : Rows.uptoSmall H (ds ++ gs) = true) (hsh : W.ShapedOpen Tryd.prog) (htab : Tab W) :
    Calls Tryd.prog 11 args W fun e W' => ∃ v, e = .returned v ∧ Rows.rewriteOwnSpec.post enc Tryd.prog Tryd.f11 false true false false W args v W' := by
  have hW' := hW
  obtain ⟨p, q, hA0, hV, rfl, hfz, hnd⟩ := hW
  have hA : DataW.TrodAll enc Tryd.prog W 0 (fun _ => true) true Tryd.f11.params.toList args.toList ds p := hA0
  have hbk : Rows.uptoBulkAll (ds ++ gs) ≤ 1048576 := of_decide_eq_true hk
  rw [Tryd.params11] at hA hval
  obtain ⟨v0, vs0, d0, ds0, p0, q0, hargs, rfl, rfl, h0, r0⟩ := trodAll_cons hA
  obtain ⟨v1, vs1, d1, ds1, p1, q1, rfl, rfl, rfl, h1, r1⟩ := trodAll_cons r0
  obtain ⟨rfl, rfl, rfl⟩ := trodAll_nil r1
  obtain rfl : args = #[v0, v1] := by cases args; simp_all
  obtain ⟨rfl, rfl⟩ := trodVars_none hV
  simp only [List.append_nil, Rows.uptoBulkAll] at hbk
  obtain ⟨rq, m, t, st, rs, mn, A, n, c, fs, fr, ln, host, cl, mi, rfl, _, zA, hrd, wst, wmn, wfr, wln, wmi, hn, hms, hfs, hfsz, hho⟩ := open_ask (hval 0 74 v0 rfl rfl) h0
  obtain ⟨rq', m', t', st', rs', mn', A', n', c', fs', fr', ln', host', cl', mi', rfl, _, zA', hrd', wst', wmn', wfr', wln', wmi', hn', hms', hfs', hfsz', hho'⟩ := open_ask (hval 1 74 v1 rfl rfl) h1
  have htot := vals_total fs sConn
  have htot' := vals_total fs' sConn
  have HW := rown_any ⟨rq, m, t, st, rs, mn, A, n, c, fs, fr, ln, host, cl, mi⟩ ⟨rq', m', t', st', rs', mn', A', n', c', fs', fr', ln', host', cl', mi'⟩ W hsh htab
    ⟨(fun e => by dsimp only at e; subst e; exact ask_nil h0), hrd, isInt_wf wst, isInt_wf wln, by dsimp only; omega, by dsimp only; omega, by dsimp only; omega, by dsimp only; omega, (fun f hf => by have := hfsz f hf; omega), by dsimp only; omega⟩
    ⟨(fun e => by dsimp only at e; subst e; exact ask_nil h1), hrd', isInt_wf wst', isInt_wf wln', by dsimp only; omega, by dsimp only; omega, by dsimp only; omega, by dsimp only; omega, (fun f hf => by have := hfsz' f hf; omega), by dsimp only; omega⟩
  refine HW.mono fun e W' ⟨he, hb⟩ => ?_
  subst he
  simp only [List.append_nil] at hW'
  exact ⟨_, rfl, law_post (tb := 4) hW' rfl rfl rfl Tryd.underlying4 laidOut (by kernel_rfl) hb⟩

/-- the cells that a table's datum lays -/
def flat (d : DataW Unit) : List Value := match d with
  | .lit (.int k n) => [.int k n]
  | .agg ps => ps.flatMap fun p => match p with
    | .lit (.int k n) => [.int k n]
    | .agg qs => qs.flatMap fun q => match q with
      | .lit (.int k n) => [.int k n]
      | _ => []
    | _ => []
  | _ => []
def lay (h : Array Obj) (g : Nat) (d : DataW Unit) : Array Obj := h.modify g fun
  | .cells _ t frozen => .cells (flat d).toArray t frozen
  | o => o
/-- a world for the witness: the tables hold what their initialisers lay -/
noncomputable def laidWorld (os : Os) : World :=
  { World.holding Tryd.prog os ⟨#[], #[], []⟩ with heap := lay (lay (lay (lay (lay (World.holding Tryd.prog os ⟨#[], #[], []⟩).heap 4 Rows.laid_math_bits_deBruijn32tab) 5 Rows.laid_math_bits_deBruijn64tab) 1 Rows.laid_internal_strconv_uint64pow10) 3 Rows.laid_unicode_utf8_acceptRanges) 2 Rows.laid_unicode_utf8_first }
theorem laid_met (os : Os) : laidMet Tryd.prog Rows.rewriteOwnRow.laid ((laidWorld os).forCall (fun _ _ => 0) ⟨#[], #[.agg #[.bool false, .string .empty, .string .empty, .int .i64 0, .string .empty, .int .i64 0, .slice none 0 0, .int .i64 0, .int .i64 0, .string .empty, .bool false, .int .i64 0], .agg #[.bool false, .string .empty, .string .empty, .int .i64 0, .string .empty, .int .i64 0, .slice none 0 0, .int .i64 0, .int .i64 0, .string .empty, .bool false, .int .i64 0]], []⟩).memory :=
  laidMet_of_run' 8 (by kernel_rfl) (by kernel_rfl)
theorem reads (os : Os) {H : Type} (enc : TypeId × Value → H) : ∃ places, DataW.whole enc Tryd.prog ((laidWorld os).forCall (fun _ _ => 0) ⟨#[], #[.agg #[.bool false, .string .empty, .string .empty, .int .i64 0, .string .empty, .int .i64 0, .slice none 0 0, .int .i64 0, .int .i64 0, .string .empty, .bool false, .int .i64 0], .agg #[.bool false, .string .empty, .string .empty, .int .i64 0, .string .empty, .int .i64 0, .slice none 0 0, .int .i64 0, .int .i64 0, .string .empty, .bool false, .int .i64 0]], []⟩).memory Tryd.f11.params.toList Rows.rewriteOwnSpec.vars false #[.agg #[.bool false, .string .empty, .string .empty, .int .i64 0, .string .empty, .int .i64 0, .slice none 0 0, .int .i64 0, .int .i64 0, .string .empty, .bool false, .int .i64 0], .agg #[.bool false, .string .empty, .string .empty, .int .i64 0, .string .empty, .int .i64 0, .slice none 0 0, .int .i64 0, .int .i64 0, .string .empty, .bool false, .int .i64 0]].toList 8 = some ([.agg [.agg [.lit (.bool false), .lit (.string []), .lit (.string []), .lit (.int .i64 0), .lit (.string []), .lit (.int .i64 0), .nil], .lit (.int .i64 0), .lit (.int .i64 0), .lit (.string []), .lit (.bool false), .lit (.int .i64 0)], .agg [.agg [.lit (.bool false), .lit (.string []), .lit (.string []), .lit (.int .i64 0), .lit (.string []), .lit (.int .i64 0), .nil], .lit (.int .i64 0), .lit (.int .i64 0), .lit (.string []), .lit (.bool false), .lit (.int .i64 0)]], [], places) :=
  ⟨[], by kernel_rfl⟩

set_option maxRecDepth 100000 in
theorem lifted (os : Os) (started : os.Started) (H : Type) (enc : TypeId × Value → H) (F : Stop.Interp) :
    ReturnsInHanded {} Tryd.checked os 11 .any ((Rows.OpenSpec.upto Rows.rewriteOwnSpec).preRow enc Tryd.prog Tryd.f11 Rows.rewriteOwnUptoRow.domain false Rows.rewriteOwnUptoRow.laid) (((Rows.OpenSpec.upto Rows.rewriteOwnSpec).at F).post enc Tryd.prog Tryd.f11 false true false false) := by
  obtain ⟨places, hx⟩ := reads os enc
  refine returnsInHanded_of_row (C := Tryd.checked) (s := Rows.OpenSpec.upto Rows.rewriteOwnSpec) own started (by kernel_rfl) Tryd.func11
    (witness_row_at (enc := enc) (C := Tryd.checked) false (laidWorld os) #[.agg #[.bool false, .string .empty, .string .empty, .int .i64 0, .string .empty, .int .i64 0, .slice none 0 0, .int .i64 0, .int .i64 0, .string .empty, .bool false, .int .i64 0], .agg #[.bool false, .string .empty, .string .empty, .int .i64 0, .string .empty, .int .i64 0, .slice none 0 0, .int .i64 0, .int .i64 0, .string .empty, .bool false, .int .i64 0]] rfl (by kernel_rfl) (by kernel_rfl) (by kernel_rfl)
      (OpenSpec.preRow_of_cond 8 hx (by kernel_rfl) (fun k hk => by cases hk; kernel_rfl) (by kernel_rfl) (laid_met os))) ?_
  intro W base args ds gs before hval hW _ hcond _ hlaid hsh _
  exact contract H enc W base args ds gs before hval hW (hcond _ rfl) hsh (tab_of_laid hlaid)

theorem said : Rows.RewriteOwnUptoSaid :=
  OpenClaim.holds_of_cond 11 Tryd.f11 rfl rfl rfl rfl rfl rfl rfl ⟨rfl, rfl, rfl, rfl, rfl⟩ rfl rfl rfl rfl rfl (by kernel_rfl) Tryd.func11 (by kernel_rfl)
    (of_decide_eq_true (by kernel_rfl)) (by unfold Func.isWrapper; first | (rw [if_pos (by decide +kernel)]; kernel_rfl) | (rw [if_neg (by decide +kernel)]; exact ⟨rfl, rfl⟩))
    (fun os started H enc _ F => by rw [OpenClaim.pre_eq_preRow]; exact lifted os started H enc F)

theorem plain (f : FuncId) (fn : Func) (hf : Tryd.pinned.checked.prog.funcNamed "turnpike/turnpikelaw25.RewriteOwn" = some f) (hfn : Tryd.pinned.checked.prog.funcs[f]? = some fn) :
    false = Tryd.pinned.checked.prog.looks [] ∧ ∀ (j : Nat) t, fn.params[j]? = some t → Tryd.pinned.checked.prog.wantsStandIn t = false := by
  obtain rfl : f = 11 := Option.some.inj ((show Tryd.prog.funcNamed "turnpike/turnpikelaw25.RewriteOwn" = some 11 by kernel_rfl).symm.trans hf) |>.symm
  obtain rfl : fn = Tryd.f11 := (Option.some.inj (Tryd.func11.symm.trans hfn)).symm
  refine ⟨by kernel_rfl, fun j t ht => ?_⟩
  rw [Tryd.params11] at ht
  have ht' := Array.mem_of_getElem? ht
  simp only [List.mem_toArray, List.mem_cons, List.not_mem_nil, or_false] at ht'
  rcases ht' with rfl | rfl
  · exact (show Tryd.prog.wantsStandIn 74 = false by kernel_rfl)
  · exact (show Tryd.prog.wantsStandIn 74 = false by kernel_rfl)

/-- the card -/
theorem proved : Rows.RewriteOwnUptoCardSaid :=
  Claim7.holds_tied_plain_at .later [] _ _ _ _ said (fun _ h => by cases h) (by kernel_rfl) (fun _ h => by cases h) rewriteOwnUpto_row_tie rfl ⟨rfl, rfl⟩ (by kernel_rfl) rfl plain (by kernel_rfl)
end Go.Proofs.YtabecgdaiakgiaaDoor.rewriteOwn
