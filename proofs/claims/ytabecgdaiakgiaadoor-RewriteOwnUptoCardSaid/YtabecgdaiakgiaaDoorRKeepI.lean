/- What a rewritten head that can be written is. No program in sight. No condition. -/
import Derived.Test.YtabecgdaiakgiaaDoorRKeepL
import Derived.Test.YtabecgdaiakgiaaDoorROnceA
namespace Go.Proofs.YtabecgdaiakgiaaDoor

theorem reqP_inv {h R : HB} {fr ln : Int} {host : ByteArray} (e : reqP h fr ln host = (R, 0)) : h.rq = true ∧ R.rq = true ∧ R.m = h.m ∧ R.mn = 1 ∧ R.fs = (sHost, host) :: othersP true h.fs ++ frameP fr ln := by
  unfold reqP at e
  split at e
  · cases e
  · rename_i p hp
    split at e
    · rename_i hg
      obtain ⟨rfl, _⟩ := okH_ok e
      unfold reqG at hg
      simp only [Bool.and_eq_true] at hg
      have g1 := hg.1.1
      refine ⟨g1, rfl, rfl, rfl, ?_⟩
      unfold reqH
      rw [g1]
    · cases e
theorem rspP_inv {h R : HB} {fr ln : Int} {cl x : Bool} {mi : Int} (e : rspP h fr ln cl mi = ((R, 0), x)) :
    h.rq = false ∧ x = shuts fr cl mi ∧ R.rq = false ∧ R.st = h.st ∧ R.rs = h.rs ∧ R.mn = 1 ∧ R.fs = othersP false h.fs ++ (if fr = 2 ∧ mi = 0 then [] else frameP fr ln) ++ connF fr cl mi ∧ (0 ≤ fr ∧ fr ≤ 3) ∧ (mi = 0 ∨ mi = 1) := by
  unfold rspP at e
  split at e
  · rename_i hg
    injection e with e1 e2
    obtain ⟨rfl, _⟩ := okH_ok e1
    unfold rspG at hg
    simp only [Bool.and_eq_true, Bool.not_eq_true', decide_eq_true_eq] at hg
    rw [e1] at e2
    refine ⟨hg.1, ?_, rfl, rfl, rfl, rfl, rfl, ⟨hg.2.1, hg.2.2.1⟩, hg.2.2.2.2⟩
    rw [← e2]; simp
  · cases e
theorem ok_sizes {R : HB} (h : (writeP R.hi).2 = 0) : R.fs.length ≤ 64 ∧ (∀ f ∈ R.fs, f.1.size ≤ 16777216) ∧ total (vals R.fs sConn) ≤ 16384 := by
  obtain ⟨g, l, hl, hp, hw, rfl⟩ := ok_hd h
  obtain ⟨s1, s2, s3⟩ := back_sizes hw hl
  refine ⟨?_, s2, s3⟩
  have := parse_few hp
  show (flB g.fs).length ≤ 64
  rw [flB_len]; exact this
theorem req_cells (fs : List Fl) (host : ByteArray) (fr ln : Int) : ∃ tl, fieldsV ((sHost, host) :: othersP true fs ++ frameP fr ln) = .string sHost :: .string host :: tl := ⟨_, rfl⟩
/-- how many lines Connection has -/
def linesP (fr : Int) (cl : Bool) (mi : Int) : Nat := if shuts fr cl mi = true then 1 else if mi = 0 then 1 else 0
theorem conn_lines (fr : Int) (cl : Bool) (mi : Int) : (if shuts fr cl mi = true then [sClose] else if mi = 0 then [sKeep] else []).length = linesP fr cl mi := by
  unfold linesP
  split
  · rfl
  · split <;> rfl
theorem shuts_end (fr : Int) (cl : Bool) (mi : Int) (_h : mi = 0 ∨ mi = 1) : shuts fr cl mi = (cl || decide (endFr fr mi = 3)) := by
  unfold shuts endFr
  cases cl
  · simp only [Bool.false_or]
    by_cases h1 : fr = 3
    · subst h1; simp
    · by_cases h2 : fr = 2 ∧ mi = 0
      · rw [if_pos h2, h2.1, h2.2]; decide
      · rw [if_neg h2]
        have : (decide (fr = 2) && decide (mi = 0)) = false := by
          rw [← Bool.decide_and]; exact decide_eq_false h2
        rw [this]; simp [h1]
  · simp
end Go.Proofs.YtabecgdaiakgiaaDoor
