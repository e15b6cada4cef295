/- What is rewritten twice is rewritten once. No program in sight. No condition. -/
import Derived.Test.YtabecgdaiakgiaaDoorRBackH
import Derived.Test.YtabecgdaiakgiaaDoorMB
namespace Go.Proofs.YtabecgdaiakgiaaDoor

theorem vals_nil {fs : List Fl} {name : ByteArray} (h : ∀ f ∈ fs, fold f.1.data.toList ≠ fold name.data.toList) : vals fs name = [] := by
  unfold vals
  rw [List.map_eq_nil_iff, List.filter_eq_nil_iff]
  intro f hf
  simpa using h f hf
theorem vals_app (a b : List Fl) (name : ByteArray) : vals (a ++ b) name = vals a name ++ vals b name := by
  unfold vals; rw [List.filter_append, List.map_append]
theorem others_out {rq : Bool} {fs : List Fl} {f : Fl} (h : f ∈ othersP rq fs) : always.contains (fd f.1) = false ∧ (rq = true → fd f.1 ≠ bHost) := by
  have := (List.mem_filter.1 h).2
  unfold mineK ownK at this
  simp only [Bool.not_eq_true', Bool.or_eq_false_iff] at this
  refine ⟨this.1.1, fun e => ?_⟩
  have h2 := this.2
  rw [e] at h2
  simpa using h2
theorem conn_always : always.contains (fold sConn.data.toList) = true := by decide +kernel
theorem others_vals (rq : Bool) (fs : List Fl) : vals (othersP rq fs) sConn = [] := vals_nil fun f hf e => by
  have := (others_out hf).1
  unfold fd at this
  rw [e, conn_always] at this
  cases this
theorem frame_vals (fr ln : Int) : vals (frameP fr ln) sConn = [] := vals_nil fun f hf e => by
  unfold frameP at hf
  split at hf
  · simp only [List.mem_singleton] at hf; subst hf; exact absurd e (show fold sLen.data.toList ≠ fold sConn.data.toList by decide +kernel)
  · split at hf
    · simp only [List.mem_singleton] at hf; subst hf; exact absurd e (show fold sCod.data.toList ≠ fold sConn.data.toList by decide +kernel)
    · cases hf
theorem frame_out {fr ln : Int} {f : Fl} (hf : f ∈ frameP fr ln) : always.contains (fd f.1) = true := by
  unfold frameP at hf
  split at hf
  · simp only [List.mem_singleton] at hf; subst hf; show always.contains (fd sLen) = true; decide +kernel
  · split at hf
    · simp only [List.mem_singleton] at hf; subst hf; show always.contains (fd sCod) = true; decide +kernel
    · cases hf
theorem filter_none {α : Type} {p : α → Bool} {l : List α} (h : ∀ x ∈ l, p x = false) : l.filter p = [] := by
  rw [List.filter_eq_nil_iff]; intro x hx; rw [h x hx]; exact Bool.false_ne_true
theorem filter_all {α : Type} {p : α → Bool} {l : List α} (h : ∀ x ∈ l, p x = true) : l.filter p = l := List.filter_eq_self.2 h
/-- a request's fields, rewritten again -/
theorem others_again (fs : List Fl) (host : ByteArray) (fr ln : Int) : othersP true ((sHost, host) :: othersP true fs ++ frameP fr ln) = othersP true fs := by
  have hv : vals ((sHost, host) :: othersP true fs ++ frameP fr ln) sConn = [] := by
    rw [List.cons_append, show ((sHost, host) :: (othersP true fs ++ frameP fr ln)) = [(sHost, host)] ++ (othersP true fs ++ frameP fr ln) from rfl, vals_app, vals_app, others_vals, frame_vals, vals_nil (fs := [(sHost, host)]) (by intro f hf; simp only [List.mem_singleton] at hf; subst hf; show fold sHost.data.toList ≠ fold sConn.data.toList; decide +kernel)]
    rfl
  have ho : ∀ k, mineK true ((sHost, host) :: othersP true fs ++ frameP fr ln) k = (always.contains k || k == bHost) := fun k => by
    unfold mineK ownK connP
    rw [hv]
    simp [inP, listed]
  rw [othersP]
  simp only [ho]
  rw [List.filter_append, List.filter_cons, if_neg (by rw [show (fd sHost == bHost) = true by decide +kernel]; simp), filter_all (l := othersP true fs), filter_none (l := frameP fr ln), List.append_nil]
  · intro f hf; rw [frame_out hf]; rfl
  · intro f hf
    obtain ⟨h1, h2⟩ := others_out hf
    rw [h1, show (fd f.1 == bHost) = false from beq_eq_false_iff_ne.2 (h2 rfl)]
    rfl
theorem conn_out (fr : Int) (cl : Bool) (mi : Int) {f : Fl} (hf : f ∈ connF fr cl mi) : always.contains (fd f.1) = true := by
  unfold connF at hf
  split at hf
  · simp only [List.mem_singleton] at hf; subst hf; show always.contains (fd sConnC) = true; decide +kernel
  · split at hf
    · simp only [List.mem_singleton] at hf; subst hf; show always.contains (fd sConnC) = true; decide +kernel
    · cases hf
/-- a reply's fields, rewritten again -/
theorem others_again2 (fs F : List Fl) (fr ln : Int) (cl : Bool) (mi : Int) (hF : F = [] ∨ F = frameP fr ln) : othersP false (othersP false fs ++ F ++ connF fr cl mi) = othersP false fs := by
  have hFv : vals F sConn = [] := by
    rcases hF with rfl | rfl
    · rfl
    · exact frame_vals fr ln
  have hFo : ∀ f ∈ F, always.contains (fd f.1) = true := by
    rcases hF with rfl | rfl
    · intro f hf; cases hf
    · exact fun f hf => frame_out hf
  have ho : ∀ k, mineK false (othersP false fs ++ F ++ connF fr cl mi) k = always.contains k := fun k => by
    unfold mineK ownK connP
    rw [vals_app, vals_app, others_vals, hFv]
    unfold connF
    split
    · rw [show listed ([] ++ [] ++ vals [(sConnC, sClose)] sConn) = [sClose] by kernel_rfl]
      by_cases h : k = bClose
      · subst h; rfl
      · rw [show inP [sClose] k = false from by unfold inP; simp only [List.any_cons, List.any_nil, Bool.or_false]; exact beq_eq_false_iff_ne.2 (fun e => h (e.symm.trans (by decide +kernel)))]; simp
    · split
      · rw [show listed ([] ++ [] ++ vals [(sConnC, sKeep)] sConn) = [sKeep] by kernel_rfl]
        by_cases h : k = bKeep
        · subst h; rfl
        · rw [show inP [sKeep] k = false from by unfold inP; simp only [List.any_cons, List.any_nil, Bool.or_false]; exact beq_eq_false_iff_ne.2 (fun e => h (e.symm.trans (by decide +kernel)))]; simp
      · simp [vals, inP, listed]
  rw [othersP]
  simp only [ho]
  rw [List.filter_append, List.filter_append, filter_all (l := othersP false fs), filter_none (l := F), filter_none (l := connF fr cl mi), List.append_nil, List.append_nil]
  · intro f hf; rw [conn_out fr cl mi hf]; rfl
  · intro f hf; rw [hFo f hf]; rfl
  · intro f hf; rw [(others_out hf).1]; rfl
theorem cutP_head : ∀ l : Bs, (cutP l).head? = some 47
  | [] => rfl
  | c :: r => by
    rw [cutP]
    split
    · rename_i h; rw [h]; rfl
    · split
      · rfl
      · exact cutP_head r
theorem path_again {t p : Bs} (h : pathP t = some p) : pathP p = some p := by
  unfold pathP at h
  split at h
  · rename_i c; cases h; unfold pathP; rw [if_pos c]
  · split at h
    · cases h
    · cases h; unfold pathP; rw [if_pos (.inr (cutP_head _))]
/-- a request rewritten again is the same -/
theorem reqP_again {h R : HB} {fr ln : Int} {host : ByteArray} (e : reqP h fr ln host = (R, 0)) : reqP R fr ln host = (R, 0) := by
  unfold reqP at e
  split at e
  · cases e
  · rename_i p hp
    split at e
    · rename_i hg
      obtain ⟨rfl, k⟩ := okH_ok e
      unfold reqG at hg
      simp only [Bool.and_eq_true] at hg
      obtain ⟨⟨g1, g2⟩, g3⟩ := hg
      have hR : reqH (reqH h fr ln host p) fr ln host p = reqH h fr ln host p := by
        unfold reqH
        rw [g1]
        rw [others_again]
      unfold reqP
      rw [show pathP (reqH h fr ln host p).t.data.toList = some p from path_again hp]
      simp only
      rw [if_pos (by unfold reqG; rw [g2, g3]; rfl), hR, okH, if_pos k]
    · cases e
/-- a reply rewritten again is the same -/
theorem rspP_again {h R : HB} {fr ln : Int} {cl x : Bool} {mi : Int} (e : rspP h fr ln cl mi = ((R, 0), x)) : rspP R fr ln cl mi = ((R, 0), x) := by
  unfold rspP at e
  split at e
  · rename_i hg
    injection e with e1 e2
    obtain ⟨rfl, k⟩ := okH_ok e1
    have hR : rspH (rspH h fr ln cl mi) fr ln cl mi = rspH h fr ln cl mi := by
      have := others_again2 h.fs (if fr = 2 ∧ mi = 0 then [] else frameP fr ln) fr ln cl mi (by split; exact .inl rfl; exact .inr rfl)
      have h2 : othersP false (rspH h fr ln cl mi).fs = othersP false h.fs := this
      rw [rspH, h2]
      rfl
    unfold rspP
    rw [if_pos (by unfold rspG at hg ⊢; simp only [Bool.and_eq_true] at hg; rw [hg.2]; rfl), hR, e1, ← e2, e1]
  · cases e
theorem back_sizes {l : Bs} {g : Hd} (hw : writeP g.up = (some l, 0)) (hl : l.length ≤ 16384) : flSize (flB g.fs) ≤ 16384 ∧ (∀ f ∈ flB g.fs, f.1.size ≤ 16777216) ∧ total (vals (flB g.fs) sConn) ≤ 16384 := by
  have e := (write_back hw).1
  have h1 : flSize (flB g.fs) ≤ l.length := by
    rw [e, ← hiOf_up, ← flT_len]
    unfold textP flT
    simp only [List.length_append, List.length_cons]
    show _ ≤ _ + (_ + 1 + 1)
    have : (fieldsT ((flB g.fs).map fun f => (f.1.data.toList, f.2.data.toList))).length = (fieldsT (hiOf g.rq ⟨g.m.toArray⟩ ⟨g.t.toArray⟩ (g.st : Int) ⟨g.rs.toArray⟩ (g.mn : Int) (flB g.fs)).fs).length := rfl
    omega
  refine ⟨by omega, fun f hf => ?_, ?_⟩
  · have : ∀ (L : List Fl), f ∈ L → f.1.size ≤ flSize L := by
      intro L
      induction L with
      | nil => intro h; cases h
      | cons x L ih =>
        intro h
        have e2 : flSize (x :: L) = (x.1.size + x.2.size + 4) + flSize L := rfl
        rcases List.mem_cons.1 h with rfl | h
        · omega
        · have := ih h; omega
    have := this _ hf
    omega
  · have := vals_total (flB g.fs) sConn
    omega
end Go.Proofs.YtabecgdaiakgiaaDoor
