/- Plain law: of a head just the connection's own fields are dropped. No program in sight. No condition. -/
import Derived.Test.YtabecgdaiakgiaaDoorROnceL
namespace Go.Proofs.YtabecgdaiakgiaaDoor

/-- fields but those that a head calls its own, and Host, if it is a request -/
def restP (rq : Bool) (fs l : List Fl) : List Fl := l.filter fun f => !(mineK rq fs (fd f.1))
theorem rest_self (rq : Bool) (fs : List Fl) : restP rq fs fs = othersP rq fs := rfl
theorem rest_others (rq : Bool) (fs : List Fl) : restP rq fs (othersP rq fs) = othersP rq fs := filter_all fun f hf => by
  have := (List.mem_filter.1 hf).2
  exact this
theorem rest_always (rq : Bool) (fs l : List Fl) (h : ∀ f ∈ l, always.contains (fd f.1) = true) : restP rq fs l = [] := filter_none fun f hf => by
  unfold mineK ownK
  rw [h f hf]; rfl
theorem rest_app (rq : Bool) (fs a b : List Fl) : restP rq fs (a ++ b) = restP rq fs a ++ restP rq fs b := List.filter_append ..
theorem rest_host (fs : List Fl) (host : ByteArray) : restP true fs [(sHost, host)] = [] := filter_none fun f hf => by
  simp only [List.mem_singleton] at hf
  subst hf
  unfold mineK
  rw [show (fd sHost == bHost) = true by decide +kernel]; simp
theorem rest_req (fs : List Fl) (host : ByteArray) (fr ln : Int) : restP true fs ((sHost, host) :: othersP true fs ++ frameP fr ln) = othersP true fs := by
  rw [show ((sHost, host) :: othersP true fs ++ frameP fr ln) = [(sHost, host)] ++ (othersP true fs ++ frameP fr ln) from rfl, rest_app, rest_app, rest_host, rest_others, rest_always _ _ _ (fun f hf => frame_out hf)]
  simp
theorem rest_rsp (fs F : List Fl) (fr ln : Int) (cl : Bool) (mi : Int) (hF : F = [] ∨ F = frameP fr ln) : restP false fs (othersP false fs ++ F ++ connF fr cl mi) = othersP false fs := by
  have hFo : ∀ f ∈ F, always.contains (fd f.1) = true := by
    rcases hF with rfl | rfl
    · intro f hf; cases hf
    · exact fun f hf => frame_out hf
  rw [rest_app, rest_app, rest_others, rest_always _ _ F hFo, rest_always _ _ _ (fun f hf => conn_out fr cl mi hf)]
  simp
theorem vals_yes {n v name : ByteArray} (h : fold n.data.toList = fold name.data.toList) : vals [(n, v)] name = [v] := by
  unfold vals
  rw [List.filter_cons, if_pos (by simpa using h)]; rfl
theorem vals_no {n v name : ByteArray} (h : fold n.data.toList ≠ fold name.data.toList) : vals [(n, v)] name = [] := vals_nil fun f hf => by
  simp only [List.mem_singleton] at hf
  subst hf; exact h
theorem others_none (rq : Bool) (fs : List Fl) {name : ByteArray} (h : always.contains (fold name.data.toList) = true) : vals (othersP rq fs) name = [] := vals_nil fun f hf e => by
  have := (others_out hf).1
  unfold fd at this
  rw [e, h] at this
  cases this
theorem others_host (fs : List Fl) : vals (othersP true fs) sHost = [] := vals_nil fun f hf e => by
  have := (others_out hf).2 rfl
  apply this
  unfold fd
  rw [e]; decide +kernel
theorem frame_host (fr ln : Int) : vals (frameP fr ln) sHost = [] := by
  unfold frameP
  split
  · exact vals_no (by decide +kernel)
  · split
    · exact vals_no (by decide +kernel)
    · rfl
theorem frame_conn (fr ln : Int) : vals (frameP fr ln) sConnC = [] := by
  unfold frameP
  split
  · exact vals_no (by decide +kernel)
  · split
    · exact vals_no (by decide +kernel)
    · rfl
theorem frame_len (fr ln : Int) : (vals (frameP fr ln) sLen).length = if fr = 1 then 1 else 0 := by
  unfold frameP
  split
  · rw [vals_yes rfl]; rfl
  · split
    · rw [vals_no (by decide +kernel)]; rfl
    · rfl
theorem frame_cod (fr ln : Int) : (vals (frameP fr ln) sCod).length = if fr = 2 then 1 else 0 := by
  unfold frameP
  split
  · rename_i h; rw [vals_no (by decide +kernel), if_neg (by omega)]; rfl
  · split
    · rw [vals_yes rfl]; rfl
    · rfl
theorem req_counts (fs : List Fl) (host : ByteArray) (fr ln : Int) :
    vals ((sHost, host) :: othersP true fs ++ frameP fr ln) sHost = [host] ∧ vals ((sHost, host) :: othersP true fs ++ frameP fr ln) sConnC = [] ∧
    (vals ((sHost, host) :: othersP true fs ++ frameP fr ln) sLen).length = (if fr = 1 then 1 else 0) ∧ (vals ((sHost, host) :: othersP true fs ++ frameP fr ln) sCod).length = (if fr = 2 then 1 else 0) := by
  rw [show ((sHost, host) :: othersP true fs ++ frameP fr ln) = [(sHost, host)] ++ (othersP true fs ++ frameP fr ln) from rfl]
  refine ⟨?_, ?_, ?_, ?_⟩
  · rw [vals_app, vals_app, vals_yes rfl, others_host, frame_host]; rfl
  · rw [vals_app, vals_app, vals_no (by decide +kernel), others_none _ _ (by decide +kernel), frame_conn]; rfl
  · rw [vals_app, vals_app, vals_no (by decide +kernel), others_none _ _ (by decide +kernel), List.nil_append, List.nil_append, frame_len]
  · rw [vals_app, vals_app, vals_no (by decide +kernel), others_none _ _ (by decide +kernel), List.nil_append, List.nil_append, frame_cod]
theorem conn_none (fr : Int) (cl : Bool) (mi : Int) {name : ByteArray} (h : fold sConnC.data.toList ≠ fold name.data.toList) : vals (connF fr cl mi) name = [] := by
  unfold connF
  split
  · exact vals_no h
  · split
    · exact vals_no h
    · rfl
theorem conn_conn (fr : Int) (cl : Bool) (mi : Int) : vals (connF fr cl mi) sConnC = if shuts fr cl mi = true then [sClose] else if mi = 0 then [sKeep] else [] := by
  unfold connF
  split
  · exact vals_yes rfl
  · split
    · exact vals_yes rfl
    · rfl
/-- the framing that a reply has in the end -/
def endFr (fr mi : Int) : Int := if fr = 2 ∧ mi = 0 then 3 else fr
theorem rsp_counts (fs : List Fl) (fr ln : Int) (cl : Bool) (mi : Int) :
    vals (othersP false fs ++ (if fr = 2 ∧ mi = 0 then [] else frameP fr ln) ++ connF fr cl mi) sConnC = (if shuts fr cl mi = true then [sClose] else if mi = 0 then [sKeep] else []) ∧
    (vals (othersP false fs ++ (if fr = 2 ∧ mi = 0 then [] else frameP fr ln) ++ connF fr cl mi) sLen).length = (if endFr fr mi = 1 then 1 else 0) ∧
    (vals (othersP false fs ++ (if fr = 2 ∧ mi = 0 then [] else frameP fr ln) ++ connF fr cl mi) sCod).length = (if endFr fr mi = 2 then 1 else 0) := by
  refine ⟨?_, ?_, ?_⟩
  · rw [vals_app, vals_app, others_none _ _ (by decide +kernel), conn_conn]
    split
    · rfl
    · rw [frame_conn]; rfl
  · rw [vals_app, vals_app, others_none _ _ (by decide +kernel), conn_none _ _ _ (by decide +kernel), List.nil_append, List.append_nil]
    unfold endFr
    split
    · rfl
    · rw [frame_len]
  · rw [vals_app, vals_app, others_none _ _ (by decide +kernel), conn_none _ _ _ (by decide +kernel), List.nil_append, List.append_nil]
    unfold endFr
    split
    · rfl
    · rw [frame_cod]
theorem req_keeps (fs : List Fl) (host : ByteArray) (fr ln : Int) : keepsP 1 ((sHost, host) :: othersP true fs ++ frameP fr ln) = true := by
  unfold keepsP connP
  rw [← vals_conn, (req_counts fs host fr ln).2.1]
  rfl
theorem rsp_keeps (fs : List Fl) (fr ln : Int) (cl : Bool) (mi : Int) : keepsP 1 (othersP false fs ++ (if fr = 2 ∧ mi = 0 then [] else frameP fr ln) ++ connF fr cl mi) = !(shuts fr cl mi) := by
  unfold keepsP connP
  rw [← vals_conn, (rsp_counts fs fr ln cl mi).1]
  cases h : shuts fr cl mi
  · rw [if_neg (by simp)]
    split
    · decide +kernel
    · rfl
  · rw [if_pos rfl]
    decide +kernel
end Go.Proofs.YtabecgdaiakgiaaDoor
