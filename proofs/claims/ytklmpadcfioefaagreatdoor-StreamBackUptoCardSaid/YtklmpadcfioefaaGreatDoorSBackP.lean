/- Plain law: requests that are written one behind the other are read as themselves. No program in sight. No condition. -/
import Derived.Test.YtklmpadcfioefaaGreatDoorMX0
import Derived.Test.YtklmpadcfioefaaGreatDoorSPcsS
namespace Go.Proofs.YtklmpadcfioefaaGreatDoor
namespace Strm
/-- between two requests -/
structure Rdy (s : S) (T : Nat) : Prop where
  inv : Inv s T
  rq : s.rq = true
  ph : s.ph = 0
  blk : s.blk = []
  win : s.win = false
  due : s.due = false
  dead : s.dead = 0
theorem Rdy.init : Rdy { rq := true } 0 := ⟨Inv.init true, rfl, rfl, rfl, rfl, rfl, rfl⟩
/-- a head of a request, whole at the front -/
theorem head_call {s : S} {Tt : Nat} (h : Rdy s Tt) {T : Bs} {g : Hd} (hp : parseP T true = (g, 0)) (he : headEnd T = some T.length) (hl : T.length ≤ 16384) (hrq : g.rq = true) {fr ln : Nat} (hfr : framingP true false g.st g.mn (flB g.fs) = (fr, ln, 0)) (X : Bs) :
    callS s (T ++ X) = ([.head g fr ln], T.length, { s with win := true, ph := fr + 1, blk := [], left := ln, body := {}, fr := fr, due := decide (fr = 0 ∨ fr = 1 ∧ ln = 0) }, 0) := by
  have htk : (T ++ X).take 16384 = T ++ X.take (16384 - T.length) := by rw [List.take_append, List.take_of_length_le hl]
  obtain ⟨rq, ms, ph, blk, left, body, fr0, win, due, dead⟩ := s
  obtain ⟨_, e1, e2, e3, e4, e5, e6⟩ := h
  dsimp only at e1 e2 e3 e4 e5 e6
  subst e1 e2 e3 e4 e5 e6
  have hb : headEnd ([] ++ (T ++ X).take (16384 - ([] : Bs).length)) = some T.length := by
    show headEnd ((T ++ X).take 16384) = _
    rw [htk]
    exact (headEnd_app he _).1
  have htt : ([] ++ (T ++ X).take (16384 - ([] : Bs).length)).take T.length = T := by
    show ((T ++ X).take 16384).take T.length = T
    rw [htk]
    exact List.take_left' rfl
  unfold callS
  rw [if_pos rfl]
  dsimp only
  rw [hb]
  dsimp only
  rw [htt]
  have htk2 : takes ({ rq := true, ms := ms, ph := 0, blk := [] ++ (T ++ X).take (16384 - ([] : Bs).length), left := left, body := body, fr := fr0, win := true, due := false, dead := 0 } : S) g = false := rfl
  have hf : headFr ({ rq := true, ms := ms, ph := 0, blk := [] ++ (T ++ X).take (16384 - ([] : Bs).length), left := left, body := body, fr := fr0, win := true, due := false, dead := 0 } : S) g = (fr, ln, 0) := by
    unfold headFr method
    rw [htk2, hrq]
    exact hfr
  unfold headS
  dsimp only
  rw [hp]
  simp only [htk2, hf]
  simp
def evs (g : Hd) (fr ln : Nat) (b : Bs) : List E1 := .head g fr ln :: (data b ++ [.fin])
theorem end_call (s : S) (hp : s.ph = 1) (X : Bs) : callS s X = ([.fin], 0, { s with win := false, due := false, ph := 0 }, 0) := by
  unfold callS
  rw [if_neg (by omega), if_pos hp]
/-- behind the body -/
theorem end_feeds {s : S} (hp : s.ph = 1) (hd : s.due = true) : Feeds s [] { s with win := false, due := false, ph := 0 } [.fin] 0 := by
  have hc := end_call s hp []
  have k := Feeds.go s [] { s with win := false, due := false, ph := 0 } [] 0 (fun h => by rw [hd] at h; cases h.2) (by rw [hc]) (by rw [hc]; exact Feeds.stop _ rfl)
  rw [hc] at k
  exact k
theorem rdy_after {s u : S} {Tt : Nat} {X : Bs} {es : List E1} (h : Rdy s Tt) (k : Feeds s X u es 0) (e1 : u.rq = true) (e2 : u.ph = 0) (e3 : u.blk = []) (e4 : u.win = false) (e6 : u.dead = 0) : Rdy u (Tt + X.length) :=
  ⟨feeds_inv k h.inv rfl, e1, e2, e3, e4, k.due rfl, e6⟩
theorem ne_of_end {T : Bs} (he : headEnd T = some T.length) : T ≠ [] := by
  intro e
  rw [e] at he
  have := headEnd_nil.1
  rw [this] at he
  cases he
/-- a request without a body -/
theorem msg_none {s : S} {Tt : Nat} (h : Rdy s Tt) {T : Bs} {g : Hd} (hp : parseP T true = (g, 0)) (he : headEnd T = some T.length) (hl : T.length ≤ 16384) (hrq : g.rq = true) {fr ln : Nat} (hfr : framingP true false g.st g.mn (flB g.fs) = (fr, ln, 0)) (h0 : fr = 0 ∨ fr = 1 ∧ ln = 0) :
    ∃ u, Feeds s T u (evs g fr ln []) 0 ∧ Rdy u (Tt + T.length) := by
  have hc := head_call h hp he hl hrq hfr []
  rw [List.append_nil] at hc
  rw [show decide (fr = 0 ∨ fr = 1 ∧ ln = 0) = true from decide_eq_true h0] at hc
  have hph : fr + 1 = 1 ∨ fr + 1 = 2 ∧ ln = 0 := by omega
  have k2 : ∃ u, Feeds { s with win := true, ph := fr + 1, blk := [], left := ln, body := {}, fr := fr, due := true } [] u [.fin] 0 ∧ u.rq = true ∧ u.ph = 0 ∧ u.blk = [] ∧ u.win = false ∧ u.dead = 0 := by
    rcases hph with e | ⟨e, e0⟩
    · exact ⟨_, end_feeds e rfl, h.rq, rfl, rfl, rfl, h.dead⟩
    · subst e0
      have hc2 : callS { s with win := true, ph := fr + 1, blk := [], left := 0, body := {}, fr := fr, due := true } [] = ([], 0, { s with win := true, ph := 1, blk := [], left := 0, body := {}, fr := fr, due := true }, 0) := by
        unfold callS
        rw [if_neg (by show ¬ fr + 1 = 0; omega), if_neg (by show ¬ fr + 1 = 1; omega), if_pos e]
        rfl
      have k := Feeds.go { s with win := true, ph := fr + 1, blk := [], left := 0, body := {}, fr := fr, due := true } [] _ _ 0 (fun h => by cases h.2) (by rw [hc2]) (by rw [hc2]; exact end_feeds (s := { s with win := true, ph := 1, blk := [], left := 0, body := {}, fr := fr, due := true }) rfl rfl)
      rw [hc2] at k
      exact ⟨_, k, h.rq, rfl, rfl, rfl, h.dead⟩
  obtain ⟨u, k2, e1, e2, e3, e4, e5⟩ := k2
  have k1 := Feeds.go s T u [.fin] 0 (fun x => ne_of_end he x.1) (by rw [hc]) (by rw [hc]; show Feeds _ (T.drop T.length) _ _ 0; rw [List.drop_length]; exact k2)
  rw [hc] at k1
  have k3 : Feeds s T u (evs g fr ln []) 0 := k1
  exact ⟨u, k3, rdy_after h k3 e1 e2 e3 e4 e5⟩
/-- a request with a body of a length -/
theorem msg_length {s : S} {Tt : Nat} (h : Rdy s Tt) {T : Bs} {g : Hd} (hp : parseP T true = (g, 0)) (he : headEnd T = some T.length) (hl : T.length ≤ 16384) (hrq : g.rq = true) {b : Bs} (hfr : framingP true false g.st g.mn (flB g.fs) = (1, b.length, 0)) (hb : b ≠ []) :
    ∃ u, Feeds s (T ++ b) u (evs g 1 b.length b) 0 ∧ Rdy u (Tt + (T ++ b).length) := by
  have hbl : 0 < b.length := List.length_pos_iff.2 hb
  have hc := head_call h hp he hl hrq hfr b
  rw [show decide ((1 : Nat) = 0 ∨ (1 : Nat) = 1 ∧ b.length = 0) = false from decide_eq_false (by omega)] at hc
  have hc2 : callS { s with win := true, ph := 2, blk := [], left := b.length, body := {}, fr := 1, due := false } b = ([.body b], b.length, { s with win := true, ph := 1, blk := [], left := 0, body := {}, fr := 1, due := true }, 0) := by
    unfold callS data
    simp [hb]
  have k2 := Feeds.go { s with win := true, ph := 2, blk := [], left := b.length, body := {}, fr := 1, due := false } b _ _ 0 (fun x => hb x.1) (by rw [hc2]) (by rw [hc2]; show Feeds _ (b.drop b.length) _ _ 0; rw [List.drop_length]; exact end_feeds (s := { s with win := true, ph := 1, blk := [], left := 0, body := {}, fr := 1, due := true }) rfl rfl)
  rw [hc2] at k2
  have k1 := Feeds.go s (T ++ b) _ _ 0 (fun x => ne_of_end he (List.append_eq_nil_iff.1 x.1).1) (by rw [hc]) (by rw [hc]; show Feeds _ ((T ++ b).drop T.length) _ _ 0; rw [List.drop_left]; exact k2)
  rw [hc] at k1
  have e : evs g 1 b.length b = [.head g 1 b.length] ++ ([.body b] ++ [.fin]) := by unfold evs data; rw [if_neg hb]; rfl
  rw [e]
  exact ⟨_, k1, rdy_after h k1 h.rq rfl rfl rfl h.dead⟩
/-- a request whose body comes in chunks -/
theorem msg_chunks {s : S} {Tt : Nat} (h : Rdy s Tt) {T : Bs} {g : Hd} (hp : parseP T true = (g, 0)) (he : headEnd T = some T.length) (hl : T.length ≤ 16384) (hrq : g.rq = true) {ln : Nat} (hfr : framingP true false g.st g.mn (flB g.fs) = (2, ln, 0)) (ps : List Bs) (hm : ∀ p ∈ ps, p.length ≤ Chunk.most) :
    ∃ u, Feeds s (T ++ (Chunk.chunks ps ++ Chunk.lastB [])) u (evs g 2 ln ps.flatten) 0 ∧ Rdy u (Tt + (T ++ (Chunk.chunks ps ++ Chunk.lastB [])).length) := by
  have hw := Chunk.readOf_written ps [] [] hm rfl
  rw [List.append_nil, Chunk.readOf_feed] at hw
  generalize hX : Chunk.chunks ps ++ Chunk.lastB [] = X at *
  have hXn : X ≠ [] := by rw [← hX]; simp [Chunk.lastB]
  have hc := head_call h hp he hl hrq hfr X
  rw [show decide ((2 : Nat) = 0 ∨ (2 : Nat) = 1 ∧ ln = 0) = false from decide_eq_false (by omega)] at hc
  have hfa : Chunk.feedA {} X = Chunk.feed {} X 0 [] := feedA_feed (by decide) Chunk.Ok.init X
  injection hw with w1 w2 w3 _ _
  have w3' : (Chunk.feed {} X 0 []).2.2.2 = 1 := of_decide_eq_true w3
  have hc2 : callS { s with win := true, ph := 3, blk := [], left := ln, body := {}, fr := 2, due := false } X = (data ps.flatten, X.length, { s with win := true, ph := 1, blk := [], left := ln, body := (Chunk.feed {} X 0 []).1, fr := 2, due := true }, 0) := by
    unfold callS
    rw [if_neg (by show ¬ (3 : Nat) = 0; omega), if_neg (by show ¬ (3 : Nat) = 1; omega), if_neg (by show ¬ (3 : Nat) = 2; omega), if_pos rfl]
    dsimp only
    rw [hfa, w3', if_pos rfl, w1, w2]
  have k2 := Feeds.go { s with win := true, ph := 3, blk := [], left := ln, body := {}, fr := 2, due := false } X _ _ 0 (fun x => hXn x.1) (by rw [hc2]) (by rw [hc2]; show Feeds _ (X.drop X.length) _ _ 0; rw [List.drop_length]; exact end_feeds (s := { s with win := true, ph := 1, blk := [], left := ln, body := (Chunk.feed {} X 0 []).1, fr := 2, due := true }) rfl rfl)
  rw [hc2] at k2
  have k1 := Feeds.go s (T ++ X) _ _ 0 (fun x => ne_of_end he (List.append_eq_nil_iff.1 x.1).1) (by rw [hc]) (by rw [hc]; show Feeds _ ((T ++ X).drop T.length) _ _ 0; rw [List.drop_left]; exact k2)
  rw [hc] at k1
  exact ⟨_, k1, rdy_after h k1 h.rq rfl rfl rfl h.dead⟩
/-- one request's events are put behind the others' as they are -/
theorem put_evs (g : Hd) (fr ln : Nat) (b : Bs) (acc : List E1) : (evs g fr ln b).foldl put acc = acc ++ evs g fr ln b := by
  have e1 : put acc (.head g fr ln) = acc ++ [.head g fr ln] := by
    unfold put
    split
    · rename_i h; cases h
    · rfl
  unfold evs data
  rw [List.foldl_cons, e1]
  split
  · unfold put; simp
  · unfold put; simp
end Strm
end Go.Proofs.YtklmpadcfioefaaGreatDoor
