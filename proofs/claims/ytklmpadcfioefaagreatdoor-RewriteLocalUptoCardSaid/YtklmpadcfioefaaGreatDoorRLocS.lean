/- Plain law: a sidecar's own reply is read by the reader of streams. No program in sight. No condition. -/
import Derived.Test.YtklmpadcfioefaaGreatDoorHdEnd
import Derived.Test.YtklmpadcfioefaaGreatDoorMX1
namespace Go.Proofs.YtklmpadcfioefaaGreatDoor
def framOk (r : Bs) (cl : Bool) : Bool :=
  decide (vals (localF (d2 (r.length + 5)) cl) sCod = []) && decide (vals (localF (d2 (r.length + 5)) cl) sLen = [⟨(d2 (r.length + 5)).toArray⟩]) && decide (lengthP (listed (vals (localF (d2 (r.length + 5)) cl) sLen)) = some (r.length + 5)) && (keepsP 1 (localF (d2 (r.length + 5)) cl) == !cl)
def framR (r : Bs) : Prop := (framOk r true && framOk r false && decide (5 ≤ r.length) && decide (r.length ≤ 40)) = true
theorem reason_fram (st : Int) : framR (reasonP st) := reasonOf_mem framR (by unfold framR; decide +kernel) reasonsL (by unfold framR; decide +kernel) st
theorem local_len (st : Int) (h1 : 100 ≤ st) (h2 : st ≤ 599) : (localBody st).length = (reasonP st).length + 5 ∧ Lib.itoa ((localBody st).length : Int) = d2 ((reasonP st).length + 5) ∧ 10 ≤ (localBody st).length ∧ (localBody st).length ≤ 45 := by
  obtain ⟨k, rfl⟩ : ∃ k : Nat, st = (k : Int) := ⟨st.toNat, by omega⟩
  obtain ⟨x, y, z, hd, _, _⟩ := digits3 k (by omega) (by omega)
  have hc := reason_fram (k : Int)
  unfold framR at hc
  simp only [Bool.and_eq_true, decide_eq_true_eq] at hc
  have hb : (localBody (k : Int)).length = (reasonP (k : Int)).length + 5 := by
    unfold localBody bodyOf
    rw [itoa_nat, hd]; simp
  refine ⟨hb, ?_, by omega, by omega⟩
  rw [hb, itoa_nat, Lib.decDigits_two (by omega) (by omega)]
  rfl
/-- what is right of the reply's fields -/
theorem local_fields (st : Int) (cl : Bool) (h1 : 100 ≤ st) (h2 : st ≤ 599) : vals (localF (Lib.itoa ((localBody st).length : Int)) cl) sCod = [] ∧ vals (localF (Lib.itoa ((localBody st).length : Int)) cl) sLen = [⟨(Lib.itoa ((localBody st).length : Int)).toArray⟩] ∧
    lengthP (listed (vals (localF (Lib.itoa ((localBody st).length : Int)) cl) sLen)) = some (localBody st).length ∧ keepsP 1 (localF (Lib.itoa ((localBody st).length : Int)) cl) = !cl := by
  obtain ⟨e1, e2, _, _⟩ := local_len st h1 h2
  have hc := reason_fram st
  unfold framR at hc
  simp only [Bool.and_eq_true, decide_eq_true_eq] at hc
  have hk : framOk (reasonP st) cl = true := by
    cases cl
    · exact hc.1.1.2
    · exact hc.1.1.1
  unfold framOk at hk
  simp only [Bool.and_eq_true, decide_eq_true_eq, beq_iff_eq] at hk
  rw [e2, e1]
  exact ⟨hk.1.1.1, hk.1.1.2, hk.1.2, hk.2⟩
theorem flB_back (L : List Fl) : flB (L.map fun f => (f.1.data.toList, f.2.data.toList)) = L := by
  unfold flB
  rw [List.map_map]
  conv => rhs; rw [← List.map_id L]
  exact List.map_congr_left fun f _ => rfl
/-- the reply's head -/
theorem local_head (st : Int) (cl : Bool) (h1 : 100 ≤ st) (h2 : st ≤ 599) : ∃ g : Hd, parseP (textP (localH st cl).hi) false = (g, 0) ∧ g.rq = false ∧ (g.st : Int) = st ∧ (g.mn : Int) = 1 ∧ flB g.fs = localF (Lib.itoa ((localBody st).length : Int)) cl ∧
    Strm.headEnd (textP (localH st cl).hi) = some (textP (localH st cl).hi).length ∧ (textP (localH st cl).hi).length ≤ 16384 := by
  obtain ⟨_, ⟨g, hp, hu⟩, _, hl⟩ := write_back (local_in st cl h1 h2)
  refine ⟨g, hp, congrArg HI.rq hu, congrArg HI.st hu, congrArg HI.mn hu, ?_, ?_, hl⟩
  · have e : g.fs = (localF (Lib.itoa ((localBody st).length : Int)) cl).map fun f => (f.1.data.toList, f.2.data.toList) := congrArg HI.fs hu
    rw [e, flB_back]
  · have hp2 := hp
    rw [← hu] at hp2 ⊢
    exact Strm.headEnd_back hp2
namespace Strm
def sGET : ByteArray := ⟨#[71, 69, 84]⟩
theorem local_feeds (T B : Bs) (g : Hd) (hp : parseP T false = (g, 0)) (he : headEnd T = some T.length) (hl : T.length ≤ 16384) (hB : B ≠ []) (hrq : g.rq = false) (hst : 200 ≤ g.st) (hfr : framingP false false g.st g.mn (flB g.fs) = (1, B.length, 0)) :
    ∃ u, Feeds { rq := false, ms := [sGET] } (T ++ B) u [.head g 1 B.length, .body B, .fin] 0 := by
  have hBl : 0 < B.length := List.length_pos_iff.2 hB
  have hT4 : T ≠ [] := by
    intro e
    rw [e] at he
    have := headEnd_nil.1
    rw [this] at he
    cases he
  have htk : (T ++ B).take 16384 = T ++ B.take (16384 - T.length) := by rw [List.take_append, List.take_of_length_le hl]
  have hb : headEnd ([] ++ (T ++ B).take (16384 - ([] : Bs).length)) = some T.length := by
    show headEnd ((T ++ B).take 16384) = _
    rw [htk]
    exact (headEnd_app he _).1
  have htt : ([] ++ (T ++ B).take (16384 - ([] : Bs).length)).take T.length = T := by
    show ((T ++ B).take 16384).take T.length = T
    rw [htk]
    exact List.take_left' rfl
  have hc : callS { rq := false, ms := [sGET] } (T ++ B) = ([.head g 1 B.length], T.length, { rq := false, ms := [], ph := 2, blk := [], left := B.length, body := {}, fr := 1, win := true, due := false, dead := 0 }, 0) := by
    unfold callS
    rw [if_pos rfl]
    dsimp only
    rw [hb]
    dsimp only
    rw [htt]
    have hpd : parseP T ({ rq := false, ms := [sGET], win := true, blk := [] ++ (T ++ B).take (16384 - ([] : Bs).length) } : S).rq = (g, 0) := hp
    have htk : takes { rq := false, ms := [sGET], win := true, blk := [] ++ (T ++ B).take (16384 - ([] : Bs).length) } g = true := by
      unfold takes
      simp [hst]
    unfold headS
    rw [hpd]
    simp only [htk, if_true]
    have hm : method { rq := false, ms := [sGET], win := true, blk := [] ++ (T ++ B).take (16384 - ([] : Bs).length) } g = sGET := by
      unfold method
      rw [htk]
      rfl
    have hf : headFr { rq := false, ms := [sGET], win := true, blk := [] ++ (T ++ B).take (16384 - ([] : Bs).length) } g = (1, B.length, 0) := by
      unfold headFr
      rw [hm, hrq, show decide (sGET = bHEAD) = false by decide]
      exact hfr
    rw [hf]
    have hd : decide ((1 : Nat) = 0 ∨ (1 : Nat) = 1 ∧ B.length = 0) = false := by
      rw [decide_eq_false_iff_not]
      omega
    simp [hB]
  have hc2 : callS { rq := false, ms := [], ph := 2, blk := [], left := B.length, body := {}, fr := 1, win := true, due := false, dead := 0 } B = ([.body B], B.length, { rq := false, ms := [], ph := 1, blk := [], left := 0, body := {}, fr := 1, win := true, due := true, dead := 0 }, 0) := by
    unfold callS data
    simp [hB]
  have hc3 : callS { rq := false, ms := [], ph := 1, blk := [], left := 0, body := {}, fr := 1, win := true, due := true, dead := 0 } [] = ([.fin], 0, { rq := false, ms := [], ph := 0, blk := [], left := 0, body := {}, fr := 1, win := false, due := false, dead := 0 }, 0) := rfl
  have k3 := Feeds.go { rq := false, ms := [], ph := 1, blk := [], left := 0, body := {}, fr := 1, win := true, due := true, dead := 0 } [] { rq := false, ms := [], ph := 0, blk := [], left := 0, body := {}, fr := 1, win := false, due := false, dead := 0 } [] 0 (fun h => by cases h.2) (by rw [hc3]) (by rw [hc3]; exact Feeds.stop _ rfl)
  rw [hc3] at k3
  have k2 := Feeds.go { rq := false, ms := [], ph := 2, blk := [], left := B.length, body := {}, fr := 1, win := true, due := false, dead := 0 } B _ _ 0 (fun h => hB h.1) (by rw [hc2]) (by rw [hc2]; show Feeds _ (B.drop B.length) _ _ 0; rw [List.drop_length]; exact k3)
  rw [hc2] at k2
  have k1 := Feeds.go { rq := false, ms := [sGET] } (T ++ B) _ _ 0 (fun h => hT4 (List.append_eq_nil_iff.1 h.1).1) (by rw [hc]) (by rw [hc]; show Feeds _ ((T ++ B).drop T.length) _ _ 0; rw [List.drop_left]; exact k2)
  rw [hc] at k1
  exact ⟨_, k1⟩
end Strm
end Go.Proofs.YtklmpadcfioefaaGreatDoor
