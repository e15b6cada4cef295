/- Plain law behind DiskBegins: behind a failure a file has a beginning of what was done to it, the last write perhaps torn; and behind DiskLasts. No program in sight. No condition. -/
import Derived.Test.YthgeppdoonbkpaaDskPl
namespace Go.Proofs.Ythgeppdoonbkpaa
namespace Dsk
def rnd (x : Int) (n : Nat) : Nat := (x % ((n : Int) + 1)).toNat
/-- what is kept of a file: k changes, and n bytes of the next one -/
def begun (f : Fi) (k n : Nat) : Bs :=
  match f.loo[k]? with
  | some (.wr a d) => over (f.bytes k) a d n
  | _ => f.bytes k
theorem crashF_two (f : Fi) (keep torn : Int) : (crashF f [keep, torn]).1 = ⟨begun f (rnd keep f.loo.length) (match f.loo[rnd keep f.loo.length]? with | some (.wr _ d) => rnd torn d.length | _ => 0), []⟩ := by
  unfold crashF begun choice rnd
  dsimp only
  split
  · rename_i a d h
    rw [h]
  · rename_i h
    split
    · rename_i a d h2
      exact absurd h2 (h a d)
    · rfl
theorem crash_begun {s : St} {f : Fi} (hd : s.dl = [(nF, 0)]) (hl : s.lm = []) (hf : s.fs = [f]) (hu : s.down = false) (keep torn : Int) :
    (crash s [0, keep, torn]).dl = [(nF, 0)] ∧ (crash s [0, keep, torn]).lm = [] ∧ (crash s [0, keep, torn]).fs = [(crashF f [keep, torn]).1] := by
  have hc : choice [0, keep, torn] s.lm.length = (0, [keep, torn]) := by rw [hl]; rfl
  have hn : names s 0 = [(nF, 0)] := by unfold names; rw [hd]; rfl
  unfold crash
  rw [if_neg (by rw [hu]; decide), hc]
  dsimp only
  rw [hn, hf]
  exact ⟨rfl, rfl, rfl⟩
/-- a disk that is down has nothing loose -/
def Calm (s : St) : Prop := s.down = true → s.lm = []
theorem crash_calm (s : St) (h : Calm s) (cs : List Int) : Calm (crash s cs) := by
  unfold crash
  split
  · exact h
  · exact fun _ => rfl
theorem crash_down (s : St) (cs : List Int) : (crash s cs).down = true := by
  unfold crash
  split
  · assumption
  · rfl
theorem crash_lm {s : St} (h : Calm s) (cs : List Int) : (crash s cs).lm = [] := by
  unfold crash
  split
  · exact h (by assumption)
  · rfl
/-- a file with a base and what was done to it since, nothing else loose -/
structure Beg (base : Bs) (l : List Ch) (s : St) : Prop where
  dl : s.dl = [(nF, 0)]
  lm : s.lm = []
  fs : s.fs = [⟨base, l⟩]
  arm : s.arm = none
  up : s.down = false
  room : s.room = 1048576
theorem beg_start (Old : Bs) (h : Old.length ≤ 4096) : (write (create (new 1048576) nF).1 nF 0 Old).2 = 0 ∧ (sync (write (create (new 1048576) nF).1 nF 0 Old).1 nF).2 = 0 ∧ (syncDir (sync (write (create (new 1048576) nF).1 nF 0 Old).1 nF).1).2 = 0 ∧ Beg Old [] (syncDir (sync (write (create (new 1048576) nF).1 nF 0 Old).1 nF).1).1 := by
  have e1 : (create (new 1048576) nF).1 = ⟨1048576, [⟨[], []⟩], [], [⟨[], nF, some 0⟩], none, false⟩ := by kernel_rfl
  have e2 : write ⟨1048576, [⟨[], []⟩], [], [⟨[], nF, some 0⟩], none, false⟩ nF 0 Old = (⟨1048576, [⟨[], [.wr 0 Old]⟩], [], [⟨[], nF, some 0⟩], none, false⟩, 0) := by
    have hf : find ⟨1048576, [⟨[], []⟩], [], [⟨[], nF, some 0⟩], none, false⟩ nF = (0, 0) := by kernel_rfl
    have hh : held ⟨1048576, [⟨[], []⟩], [], [⟨[], nF, some 0⟩], none, false⟩ = 0 := by kernel_rfl
    have hn : (fil ⟨1048576, [⟨[], []⟩], [], [⟨[], nF, some 0⟩], none, false⟩ 0).now.length = 0 := by kernel_rfl
    unfold write
    rw [hf]
    dsimp only
    rw [if_neg (by decide), hn, hh, if_neg (by decide), if_neg (by simp; omega), if_neg (by simp; omega)]
    rfl
  have e3 : sync ⟨1048576, [⟨[], [.wr 0 Old]⟩], [], [⟨[], nF, some 0⟩], none, false⟩ nF = (⟨1048576, [⟨Old, []⟩], [], [⟨[], nF, some 0⟩], none, false⟩, 0) := by
    have hf : find ⟨1048576, [⟨[], [.wr 0 Old]⟩], [], [⟨[], nF, some 0⟩], none, false⟩ nF = (0, 0) := rfl
    have hn : (fil ⟨1048576, [⟨[], [.wr 0 Old]⟩], [], [⟨[], nF, some 0⟩], none, false⟩ 0).now = Old := by
      show over [] 0 Old Old.length = Old
      unfold over
      simp
    unfold sync
    rw [hf]
    dsimp only
    rw [if_neg (by decide), hn]
    rfl
  have e4 : syncDir ⟨1048576, [⟨Old, []⟩], [], [⟨[], nF, some 0⟩], none, false⟩ = (⟨1048576, [⟨Old, []⟩], [(nF, 0)], [], none, false⟩, 0) := rfl
  rw [e1, e2]
  dsimp only
  rw [e3]
  dsimp only
  rw [e4]
  exact ⟨rfl, rfl, rfl, rfl, rfl, rfl, rfl, rfl, rfl⟩
theorem beg_find {base : Bs} {l : List Ch} {s : St} (h : Beg base l s) : find s nF = (0, 0) := by
  have hd : dn s = [(nF, 0)] := by unfold dn; rw [h.lm, h.dl]; rfl
  unfold find
  rw [ready_one h.up mayF, hd]
  rfl
theorem beg_fil {base : Bs} {l : List Ch} {s : St} (h : Beg base l s) : fil s 0 = ⟨base, l⟩ := by unfold fil; rw [h.fs]; rfl
theorem beg_held {base : Bs} {l : List Ch} {s : St} (h : Beg base l s) : held s = (⟨base, l⟩ : Fi).now.length := by
  have hd : dn s = [(nF, 0)] := by unfold dn; rw [h.lm, h.dl]; rfl
  unfold held
  rw [hd]
  simp [beg_fil h]
theorem beg_done {base : Bs} {l : List Ch} {s : St} (h : Beg base l s) : done s = (s, 0) := by unfold done; rw [h.arm]
theorem beg_changed {base : Bs} {l : List Ch} {s : St} (h : Beg base l s) (c : Ch) : (changed s 0 c).2 = 0 ∧ Beg base (l ++ [c]) (changed s 0 c).1 := by
  have hb : Beg base (l ++ [c]) { s with fs := s.fs.set 0 ⟨(fil s 0).las, (fil s 0).loo ++ [c]⟩ } := ⟨h.dl, h.lm, by rw [beg_fil h, h.fs]; rfl, h.arm, h.up, h.room⟩
  unfold changed
  rw [beg_done hb]
  exact ⟨rfl, hb⟩
theorem beg_write {base : Bs} {l : List Ch} {s : St} (h : Beg base l s) {a : Nat} {d : Bs} (ha : a ≤ (⟨base, l⟩ : Fi).now.length) (hn : (⟨base, l⟩ : Fi).now.length ≤ 1000000) (hd : d.length ≤ 4096) :
    (write s nF (a : Int) d).2 = 0 ∧ Beg base (l ++ [.wr a d]) (write s nF (a : Int) d).1 := by
  have hc := beg_changed h (.wr a d)
  unfold write
  rw [beg_find h]
  dsimp only
  rw [if_neg (by decide), beg_fil h, if_neg (by omega), if_neg (by simp; omega), if_neg (by rw [beg_held h, h.room]; simp; omega)]
  simpa using hc
theorem beg_cut {base : Bs} {l : List Ch} {s : St} (h : Beg base l s) {a : Nat} (ha : a ≤ (⟨base, l⟩ : Fi).now.length) :
    (cut s nF (a : Int)).2 = 0 ∧ Beg base (l ++ [.cut a]) (cut s nF (a : Int)).1 := by
  have hc := beg_changed h (.cut a)
  unfold cut
  rw [beg_find h]
  dsimp only
  rw [if_neg (by decide), beg_fil h, if_neg (by omega)]
  simpa using hc
theorem beg_read {base : Bs} {l : List Ch} {s : St} (h : Beg base l s) : read s nF = ((⟨base, l⟩ : Fi).now, 0) := by
  unfold read
  rw [beg_find h]
  dsimp only
  rw [if_neg (by decide), beg_fil h]
theorem beg_loose {base : Bs} {l : List Ch} {s : St} (h : Beg base l s) : looseOf s nF = l.length := by
  have hd : dn s = [(nF, 0)] := by unfold dn; rw [h.lm, h.dl]; rfl
  unfold looseOf
  rw [if_neg (by rw [h.up]; decide), if_neg (by decide), hd]
  show (fil s 0).loo.length = _
  rw [beg_fil h]
/-- the bytes that are wanted behind a failure -/
def wantB (f : Fi) (keep torn : Int) : Bs := begun f (rnd keep f.loo.length) (match f.loo[rnd keep f.loo.length]? with | some (.wr _ d) => rnd torn d.length | _ => 0)
theorem beg_crash {base : Bs} {l : List Ch} {s : St} (h : Beg base l s) (keep torn : Int) : read (up (crash s [0, keep, torn])) nF = (wantB ⟨base, l⟩ keep torn, 0) ∧ looseOf (up (crash s [0, keep, torn])) nF = 0 := by
  obtain ⟨h1, h2, h3⟩ := crash_begun (f := ⟨base, l⟩) h.dl h.lm h.fs h.up keep torn
  rw [crashF_two] at h3
  have hd : dn (up (crash s [0, keep, torn])) = [(nF, 0)] := by
    show List.foldl Mv.app (crash s [0, keep, torn]).dl (crash s [0, keep, torn]).lm = _
    rw [h1, h2]; rfl
  have hf : fil (up (crash s [0, keep, torn])) 0 = ⟨wantB ⟨base, l⟩ keep torn, []⟩ := by
    show (crash s [0, keep, torn]).fs.getD 0 default = _
    rw [h3]; rfl
  have hu : (up (crash s [0, keep, torn])).down = false := rfl
  have hfi : find (up (crash s [0, keep, torn])) nF = (0, 0) := by
    unfold find
    rw [ready_one hu mayF, hd]
    rfl
  constructor
  · unfold read
    rw [hfi]
    dsimp only
    rw [if_neg (by decide), hf]
    rfl
  · unfold looseOf
    rw [if_neg (by rw [hu]; decide), if_neg (by decide), hd]
    show (fil (up (crash s [0, keep, torn])) 0).loo.length = _
    rw [hf]
    rfl
theorem now_len_wr (b : Bs) (l : List Ch) (a : Nat) (d : Bs) (ha : a ≤ (⟨b, l⟩ : Fi).now.length) : (⟨b, l ++ [.wr a d]⟩ : Fi).now.length ≤ (⟨b, l⟩ : Fi).now.length + d.length := by
  rw [Fi.now_snoc]
  show (over _ a d d.length).length ≤ _
  unfold over
  rw [List.length_append, List.length_append, List.length_take, List.length_take, List.length_drop]
  omega
theorem now_len_cut (b : Bs) (l : List Ch) (a : Nat) : (⟨b, l ++ [.cut a]⟩ : Fi).now.length ≤ (⟨b, l⟩ : Fi).now.length := by
  rw [Fi.now_snoc]
  show (List.take a _).length ≤ _
  rw [List.length_take]
  omega
theorem wantB_wr {b : Bs} {l : List Ch} {keep torn : Int} {k a : Nat} {d : Bs} (hk : k = rnd keep l.length) (h : l[k]? = some (.wr a d)) : wantB ⟨b, l⟩ keep torn = over ((⟨b, l⟩ : Fi).bytes k) a d (rnd torn d.length) := by
  unfold wantB begun
  dsimp only
  rw [← hk, h]
theorem wantB_no {b : Bs} {l : List Ch} {keep torn : Int} {k : Nat} (hk : k = rnd keep l.length) (h : ∀ a d, l[k]? ≠ some (.wr a d)) : wantB ⟨b, l⟩ keep torn = (⟨b, l⟩ : Fi).bytes k := by
  unfold wantB begun
  dsimp only
  rw [← hk]
  split
  · rename_i a d e
    exact absurd e (h a d)
  · rfl
end Dsk
end Go.Proofs.Ythgeppdoonbkpaa
