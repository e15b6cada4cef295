/- What a call on a disk turns in memory: laws of the memory predicate. No condition. -/
import Derived.Test.YthgeppdoonbkpaaDskG
namespace Go.Proofs.Ythgeppdoonbkpaa
open Go.RowKit Go.Maps Go.WideMaps
section
variable {w w' : World} {db : Nat} {F : Nat → Nat} {ρ ρ' : Roles} {s : Dsk.St} {T : Nat}
/-- blocks without a role may be data -/
theorem Mem.roles (hm : Mem w db F ρ s T) (hl : ∀ b r, ρ' b = some r → b < w.heap.size) (he : ∀ b r, ρ b = some r → ρ' b = some r) : Mem w db F ρ' s T := by
  have hs : ∀ b r, ρ b = some r → ρ' b = some r := he
  obtain ⟨lb, nb, ln, nn, vl, va, hv, ⟨l1, l2, l3⟩, ⟨n1, n2, n3⟩, ⟨m1, m2⟩, ha⟩ := hm.get
  have hdat : ∀ {v : Value} {n : Nat} {xs : List Value}, Dat w ρ v n xs → Dat w ρ' v n xs := fun ⟨A, c, e, h1, h2, h3, h4⟩ => ⟨A, c, e, h1, h2, h3, fun hn g o p ea => hs _ _ (h4 hn g o p ea)⟩
  refine ⟨hl, hs _ _ hm.disk, ⟨lb, nb, ln, nn, vl, va, hv, ⟨hs _ _ l1, l2, l3⟩, ⟨hs _ _ n1, n2, n3⟩, ⟨m1, fun b hb => hs _ _ (m2 b hb)⟩, ?_⟩, fun i hi => ?_, hm.fit⟩
  · match h : s.arm, ha with
    | none, ha => exact ha
    | some (k, cs), ha =>
      obtain ⟨ab, v, e, hr, hv, hd⟩ := ha
      exact ⟨ab, v, e, hs _ _ hr, hv, hdat hd⟩
  · obtain ⟨hr, v0, v1, v2, hv, h0, h1, zs, e, hrow, ho, hz⟩ := hm.file i hi
    refine ⟨hs _ _ hr, v0, v1, v2, hv, hdat h0, hdat h1, zs, e, hrow, fun b hb => hs _ _ (ho b hb), fun k c p hk hp => ?_⟩
    have hc := hz k c p hk hp
    cases c with
    | wr a d =>
      obtain ⟨e1, xa, xo, v, e2, la, lo, ca, co, hb, ra, ro⟩ := hc
      exact ⟨e1, xa, xo, v, e2, la, lo, ca, co, hdat hb, hs _ _ ra, hs _ _ ro⟩
    | cut k =>
      obtain ⟨e1, xa, e2, la, ca, ra⟩ := hc
      exact ⟨e1, xa, e2, la, ca, hs _ _ ra⟩
/-- all new blocks are data -/
theorem Mem.news (hm : Mem w db F ρ s T) {n0 : Nat} (hn : n0 ≤ w.heap.size) (hlt : ∀ b r, ρ b = some r → b < n0) (f : Nat → Role) : Mem w db F (grow ρ n0 w.heap.size f) s T :=
  hm.roles (fun b r e => by
    unfold grow at e
    by_cases h1 : b < n0
    · omega
    · rw [if_neg h1] at e
      by_cases h2 : b < w.heap.size
      · exact h2
      · rw [if_neg h2] at e; cases e) (fun b r e => by rw [grow_old ρ _ f (hlt b r e)]; exact e)
theorem moved_mem {W : World} (hm : Mem w db F ρ s T) (hd : s.down = false) {m : Dsk.Mv} (h1 : m.fr.length ≤ 64) (h2 : m.to.length ≤ 64) (h3 : m.nw ≠ none → m.to ≠ []) (h4 : m.nw = none → Dsk.get (Dsk.dn s) m.fr ≠ none)
    (h5 : ∀ i, m.nw = some i → i < s.fs.length ∧ Dsk.Good (Dsk.fil s i) ∧ (Dsk.fil s i).loo = []) (hf : ∀ i, m.nw = some i → Filed w ρ F (Dsk.fil s i) i)
    {lb nb ln nn : Nat} {vl va vl' : Value} (hl : ρ lb = some .lasts ∧ Dirm w lb ln F s.dl ∧ ln + s.lm.length ≤ T) (hn : ρ nb = some .now ∧ nn ≤ T) (ho : ∀ b, vl.ownBlock = some b → ρ b = some .moves) (ha : ArmV w ρ va s.arm)
    (hdir : Dirm W nb (nn + 1) F (m.app (Dsk.dn s))) (hrow : Row W 0 3 vl' (s.lm ++ [m]).length (movesV F (s.lm ++ [m]))) (hown : ∀ b, vl'.ownBlock = some b → vl.ownBlock = some b ∨ w.heap.size ≤ b)
    (hv : Var W db 65 [.int .i64 (s.room : Nat), .map (some lb), .map (some nb), vl', va, .bool s.down]) (hc : Chg (fun b => b = nb ∨ b = db ∨ vl.ownBlock = some b) w W) :
    ∃ ρ', Mem W db F ρ' { s with lm := s.lm ++ [m] } (T + 1) ∧ Step ρ ρ' Mut w W := by
  obtain ⟨ρ', hρ⟩ : ∃ ρ' : Roles, ρ' = fun b => if b < w.heap.size then ρ b else if vl'.ownBlock = some b then some .moves else none := ⟨_, rfl⟩
  have hold : ∀ b, b < w.heap.size → ρ' b = ρ b := fun b hb => by rw [hρ]; exact if_pos hb
  have hS : ∀ b, (b = nb ∨ b = db ∨ vl.ownBlock = some b) → ∃ r, ρ b = some r ∧ (r = .now ∨ r = .disk ∨ r = .moves) := fun b h => by
    rcases h with h | h | h
    · subst h; exact ⟨_, hn.1, .inl rfl⟩
    · subst h; exact ⟨_, hm.disk, .inr (.inl rfl)⟩
    · exact ⟨_, ho b h, .inr (.inr rfl)⟩
  have hls : Lies ρ ρ' (fun r => r = .now ∨ r = .disk ∨ r = .moves) w W := ⟨hc.size, fun {b} hb {r} hr hq => hc.block b hb (fun h => by
    obtain ⟨r', e, q⟩ := hS b h
    rw [hr] at e
    injection e with e
    rw [← e] at q
    exact hq q), hold⟩
  have hdb := hm.lt db _ hm.disk
  refine ⟨ρ', ⟨fun b r e => ?_, (hold db hdb).trans hm.disk, ⟨lb, nb, ln, nn + 1, vl', va, hv, ⟨(hold lb (hm.lt lb _ hl.1)).trans hl.1, hl.2.1.keep hls hl.1 (by intro e; rcases e with e | e | e <;> cases e), ?_⟩, ⟨(hold nb (hm.lt nb _ hn.1)).trans hn.1, by rw [Dsk.dn_snoc]; exact hdir, Nat.succ_le_succ hn.2⟩, ⟨hrow, fun b hb => ?_⟩, ha.keep hls (by intro e; rcases e with e | e | e <;> cases e) (by intro e; rcases e with e | e | e <;> cases e)⟩, fun i hi => ?_, Dsk.fit_mv hm.fit hd h1 h2 h3 h4 h5⟩, ⟨hc.more (fun b _ h => by obtain ⟨r, e, q⟩ := hS b h; exact ⟨r, e, by rcases q with q | q | q <;> (rw [q]; intro e; cases e)⟩), hold⟩⟩
  · rw [hρ] at e
    dsimp only at e
    by_cases hb : b < w.heap.size
    · exact Nat.lt_of_lt_of_le hb hc.size
    · rw [if_neg hb] at e
      by_cases ho2 : vl'.ownBlock = some b
      · exact (hrow.lt b ho2).2
      · rw [if_neg ho2] at e; cases e
  · show ln + (s.lm ++ [m]).length ≤ T + 1
    rw [List.length_append, List.length_singleton]
    omega
  · rcases hown b hb with h | h
    · rw [hold b (hm.lt b _ (ho b h))]; exact ho b h
    · rw [hρ]; dsimp only; rw [if_neg (by omega), if_pos hb]
  · have hfi : Filed w ρ F (Dsk.fil s i) i := by
      rcases hi with ⟨n, hi⟩ | ⟨x, hx, e⟩
      · exact hm.file i (.inl ⟨n, hi⟩)
      · rcases List.mem_append.1 hx with hx | hx
        · exact hm.file i (.inr ⟨x, hx, e⟩)
        · rw [List.mem_singleton.1 hx] at e; exact hf i e
    exact FileN.keep hfi hls (by intro e; rcases e with e | e | e <;> cases e) (by intro e; rcases e with e | e | e <;> cases e) (by intro e; rcases e with e | e | e <;> cases e)
/-- a file is set anew: its bytes, its loose changes -/
theorem file_mem {W : World} (hm : Mem w db F ρ s T) {i : Nat} (hi : Dsk.Reach s i) {f : Dsk.Fi} {T' : Nat} (hfit : Dsk.Fit { s with fs := s.fs.set i f } T') (hT : T ≤ T') (hρ1 : ∀ b, b < w.heap.size → ρ' b = ρ b) (hρ2 : ∀ b r, ρ' b = some r → b < W.heap.size)
    (hf : FileN W ρ' F f f.now i) (hc : Chg (On ρ (fun r => r = .file i ∨ r = .chg i)) w W) : Mem W db F ρ' { s with fs := s.fs.set i f } T' ∧ Step ρ ρ' Mut w W := by
  have hst : Step ρ ρ' (fun r => r = .file i ∨ r = .chg i) w W := ⟨hc, hρ1⟩
  have hls := hst.lies
  obtain ⟨lb, nb, ln, nn, vl, va, hv, ⟨l1, l2, l3⟩, ⟨n1, n2, n3⟩, ⟨m1, m2⟩, ha⟩ := hm.get
  have nq : ∀ {r : Role}, (∀ j, r ≠ .file j) → (∀ j, r ≠ .chg j) → ¬ (r = .file i ∨ r = .chg i) := fun h1 h2 e => by rcases e with e | e; exact h1 _ e; exact h2 _ e
  refine ⟨⟨hρ2, (hls.ext _ hv.lt).trans hm.disk, ⟨lb, nb, ln, nn, vl, va, (hls.block hv.lt hm.disk (nq (by intro j e; cases e) (by intro j e; cases e))).trans hv, ⟨(hls.ext _ l2.lt).trans l1, l2.keep hls l1 (nq (by intro j e; cases e) (by intro j e; cases e)), Nat.le_trans l3 hT⟩, ⟨(hls.ext _ n2.lt).trans n1, n2.keep hls n1 (nq (by intro j e; cases e) (by intro j e; cases e)), Nat.le_trans n3 hT⟩, ⟨m1.block_eq (fun b hb => hls.block (m1.lt b hb).2 (m2 b hb) (nq (by intro j e; cases e) (by intro j e; cases e))), fun b hb => (hls.ext _ (m1.lt b hb).2).trans (m2 b hb)⟩, ha.keep hls (nq (by intro j e; cases e) (by intro j e; cases e)) (nq (by intro j e; cases e) (by intro j e; cases e))⟩, fun j hj => ?_, hfit⟩, hst.more (fun r q => by rcases q with q | q <;> (rw [q]; intro e; cases e))⟩
  rw [Dsk.fil_set (hm.fit.reach i hi)]
  by_cases e : j = i
  · subst e; rw [if_pos rfl]; exact hf
  · rw [if_neg e]
    exact (hm.file j hj).keep hls (nq (by intro j e; cases e) (by intro j e; cases e)) (by rintro (q | q); injection q with q; exact e q; cases q) (by rintro (q | q); cases q; injection q with q; exact e q)
end
end Go.Proofs.Ythgeppdoonbkpaa
