/- chunk's Decode. Conditions: sizes, the world's shape. -/
import Derived.Test.YtabecgdaiakgiaaDoorRead2
namespace Go.Proofs.YtabecgdaiakgiaaDoor
open Go.RowKit

def zr : List Value := [.int .i64 0, .int .i64 0, .slice none 0 0, .int .i64 0, .int .i64 0, .int .i64 0, .int .i64 0, .slice none 0 0]
theorem rdr_new (w : World) : Rdr (w.alloc (.cells #[.int .i64 0, .int .i64 0, .slice none 0 0, .int .i64 0, .int .i64 0, .int .i64 0, .int .i64 0, .slice none 0 0] 41)) w.heap.size w.heap.size {} (.slice none 0 0) (.slice none 0 0) :=
  ⟨Var.new w 41 zr, Row.nil _ _ _, Row.nil _ _ _, Chg.refl _ _, Or.inl rfl, by simp [Value.ownBlock], by simp [Value.ownBlock], fun k hk => by simp [Value.ownBlock] at hk, Nat.le_refl _⟩
/-- what Decode answers, in plain words -/
def decP (l : Bs) : Bs × List (Bs × Bs) × Nat × Nat :=
  if (Chunk.feed {} l 0 []).2.2.2 = 2 then ([], [], 0, 230) else if (Chunk.feed {} l 0 []).2.2.2 = 1 then ((Chunk.feed {} l 0 []).2.1, (Chunk.feed {} l 0 []).1.trailers, (Chunk.feed {} l 0 []).2.2.1, 0) else ([], [], 0, 10)
def DecPost (w : World) (r : Bs × List (Bs × Bs) × Nat × Nat) (e : Ending) (w' : World) : Prop :=
  ∃ vo vt, e = .returned (.tuple #[vo, vt, .int .i64 r.2.2.1, .int .i64 r.2.2.2]) ∧ RowB w' w.heap.size vo r.1 ∧ Row w' w.heap.size 2 vt r.2.1.length (fieldsV (flB r.2.1)) ∧ (∀ k, vo.ownBlock = some k → vt.ownBlock ≠ some k) ∧ Below w.heap.size w w'
theorem dec_none {w w' : World} {er : Nat} (hb : Below w.heap.size w w') : DecPost w ([], [], 0, er) (.returned (.tuple #[.slice none 0 0, .slice none 0 0, .int .i64 0, .int .i64 er])) w' :=
  ⟨_, _, rfl, RowB.nil _ _, Row.nil _ _ _, fun k hk => by simp [Value.ownBlock] at hk, hb⟩
theorem RowB.mono {w : World} {base base' : Nat} {v : Value} {L : Bs} (h : RowB w base v L) (hb : base' ≤ base) : RowB w base' v L := Row.mono h hb
theorem feed_kind (l : Bs) : ∀ s : Chunk.St, (Chunk.feed s l 0 []).2.2.2 = 0 ∨ (Chunk.feed s l 0 []).2.2.2 = 1 ∨ (Chunk.feed s l 0 []).2.2.2 = 2 := by
  induction l with
  | nil => intro s; simp [Chunk.feed]
  | cons c l ih =>
    intro s
    rw [Chunk.feed]
    split
    · rw [Chunk.feed_acc]; exact ih _
    · split
      · simp
      · split
        · simp
        · rw [Chunk.feed_acc]; exact ih _
theorem feed_done_at (l : Bs) : ∀ s : Chunk.St, (Chunk.feed s l 0 []).2.2.2 = 1 → (Chunk.feed s l 0 []).1.at_ = 11 := by
  induction l with
  | nil => intro s; simp [Chunk.feed]
  | cons c l ih =>
    intro s
    rw [Chunk.feed]
    split
    · rw [Chunk.feed_acc]; exact ih _
    · split
      · simp
      · split
        · rename_i h; intro _; exact h
        · rw [Chunk.feed_acc]; exact ih _

set_option maxHeartbeats 2000000 in
theorem decode_any (A : Option Addr) (n c : Nat) (l : Bs) (w : World) (hsh : w.ShapedOpen Tryd.prog) (hn : n ≤ 100000000) (hnc : n ≤ c) (hA : A = none → n = 0) (hrd : Rd w w.heap.size 1 A n (bytesV l)) :
    Calls Tryd.prog 22 #[.slice A n c] w (DecPost w (decP l)) := by
  have hrd1 := (hrd.alloc (Nat.le_refl _) (.cells #[.int .i64 0, .int .i64 0, .slice none 0 0, .int .i64 0, .int .i64 0, .int .i64 0, .int .i64 0, .slice none 0 0] 41)).more (B' := (w.alloc (.cells #[.int .i64 0, .int .i64 0, .slice none 0 0, .int .i64 0, .int .i64 0, .int .i64 0, .int .i64 0, .slice none 0 0] 41)).heap.size) (by simp)
  have hb0 : Below w.heap.size w (w.alloc (.cells #[.int .i64 0, .int .i64 0, .slice none 0 0, .int .i64 0, .int .i64 0, .int .i64 0, .int .i64 0, .slice none 0 0] 41)) := (Below.refl _ _).alloc (Nat.le_refl _) _
  have HB0 := Lib.hid hb0
  have HF := Lib.hid (feed_any A n c l ((Shp.of hsh).below hb0) (rdr_new w) Chunk.Ok.init (by decide) (by omega) hn hnc hA hrd1 (by
    intro h0 g o e hf
    rcases hf with x | x | x
    · obtain ⟨g', o', e2, hg, _⟩ := hrd.2 h0
      rw [e] at e2
      injection e2 with e2
      injection e2 with e3 _ _
      omega
    · simp [Value.ownBlock] at x
    · simp [Value.ownBlock] at x))
  have hk := feed_kind l {}
  have hat := feed_done_at l {}
  have hsm : (Chunk.feed {} l 0 []).2.2.2 ≠ 2 → (Chunk.feed {} l 0 []).1.trailers.length ≤ 64 := fun h => (Chunk.feed_ok l {} 0 Chunk.Ok.init h).trailers
  have HD : Hid (decP l = if (Chunk.feed {} l 0 []).2.2.2 = 2 then ([], [], 0, 230) else if (Chunk.feed {} l 0 []).2.2.2 = 1 then ((Chunk.feed {} l 0 []).2.1, (Chunk.feed {} l 0 []).1.trailers, (Chunk.feed {} l 0 []).2.2.1, 0) else ([], [], 0, 10)) := Lib.hid rfl
  generalize Chunk.feed {} l 0 [] = r at HF hk hat hsm HD
  obtain ⟨s1, o, j, q⟩ := r
  unfold FeedPost at HF
  simp only at HF hk hat hsm HD
  clear hrd1 hb0 hrd
  rcases hk with rfl | rfl | rfl
  · have HP : Hid (decP l = ([], [], 0, 10)) := Lib.hid (by rw [HD.out]; rfl)
    clear hat hsm HD
    go_enter Tryd.func22, Tryd.ntmps22
    go_wp2_with (first
      | (go_at_call 23; go_must (refine HF.out.mono ?_; rintro _ w1 ⟨vo, rfl, hrow, vl1, vt1, hr1, hc1, k1, k2, k3⟩))
      | fail)
    refine bodyPost_ret (results_tmp4 rfl _ _ _) rfl ?_
    rw [HP.out]
    exact dec_none (Below.chg HB0.out hc1 (by simp) (fun k hf => by rcases hf with x | x | x; omega; simp [Value.ownBlock] at x; simp [Value.ownBlock] at x))
  · have HP : Hid (decP l = (o, s1.trailers, j, 0)) := Lib.hid (by rw [HD.out]; rfl)
    have h11 := hat rfl
    have h64 := hsm (by decide)
    have H11 := Lib.hid h11
    clear hat hsm HD h11
    go_enter Tryd.func22, Tryd.ntmps22
    go_wp2_with (first
      | (go_at_call 23; go_must (refine HF.out.mono ?_; rintro _ w1 ⟨vo, rfl, hrow, vl1, vt1, hr1, hc1, k1, k2, k3⟩; have HT := Lib.hid (ctrail_yes hr1 H11.out h64)))
      | (go_at_call 26; go_must (refine HT.out.mono ?_; rintro _ w2 ⟨v2, rfl, hrow2, hb2⟩))
      | fail)
    refine bodyPost_ret (results_tmp4 rfl _ _ _) rfl ?_
    rw [HP.out]
    have hz := hc1.size
    simp at hz
    refine ⟨_, _, rfl, (RowB.mono (hrow.below_all hb2) (by simp)), hrow2.mono (by omega), ?_, (Below.chg HB0.out hc1 (by simp) (fun k hf => by rcases hf with x | x | x; omega; simp [Value.ownBlock] at x; simp [Value.ownBlock] at x)).trans (hb2.mono (by omega))⟩
    intro k h1 h2
    have := (hrow2.lt k h2).1
    have := (hrow.lt k h1).2
    omega
  · have HP : Hid (decP l = ([], [], 0, 230)) := Lib.hid (by rw [HD.out]; rfl)
    clear hat hsm HD
    go_enter Tryd.func22, Tryd.ntmps22
    go_wp2_with (first
      | (go_at_call 23; go_must (refine HF.out.mono ?_; rintro _ w1 ⟨vo, rfl, hrow, vl1, vt1, hr1, hc1, k1, k2, k3⟩))
      | fail)
    refine bodyPost_ret (results_tmp4 rfl _ _ _) rfl ?_
    rw [HP.out]
    exact dec_none (Below.chg HB0.out hc1 (by simp) (fun k hf => by rcases hf with x | x | x; omega; simp [Value.ownBlock] at x; simp [Value.ownBlock] at x))
end Go.Proofs.YtabecgdaiakgiaaDoor
