/- Plain words on lists of texts: what stands between commas. No program in sight. No condition. -/
import Derived.Test.YtabecgdaiakgiaaDoorPlain
namespace Go.Proofs.YtabecgdaiakgiaaDoor

/-- what stands between commas, behind a piece that is begun -/
def pieces (cur : Bs) : Bs → List Bs
  | [] => [cur]
  | c :: t => if c = 44 then cur :: pieces [] t else pieces (cur ++ [c]) t
/-- the trimmed ones that are not empty -/
def sel (l : List Bs) : List ByteArray := (l.map fun p => (⟨(trim p).toArray⟩ : ByteArray)).filter fun p => !(p.data.toList.isEmpty)
def listed (vs : List ByteArray) : List ByteArray := vs.flatMap fun s => sel (pieces [] s.data.toList)

theorem pieces_none : ∀ (s cur : Bs), 44 ∉ s → pieces cur s = [cur ++ s]
  | [], cur, _ => by simp [pieces]
  | c :: t, cur, h => by
    have h1 : c ≠ 44 := fun e => h (by simp [e])
    have h2 : 44 ∉ t := fun e => h (by simp [e])
    rw [pieces, if_neg h1, pieces_none t _ h2]; simp
theorem pieces_hit : ∀ (a t cur : Bs), 44 ∉ a → pieces cur (a ++ 44 :: t) = (cur ++ a) :: pieces [] t
  | [], t, cur, _ => by simp [pieces]
  | c :: a, t, cur, h => by
    have h1 : c ≠ 44 := fun e => h (by simp [e])
    have h2 : 44 ∉ a := fun e => h (by simp [e])
    rw [List.cons_append, pieces, if_neg h1, pieces_hit a t _ h2]; simp

theorem mem_get {l : Bs} {c : UInt8} (h : ∀ k : Nat, l[k]? ≠ some c) : c ∉ l := fun e => by
  obtain ⟨k, hk, e⟩ := List.getElem_of_mem e
  exact h k (by rw [List.getElem?_eq_getElem hk, e])

theorem splitK_pieces : ∀ (k : Nat) (s : Bs), Lib.count s [44] ≤ k → Lib.splitK [44] 0 k s = pieces [] s
  | 0, s, h => by
    rw [Lib.count_one] at h
    have : 44 ∉ s := List.count_eq_zero.1 (by omega)
    rw [pieces_none s [] this]; rfl
  | k + 1, s, h => by
    rw [Lib.splitK]
    by_cases hi : Lib.index s [44] = -1
    · rw [if_pos (by rw [hi]; rfl)]
      rw [Lib.index_one] at hi
      rw [pieces_none s [] (mem_get (Lib.indexByte_none hi))]; rfl
    · rw [if_neg (by simpa using hi)]
      have hge := Lib.index_ge s [44]
      obtain ⟨j, hj⟩ : ∃ j : Nat, Lib.index s [44] = j := ⟨(Lib.index s [44]).toNat, by omega⟩
      have hj' := hj
      rw [Lib.index_one] at hj'
      obtain ⟨hs, hb⟩ := Lib.indexByte_some hj'
      have hlt : j < s.length := (List.getElem?_eq_some_iff.1 hs).1
      have hc := Lib.count_hit (sub := [44]) (by simp) hj
      rw [hj]
      simp only [Int.toNat_natCast, Nat.add_zero, List.length_cons, List.length_nil, Nat.zero_add] at hc ⊢
      rw [splitK_pieces k _ (by omega)]
      have e : s = s.take j ++ 44 :: s.drop (j + 1) := by
        conv => lhs; rw [← List.take_append_drop j s, List.drop_eq_getElem_cons hlt]
        have : s[j] = 44 := (List.getElem?_eq_some_iff.1 hs).2
        rw [this]
      have hn : 44 ∉ s.take j := mem_get fun q hq => by
        rw [List.getElem?_take] at hq
        split at hq
        · exact hb q ‹_› hq
        · cases hq
      conv => rhs; rw [e, pieces_hit _ _ _ hn]
      simp

theorem sel_append (a b : List Bs) : sel (a ++ b) = sel a ++ sel b := by simp [sel]
theorem listed_take (vs : List ByteArray) (k : Nat) (h : k < vs.length) : listed (vs.take (k + 1)) = listed (vs.take k) ++ sel (pieces [] vs[k].data.toList) := by
  unfold listed
  rw [List.take_succ_eq_append_getElem h, List.flatMap_append]; simp only [List.flatMap_cons, List.flatMap_nil, List.append_nil]
theorem pieces_len : ∀ (s cur : Bs), (pieces cur s).length ≤ s.length + 1
  | [], cur => by simp [pieces]
  | c :: t, cur => by
    rw [pieces]
    split
    · have := pieces_len t []; simp; omega
    · have := pieces_len t (cur ++ [c]); simp; omega
theorem pieces_le : ∀ (s cur p : Bs), p ∈ pieces cur s → p.length ≤ cur.length + s.length
  | [], cur, p, h => by simp [pieces] at h; subst h; simp
  | c :: t, cur, p, h => by
    rw [pieces] at h
    split at h
    · rcases List.mem_cons.1 h with rfl | h
      · omega
      · have := pieces_le t [] p h; simp at this ⊢; omega
    · have := pieces_le t (cur ++ [c]) p h; simp at this ⊢; omega
theorem sel_len (l : List Bs) : (sel l).length ≤ l.length := by
  unfold sel; exact Nat.le_trans (List.length_filter_le _ _) (by simp)
def total (vs : List ByteArray) : Nat := (vs.map fun s => s.size + 1).sum
theorem listed_len (vs : List ByteArray) : (listed vs).length ≤ total vs := by
  induction vs with
  | nil => simp [listed, total]
  | cons s vs ih =>
    have h1 := pieces_len s.data.toList []
    have h2 := sel_len (pieces [] s.data.toList)
    have h3 : s.data.toList.length = s.size := rfl
    simp only [listed, total, List.flatMap_cons, List.length_append, List.map_cons, List.sum_cons] at ih ⊢
    omega
theorem total_take (vs : List ByteArray) (k : Nat) : total (vs.take k) ≤ total vs := by
  unfold total
  conv => rhs; rw [← List.take_append_drop k vs, List.map_append, List.sum_append]
  omega
end Go.Proofs.YtabecgdaiakgiaaDoor
