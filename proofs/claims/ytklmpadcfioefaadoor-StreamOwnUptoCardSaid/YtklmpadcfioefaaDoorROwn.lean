/- rewrite's own: the names that a head's connection calls its own. Conditions: sizes, the library's variables. -/
import Derived.Test.YtklmpadcfioefaaDoorMA
import Derived.Test.YtklmpadcfioefaaDoorMB
import Derived.Test.YtklmpadcfioefaaDoorAwake
namespace Go.Proofs.YtklmpadcfioefaaDoor
open Go.RowKit

theorem total_mem {s : ByteArray} : ∀ {vs : List ByteArray}, s ∈ vs → s.size + 1 ≤ total vs
  | v :: vs, h => by
    simp only [total, List.map_cons, List.sum_cons]
    rcases List.mem_cons.1 h with rfl | h
    · omega
    · have := total_mem h; unfold total at this; omega
theorem listed_size {s : ByteArray} {vs : List ByteArray} (h : s ∈ listed vs) : s.size ≤ total vs := by
  unfold listed at h
  obtain ⟨v, hv, hs⟩ := List.mem_flatMap.1 h
  have h1 := total_mem hv
  unfold sel at hs
  obtain ⟨p, hp, rfl⟩ := List.mem_map.1 (List.mem_filter.1 hs).1
  have h2 := pieces_le _ _ _ hp
  have h3 := trim_le p
  have h4 := size_data v
  show (trim p).length ≤ _
  simp only [List.length_nil] at h2
  omega
theorem inP_take (vs : List ByteArray) (j : Nat) (h : j < vs.length) (k : Bs) : inP (vs.take (j + 1)) k = (inP (vs.take j) k || fd vs[j] == k) := by
  unfold inP
  rw [List.take_succ_eq_append_getElem h, List.any_append]
  simp

def alwB : List ByteArray := always.map fun l => ⟨l.toArray⟩
theorem inP_alw (k : Bs) : inP alwB k = always.contains k := by
  unfold inP alwB
  have h : ∀ L : List Bs, (∀ l ∈ L, fold l = l) → ((L.map fun l => (⟨l.toArray⟩ : ByteArray)).any fun p => fd p == k) = L.contains k := by
    intro L hL
    induction L with
    | nil => rfl
    | cons l L ih =>
      have e : fd ⟨l.toArray⟩ = l := by unfold fd; exact hL l (by simp)
      rw [List.map_cons, List.any_cons, List.contains_cons, ih fun x hx => hL x (by simp [hx]), e]
      congr 1
      rw [Bool.eq_iff_iff, beq_iff_eq, beq_iff_eq]; exact eq_comm
  exact h always (by decide +kernel)
/-- rewrite's own -/
def OwnPost (w : World) (fs : List Fl) (e : Ending) (w' : World) : Prop :=
  ∃ b n, e = .returned (.map (some b)) ∧ w.heap.size ≤ b ∧ n ≤ 16777216 ∧ Mine w' b n (ownK fs) ∧ Below w.heap.size w w'
theorem alw_len : alwB.length = 10 := rfl
theorem alw_small : ∀ s ∈ alwB, s.size ≤ 16777216 := by decide +kernel
theorem alw_cells : (#[.string ⟨#[99, 111, 110, 110, 101, 99, 116, 105, 111, 110]⟩, .string ⟨#[99, 108, 111, 115, 101]⟩, .string ⟨#[107, 101, 101, 112, 45, 97, 108, 105, 118, 101]⟩, .string ⟨#[112, 114, 111, 120, 121, 45, 99, 111, 110, 110, 101, 99, 116, 105, 111, 110]⟩, .string ⟨#[116, 101]⟩, .string ⟨#[116, 114, 97, 105, 108, 101, 114]⟩, .string ⟨#[116, 114, 97, 110, 115, 102, 101, 114, 45, 101, 110, 99, 111, 100, 105, 110, 103]⟩, .string ⟨#[117, 112, 103, 114, 97, 100, 101]⟩, .string ⟨#[101, 120, 112, 101, 99, 116]⟩, .string ⟨#[99, 111, 110, 116, 101, 110, 116, 45, 108, 101, 110, 103, 116, 104]⟩] : Array Value) = (strsV alwB).toArray := by kernel_rfl
end Go.Proofs.YtklmpadcfioefaaDoor
