/- rewrite's own: the names that a head's connection calls its own. Conditions: sizes, the library's variables. -/
import Derived.Test.YtklmpadcfioefaaGreatDoorMA
import Derived.Test.YtklmpadcfioefaaGreatDoorMB
import Derived.Test.YtklmpadcfioefaaGreatDoorMX1
namespace Go.Proofs.YtklmpadcfioefaaGreatDoor
open Go.RowKit

theorem total_mem {s : ByteArray} : ∀ {vs : List ByteArray}, s ∈ vs → s.size + 1 ≤ total vs
  | v :: vs, h => by
    simp only [total, List.map_cons, List.sum_cons]
    rcases List.mem_cons.1 h with rfl | h
    · omega
    · have := total_mem h; unfold total at this; omega
theorem listed_size {s : ByteArray} {vs : List ByteArray} (h : s ∈ listed vs) : s.size ≤ total vs := by
  unfold listed at h
  obtain ⟨v, hv, hs⟩ := List.mem_flatMap.1 h
  have h1 := total_mem hv
  unfold sel at hs
  obtain ⟨p, hp, rfl⟩ := List.mem_map.1 (List.mem_filter.1 hs).1
  have h2 := pieces_le _ _ _ hp
  have h3 := trim_le p
  have h4 := size_data v
  show (trim p).length ≤ _
  simp only [List.length_nil] at h2
  omega
end Go.Proofs.YtklmpadcfioefaaGreatDoor
