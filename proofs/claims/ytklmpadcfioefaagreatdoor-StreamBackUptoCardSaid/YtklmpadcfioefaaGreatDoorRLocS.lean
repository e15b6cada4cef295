/- Plain law: a sidecar's own reply is read by the reader of streams. No program in sight. No condition. -/
import Derived.Test.YtklmpadcfioefaaGreatDoorMX0
import Derived.Test.YtklmpadcfioefaaGreatDoorRLocL
namespace Go.Proofs.YtklmpadcfioefaaGreatDoor
theorem flB_back (L : List Fl) : flB (L.map fun f => (f.1.data.toList, f.2.data.toList)) = L := by
  unfold flB
  rw [List.map_map]
  conv => rhs; rw [← List.map_id L]
  exact List.map_congr_left fun f _ => rfl
namespace Strm
end Strm
end Go.Proofs.YtklmpadcfioefaaGreatDoor
