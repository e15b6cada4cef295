/- The program's layout of memory. No condition. -/
import Derived.Test.YtahohgjpkpnabaaGreatDoorOpen
import Derived.Test.YtahohgjpkpnabaaGreatDoorRows
namespace Go.Proofs.YtahohgjpkpnabaaGreatDoor
theorem laidOut : laidOutB Tryz.prog = true := by kernel_rfl
end Go.Proofs.YtahohgjpkpnabaaGreatDoor
