/- The program's layout of memory. No condition. -/
import Derived.Test.YthmpjemchjfoeaaGreatDoorOpen
import Derived.Test.YthmpjemchjfoeaaGreatDoorRows
namespace Go.Proofs.YthmpjemchjfoeaaGreatDoor
theorem laidOut : laidOutB Tryz.prog = true := by kernel_rfl
end Go.Proofs.YthmpjemchjfoeaaGreatDoor
