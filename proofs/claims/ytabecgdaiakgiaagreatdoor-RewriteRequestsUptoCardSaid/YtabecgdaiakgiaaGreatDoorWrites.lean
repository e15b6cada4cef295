/- the law HeadWrites. Conditions: sizes, that the numbers are ints, the library's variables. -/
import Derived.Test.YtabecgdaiakgiaaGreatDoorHWrite
import Derived.Test.YtabecgdaiakgiaaGreatDoorMB
namespace Go.Proofs.YtabecgdaiakgiaaGreatDoor
open Go.RowKit

end Go.Proofs.YtabecgdaiakgiaaGreatDoor
