/- the law's lent, same, kept, num. Conditions: sizes. -/
import Derived.Test.YtabecgdaiakgiaaGreatDoorParse
import Derived.Test.YtabecgdaiakgiaaGreatDoorSmug
import Derived.Laws.MakeOwn
namespace Go.Proofs.YtabecgdaiakgiaaGreatDoor
open Go.RowKit

end Go.Proofs.YtabecgdaiakgiaaGreatDoor
