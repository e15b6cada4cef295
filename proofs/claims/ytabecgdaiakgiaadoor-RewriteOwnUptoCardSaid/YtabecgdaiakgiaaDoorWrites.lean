/- the law HeadWrites. Conditions: sizes, that the numbers are ints, the library's variables. -/
import Derived.Test.YtabecgdaiakgiaaDoorHWrite
import Derived.Test.YtabecgdaiakgiaaDoorMB
namespace Go.Proofs.YtabecgdaiakgiaaDoor
open Go.RowKit

end Go.Proofs.YtabecgdaiakgiaaDoor
