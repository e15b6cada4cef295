/- the reference's first of a response; joined. Condition: the size. -/
import Derived.Test.YtabecgdaiakgiaaDoorRFirst
namespace Go.Proofs.YtabecgdaiakgiaaDoor
open Go.RowKit


end Go.Proofs.YtabecgdaiakgiaaDoor
