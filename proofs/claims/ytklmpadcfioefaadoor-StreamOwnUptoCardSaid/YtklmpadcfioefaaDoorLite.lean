/- What the chunk reader's texts share. No condition. -/
import Derived.Test.YtklmpadcfioefaaDoorMA
import Derived.Test.YtklmpadcfioefaaDoorMB
import Derived.Test.YtklmpadcfioefaaDoorParse
import Derived.IntWalk
import Derived.OpenShut
import Derived.Lib.SmallJoins
import Derived.Deep.DeepCutAuto
import Derived.Deep.RegionHeld3
namespace Go.Proofs.YtklmpadcfioefaaDoor
theorem lite_here : True := trivial
end Go.Proofs.YtklmpadcfioefaaDoor
