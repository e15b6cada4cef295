/- the reference's Path. Conditions: sizes. -/
import Derived.Test.YtklmpadcfioefaaGreatDoorMB
import Derived.Test.YtklmpadcfioefaaGreatDoorMA
namespace Go.Proofs.YtklmpadcfioefaaGreatDoor
open Go.RowKit

theorem data_app (a b : ByteArray) : (a ++ b).data.toList = a.data.toList ++ b.data.toList := by simp
end Go.Proofs.YtklmpadcfioefaaGreatDoor
