/- Plain law: a sidecar's own replies. No program in sight. No condition. -/
import Derived.Test.YtklmpadcfioefaaGreatDoorMB
import Derived.Test.YtklmpadcfioefaaGreatDoorMX0
import Derived.Test.YtklmpadcfioefaaGreatDoorHWrite
namespace Go.Proofs.YtklmpadcfioefaaGreatDoor

def d2 (n : Nat) : Bs := [UInt8.ofNat (48 + n / 10), UInt8.ofNat (48 + n % 10)]
end Go.Proofs.YtklmpadcfioefaaGreatDoor
