/- Plain law: no head that a reader of requests hands out can smuggle. No program in sight. No condition. -/
import Derived.Test.YtklmpadcfioefaaGreatDoorSHead2
import Derived.Test.YtklmpadcfioefaaGreatDoorMB
namespace Go.Proofs.YtklmpadcfioefaaGreatDoor
namespace Strm
structure NoSmug (h : Hd) (fr : Nat) : Prop where
  few : h.fs.length ≤ 64
  size : flSize (flB h.fs) ≤ 2097408
  host : h.mn = 1 → (vals (flB h.fs) sHost).length = 1
  cod : vals (flB h.fs) sCod ≠ [] → vals (flB h.fs) sLen = [] ∧ fr = 2 ∧ h.mn = 1
  no : vals (flB h.fs) sCod = [] → fr ≠ 2 ∧ fr ≠ 3 ∧ (listed (vals (flB h.fs) sLen) ≠ [] ↔ fr = 1)
  eq : ∀ a ∈ listed (vals (flB h.fs) sLen), ∀ b ∈ listed (vals (flB h.fs) sLen), a = b
end Strm
end Go.Proofs.YtklmpadcfioefaaGreatDoor
