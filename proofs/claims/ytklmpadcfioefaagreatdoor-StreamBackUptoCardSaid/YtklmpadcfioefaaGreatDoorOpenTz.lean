/- The table that a row lists, for numbers of base 16. No condition. -/
import Derived.Test.YtklmpadcfioefaaGreatDoorMB
import Derived.Test.YtklmpadcfioefaaGreatDoorHexF
namespace Go.Proofs.YtklmpadcfioefaaGreatDoor
open Go.ChangeShapes Go.WideShapes Go.ChangeAt Go.RowKit
def bruijn : List Int := [0, 1, 56, 2, 57, 49, 28, 3, 61, 58, 42, 50, 38, 29, 17, 4, 62, 47, 59, 36, 45, 43, 51, 22, 53, 39, 33, 30, 24, 18, 12, 5, 63, 55, 48, 27, 60, 41, 37, 16, 46, 35, 44, 21, 52, 32, 23, 11, 54, 26, 40, 15, 34, 20, 31, 10, 25, 14, 19, 9, 13, 8, 7, 6]
theorem tz_of_laid {W : World} (h : laidMetH Tryz.prog laid5 W) : Tz W := by
  have h1 := h.filter (fun x => x.1 == "math/bits.deBruijn64tab")
  have e : laid5.filter (fun x => x.1 == "math/bits.deBruijn64tab") = [("math/bits.deBruijn64tab", Rows.laid_math_bits_deBruijn64tab)] := by kernel_rfl
  rw [e] at h1
  have h2 : laidMet Tryz.prog (("math/bits.deBruijn64tab", Lib.tabData .u8 bruijn) :: []) W := h1
  have h3 := Lib.tabIs_of_head (g := 5) (t := 194) (e := 5) (n := 64) (by kernel_rfl) (by kernel_rfl) Tryz.underlying194 Tryz.underlying5 (by kernel_rfl) (by kernel_rfl) h2
  exact h3.cell (g := 5) (by kernel_rfl) 15 (by decide)
end Go.Proofs.YtklmpadcfioefaaGreatDoor
