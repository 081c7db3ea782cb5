/-
  From a row's reading of a list of ints to how it lies in cells.
-/
import Derived.Test.YtpeknefmjdipmaaGreatDoorM1
import Derived.Test.YtpeknefmjdipmaaGreatDoorProg
namespace Go.Proofs.YtpeknefmjdipmaaGreatDoor
open Go.RowKit
theorem opens_ints : Opens Tryz.prog 25 (pSl (pI .i64)) := opens_slice Tryz.underlying25 (by kernel_rfl) (by decide) (opens_int Tryz.underlying3)
end Go.Proofs.YtpeknefmjdipmaaGreatDoor
