/- The seat's types, and that its program draws its orders in any mode. -/
import Derived.Test.YtojdmhfkgkfpaaaDoorProg
import Derived.Test.YtojdmhfkgkfpaaaDoorTxt
import Derived.Test.YtojdmhfkgkfpaaaDoorMem
import Derived.Test.YtojdmhfkgkfpaaaDoorStep
import Derived.RowKit
set_option linter.unusedVariables false
namespace Go.Proofs.YtojdmhfkgkfpaaaDoor
open Go.LTxt Go.LMem Go.RowKit
def tys : LTxt.Tys := { structs := [7, 8, 13, 14, 18, 19, 34, 35, 43, 44, 52, 53, 56, 57, 58, 59, 70, 71, 90, 91, 108, 109, 125, 126, 135, 136], scalars := [2, 3, 4, 5, 6, 9, 10, 11, 12, 21, 47, 79, 102, 118, 130, 131, 133, 134], lens := [9, 10, 11, 22, 25, 28, 33, 37, 39, 76, 101, 107, 110, 117, 119, 123, 124, 127], aggs := [7, 8, 13, 14, 18, 19, 20, 34, 35, 43, 44, 52, 53, 56, 57, 58, 59, 70, 71, 90, 91, 92, 93, 101, 107, 108, 109, 110, 117, 119, 123, 124, 125, 126, 127, 128, 129, 135, 136] }
theorem tysOK : tys.ok Tryd.prog = true := by kernel_rfl
theorem mixed : Tryd.prog.follows .mixedOrders = true := by kernel_rfl
end Go.Proofs.YtojdmhfkgkfpaaaDoor
