/- The seat's types, and that its program draws its orders in any mode. -/
import Derived.Test.YthegkipclogoeaaDoorProg
import Derived.Test.YthegkipclogoeaaDoorTxt
import Derived.Test.YthegkipclogoeaaDoorMem
import Derived.Test.YthegkipclogoeaaDoorStep
import Derived.RowKit
set_option linter.unusedVariables false
namespace Go.Proofs.YthegkipclogoeaaDoor
open Go.LTxt Go.LMem Go.RowKit
def tys : LTxt.Tys := { structs := [7, 8, 13, 14, 18, 19, 23, 24, 26, 27, 28, 29, 36, 37, 59, 60, 102, 103, 106, 107, 119, 120], scalars := [2, 3, 4, 5, 6, 9, 10, 11, 12, 21, 30, 91, 112, 113, 114, 117, 118], lens := [9, 10, 11, 22, 25, 35, 54, 58, 61, 62, 71, 81, 85, 86, 101, 104, 108], aggs := [0, 7, 8, 13, 14, 18, 19, 23, 24, 26, 27, 28, 29, 31, 36, 37, 40, 59, 60, 61, 62, 63, 65, 67, 85, 86, 87, 94, 101, 102, 103, 104, 106, 107, 108, 109, 110, 119, 120, 121] }
theorem tysOK : tys.ok Tryd.prog = true := by kernel_rfl
theorem mixed : Tryd.prog.follows .mixedOrders = true := by kernel_rfl
end Go.Proofs.YthegkipclogoeaaDoor
