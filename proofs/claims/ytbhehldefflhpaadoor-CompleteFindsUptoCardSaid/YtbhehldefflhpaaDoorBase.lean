/- The seat's types, and that its program draws its orders in any mode. -/
import Derived.Test.YtbhehldefflhpaaDoorProg
import Derived.Test.YtbhehldefflhpaaDoorTxt
import Derived.Test.YtbhehldefflhpaaDoorMem
import Derived.Test.YtbhehldefflhpaaDoorStep
import Derived.RowKit
set_option linter.unusedVariables false
namespace Go.Proofs.YtbhehldefflhpaaDoor
open Go.LTxt Go.LMem Go.RowKit
def tys : LTxt.Tys := { structs := [7, 8, 13, 14, 18, 19, 25, 26, 35, 36, 41, 42, 44, 45, 69, 70, 78, 79, 94, 95, 112, 113, 123, 124, 137, 138, 140, 141, 143, 144, 157, 158, 162, 163, 180, 181, 190, 191], scalars := [2, 3, 4, 5, 6, 9, 10, 11, 12, 21, 31, 104, 114, 132, 139, 147, 169, 185, 186, 188, 189], lens := [9, 10, 11, 22, 29, 43, 73, 86, 102, 111, 135, 136, 159, 161, 164, 165, 182], aggs := [0, 7, 8, 13, 14, 18, 19, 25, 26, 32, 35, 36, 41, 42, 44, 45, 46, 69, 70, 78, 79, 82, 86, 94, 95, 98, 100, 105, 112, 113, 123, 124, 128, 130, 133, 137, 138, 140, 141, 143, 144, 148, 152, 157, 158, 159, 162, 163, 164, 165, 178, 180, 181, 182, 183, 184, 190, 191] }
theorem tysOK : tys.ok Tryd.prog = true := by kernel_rfl
theorem mixed : Tryd.prog.follows .mixedOrders = true := by kernel_rfl
end Go.Proofs.YtbhehldefflhpaaDoor
