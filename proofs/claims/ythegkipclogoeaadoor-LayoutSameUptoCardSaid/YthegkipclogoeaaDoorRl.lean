/- Layer 23: no rules yet; structs of type api.Cell are compared field by field. -/
import Derived.Test.YthegkipclogoeaaDoorSd
import Derived.Test.YthegkipclogoeaaDoorAmPat
set_option linter.unusedVariables false
namespace Go.Proofs.YthegkipclogoeaaDoor
open Go.AM Go.LTxt Go.LMem Go.RowKit
def calls0 : List (FuncId × CallT) := []
def ls0 : List (FuncId × Nat × LoopT) := []
theorem calls0_ok : CallsOK Tryd.prog calls0 := .nil
theorem ls0_ok : LoopsOK Tryd.prog ls0 := .nil
noncomputable def G00 : Rules := mkG [37, 27] calls0 ls0
theorem sG00 : Sound Tryd.prog tys G00 := mk_sound mixed tysOK names (by kernel_rfl) calls0_ok ls0_ok
end Go.Proofs.YthegkipclogoeaaDoor
