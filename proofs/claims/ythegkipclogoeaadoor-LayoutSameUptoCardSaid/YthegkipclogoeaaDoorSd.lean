/- The seat's program keeps to what the abstract machine asks; no rules yet. -/
import Derived.Test.YthegkipclogoeaaDoorBase
import Derived.Test.YthegkipclogoeaaDoorAmLift
set_option linter.unusedVariables false
namespace Go.Proofs.YthegkipclogoeaaDoor
open Go.AM Go.LTxt
theorem namesOK : (Tryd.prog.funcs.toList.all fun fn => !(fn.name == "runtime.NumGoroutine")) = true := by kernel_rfl
theorem namesNg (f : FuncId) (fn : Func) (h : Tryd.prog.funcs[f]? = some fn) : (fn.name == "runtime.NumGoroutine") = false := by
  have h1 := List.all_eq_true.1 namesOK fn (Array.mem_toList_iff.2 (Array.mem_of_getElem? h))
  simpa using h1
/-- (sameF is false) -/
theorem names : NamesOK Tryd.prog := ⟨namesNg, fun _ _ h => by cases h⟩
def noRules : Rules := ⟨[], fun _ => none, fun _ _ => none, fun _ _ => none⟩
theorem sound0 : Sound Tryd.prog tys noRules :=
  ⟨mixed, tysOK, fun _ h => (by cases h), names, fun _ _ h => (by cases h), fun _ _ _ _ h => (by cases h), fun _ _ _ _ _ h => (by cases h)⟩
/-- a block's cells, all of them others -/
def relay (cs : Array Value) : Obj → Obj
  | .cells _ t fr => .cells cs t fr
  | o => o
/-- the world that a row's listed tables lie in -/
def litCells : Nat → DataW Unit → List Value
  | 0, _ => []
  | n + 1, .lit (.int k z) => [.int k z]
  | n + 1, .lit (.bool b) => [.bool b]
  | n + 1, .agg l => l.flatMap (litCells n)
  | _, _ => []
noncomputable def relayAll (laid : List (String × DataW Unit)) (hp : Array Obj) : Array Obj := laid.foldl (fun hp x => hp.modify ((Tryd.prog.globalNamed x.1).getD 0) (relay (litCells 9 x.2).toArray)) hp
noncomputable def laidWorld (laid : List (String × DataW Unit)) (os : Os) : World := { World.holding Tryd.prog os ⟨#[], #[], []⟩ with heap := relayAll laid (World.holding Tryd.prog os ⟨#[], #[], []⟩).heap }
end Go.Proofs.YthegkipclogoeaaDoor
