/- The cells of package-level tables that no call turns: what the rows of this program say of them. -/
import Derived.Test.YtojdmhfkgkfpaaaDoorProg
namespace Go
namespace AM
abbrev CellsP := Nat → Nat → Value → Prop
/-- the cells of the tables -/
def T0 : CellsP := fun _ _ _ => False
end AM
end Go
