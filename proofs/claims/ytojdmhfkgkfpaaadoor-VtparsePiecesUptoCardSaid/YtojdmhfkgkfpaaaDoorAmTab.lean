/- The cells of package-level tables that no call turns: what the rows of this program say of them. -/
import Derived.Test.YtojdmhfkgkfpaaaDoorProg
import Derived.Lib.DecodeN
namespace Go
namespace AM
abbrev CellsP := Nat → Nat → Value → Prop
/-- the cells of the tables: unicode/utf8.first, unicode/utf8.acceptRanges -/
def T0 : CellsP := fun g o u => (g = 0 ∧ o < 256 ∧ u = .int .u8 (Lib.firstT o : Nat)) ∨ (g = 1 ∧ ∃ i, i < 16 ∧ ((o = i * 2 ∧ u = .int .u8 (Lib.accLo i : Nat)) ∨ (o = i * 2 + 1 ∧ u = .int .u8 (Lib.accHi i : Nat))))
end AM
end Go
