/- The cells of package-level tables that no call turns: what the rows of this program say of them. -/
import Derived.Test.YtojdmhfkgkfpaaaDoorProg
import Derived.Lib.DecodeN
import Derived.Lib.ItoaNum
set_option linter.unusedVariables false
namespace Go
namespace AM
abbrev CellsP := Nat → Nat → Value → Prop
/-- the cells of the tables: unicode/utf8.first, unicode/utf8.acceptRanges, internal/strconv.uint64pow10 -/
def T0 : CellsP := fun g o u => (g = 0 ∧ o < 256 ∧ u = .int .u8 (Lib.firstT o : Nat)) ∨ (g = 1 ∧ ∃ i, i < 16 ∧ ((o = i * 2 ∧ u = .int .u8 (Lib.accLo i : Nat)) ∨ (o = i * 2 + 1 ∧ u = .int .u8 (Lib.accHi i : Nat)))) ∨ (g = 2 ∧ o < 20 ∧ u = .int .u64 (Lib.pow10Tab.getD o 0))
/-- blocks of which more is said than their cells: which, and what; each has a listed cell -/
def R1 (g : Nat) : Prop := g = 2
def T1 (g : Nat) (b : Option Obj) : Prop := ∃ t fr, b = some (.cells (Lib.pow10Tab.map fun z => Value.int .u64 z).toArray t fr)
theorem R1_T0 {g : Nat} (h : R1 g) : ∃ o u, T0 g o u := ⟨0, _, .inr (.inr ⟨h, by decide, rfl⟩)⟩
end AM
end Go
