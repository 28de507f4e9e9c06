/- The cells of package-level tables that no call turns: ucell.none, ucell.wide. -/
import Derived.Test.YthegkipclogoeaaDoorProg
import Derived.Lib.DecodeN
set_option linter.unusedVariables false
namespace Go
namespace AM
abbrev CellsP := Nat → Nat → Value → Prop
def noneT : List (List Int) := [[768, 879], [1155, 1161], [1425, 1469], [1552, 1562], [1611, 1631], [3633, 3633], [3636, 3642], [3655, 3662], [6832, 6911], [7616, 7679], [8203, 8207], [8400, 8447], [12441, 12442], [65024, 65039], [65056, 65071]]
def wideT : List (List Int) := [[4352, 4447], [11904, 12350], [12353, 13311], [13312, 19903], [19968, 40959], [40960, 42191], [44032, 55203], [63744, 64255], [65072, 65135], [65280, 65376], [65504, 65510], [127744, 128591], [129280, 129535], [131072, 262141]]
/-- global arrays of numbers that are sliced: the kinds of an element's fields, and the rows -/
def tabI (g : Nat) : Option (List IntKind × List (List Int)) := match Nat.beq g 0 with
  | true => some ([.i32, .i32], noneT)
  | false => match Nat.beq g 1 with
    | true => some ([.i32, .i32], wideT)
    | false => none
def T0 : CellsP := fun g o u => ∃ ks rows, tabI g = some (ks, rows) ∧ ∃ (i j : Nat) (row : List Int) (k : IntKind) (n : Int), rows[i]? = some row ∧ ks[j]? = some k ∧ row[j]? = some n ∧ o = i * ks.length + j ∧ u = .int k n
theorem tabI_T0 {g : Nat} {ks : List IntKind} {rows : List (List Int)} (h : tabI g = some (ks, rows)) {i j : Nat} {row : List Int} {k : IntKind} {n : Int} (hi : rows[i]? = some row) (hk : ks[j]? = some k) (hn : row[j]? = some n) : T0 g (i * ks.length + j) (.int k n) :=
  ⟨ks, rows, h, i, j, row, k, n, hi, hk, hn, rfl, rfl⟩
def R1 (g : Nat) : Prop := False
def T1 (g : Nat) (b : Option Obj) : Prop := True
theorem R1_T0 {g : Nat} (h : R1 g) : ∃ o u, T0 g o u := h.elim
/-- functions of the runtime that give back their argument (abi.NoEscape) -/
def sameF (g : Nat) : Bool := false
/-- the types of elements of rows whose last one is written -/
def hotT (E : Nat) : Bool := Nat.beq E 35
end AM
end Go
