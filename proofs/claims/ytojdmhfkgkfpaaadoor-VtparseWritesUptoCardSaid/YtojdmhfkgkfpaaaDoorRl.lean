/- Layer 05: the rules of the functions that read bytes: DecodeRune, FullRune; Head, value. -/
import Derived.Test.YtojdmhfkgkfpaaaDoorSd
import Derived.Test.YtojdmhfkgkfpaaaDoorAmTbl
import Derived.Test.YtojdmhfkgkfpaaaDoorDecL
import Derived.Test.YtojdmhfkgkfpaaaDoorLists
set_option linter.unusedVariables false
namespace Go.Proofs.YtojdmhfkgkfpaaaDoor
open Go.AM Go.LTxt Go.LMem Go.RowKit
theorem tabs_of {w : World} (h : ∀ g o u, T0 g o u → w.cell? ⟨g, o, none⟩ = some u) : Tabs w := by
  have h1 : ∀ c, c < 256 → w.cell? ⟨0, c, none⟩ = some (.int .u8 (Lib.firstT c : Nat)) := fun c hc => h 0 c _ (.inl ⟨rfl, hc, rfl⟩)
  have h2 : ∀ i, i < 16 → w.cell? ⟨1, i * 2, none⟩ = some (.int .u8 (Lib.accLo i : Nat)) ∧ w.cell? ⟨1, i * 2 + 1, none⟩ = some (.int .u8 (Lib.accHi i : Nat)) := fun i hi =>
    ⟨h 1 _ _ (.inr (.inl ⟨rfl, i, hi, .inl ⟨rfl, rfl⟩⟩)), h 1 _ _ (.inr (.inl ⟨rfl, i, hi, .inr ⟨rfl, rfl⟩⟩))⟩
  exact ⟨World.block_lt_of_cell? w _ (h2 0 (by omega)).1, h1, h2⟩
def i64 (n : Int) : AV := .c (.int .i64 n)
def i32 (n : Int) : AV := .c (.int .i32 n)
def big (l : List UInt8) : Prop := l.length ≤ 1099511627776
def R63 : CallT := readR big fun l => .tup [i32 (decP l).1, i64 (decP l).2]
def R83 : CallT := readR big fun l => .c (.bool (fullP l))
def R64 : CallT := readR big fun l => .tup [i64 (head l).1, i64 (head l).2]
def R65 : CallT := readR (fun l => 0 < l.length ∧ l.length ≤ 4) fun l => i32 (value l)
theorem ok63 : CallOK Tryd.prog 63 R63 := readR_ok (val := fun l => .tuple #[.int .i32 (decP l).1, .int .i64 (decP l).2]) (fun l own C => by simp only [VR, VRs, i32, i64]; exact ⟨_, rfl, _, _, rfl, rfl, _, _, rfl, rfl, rfl⟩) fun w v l h hT hn => dec63 w v l h (tabs_of hT) hn
theorem ok83 : CallOK Tryd.prog 83 R83 := readR_ok (val := fun l => .bool (fullP l)) (fun l own C => by simp only [VR]) fun w v l h hT hn => full83 w v l h (tabs_of hT) hn
theorem ok64 : CallOK Tryd.prog 64 R64 := readR_ok (val := fun l => .tuple #[.int .i64 (head l).1, .int .i64 (head l).2]) (fun l own C => by simp only [VR, VRs, i64]; exact ⟨_, rfl, _, _, rfl, rfl, _, _, rfl, rfl, rfl⟩) fun w v l h hT hn => head64 w v l h hn
theorem ok65 : CallOK Tryd.prog 65 R65 := readR_ok (val := fun l => .int .i32 (value l)) (fun l own C => by simp only [VR, i32]) fun w v l h hT hn => value65 w v l h hn.1 hn.2
def calls0 : List (FuncId × CallT) := [(63, R63), (83, R83), (64, R64), (65, R65)]
theorem calls0_ok : CallsOK Tryd.prog calls0 := .cons ok63 (.cons ok83 (.cons ok64 (.cons ok65 .nil)))
def G0 : Rules := mkG [] calls0 []
theorem sG0 : Sound Tryd.prog tys G0 := mk_sound mixed tysOK names (by kernel_rfl) calls0_ok .nil
end Go.Proofs.YtojdmhfkgkfpaaaDoor
