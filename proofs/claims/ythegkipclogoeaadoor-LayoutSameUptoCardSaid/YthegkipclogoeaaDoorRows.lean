/-
  NARROWER THAN 'FOR EVERY INPUT', by the rows' own cells (each row's printed sentence says how): LayoutFits: laid · LayoutFlows: laid · LayoutGrows: laid · LayoutPoints: laid · LayoutOwn: laid · LayoutSame: laid · LayoutHides: laid.
  DERIVED. THE GIVEN ROWS OF THIS SEAT. 7 by the template 'for every input the law returns true; each argument reads behind the call as it read before'; 0 by the template 'total and deterministic' (their statements: YthegkipclogoeaaDoorTotals.lean).
  GIVEN WITH THE SEED: the statements are not yours to turn. If you find one false, say at which input.
  Laid BY PROGRAM, IN A SANDBOX (cutbox-rows.mjs): the forced cells as the released guide's own fill.sh prints them over the translation b9a8f4aec52d7e09… (all of the seat's roots in one cut). By AI agents, Wed Nov 11 2026. No macro, syntax, notation, axiom, sorry.
-/
import Derived.Test.YthegkipclogoeaaDoorChecked
import GoSem.PinnedTables
import GoSem.Claim
import GoSem.ClaimJoined
import GoSem.ClaimMapViews
import Derived.JoinedTies
import Derived.KernelRfl
namespace Go.Proofs.YthegkipclogoeaaDoor
/- THE CELL 'sum', in the pinned program and in every row, IS THE sha256 OF THE DUMP (.gsa) THAT YthegkipclogoeaaDoorProg.lean LOADS. Nothing in Lean hashes anything: it is a label: what it is worth is what the hold of that sum in a sandbox is worth. -/
noncomputable def Tryd.pinned : Pinned := { name := "ythegkipclogoeaadoor", sum := "b9a8f4aec52d7e09540fa11b352dec9943a46ab5ee12bf739591275c3e257c91", checked := Tryd.checked }
namespace Rows
def none {H : Type} : Left H := { results := [], args := [] }

/- WHAT THE LISTED PACKAGE-LEVEL VARIABLES READ AS WHEN THE CALL BEGINS. Each datum BY PROGRAM (the guide's laid-datum.mjs) off the statement by which the dump's own 'gosem.cut.vars' lays the variable. In a bare row this is a premise. The card (YthegkipclogoeaaDoorCards.lean) ties it to the program's text. -/
def laid_unicode_utf8_acceptRanges {H : Type} : DataW H := .agg [.agg [.lit (.int .u8 128), .lit (.int .u8 191)], .agg [.lit (.int .u8 160), .lit (.int .u8 191)], .agg [.lit (.int .u8 128), .lit (.int .u8 159)], .agg [.lit (.int .u8 144), .lit (.int .u8 191)], .agg [.lit (.int .u8 128), .lit (.int .u8 143)], .agg [.lit (.int .u8 0), .lit (.int .u8 0)], .agg [.lit (.int .u8 0), .lit (.int .u8 0)], .agg [.lit (.int .u8 0), .lit (.int .u8 0)], .agg [.lit (.int .u8 0), .lit (.int .u8 0)], .agg [.lit (.int .u8 0), .lit (.int .u8 0)], .agg [.lit (.int .u8 0), .lit (.int .u8 0)], .agg [.lit (.int .u8 0), .lit (.int .u8 0)], .agg [.lit (.int .u8 0), .lit (.int .u8 0)], .agg [.lit (.int .u8 0), .lit (.int .u8 0)], .agg [.lit (.int .u8 0), .lit (.int .u8 0)], .agg [.lit (.int .u8 0), .lit (.int .u8 0)]]
def laid_lanyard_ucell_none {H : Type} : DataW H := .agg [.agg [.lit (.int .i32 768), .lit (.int .i32 879)], .agg [.lit (.int .i32 1155), .lit (.int .i32 1161)], .agg [.lit (.int .i32 1425), .lit (.int .i32 1469)], .agg [.lit (.int .i32 1552), .lit (.int .i32 1562)], .agg [.lit (.int .i32 1611), .lit (.int .i32 1631)], .agg [.lit (.int .i32 3633), .lit (.int .i32 3633)], .agg [.lit (.int .i32 3636), .lit (.int .i32 3642)], .agg [.lit (.int .i32 3655), .lit (.int .i32 3662)], .agg [.lit (.int .i32 6832), .lit (.int .i32 6911)], .agg [.lit (.int .i32 7616), .lit (.int .i32 7679)], .agg [.lit (.int .i32 8203), .lit (.int .i32 8207)], .agg [.lit (.int .i32 8400), .lit (.int .i32 8447)], .agg [.lit (.int .i32 12441), .lit (.int .i32 12442)], .agg [.lit (.int .i32 65024), .lit (.int .i32 65039)], .agg [.lit (.int .i32 65056), .lit (.int .i32 65071)]]
def laid_lanyard_ucell_wide {H : Type} : DataW H := .agg [.agg [.lit (.int .i32 4352), .lit (.int .i32 4447)], .agg [.lit (.int .i32 11904), .lit (.int .i32 12350)], .agg [.lit (.int .i32 12353), .lit (.int .i32 13311)], .agg [.lit (.int .i32 13312), .lit (.int .i32 19903)], .agg [.lit (.int .i32 19968), .lit (.int .i32 40959)], .agg [.lit (.int .i32 40960), .lit (.int .i32 42191)], .agg [.lit (.int .i32 44032), .lit (.int .i32 55203)], .agg [.lit (.int .i32 63744), .lit (.int .i32 64255)], .agg [.lit (.int .i32 65072), .lit (.int .i32 65135)], .agg [.lit (.int .i32 65280), .lit (.int .i32 65376)], .agg [.lit (.int .i32 65504), .lit (.int .i32 65510)], .agg [.lit (.int .i32 127744), .lit (.int .i32 128591)], .agg [.lit (.int .i32 129280), .lit (.int .i32 129535)], .agg [.lit (.int .i32 131072), .lit (.int .i32 262141)]]
/-- One of Go's own tables, pinned by name: the form's constant. -/
def laid_unicode_utf8_first : DataW Unit := Go.Pinned.utf8First

/-- 'lanyardlaw23.LayoutFits': WHATEVER THE INPUT: true; the input reads as it did. -/
def layoutFitsSpec : ChangeSpec := { name := "layoutFits", fn := fun _ => fun
  | [d] => { results := [.lit (.bool true)], args := [d] }
  | _ => none }
def layoutFitsRow : OpenClaim := { program := "ythegkipclogoeaadoor", sum := "b9a8f4aec52d7e09540fa11b352dec9943a46ab5ee12bf739591275c3e257c91", func := "lanyard/lanyardlaw23.LayoutFits", spec := "layoutFits", inPlace := ["internal/bytealg.IndexByteString", "internal/bytealg.IndexString"], unfollowed := true, recurses := true, named := ["lanyard/ucell.none", "lanyard/ucell.wide", "unicode/utf8.first", "unicode/utf8.acceptRanges", "internal/bytealg.MaxLen"], apart := false, laid := [("unicode/utf8.acceptRanges", laid_unicode_utf8_acceptRanges), ("lanyard/ucell.none", laid_lanyard_ucell_none), ("lanyard/ucell.wide", laid_lanyard_ucell_wide), ("unicode/utf8.first", laid_unicode_utf8_first)] }
def LayoutFitsSaid : Prop := layoutFitsRow.holds Tryd.pinned (OpenSpec.ofChange layoutFitsSpec)

/-- ITS FALSE NEIGHBOUR: 'it returns false'. Refute it at one input. -/
def layoutFitsWrong : ChangeSpec := { name := "layoutFits", fn := fun _ => fun
  | [d] => { results := [.lit (.bool false)], args := [d] }
  | _ => none }
def LayoutFitsWrongFalsely : Prop := layoutFitsRow.holds Tryd.pinned (OpenSpec.ofChange layoutFitsWrong)

/-- 'lanyardlaw23.LayoutFlows': WHATEVER THE INPUT: true; the input reads as it did. -/
def layoutFlowsSpec : ChangeSpec := { name := "layoutFlows", fn := fun _ => fun
  | [d1, d2] => { results := [.lit (.bool true)], args := [d1, d2] }
  | _ => none }
def layoutFlowsRow : OpenClaim := { program := "ythegkipclogoeaadoor", sum := "b9a8f4aec52d7e09540fa11b352dec9943a46ab5ee12bf739591275c3e257c91", func := "lanyard/lanyardlaw23.LayoutFlows", spec := "layoutFlows", inPlace := ["internal/bytealg.IndexByteString", "internal/bytealg.IndexString"], unfollowed := true, recurses := true, named := ["lanyard/ucell.none", "lanyard/ucell.wide", "unicode/utf8.first", "unicode/utf8.acceptRanges", "internal/bytealg.MaxLen"], apart := false, laid := [("unicode/utf8.acceptRanges", laid_unicode_utf8_acceptRanges), ("lanyard/ucell.none", laid_lanyard_ucell_none), ("lanyard/ucell.wide", laid_lanyard_ucell_wide), ("unicode/utf8.first", laid_unicode_utf8_first)] }
def LayoutFlowsSaid : Prop := layoutFlowsRow.holds Tryd.pinned (OpenSpec.ofChange layoutFlowsSpec)

/-- ITS FALSE NEIGHBOUR: 'it returns false'. Refute it at one input. -/
def layoutFlowsWrong : ChangeSpec := { name := "layoutFlows", fn := fun _ => fun
  | [d1, d2] => { results := [.lit (.bool false)], args := [d1, d2] }
  | _ => none }
def LayoutFlowsWrongFalsely : Prop := layoutFlowsRow.holds Tryd.pinned (OpenSpec.ofChange layoutFlowsWrong)

/-- 'lanyardlaw23.LayoutGrows': WHATEVER THE INPUT: true; the input reads as it did. -/
def layoutGrowsSpec : ChangeSpec := { name := "layoutGrows", fn := fun _ => fun
  | [d1, d2] => { results := [.lit (.bool true)], args := [d1, d2] }
  | _ => none }
def layoutGrowsRow : OpenClaim := { program := "ythegkipclogoeaadoor", sum := "b9a8f4aec52d7e09540fa11b352dec9943a46ab5ee12bf739591275c3e257c91", func := "lanyard/lanyardlaw23.LayoutGrows", spec := "layoutGrows", inPlace := ["internal/bytealg.IndexByteString", "internal/bytealg.IndexString"], unfollowed := true, recurses := true, named := ["lanyard/ucell.none", "lanyard/ucell.wide", "unicode/utf8.first", "unicode/utf8.acceptRanges", "internal/bytealg.MaxLen"], apart := false, laid := [("unicode/utf8.acceptRanges", laid_unicode_utf8_acceptRanges), ("lanyard/ucell.none", laid_lanyard_ucell_none), ("lanyard/ucell.wide", laid_lanyard_ucell_wide), ("unicode/utf8.first", laid_unicode_utf8_first)] }
def LayoutGrowsSaid : Prop := layoutGrowsRow.holds Tryd.pinned (OpenSpec.ofChange layoutGrowsSpec)

/-- ITS FALSE NEIGHBOUR: 'it returns false'. Refute it at one input. -/
def layoutGrowsWrong : ChangeSpec := { name := "layoutGrows", fn := fun _ => fun
  | [d1, d2] => { results := [.lit (.bool false)], args := [d1, d2] }
  | _ => none }
def LayoutGrowsWrongFalsely : Prop := layoutGrowsRow.holds Tryd.pinned (OpenSpec.ofChange layoutGrowsWrong)

/-- 'lanyardlaw23.LayoutPoints': WHATEVER THE INPUT: true; the input reads as it did. -/
def layoutPointsSpec : ChangeSpec := { name := "layoutPoints", fn := fun _ => fun
  | [d] => { results := [.lit (.bool true)], args := [d] }
  | _ => none }
def layoutPointsRow : OpenClaim := { program := "ythegkipclogoeaadoor", sum := "b9a8f4aec52d7e09540fa11b352dec9943a46ab5ee12bf739591275c3e257c91", func := "lanyard/lanyardlaw23.LayoutPoints", spec := "layoutPoints", inPlace := ["internal/bytealg.IndexByteString", "internal/bytealg.IndexString"], unfollowed := true, recurses := true, named := ["lanyard/ucell.none", "lanyard/ucell.wide", "unicode/utf8.first", "unicode/utf8.acceptRanges", "internal/bytealg.MaxLen"], apart := false, laid := [("unicode/utf8.acceptRanges", laid_unicode_utf8_acceptRanges), ("lanyard/ucell.none", laid_lanyard_ucell_none), ("lanyard/ucell.wide", laid_lanyard_ucell_wide), ("unicode/utf8.first", laid_unicode_utf8_first)] }
def LayoutPointsSaid : Prop := layoutPointsRow.holds Tryd.pinned (OpenSpec.ofChange layoutPointsSpec)

/-- ITS FALSE NEIGHBOUR: 'it returns false'. Refute it at one input. -/
def layoutPointsWrong : ChangeSpec := { name := "layoutPoints", fn := fun _ => fun
  | [d] => { results := [.lit (.bool false)], args := [d] }
  | _ => none }
def LayoutPointsWrongFalsely : Prop := layoutPointsRow.holds Tryd.pinned (OpenSpec.ofChange layoutPointsWrong)

/-- 'lanyardlaw23.LayoutOwn': WHATEVER THE INPUT: true; the input reads as it did. -/
def layoutOwnSpec : ChangeSpec := { name := "layoutOwn", fn := fun _ => fun
  | [d1, d2] => { results := [.lit (.bool true)], args := [d1, d2] }
  | _ => none }
def layoutOwnRow : OpenClaim := { program := "ythegkipclogoeaadoor", sum := "b9a8f4aec52d7e09540fa11b352dec9943a46ab5ee12bf739591275c3e257c91", func := "lanyard/lanyardlaw23.LayoutOwn", spec := "layoutOwn", inPlace := ["internal/bytealg.IndexByteString", "internal/bytealg.IndexString"], unfollowed := true, recurses := true, named := ["lanyard/ucell.none", "lanyard/ucell.wide", "unicode/utf8.first", "unicode/utf8.acceptRanges", "internal/bytealg.MaxLen"], apart := false, laid := [("unicode/utf8.acceptRanges", laid_unicode_utf8_acceptRanges), ("lanyard/ucell.none", laid_lanyard_ucell_none), ("lanyard/ucell.wide", laid_lanyard_ucell_wide), ("unicode/utf8.first", laid_unicode_utf8_first)] }
def LayoutOwnSaid : Prop := layoutOwnRow.holds Tryd.pinned (OpenSpec.ofChange layoutOwnSpec)

/-- ITS FALSE NEIGHBOUR: 'it returns false'. Refute it at one input. -/
def layoutOwnWrong : ChangeSpec := { name := "layoutOwn", fn := fun _ => fun
  | [d1, d2] => { results := [.lit (.bool false)], args := [d1, d2] }
  | _ => none }
def LayoutOwnWrongFalsely : Prop := layoutOwnRow.holds Tryd.pinned (OpenSpec.ofChange layoutOwnWrong)

/-- 'lanyardlaw23.LayoutSame': WHATEVER THE INPUT: true; the input reads as it did. -/
def layoutSameSpec : ChangeSpec := { name := "layoutSame", fn := fun _ => fun
  | [d1, d2] => { results := [.lit (.bool true)], args := [d1, d2] }
  | _ => none }
def layoutSameRow : OpenClaim := { program := "ythegkipclogoeaadoor", sum := "b9a8f4aec52d7e09540fa11b352dec9943a46ab5ee12bf739591275c3e257c91", func := "lanyard/lanyardlaw23.LayoutSame", spec := "layoutSame", inPlace := ["internal/bytealg.IndexByteString", "internal/bytealg.IndexString"], unfollowed := true, recurses := true, named := ["lanyard/ucell.none", "lanyard/ucell.wide", "unicode/utf8.first", "unicode/utf8.acceptRanges", "internal/bytealg.MaxLen"], apart := false, laid := [("unicode/utf8.acceptRanges", laid_unicode_utf8_acceptRanges), ("lanyard/ucell.none", laid_lanyard_ucell_none), ("lanyard/ucell.wide", laid_lanyard_ucell_wide), ("unicode/utf8.first", laid_unicode_utf8_first)] }
def LayoutSameSaid : Prop := layoutSameRow.holds Tryd.pinned (OpenSpec.ofChange layoutSameSpec)

/-- ITS FALSE NEIGHBOUR: 'it returns false'. Refute it at one input. -/
def layoutSameWrong : ChangeSpec := { name := "layoutSame", fn := fun _ => fun
  | [d1, d2] => { results := [.lit (.bool false)], args := [d1, d2] }
  | _ => none }
def LayoutSameWrongFalsely : Prop := layoutSameRow.holds Tryd.pinned (OpenSpec.ofChange layoutSameWrong)

/-- 'lanyardlaw23.LayoutHides': WHATEVER THE INPUT: true; the input reads as it did. -/
def layoutHidesSpec : ChangeSpec := { name := "layoutHides", fn := fun _ => fun
  | [d] => { results := [.lit (.bool true)], args := [d] }
  | _ => none }
def layoutHidesRow : OpenClaim := { program := "ythegkipclogoeaadoor", sum := "b9a8f4aec52d7e09540fa11b352dec9943a46ab5ee12bf739591275c3e257c91", func := "lanyard/lanyardlaw23.LayoutHides", spec := "layoutHides", inPlace := ["internal/bytealg.IndexByteString", "internal/bytealg.IndexString"], unfollowed := true, recurses := true, named := ["lanyard/ucell.none", "lanyard/ucell.wide", "unicode/utf8.first", "unicode/utf8.acceptRanges", "internal/bytealg.MaxLen"], apart := false, laid := [("unicode/utf8.acceptRanges", laid_unicode_utf8_acceptRanges), ("lanyard/ucell.none", laid_lanyard_ucell_none), ("lanyard/ucell.wide", laid_lanyard_ucell_wide), ("unicode/utf8.first", laid_unicode_utf8_first)] }
def LayoutHidesSaid : Prop := layoutHidesRow.holds Tryd.pinned (OpenSpec.ofChange layoutHidesSpec)

/-- ITS FALSE NEIGHBOUR: 'it returns false'. Refute it at one input. -/
def layoutHidesWrong : ChangeSpec := { name := "layoutHides", fn := fun _ => fun
  | [d] => { results := [.lit (.bool false)], args := [d] }
  | _ => none }
def LayoutHidesWrongFalsely : Prop := layoutHidesRow.holds Tryd.pinned (OpenSpec.ofChange layoutHidesWrong)

/- THE SECOND FORM. 'bulk': how many values and letters a reading holds, each counted each time it is reached (what is shared counts as often as it is met; a slice's spare places count too). A statement '..UptoSaid' is the law's where the arguments, and the package variables that the reading takes, are together of bulk at most 1048576: NARROWER than '..Said'. Prove '..Said' where nothing that the law and all that it calls make is longer than what came in: it says more and counts as full. Else prove '..UptoSaid'. A law counts once. -/
mutual
def uptoBulk {H : Type} : DataW H → Nat
  | .lit (.string bytes) => bytes.length + 1
  | .lit _ => 1
  | .nil => 1
  | .ptr d => uptoBulk d + 1
  | .slice elems spare => uptoBulkAll elems + uptoBulkAll spare + 1
  | .agg parts => uptoBulkAll parts + 1
  | .iface _ d => uptoBulk d + 1
  | .map entries => uptoBulkEntries entries + 1
  | .held _ => 1
def uptoBulkAll {H : Type} : List (DataW H) → Nat
  | [] => 0
  | d :: r => uptoBulk d + uptoBulkAll r
def uptoBulkEntries {H : Type} : List (Lit × DataW H) → Nat
  | [] => 0
  | x :: r => uptoBulkEntry x + uptoBulkEntries r
def uptoBulkEntry {H : Type} : Lit × DataW H → Nat
  | (.string bytes, d) => bytes.length + uptoBulk d + 1
  | (_, d) => uptoBulk d + 1
 end
def uptoSmall : (H : Type) → List (DataW H) → Bool := fun _ ds => decide (uptoBulkAll ds ≤ 1048576)
def OpenSpec.upto (s : _root_.Go.ChangeSpec) : _root_.Go.OpenSpec := { _root_.Go.OpenSpec.ofChange s with cond := some uptoSmall }

/-- 'lanyardlaw23.LayoutFits', WHERE WHAT IT READS IS OF BULK AT MOST 1048576: true; the input reads as it did. -/
def layoutFitsUptoRow : OpenClaim := { program := "ythegkipclogoeaadoor", sum := "b9a8f4aec52d7e09540fa11b352dec9943a46ab5ee12bf739591275c3e257c91", func := "lanyard/lanyardlaw23.LayoutFits", spec := "layoutFits", inPlace := ["internal/bytealg.IndexByteString", "internal/bytealg.IndexString"], unfollowed := true, recurses := true, named := ["lanyard/ucell.none", "lanyard/ucell.wide", "unicode/utf8.first", "unicode/utf8.acceptRanges", "internal/bytealg.MaxLen"], apart := false, laid := [("unicode/utf8.acceptRanges", laid_unicode_utf8_acceptRanges), ("lanyard/ucell.none", laid_lanyard_ucell_none), ("lanyard/ucell.wide", laid_lanyard_ucell_wide), ("unicode/utf8.first", laid_unicode_utf8_first)], narrowed := true }
def LayoutFitsUptoSaid : Prop := layoutFitsUptoRow.holds Tryd.pinned (OpenSpec.upto layoutFitsSpec)

/-- 'lanyardlaw23.LayoutFlows', WHERE WHAT IT READS IS OF BULK AT MOST 1048576: true; the input reads as it did. -/
def layoutFlowsUptoRow : OpenClaim := { program := "ythegkipclogoeaadoor", sum := "b9a8f4aec52d7e09540fa11b352dec9943a46ab5ee12bf739591275c3e257c91", func := "lanyard/lanyardlaw23.LayoutFlows", spec := "layoutFlows", inPlace := ["internal/bytealg.IndexByteString", "internal/bytealg.IndexString"], unfollowed := true, recurses := true, named := ["lanyard/ucell.none", "lanyard/ucell.wide", "unicode/utf8.first", "unicode/utf8.acceptRanges", "internal/bytealg.MaxLen"], apart := false, laid := [("unicode/utf8.acceptRanges", laid_unicode_utf8_acceptRanges), ("lanyard/ucell.none", laid_lanyard_ucell_none), ("lanyard/ucell.wide", laid_lanyard_ucell_wide), ("unicode/utf8.first", laid_unicode_utf8_first)], narrowed := true }
def LayoutFlowsUptoSaid : Prop := layoutFlowsUptoRow.holds Tryd.pinned (OpenSpec.upto layoutFlowsSpec)

/-- 'lanyardlaw23.LayoutGrows', WHERE WHAT IT READS IS OF BULK AT MOST 1048576: true; the input reads as it did. -/
def layoutGrowsUptoRow : OpenClaim := { program := "ythegkipclogoeaadoor", sum := "b9a8f4aec52d7e09540fa11b352dec9943a46ab5ee12bf739591275c3e257c91", func := "lanyard/lanyardlaw23.LayoutGrows", spec := "layoutGrows", inPlace := ["internal/bytealg.IndexByteString", "internal/bytealg.IndexString"], unfollowed := true, recurses := true, named := ["lanyard/ucell.none", "lanyard/ucell.wide", "unicode/utf8.first", "unicode/utf8.acceptRanges", "internal/bytealg.MaxLen"], apart := false, laid := [("unicode/utf8.acceptRanges", laid_unicode_utf8_acceptRanges), ("lanyard/ucell.none", laid_lanyard_ucell_none), ("lanyard/ucell.wide", laid_lanyard_ucell_wide), ("unicode/utf8.first", laid_unicode_utf8_first)], narrowed := true }
def LayoutGrowsUptoSaid : Prop := layoutGrowsUptoRow.holds Tryd.pinned (OpenSpec.upto layoutGrowsSpec)

/-- 'lanyardlaw23.LayoutPoints', WHERE WHAT IT READS IS OF BULK AT MOST 1048576: true; the input reads as it did. -/
def layoutPointsUptoRow : OpenClaim := { program := "ythegkipclogoeaadoor", sum := "b9a8f4aec52d7e09540fa11b352dec9943a46ab5ee12bf739591275c3e257c91", func := "lanyard/lanyardlaw23.LayoutPoints", spec := "layoutPoints", inPlace := ["internal/bytealg.IndexByteString", "internal/bytealg.IndexString"], unfollowed := true, recurses := true, named := ["lanyard/ucell.none", "lanyard/ucell.wide", "unicode/utf8.first", "unicode/utf8.acceptRanges", "internal/bytealg.MaxLen"], apart := false, laid := [("unicode/utf8.acceptRanges", laid_unicode_utf8_acceptRanges), ("lanyard/ucell.none", laid_lanyard_ucell_none), ("lanyard/ucell.wide", laid_lanyard_ucell_wide), ("unicode/utf8.first", laid_unicode_utf8_first)], narrowed := true }
def LayoutPointsUptoSaid : Prop := layoutPointsUptoRow.holds Tryd.pinned (OpenSpec.upto layoutPointsSpec)

/-- 'lanyardlaw23.LayoutOwn', WHERE WHAT IT READS IS OF BULK AT MOST 1048576: true; the input reads as it did. -/
def layoutOwnUptoRow : OpenClaim := { program := "ythegkipclogoeaadoor", sum := "b9a8f4aec52d7e09540fa11b352dec9943a46ab5ee12bf739591275c3e257c91", func := "lanyard/lanyardlaw23.LayoutOwn", spec := "layoutOwn", inPlace := ["internal/bytealg.IndexByteString", "internal/bytealg.IndexString"], unfollowed := true, recurses := true, named := ["lanyard/ucell.none", "lanyard/ucell.wide", "unicode/utf8.first", "unicode/utf8.acceptRanges", "internal/bytealg.MaxLen"], apart := false, laid := [("unicode/utf8.acceptRanges", laid_unicode_utf8_acceptRanges), ("lanyard/ucell.none", laid_lanyard_ucell_none), ("lanyard/ucell.wide", laid_lanyard_ucell_wide), ("unicode/utf8.first", laid_unicode_utf8_first)], narrowed := true }
def LayoutOwnUptoSaid : Prop := layoutOwnUptoRow.holds Tryd.pinned (OpenSpec.upto layoutOwnSpec)

/-- 'lanyardlaw23.LayoutSame', WHERE WHAT IT READS IS OF BULK AT MOST 1048576: true; the input reads as it did. -/
def layoutSameUptoRow : OpenClaim := { program := "ythegkipclogoeaadoor", sum := "b9a8f4aec52d7e09540fa11b352dec9943a46ab5ee12bf739591275c3e257c91", func := "lanyard/lanyardlaw23.LayoutSame", spec := "layoutSame", inPlace := ["internal/bytealg.IndexByteString", "internal/bytealg.IndexString"], unfollowed := true, recurses := true, named := ["lanyard/ucell.none", "lanyard/ucell.wide", "unicode/utf8.first", "unicode/utf8.acceptRanges", "internal/bytealg.MaxLen"], apart := false, laid := [("unicode/utf8.acceptRanges", laid_unicode_utf8_acceptRanges), ("lanyard/ucell.none", laid_lanyard_ucell_none), ("lanyard/ucell.wide", laid_lanyard_ucell_wide), ("unicode/utf8.first", laid_unicode_utf8_first)], narrowed := true }
def LayoutSameUptoSaid : Prop := layoutSameUptoRow.holds Tryd.pinned (OpenSpec.upto layoutSameSpec)

/-- 'lanyardlaw23.LayoutHides', WHERE WHAT IT READS IS OF BULK AT MOST 1048576: true; the input reads as it did. -/
def layoutHidesUptoRow : OpenClaim := { program := "ythegkipclogoeaadoor", sum := "b9a8f4aec52d7e09540fa11b352dec9943a46ab5ee12bf739591275c3e257c91", func := "lanyard/lanyardlaw23.LayoutHides", spec := "layoutHides", inPlace := ["internal/bytealg.IndexByteString", "internal/bytealg.IndexString"], unfollowed := true, recurses := true, named := ["lanyard/ucell.none", "lanyard/ucell.wide", "unicode/utf8.first", "unicode/utf8.acceptRanges", "internal/bytealg.MaxLen"], apart := false, laid := [("unicode/utf8.acceptRanges", laid_unicode_utf8_acceptRanges), ("lanyard/ucell.none", laid_lanyard_ucell_none), ("lanyard/ucell.wide", laid_lanyard_ucell_wide), ("unicode/utf8.first", laid_unicode_utf8_first)], narrowed := true }
def LayoutHidesUptoSaid : Prop := layoutHidesUptoRow.holds Tryd.pinned (OpenSpec.upto layoutHidesSpec)

end Rows
end Go.Proofs.YthegkipclogoeaaDoor
