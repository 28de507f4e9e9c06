/- Layer 23: the bulk of what comes in. -/
import Derived.Test.YthegkipclogoeaaDoorRows
import Derived.Test.YthegkipclogoeaaDoorAmLaw
set_option linter.unusedVariables false
namespace Go.Proofs.YthegkipclogoeaaDoor
open Go.AM Go.LTxt Go.LMem Go.RowKit
theorem bulk_one {H : Type} (d : DataW H) : 1 ≤ Rows.uptoBulk d := by
  cases d with
  | lit l => cases l <;> simp [Rows.uptoBulk]
  | _ => simp [Rows.uptoBulk]
theorem bulk_len {H : Type} : ∀ (l : List (DataW H)), l.length ≤ Rows.uptoBulkAll l
  | [] => by simp [Rows.uptoBulkAll]
  | x :: r => by have h1 := bulk_one x; have h2 := bulk_len r; simp only [Rows.uptoBulkAll, List.length_cons]; omega
theorem bulk_mem {H : Type} {d : DataW H} : ∀ {l : List (DataW H)}, d ∈ l → Rows.uptoBulk d ≤ Rows.uptoBulkAll l
  | x :: r, h => by
    simp only [Rows.uptoBulkAll]
    rcases List.mem_cons.1 h with rfl | h
    · omega
    · have := bulk_mem h; omega
theorem slice_len {H : Type} (s : Sh) (d : DataW H) : (toDat (.slice s) d).toList.length ≤ Rows.uptoBulk d := by
  cases d with
  | slice elems spare =>
    simp only [toDat, Dat.toList, List.length_map, Rows.uptoBulk]
    have := bulk_len elems
    omega
  | _ => simp only [toDat, Dat.toList, List.length_nil]; omega
theorem bound {H : Type} {l : List (DataW H)} (hk : Rows.uptoSmall H l = true) : Rows.uptoBulkAll l ≤ 1048576 := by
  unfold Rows.uptoSmall at hk
  exact of_decide_eq_true hk
end Go.Proofs.YthegkipclogoeaaDoor
