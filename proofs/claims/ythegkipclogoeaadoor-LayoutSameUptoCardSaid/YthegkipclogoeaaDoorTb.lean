/- Layer 23: the tables of package ucell, as the rows list them. -/
import Derived.Test.YthegkipclogoeaaDoorRl
import Derived.Test.YthegkipclogoeaaDoorRows
import Derived.Lib.LaidU8
set_option linter.unusedVariables false
set_option maxRecDepth 100000
namespace Go.Proofs.YthegkipclogoeaaDoor
open Go.AM Go.LTxt Go.LMem Go.RowKit Go.Lib
def laid4 : List (String × DataW Unit) := [("unicode/utf8.acceptRanges", Rows.laid_unicode_utf8_acceptRanges), ("lanyard/ucell.none", Rows.laid_lanyard_ucell_none), ("lanyard/ucell.wide", Rows.laid_lanyard_ucell_wide), ("unicode/utf8.first", Rows.laid_unicode_utf8_first)]
def fs2 : Array Field := #[{ name := "from", type := 21, offset := 0, embedded := false, tag := "", pkgPath := "lanyard/ucell", byteOffset := 0 }, { name := "to", type := 21, offset := 1, embedded := false, tag := "", pkgPath := "lanyard/ucell", byteOffset := 4 }]
def tabD (rows : List (List Int)) : DataW Unit := .agg (rows.map fun r => .agg (r.map fun z => .lit (.int .i32 z)))
theorem none_eq : (Rows.laid_lanyard_ucell_none : DataW Unit) = tabD noneT := by kernel_rfl
theorem wide_eq : (Rows.laid_lanyard_ucell_wide : DataW Unit) = tabD wideT := by kernel_rfl
theorem plainH (W : World) : laidMetH Tryd.prog laid4 W = laidMet Tryd.prog laid4 W := by kernel_rfl
theorem tab_of {W : World} (h : laidMet Tryd.prog laid4 W) {nm : String} {rows : List (List Int)} {g0 : Nat} {T : TypeId} {n : Nat} (hm : (nm, tabD rows) ∈ laid4) (hg0 : Tryd.prog.globalNamed nm = some g0)
    (hT : (Tryd.prog.globals[g0]?).map (·.type) = some T) (hu : Tryd.prog.underlying T = some (.array n 60)) (hn : rows.length = n) {i j : Nat} {row : List Int} {z : Int} (hi : rows[i]? = some row) (hz : row[j]? = some z) (hj : j < 2) :
    W.cell? ⟨g0, i * 2 + j, none⟩ = some (.int .i32 z) := by
  obtain ⟨g, t, cs, fuel, p, hg, hty, hvar, hd⟩ := laidMet.reads h (n := nm) (d := tabD rows) hm
  obtain rfl := Option.some.inj (hg0.symm.trans hg)
  obtain rfl := Option.some.inj (hT.symm.trans hty)
  have hin : i < n := by rw [← hn]; exact (List.getElem?_eq_some_iff.1 hi).1
  obtain ⟨fuel', d, q, hdi, he⟩ := array_elem (n := n) (e := 60) hu hd i hin
  rw [List.getElem?_map, hi] at hdi
  simp only [Option.map_some, Option.some.injEq] at hdi
  subst hdi
  rw [show Tryd.prog.cellsOf 60 = 2 by kernel_rfl] at he
  have hcs := ints_of_struct (t := 60) (fs := fs2) (by kernel_rfl) (fun j f hj => by
    match j, hj with
    | 0, hj => simp [fs2] at hj; subst hj; exact ⟨by kernel_rfl, rfl, by kernel_rfl⟩
    | 1, hj => simp [fs2] at hj; subst hj; exact ⟨by kernel_rfl, rfl, by kernel_rfl⟩
    | j + 2, hj => simp [fs2] at hj) (by kernel_rfl) he
  have e := congrArg (·[j]?) hcs
  simp only [List.getElem?_take, List.getElem?_drop, List.getElem?_map, hz, Option.map_some] at e
  rw [if_pos hj] at e
  rw [World.var?_cell hg hvar (i * 2 + j), ← Array.getElem?_toList]
  exact e
theorem tabs_laid {W : World} (h : laidMetH Tryd.prog laid4 W) : (∀ g o u, T0 g o u → W.cell? ⟨g, o, none⟩ = some u) ∧ ∀ g, R1 g → T1 g W.heap[g]? := by
  rw [plainH] at h
  refine ⟨?_, fun _ h => h.elim⟩
  rintro g o u ⟨ks, rows, hk, i, j, row, k, z, hi, hj, hz, rfl, rfl⟩
  have fin : ∀ {rows : List (List Int)} {ks : List IntKind} {g0 T n : Nat} {nm : String}, ks = [.i32, .i32] → ks[j]? = some k → rows[i]? = some row → (nm, tabD rows) ∈ laid4 → Tryd.prog.globalNamed nm = some g0 → (Tryd.prog.globals[g0]?).map (·.type) = some T → Tryd.prog.underlying T = some (.array n 60) → rows.length = n →
      W.cell? ⟨g0, i * ks.length + j, none⟩ = some (.int k z) := by
    intro rows ks g0 T n nm e1 e2 e3 e4 e5 e6 e7 e8
    subst e1
    have hj2 : j < 2 := (List.getElem?_eq_some_iff.1 e2).1
    have hk : k = .i32 := by
      match j, e2 with
      | 0, e2 => simp at e2; exact e2.symm
      | 1, e2 => simp at e2; exact e2.symm
      | j + 2, e2 => simp at e2
    subst hk
    exact tab_of h e4 e5 e6 e7 e8 e3 hz hj2
  unfold tabI at hk
  split at hk
  · rename_i hg
    have hg := Nat.eq_of_beq_eq_true hg
    cases hk
    subst hg
    exact fin rfl hj hi (nm := "lanyard/ucell.none") (by rw [← none_eq]; simp [laid4]) (by kernel_rfl) (T := 61) (n := 15) (by kernel_rfl) (by kernel_rfl) (by decide)
  · split at hk
    · rename_i hg
      have hg := Nat.eq_of_beq_eq_true hg
      cases hk
      subst hg
      exact fin rfl hj hi (nm := "lanyard/ucell.wide") (by rw [← wide_eq]; simp [laid4]) (by kernel_rfl) (T := 62) (n := 14) (by kernel_rfl) (by kernel_rfl) (by decide)
    · cases hk
end Go.Proofs.YthegkipclogoeaaDoor
