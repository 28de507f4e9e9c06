/- Structs and slices that are put together; fields, elements, parts. -/
import Derived.Test.YthegkipclogoeaaDoorAmOp5
import Derived.Laws.Tables
set_option linter.unusedVariables false
set_option linter.unusedSimpArgs false
namespace Go
namespace AM
open LMem LTxt
section
variable {P : Program} {own : Own} {h : AH} {w : World}
theorem foldl_splice : ∀ (vs : List Value) (k off : Nat) (cs : Array Value), off + k + vs.length ≤ cs.size →
    ((vs.zipIdx k).foldl (fun cs x => cs.setIfInBounds (off + x.2) x.1) cs).toList = cs.toList.take (off + k) ++ (vs ++ cs.toList.drop (off + k + vs.length))
  | [], k, off, cs, _ => by simp
  | v :: vs, k, off, cs, hle => by
    simp only [List.zipIdx_cons, List.foldl_cons]
    simp only [List.length_cons] at hle
    rw [foldl_splice vs (k + 1) off _ (by simp; omega)]
    simp only [Array.toList_setIfInBounds, List.length_cons]
    rw [show off + (k + 1) = off + k + 1 by omega, show off + k + (vs.length + 1) = off + k + 1 + vs.length by omega]
    rw [List.take_add_one, List.drop_set_of_lt (by omega), List.take_set_of_le (Nat.le_refl _)]
    have : (cs.toList.set (off + k) v)[off + k]? = some v := by
      rw [List.getElem?_set]; simp; omega
    rw [this]
    simp
theorem fill_sound {own : Own} {C : CellsP} {pa pc : Nat → Option (Nat × Nat)} {ra : Operand → AV} {rc : Operand → Value} (hr : ∀ x, VR own C (ra x) (rc x)) (hp : ∀ i x, pa i = some x → pc i = some x) :
    ∀ {ps : List (Nat × Operand)} {l l' : List AV} {cs : Array Value}, VRs own C l cs.toList → ones l = true → fillA pa l (ps.map fun x => (x.1, ra x.2)) = some l' →
      ∃ cs', Instr.fill pc cs (ps.map fun x => (x.1, rc x.2)) = some cs' ∧ VRs own C l' cs'.toList ∧ ones l' = true ∧ l'.length = l.length
  | [], l, l', cs, hv, h1, hf => by
    simp only [List.map_nil, fillA, Option.some.injEq] at hf
    subst hf
    exact ⟨cs, rfl, hv, h1, rfl⟩
  | (i, x) :: ps, l, l', cs, hv, h1, hf => by
    simp only [List.map_cons, fillA] at hf
    split at hf
    · cases hf
    · rename_i off size hpi
      split at hf
      · rename_i hc
        obtain ⟨hsz, hone, hle⟩ := hc
        have hcv := cells_VRs (hr x) hone
        have hlen : (rc x).cells.size = (ra x).cells.length := by have := hcv.length; simpa using this
        have hcl := hv.length
        simp at hcl
        have hfold := foldl_splice (rc x).cells.toList 0 off cs (by simp; omega)
        have hsp := splice_VRs (off := off) hv hcv
        obtain ⟨cs', h2, h3, h4, h5⟩ := fill_sound hr hp (cs := ((rc x).cells.zipIdx.foldl (fun cs x => cs.setIfInBounds (off + x.2) x.1) cs)) (ps := ps) (by
          rw [← Array.foldl_toList, Array.toList_zipIdx, hfold]
          simpa using hsp) (splice_ones h1 hone) hf
        refine ⟨cs', ?_, h3, h4, ?_⟩
        · simp only [List.map_cons, Instr.fill, hp _ _ hpi]
          rw [if_neg (by simp only [Bool.or_eq_true, decide_eq_true_eq, ne_eq]; omega)]
          exact h2
        · rw [h5]; unfold splice; simp; omega
      · cases hf
theorem places_opt : ∀ {fs : List Field}, fs.all (fun f => (P.info? f.type).isSome) = true →
    fs.mapM (fun f => (P.info? f.type).map fun i => (f.offset, i.size)) = some (fs.map fun f => (f.offset, P.cellsOf f.type))
  | [], _ => rfl
  | f :: fs, hB => by
    simp only [List.all_cons, Bool.and_eq_true] at hB
    obtain ⟨i, hi⟩ := Option.isSome_iff_exists.1 hB.1
    simp only [List.mapM_cons, hi, places_opt hB.2, List.map_cons]
    simp [Program.cellsOf, hi]
theorem build_good {t : TypeId} {ps : Array (Nat × Operand)} {ra : Operand → AV} {rc : Operand → Value} {K : AV → AH → Prop} (H : HR own h w) (hr : ∀ x, VR own (Cw own h w) (ra x) (rc x)) (hf : buildK P t (ps.toList.map fun x => (x.1, ra x.2)) fun v => K v h) :
    Good P own h w K ((Instr.build t (ps.map fun x => (x.1, rc x.2))).run P w) := by
  unfold buildK at hf
  split at hf
  · rename_i z fs hz hu
    obtain ⟨i, zv, hi, hzv, hsz, rfl, h1⟩ := zeroA_spec hz
    split at hf
    · rename_i hB
      split at hf
      · rename_i l hl
        obtain ⟨cs', h2, h3, _, _⟩ := fill_sound (pc := fun j => (fs.map fun f => (f.offset, P.cellsOf f.type))[j]?) hr (fun j x hx => by
          unfold fieldP at hx
          split at hx
          · rename_i f hf'
            split at hx
            · rename_i k hk
              cases hx
              rw [Array.getElem?_map, hf']
              simp [Program.cellsOf, hk]
            · cases hx
          · cases hx) (VRs.consts zv.cells.toList) h1 hl
        refine .pure H (v := .agg cs') ?_ (by simp only [VR]; exact ⟨_, rfl, h3⟩) hf
        refine run_build w t _ cs' ?_
        unfold Program.built
        simp only [hi, hu, hzv, places_opt hB]
        simpa using h2
      · exact hf.elim
    · exact hf.elim
  · rename_i z n e hz hu
    obtain ⟨i, zv, hi, hzv, hsz, rfl, h1⟩ := zeroA_spec hz
    split at hf
    · rename_i j hj
      split at hf
      · rename_i l hl
        obtain ⟨cs', h2, h3, _, _⟩ := fill_sound (pc := fun i => some (i * j.size, j.size)) hr (fun _ _ h => h) (VRs.consts zv.cells.toList) h1 hl
        refine .pure H (v := .agg cs') ?_ (by simp only [VR]; exact ⟨_, rfl, h3⟩) hf
        refine run_build w t _ cs' ?_
        unfold Program.built
        simp only [hi, hu, hzv, hj]
        simpa using h2
      · exact hf.elim
    · exact hf.elim
  · exact hf.elim
end
end AM
end Go
