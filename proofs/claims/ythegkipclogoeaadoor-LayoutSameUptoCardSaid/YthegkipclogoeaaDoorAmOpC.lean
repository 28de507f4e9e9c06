/- Every operation that is no call of a Go function. -/
import Derived.Test.YthegkipclogoeaaDoorAmUn
set_option linter.unusedVariables false
set_option linter.unusedSimpArgs false
namespace Go
namespace AM
open LMem LTxt
section
variable {P : Program} {own : Own} {h : AH} {w : World}
theorem ev_VR {own : Own} {C : CellsP} {f : List AV} {a : Act} (hf : VRs own C f a.tmps.toList) (x : Operand) : VR own C (evA f x) (a.eval x) := by
  cases x with
  | tmp t =>
    simp only [evA, Act.eval]
    rw [List.getD_eq_getElem?_getD, Array.getD_eq_getD_getElem?, ← Array.getElem?_toList]
    cases ht : f[t]? with
    | none =>
      have : a.tmps.toList[t]? = none := by
        rw [List.getElem?_eq_none_iff] at ht ⊢
        rw [hf.length]; exact ht
      rw [this]
      simp only [Option.getD_none, au, VR]
    | some v =>
      obtain ⟨u, hu, hvu⟩ := hf.get ht
      rw [hu]
      exact hvu
  | const v =>
    simp only [evA, Act.eval]
    split
    · simp only [VR]
    · exact VR.c_iff.2 rfl
  | global g => exact VR.c_iff.2 rfl
  | func g => simp only [evA, Act.eval, VR]; exact ⟨#[], rfl, VRs.nil⟩
/-- what an operation comes to -/
def Done (P : Program) (own : Own) (h : AH) (w : World) (K : AV → AH → Prop) (r : Result Next) : Prop :=
  ∃ nx w' own' h' av, r = .ok nx w' ∧ HR own' h' w' ∧ Ext own h w own' h' w' ∧ K av h' ∧ ((∃ v, nx = .value v ∧ VR own' (Cw own' h' w') av v) ∨ (nx = .skip ∧ av = au))
theorem good_done {K : AV → AH → Prop} {s : Sem Value} (hg : Good P own h w K (s.run P w)) : Done P own h w K ((do pure (Next.value (← s)) : Sem Next).run P w) := by
  obtain ⟨v, w', own', h', av, h1, h2, h3, h4, h5⟩ := hg
  exact ⟨.value v, w', own', h', av, by simp [h1], h2, h3, h5, .inl ⟨v, rfl, h4⟩⟩
theorem done_pure {K : AV → AH → Prop} {s : Sem Value} (H : HR own h w) (hg : ∃ v av, s.run P w = .ok v w ∧ VR own (Cw own h w) av v ∧ K av h) : Done P own h w K ((do pure (Next.value (← s)) : Sem Next).run P w) := by
  obtain ⟨v, av, h1, h2, h3⟩ := hg
  exact ⟨.value v, w, own, h, av, by simp [h1], H, .refl _ _ _, h3, .inl ⟨v, rfl, h2⟩⟩
theorem args2 {l : Array Operand} {a b : Operand} (h : l.toList = [a, b]) : l = #[a, b] := Array.ext' h
theorem opK_done {E : List TypeId} {o : Oper} {ra : Operand → AV} {rc : Operand → Value} {K : AV → AH → Prop} (hE : ∀ t ∈ E, eqOK P t = true) (hr : ∀ x, VR own (Cw own h w) (ra x) (rc x)) (H : HR own h w) (hf : opK P E o.op ra h K) : Done P own h w K ((execOp rc o).run P w) := by
  obtain ⟨dst, op, type, pos, after, guard⟩ := o
  cases op <;> simp only [opK] at hf <;> try (exact hf.elim)
  case move x => exact ⟨_, w, own, h, _, rfl, H, .refl _ _ _, hf, .inl ⟨_, rfl, hr x⟩⟩
  case assign x => exact ⟨_, w, own, h, _, rfl, H, .refl _ _ _, hf, .inl ⟨_, rfl, hr x⟩⟩
  case pick c a b =>
    split at hf
    · rename_i e he
      have hc := hr c
      rw [he, VR.c_iff] at hc
      cases e
      · exact ⟨_, w, own, h, _, by simp [execOp, hc, asBool], H, .refl _ _ _, hf, .inl ⟨_, rfl, hr b⟩⟩
      · exact ⟨_, w, own, h, _, by simp [execOp, hc, asBool], H, .refl _ _ _, hf, .inl ⟨_, rfl, hr a⟩⟩
    · exact hf.elim
  case alloc e =>
    split at hf
    · exact good_done (alloc_good H ‹_› hf)
    · exact hf.elim
  case box e x =>
    split at hf
    · exact good_done (box_good H (hr x) ‹_› hf)
    · exact hf.elim
  case build t ps => exact good_done (build_good H hr hf)
  case buildSlice t n ps => exact good_done (buildSlice_good H hr hf)
  case load t a => exact done_pure H (loadK_run H (hr a) hf)
  case store t a v =>
    obtain ⟨w', h', h1, h2, h3, h4⟩ := storeK_good H (hr a) (hr v) hf
    exact ⟨.skip, w', own, h', au, by simp [execOp, h1], h2, h3, h4, .inr ⟨rfl, rfl⟩⟩
  case nilCheck x =>
    have hx := hr x
    unfold nilCheckK at hf
    split at hf
    · rename_i h1; rw [h1] at hx hf
      have hx' := hx
      simp only [VR] at hx
      obtain ⟨pl, ho, hx⟩ := hx
      rw [hx] at hx'
      exact ⟨_, w, own, h, _, by simp [execOp, hx], H, .refl _ _ _, hf, .inl ⟨_, rfl, hx'⟩⟩
    · rename_i h1; rw [h1] at hx hf
      have hx' := hx
      simp only [VR] at hx
      obtain ⟨pl, ho, hx⟩ := hx
      rw [hx] at hx'
      exact ⟨_, w, own, h, _, by simp [execOp, hx], H, .refl _ _ _, hf, .inl ⟨_, rfl, hx'⟩⟩
    · rename_i h1; rw [h1] at hx hf
      have hx' := hx
      simp only [VR] at hx
      obtain ⟨g, o, hx, _⟩ := hx
      rw [hx] at hx'
      exact ⟨_, w, own, h, _, by simp [execOp, hx], H, .refl _ _ _, hf, .inl ⟨_, rfl, hx'⟩⟩
    · rename_i h1; rw [h1] at hx hf
      have hx' := hx
      simp only [VR] at hx
      obtain ⟨cs, hx, _⟩ := hx
      rw [hx] at hx'
      exact ⟨_, w, own, h, _, by simp [execOp, hx], H, .refl _ _ _, hf, .inl ⟨_, rfl, hx'⟩⟩
    · exact hf.elim
  case binOp bo t x y yt =>
    obtain ⟨v, h1, h2⟩ := binK_run (ox := x) (oy := y) hE (hr x) (hr y) hf
    exact done_pure H ⟨v, _, h1 w, VR.c_iff.2 rfl, h2⟩
  case unOp uo t x =>
    obtain ⟨v, h1, h2⟩ := unK_run (P := P) (hr x) hf
    exact done_pure H ⟨v, _, h1 w, VR.c_iff.2 rfl, h2⟩
  case convert s d x => exact good_done (convK_good H (hr x) hf)
  case makeFunc fn first caps =>
    split at hf
    · rename_i g hfi
      have hfe : first = #[] := Array.ext' hfi
      subst hfe
      refine ⟨.value (.func (.func g) #[] (caps.map rc)), w, own, h, _, by simp [execOp, Instr.makeFunc], H, .refl _ _ _, hf, .inl ⟨_, rfl, ?_⟩⟩
      simp only [VR]
      refine ⟨_, rfl, ?_⟩
      rw [Array.toList_map]
      refine VRs.of_get (by simp) fun i a v h1 h2 => ?_
      rw [List.getElem?_map] at h1 h2
      cases hc : caps.toList[i]? with
      | none => rw [hc] at h1; cases h1
      | some x => rw [hc] at h1 h2; cases h1; cases h2; exact hr x
    · exact hf.elim
  case makeSlice t n c => exact good_done (makeSlice_good H (hr n) (hr c) hf)
  case slice t x lo hi mx =>
    obtain ⟨v, av, h1, h2, h3⟩ := slice_run (P := P) H hr (hr x) hf
    exact done_pure H ⟨v, av, h1 w, h2, h3⟩
  case fieldAddr s x i =>
    obtain ⟨v, av, h1, h2, h3⟩ := fieldAddr_run (hr x) hf
    exact done_pure H ⟨v, av, h1 w, h2, h3⟩
  case field t x i =>
    obtain ⟨v, av, h1, h2, h3⟩ := field_run (hr x) hf w
    exact done_pure H ⟨v, av, h1 w, h2, h3⟩
  case indexAddr t x i =>
    obtain ⟨v, av, h1, h2, h3⟩ := indexAddr_run (P := P) H (hr x) (hr i) hf
    exact done_pure H ⟨v, av, h1 w, h2, h3⟩
  case index t x i =>
    obtain ⟨v, av, h1, h2, h3⟩ := index_run (hr x) (hr i) hf w
    exact done_pure H ⟨v, av, h1 w, h2, h3⟩
  case extract x i =>
    split at hf
    · rename_i l hl
      have hx := hr x
      rw [hl] at hx
      simp only [VR] at hx
      obtain ⟨vs, hx, hv⟩ := hx
      split at hf
      · obtain ⟨u, hu, hvu⟩ := hv.get ‹_›
        rw [Array.getElem?_toList] at hu
        exact done_pure H ⟨u, _, by simp [Instr.extract, hx, hu], hvu, hf⟩
      · exact hf.elim
    · exact hf.elim
  case range t x => exact good_done (range_good H (hr x) hf)
  case next x b => exact good_done (next_good H (hr x) hf)
  case call c =>
    obtain ⟨callee, args, argTypes⟩ := c
    cases callee with
    | value f => exact hf.elim
    | invoke r m => exact hf.elim
    | builtin b =>
      have hex : ∀ (w : World), (execOp rc ⟨dst, .call ⟨.builtin b, args, argTypes⟩, type, pos, after, guard⟩).run P w = (builtin b argTypes type (args.map fun | .const _ => true | _ => false) (args.map rc)).run P w := fun w => by
        simp only [execOp, resolve, invoke, Sem.run_bind, Sem.run_pure, Result.andThen_ok]
        rfl
      rw [hex]
      cases b <;> simp only [] at hf <;> try (exact hf.elim)
      case append =>
        split at hf
        · rename_i x y tx ty hargs hts
          have ha : args = #[x, y] := Array.ext' hargs
          have ht : argTypes = #[tx, ty] := Array.ext' hts
          subst ha ht
          have hk : (∃ e', P.underlying ty = some (.slice e')) ∨ P.underlying ty = some .string ∧ True := by
            split at hf
            · exact .inl ⟨_, ‹_›⟩
            · exact .inr ⟨‹_›, trivial⟩
            · exact hf.elim
          have hf' : appMixK P tx (ra x) (ra y) h K := by
            split at hf
            · exact hf
            · exact hf
            · exact hf.elim
          rw [show (#[x, y] : Array Operand).map rc = #[rc x, rc y] by simp]
          exact good_done (appMix_good (hk.imp id And.left) H (hr x) (hr y) hf')
        · exact hf.elim
      case copy =>
        split at hf
        · rename_i x y tx ts hargs hts
          have ha : args = #[x, y] := Array.ext' hargs
          have ht : argTypes = (tx :: ts).toArray := Array.ext' hts
          subst ha ht
          rw [show (#[x, y] : Array Operand).map rc = #[rc x, rc y] by simp]
          exact good_done (copy_good H (hr x) (hr y) hf)
        · exact hf.elim
      case len =>
        split at hf
        · rename_i x xs tx ts hargs hts
          have ha : args = (x :: xs).toArray := Array.ext' hargs
          have ht : argTypes = (tx :: ts).toArray := Array.ext' hts
          subst ha ht
          obtain ⟨v, av, h1, h2, h3⟩ := len_run (P := P) (ty := type) (ts := ts) (xs := xs.map rc) (hr x) hf
          refine done_pure H ⟨v, av, ?_, h2, h3⟩
          have := h1 w
          simpa using this
        · exact hf.elim
      case min =>
        split at hf
        · rename_i k n r hargs
          cases hal : args.toList with
          | nil => rw [hal] at hargs; cases hargs
          | cons x xs =>
            rw [hal] at hargs
            simp only [List.map_cons, List.cons.injEq] at hargs
            obtain ⟨h1, rfl⟩ := hargs
            have hx := hr x
            rw [h1, VR.c_iff] at hx
            obtain ⟨v, av, g1, g2, g3⟩ := mins_run (P := P) hr hf
            refine done_pure H ⟨v, av, ?_, g2, g3⟩
            have := g1 w
            simp only [Bool.false_eq_true, if_false] at this
            simp only [Builtin.min_, Array.toList_map, hal, List.map_cons, hx]
            exact this
        · exact hf.elim
      case max =>
        split at hf
        · rename_i k n r hargs
          cases hal : args.toList with
          | nil => rw [hal] at hargs; cases hargs
          | cons x xs =>
            rw [hal] at hargs
            simp only [List.map_cons, List.cons.injEq] at hargs
            obtain ⟨h1, rfl⟩ := hargs
            have hx := hr x
            rw [h1, VR.c_iff] at hx
            obtain ⟨v, av, g1, g2, g3⟩ := mins_run (P := P) hr hf
            refine done_pure H ⟨v, av, ?_, g2, g3⟩
            have := g1 w
            simp only [if_true] at this
            simp only [Builtin.max_, Array.toList_map, hal, List.map_cons, hx]
            exact this
        · exact hf.elim
      case unsafeSliceData =>
        split at hf
        · rename_i x hargs
          have ha : args = #[x] := Array.ext' hargs
          subst ha
          rw [show (#[x] : Array Operand).map rc = #[rc x] by simp]
          obtain ⟨v, av, h1, h2, h3⟩ := sliceData_run (P := P) (ts := argTypes) (ty := type) H (hr x) hf
          exact done_pure H ⟨v, av, h1, h2, h3⟩
        · exact hf.elim
      case unsafeString =>
        split at hf
        · rename_i x y tx ty hargs hts
          have ha : args = #[x, y] := Array.ext' hargs
          have ht : argTypes = #[tx, ty] := Array.ext' hts
          subst ha ht
          rw [show (#[x, y] : Array Operand).map rc = #[rc x, rc y] by simp]
          exact good_done (unsafeString_good H (hr x) (hr y) hf)
        · exact hf.elim
end
end AM
end Go
