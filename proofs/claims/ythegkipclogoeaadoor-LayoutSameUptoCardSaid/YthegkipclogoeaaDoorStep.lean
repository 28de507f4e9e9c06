/- Steps of a walk by a tree of orders: a load of a cell, of a whole block; append. -/
import Derived.Test.YthegkipclogoeaaDoorTxt
import Derived.Test.YthegkipclogoeaaDoorMem
set_option linter.unusedVariables false
set_option linter.unusedSimpArgs false
namespace Go
namespace LTxt
open LMem
variable {P : Program} {T : Tys} {S : World → Prop} {ops : Array Oper} {N : Act → World → Prop}
def isAggB (P : Program) (t : TypeId) : Bool :=
  match P.underlying t with
  | some (.struct _) => true
  | some (.array _ _) => true
  | some _ => false
  | none => true
theorem run_isAgg {w : World} {t : TypeId} (h : isAggB P t = false) : (isAgg t).run P w = .ok false w := by
  unfold isAggB at h
  unfold isAgg Go.underlying
  simp only [Sem.run_bind, run_program, Result.andThen_ok]
  split at h <;> simp_all
theorem run_isAgg' {w : World} {t : TypeId} (h : isAggB P t = true) (hi : (P.info? t).isSome = true) (hu : (P.underlying t).isSome = true) : (isAgg t).run P w = .ok true w := by
  unfold isAggB at h
  unfold isAgg Go.underlying
  simp only [Sem.run_bind, run_program, Result.andThen_ok]
  split at h <;> simp_all
theorem run_load_cell {w : World} {t : TypeId} {b i : Nat} {cs : Array Value} {TT : TypeId} {f : Nat × Nat} {v : Value} (ha : isAggB P t = false) (hb : w.heap[b]? = some (.cells cs TT f)) (hv : cs[i]? = some v) :
    (loadVar t ⟨b, i, none⟩).run P w = .ok v w := by
  unfold loadVar
  simp only [Sem.run_bind, run_isAgg ha, Result.andThen_ok]
  simp [run_load, cell_at hb, hv]
theorem run_load_block {w : World} {t : TypeId} {b : Nat} {cs : Array Value} {TT : TypeId} {f : Nat × Nat} (ha : isAggB P t = true) (hu : (P.underlying t).isSome = true) (hi : (P.info? t).map (·.size) = some cs.size)
    (hb : w.heap[b]? = some (.cells cs TT f)) : (loadVar t ⟨b, 0, none⟩).run P w = .ok (.agg cs) w := by
  unfold loadVar
  obtain ⟨i, hi', hs⟩ : ∃ i, P.info? t = some i ∧ i.size = cs.size := by
    cases h : P.info? t with
    | none => rw [h] at hi; cases hi
    | some i => rw [h] at hi; exact ⟨i, rfl, by simpa using hi⟩
  have hl := run_loadCells_list (P := P) w ⟨b, 0, none⟩ cs.toList (fun j v hj => by
    rw [Addr.add_lit, Nat.zero_add, cell_at hb]; simpa using hj)
  simp only [Sem.run_bind, run_isAgg' ha (by rw [hi']; rfl) hu, Result.andThen_ok, if_true]
  have hz : (Go.sizeOf t).run P w = .ok cs.size w := by
    unfold Go.sizeOf Go.typeInfo
    simp [hi', hs]
  simp only [hz, Result.andThen_ok]
  have : cs.toList.length = cs.size := by simp
  rw [this] at hl
  simp [hl]
theorem one_load_cell {k : Nat} {o : Oper} {K : Act → World → Prop} {a : Act} {w : World} (hw : Region.wanted o (yielded ops a.tmps) = true) (t : TypeId) (x : Operand) (ho : o.op = .load t x)
    (b i : Nat) (hx : a.eval x = .pointer (some ⟨b, i, none⟩)) (ha : isAggB P t = false) {cs : Array Value} {TT : TypeId} {f : Nat × Nat} {v : Value}
    (hS : ∀ w', S w' → w'.heap[b]? = some (.cells cs TT f)) (hv : cs[i]? = some v) (h : K (a.put o.dst v) w) : wpOne P T S ops N k o K a w :=
  one_load hw (by simp [calmB, ho]) v (fun w' hs => by
    unfold execOp
    rw [ho]
    simp only [hx, Instr.loadAt, Instr.sureAddr, pure_bind, Sem.run_bind, run_load_cell ha (hS w' hs) hv, Result.andThen_ok]
    rfl) h
theorem one_load_block {k : Nat} {o : Oper} {K : Act → World → Prop} {a : Act} {w : World} (hw : Region.wanted o (yielded ops a.tmps) = true) (t : TypeId) (x : Operand) (ho : o.op = .load t x)
    (b : Nat) (hx : a.eval x = .pointer (some ⟨b, 0, none⟩)) (ha : isAggB P t = true) {cs : Array Value} {TT : TypeId} {f : Nat × Nat} (hu : (P.underlying t).isSome = true) (hi : (P.info? t).map (·.size) = some cs.size)
    (hS : ∀ w', S w' → w'.heap[b]? = some (.cells cs TT f)) (h : K (a.put o.dst (.agg cs)) w) : wpOne P T S ops N k o K a w :=
  one_load hw (by simp [calmB, ho]) (.agg cs) (fun w' hs => by
    unfold execOp
    rw [ho]
    simp only [hx, Instr.loadAt, Instr.sureAddr, pure_bind, Sem.run_bind, run_load_block ha hu hi (hS w' hs), Result.andThen_ok]
    rfl) h
theorem tk {l : List Oper} {k : Nat} {t : Tree} {o : Oper} {rest : List Oper} {a : Act} {w : World} (hd : l.drop k = o :: rest) (h : ∀ K : Act → World → Prop, (∀ a w, t.wp P T S l.toArray N a w → K a w) → wpOne P T S l.toArray N k o K a w) :
    (Tree.take k t).wp P T S l.toArray N a w := tree_take (by have := List.getElem?_drop (xs := l) (i := k) (j := 0); rw [hd] at this; simpa using this.symm) h
theorem tb {l : List Oper} {k : Nat} {t r : Tree} {o : Oper} {rest : List Oper} {a : Act} {w : World} (hd : l.drop k = o :: rest) (h : ∀ K : Act → World → Prop, (∀ a w, t.wp P T S l.toArray N a w → K a w) → wpOne P T S l.toArray N k o K a w)
    (h2 : Tree.wp.wpRest P T S l.toArray N r a w) : (Tree.branch k t r).wp P T S l.toArray N a w := tree_branch (by have := List.getElem?_drop (xs := l) (i := k) (j := 0); rw [hd] at this; simpa using this.symm) h h2
theorem tr {l : List Oper} {k : Nat} {t r : Tree} {o : Oper} {rest : List Oper} {a : Act} {w : World} (hd : l.drop k = o :: rest) (h : ∀ K : Act → World → Prop, (∀ a w, t.wp P T S l.toArray N a w → K a w) → wpOne P T S l.toArray N k o K a w)
    (h2 : Tree.wp.wpRest P T S l.toArray N r a w) : Tree.wp.wpRest P T S l.toArray N (Tree.branch k t r) a w := tree_rest_branch (by have := List.getElem?_drop (xs := l) (i := k) (j := 0); rw [hd] at this; simpa using this.symm) h h2
theorem tree_here {t : Tree} {a : Act} {w : World} (h : t.wp P T S ops N a w) : t.wp P T S ops N a w := h
/-! the same, their small premises in one -/
theorem st_still {k : Nat} {o : Oper} {K : Act → World → Prop} {a : Act} {w : World} (hp : Region.wanted o (yielded ops a.tmps) = true ∧ calmB o = false ∧ yB T o = true ∧ plainArgs a.eval o = true)
    (h : o.wp P a w K (OnlyN N)) : wpOne P T S ops N k o K a w := one_still hp.1 hp.2.1 hp.2.2.1 hp.2.2.2 h
theorem st_free {k : Nat} {o : Oper} {K : Act → World → Prop} {a : Act} {w : World} (hp : ndB ops k = false ∧ Region.wanted o (yielded ops a.tmps) = true ∧ calmB o = false ∧ yB T o = false)
    (h : o.wp P a w K (OnlyN N)) : wpOne P T S ops N k o K a w := one_free hp.1 hp.2.1 hp.2.2.1 hp.2.2.2 h
theorem st_acts {k : Nat} {o : Oper} {K : Act → World → Prop} {a : Act} {w : World} (hp : Region.wanted o (yielded ops a.tmps) = true ∧ calmB o = false ∧ yB T o = false)
    (h : ∀ K' : Act → World → Prop, (∀ a w, S w → K a w → K' a w) → o.wp P a w K' (OnlyN N)) : wpOne P T S ops N k o K a w := one_acts hp.1 hp.2.1 hp.2.2 fun K' hK => h K' fun a w hs => hK a w fun _ => hs
/-! steps of a walk in the order of the text -/
theorem txt_here {l : List Oper} {a : Act} {w : World} (h : wpTxt P T ops N l a w) : wpTxt P T ops N l a w := h
theorem st_skip {L : List Value} {df : List Deferred} {w : World} {o : Oper} {rest : List Oper} (hp : Region.wanted o (yielded ops L.toArray) = false ∧ ∃ d r, o.dst = some d ∧ L.drop d = undef :: r)
    (h : wpTxt P T ops N rest ⟨L.toArray, df⟩ w) : wpTxt P T ops N (o :: rest) ⟨L.toArray, df⟩ w := by
  obtain ⟨hp, d, r, hd, hu⟩ := hp
  refine wpTxt_skip hp ?_
  have he : (⟨L.toArray, df⟩ : Act).put o.dst undef = ⟨L.toArray, df⟩ := by
    rw [hd]
    simp only [Act.put, List.setIfInBounds_toArray]
    congr 2
    have hl : L[d]? = some undef := by have := List.getElem?_drop (xs := L) (i := d) (j := 0); rw [hu] at this; simpa using this.symm
    apply List.ext_getElem?
    intro i
    rw [List.getElem?_set]
    split
    · rename_i hi
      subst hi
      have := (List.getElem?_eq_some_iff.1 hl).1
      rw [if_pos this, hl]
    · rfl
  rw [he]
  exact h
theorem st_txt {a : Act} {w : World} {o : Oper} {rest : List Oper} (hp : o.guard = none ∧ (yB T o = true → plainArgs a.eval o = true))
    (h : ∀ K : Act → World → Prop, (∀ a w, wpTxt P T ops N rest a w → K a w) → o.wp P a w K (OnlyN N)) : wpTxt P T ops N (o :: rest) a w := wpTxt_plain hp.1 hp.2 h
theorem st_txtg {a : Act} {w : World} {o : Oper} {rest : List Oper} (hp : yB T o = true → plainArgs a.eval o = true)
    (h : ∀ K : Act → World → Prop, (∀ a w, wpTxt P T ops N rest a w → K a w) →
      if Region.wanted o (yielded ops a.tmps) then o.wp P a w K (OnlyN N) else K (a.put o.dst undef) w) : wpTxt P T ops N (o :: rest) a w := wpTxt_step hp h
end LTxt
end Go
