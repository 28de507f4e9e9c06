/- Comparisons and sums, whole. -/
import Derived.Test.YthegkipclogoeaaDoorAmOp1
import Derived.Laws.StructEq
set_option linter.unusedVariables false
set_option linter.unusedSimpArgs false
namespace Go
namespace AM
open LMem LTxt
section
variable {P : Program}
theorem eqGuard_pass {op : BinOp} {t : TypeId} {ox oy : Operand} {a b : Value} (h : ∀ cs ds, ¬ (a = .agg cs ∧ b = .agg ds)) (h2 : a ≠ .nilIface) (w : World) : (eqGuard op t ox oy a b).run P w = .ok () w := by
  unfold eqGuard
  cases op <;> first | rfl | skip
  all_goals
    simp only [Bool.not_true, Bool.false_eq_true, if_false]
    split
    · exact absurd rfl h2
    · exact absurd ⟨rfl, rfl⟩ (h _ _)
    · rfl
theorem part_scal {t : TypeId} {cs : Array Value} {off : Nat} {v : Value} {k : TypeDesc} (ht : P.underlying t = some k) (hk : isScalD k = true) (hv : cs[off]? = some v) (w : World) :
    (part t cs off).run P w = .ok v w := by
  unfold part isAgg
  simp only [Sem.run_bind, run_underlying ht, Result.andThen_ok]
  cases k <;> simp [isScalD] at hk <;> simp [hv]
theorem eqFields_run {d : Nat} {own : Own} {C : CellsP} {l m : List AV} {xs ys : Array Value} (hx : VRs own C l xs.toList) (hy : VRs own C m ys.toList) (w : World) :
    ∀ {fs : List Field} {e : Bool}, (∀ f ∈ fs, f.name ≠ "_") → fieldsEq P fs l m = some e → (Op.eqFields (d + 1) xs ys fs).run P w = .ok e w := by
  intro fs
  induction fs with
  | nil =>
    intro e _ he
    simp only [fieldsEq, Option.some.injEq] at he
    subst he
    rfl
  | cons f r ih =>
    intro e hn he
    have hf := hn f (by simp)
    have fin : ∀ (k : TypeDesc) (a b : Value) (e1 e2 : Bool), P.underlying f.type = some k → isScalD k = true → fitsD k a = true →
        l[f.offset]? = some (.c a) → m[f.offset]? = some (.c b) → scalEq a b = some e1 → fieldsEq P r l m = some e2 → e = (e1 && e2) → (Op.eqFields (d + 1) xs ys (f :: r)).run P w = .ok e w := by
      intro k a b e1 e2 hk hk1 hk2 ha hb h1 h2 he'
      obtain ⟨va, hva, hva'⟩ := hx.get ha
      obtain ⟨vb, hvb, hvb'⟩ := hy.get hb
      rw [VR.c_iff] at hva' hvb'
      subst hva' hvb'
      rw [Array.getElem?_toList] at hva hvb
      have ih' := ih (fun f hf => hn f (by simp [hf])) h2
      have pa := part_scal (P := P) hk hk1 hva w
      have pb := part_scal (P := P) hk hk1 hvb w
      have pe := eqIn_scal (P := P) (d := d) hk hk1 h1 hk2 w
      subst he'
      unfold Op.eqFields
      simp only [hf, ne_eq, not_false_eq_true, if_true, Sem.run_bind, pa, pb, pe, Result.andThen_ok]
      cases e1
      · simp
      · simpa using ih'
    unfold fieldsEq at he
    split at he
    · split at he
      · split at he
        · cases he
          exact fin _ _ _ _ _ ‹_› rfl rfl ‹_› ‹_› (by simp only [scalEq]; rw [if_pos ‹_›]) ‹_› rfl
        · cases he
      · cases he
    · split at he
      · cases he
        exact fin _ _ _ _ _ ‹_› rfl rfl ‹_› ‹_› rfl ‹_› rfl
      · cases he
    · split at he
      · cases he
        exact fin _ _ _ _ _ ‹_› rfl rfl ‹_› ‹_› rfl ‹_› rfl
      · cases he
    · cases he
theorem binV_run {op : BinOp} {t : TypeId} {a b : Value} {K : Value → Prop} (ht : ∀ x, a = .bool x → P.underlying t = some .bool) (hf : binV op a b K) : ∃ v, (∀ w, (binOp op t a b).run P w = .ok v w) ∧ K v := by
  unfold binV at hf
  split at hf
  · rename_i k x k' y
    cases op <;> simp only [] at hf <;> first
      | exact shiftK_run (.inl rfl) hf
      | exact shiftK_run (.inr rfl) hf
      | (split at hf
         · rename_i hk; subst hk; exact intK_run ⟨by simp, by simp⟩ hf
         · exact hf.elim)
  · exact strK_run hf
  · exact eqOp_run (eql_bool (ht _ rfl)) (fun _ => rfl) (fun _ => rfl) hf
  · exact hf.elim
theorem VR.nil_of {own : Own} {C : CellsP} {a : AV} {v : Value} {e : Bool} {t : TypeId} (hv : VR own C a v) (ht : nilT P t a = true) (hn : nilA a = some e) :
    ∃ k, P.underlying t = some k ∧ nilD k v = some e := by
  unfold nilT at ht
  split at ht <;> simp only [nilA, Option.some.injEq] at hn <;> try (cases ht; done)
  all_goals subst hn
  all_goals refine ⟨_, ‹_›, ?_⟩
  all_goals simp only [VR] at hv
  all_goals first
    | (subst hv; rfl)
    | (obtain ⟨_, _, rfl⟩ := hv; rfl)
    | (obtain ⟨_, _, rfl, _⟩ := hv; rfl)
    | (obtain ⟨_, rfl, _⟩ := hv; rfl)
/-- references: what is compared by the rule of its kind -/
def refV : Value → Bool
  | .pointer _ => true
  | .slice .. => true
  | .map _ => true
  | .func .. => true
  | .nilFunc => true
  | _ => false
theorem bin_ref {op : BinOp} {t : TypeId} {x y : Value} {e : Bool} {K : Value → Prop} {ox oy : Operand} (hx : refV x = true) (he : ∀ w, (Op.equal t x y).run P w = .ok e w) (hf : eqOp op e K) :
    ∃ v, (∀ w, ((do eqGuard op t ox oy x y; binOp op t x y) : Sem Value).run P w = .ok v w) ∧ K v := by
  obtain ⟨v, h1, h2⟩ := eqOp_run he (fun w => by cases x <;> first | rfl | cases hx) (fun w => by cases x <;> first | rfl | cases hx) hf
  refine ⟨v, fun w => ?_, h2⟩
  rw [Sem.run_bind, eqGuard_pass (by intro cs ds ⟨h, _⟩; subst h; cases hx) (by rintro rfl; cases hx)]
  exact h1 w
theorem bin_plain {op : BinOp} {t : TypeId} {x y : Value} {K : Value → Prop} {ox oy : Operand} (hx : (∀ cs, x ≠ .agg cs) ∧ x ≠ .nilIface) (h : ∃ v, (∀ w, (binOp op t x y).run P w = .ok v w) ∧ K v) :
    ∃ v, (∀ w, ((do eqGuard op t ox oy x y; binOp op t x y) : Sem Value).run P w = .ok v w) ∧ K v := by
  obtain ⟨v, h1, h2⟩ := h
  refine ⟨v, fun w => ?_, h2⟩
  rw [Sem.run_bind, eqGuard_pass (fun cs ds h => hx.1 cs h.1) hx.2]
  exact h1 w
theorem eqOK_spec {t : TypeId} (h : eqOK P t = true) : P.stoodInHeld t = false ∧ P.eqGuardType P.depth t = false ∧ ∃ fs, P.underlying t = some (.struct fs) ∧ ∀ f ∈ fs.toList, f.name ≠ "_" := by
  unfold eqOK at h
  simp only [Bool.and_eq_true, Bool.not_eq_true'] at h
  obtain ⟨⟨h1, h2⟩, h3⟩ := h
  refine ⟨h1, h2, ?_⟩
  split at h3
  · rename_i fs hu
    exact ⟨fs, hu, fun f hf => by simpa using List.all_eq_true.1 h3 f hf⟩
  · cases h3
theorem nil_eq {own : Own} {C : CellsP} {a b : AV} {x y : Value} {e : Bool} {t : TypeId} (hx : VR own C a x) (hy : VR own C b y) (ha : nilT P t a = true) (hb : nilT P t b = true)
    (h : (nilA a = some true ∧ nilA b = some e) ∨ (nilA a = some e ∧ nilA b = some true)) (w : World) : (Op.equal t x y).run P w = .ok e w := by
  unfold Op.equal Op.maxDepth
  rcases h with ⟨h1, h2⟩ | ⟨h1, h2⟩
  all_goals
    obtain ⟨k, hk, h3⟩ := hx.nil_of ha h1
    obtain ⟨k', hk', h4⟩ := hy.nil_of hb h2
    rw [hk] at hk'
    cases hk'
    refine eqIn_nil hk ?_ w
    simp [h3, h4]
theorem ref_of_nilT {own : Own} {C : CellsP} {a : AV} {x : Value} {e : Bool} {t : TypeId} (hx : VR own C a x) (ha : nilT P t a = true) (h1 : nilA a = some e) : refV x = true := by
  obtain ⟨k, hk, h3⟩ := hx.nil_of ha h1
  unfold nilD at h3
  split at h3 <;> first | rfl | cases h3
theorem br_and {c : Bool} {A B : Prop} (h : br c (A ∧ B) B) : B := by
  cases c
  · exact h
  · exact h.2
theorem eqIn_ptr {t e : TypeId} {z : TypeInfo} (hu : P.underlying t = some (.pointer e)) (hz : P.info? e = some z) (h : z.size ≠ 0) (a : Addr) (w : World) : (Op.equal t (.pointer (some a)) (.pointer (some a))).run P w = .ok true w := by
  unfold Op.equal Op.maxDepth Op.equalIn sizeOf typeInfo sameAddr
  simp [run_underlying hu, hz, h]
theorem binK_run {own : Own} {C : CellsP} {E : List TypeId} {op : BinOp} {t : TypeId} {a b : AV} {x y : Value} {K : Value → Prop} {ox oy : Operand} (hE : ∀ t ∈ E, eqOK P t = true) (hx : VR own C a x) (hy : VR own C b y)
    (hf : binK P E op t a b K) : ∃ v, (∀ w, ((do eqGuard op t ox oy x y; binOp op t x y) : Sem Value).run P w = .ok v w) ∧ K v := by
  unfold binK at hf
  split at hf
  · rw [VR.c_iff] at hx hy; subst hx hy
    exact bin_plain ⟨fun _ => by simp, by simp⟩ (binV_run (by simp) hf)
  · rw [VR.c_iff] at hx hy; subst hx hy
    exact bin_plain ⟨fun _ => by simp, by simp⟩ (binV_run (by simp) hf)
  · rw [VR.c_iff] at hx hy; subst hx hy
    split at hf
    · exact bin_plain ⟨fun _ => by simp, by simp⟩ (binV_run (fun _ _ => ‹_›) hf)
    · exact hf.elim
  · rename_i l m
    split at hf
    · rename_i fs hu
      split at hf
      · rename_i hc
        obtain ⟨h1, h2, fs', hu', hn⟩ := eqOK_spec (hE t (by simpa using hc))
        rw [hu] at hu'
        cases hu'
        split at hf
        · rename_i e he
          simp only [VR] at hx hy
          obtain ⟨xs, rfl, hx⟩ := hx
          obtain ⟨ys, rfl, hy⟩ := hy
          have hfo : P.fieldsOf t = fs := by unfold Program.fieldsOf; rw [hu]
          have heq : ∀ w, (Op.equal t (.agg xs) (.agg ys)).run P w = .ok e w := fun w => by
            unfold Op.equal Op.maxDepth
            rw [run_equalIn_struct w _ t xs ys (by rw [hfo]; exact hu) h1, hfo]
            exact eqFields_run hx hy w hn he
          obtain ⟨v, h3, h4⟩ := eqOp_run heq (fun w => rfl) (fun w => rfl) hf
          refine ⟨v, fun w => ?_, h4⟩
          rw [Sem.run_bind, run_eqGuard_agg w op t ox oy xs ys h2]
          exact h3 w
        · exact hf.elim
      · exact hf.elim
    · exact hf.elim
  · -- a slice, nil
    split at hf
    · rename_i id off n _ _ e hu
      rw [VR.c_iff] at hy; subst hy
      simp only [VR] at hx
      have hf0 := hf
      rw [br_iff] at hf
      rcases hx with ⟨h1, rfl, _⟩ | ⟨pl, o, cap, _, rfl, _⟩
      · exact bin_ref rfl (fun w => eqIn_nil hu (by simp [nilD]) w) (hf.1 (by simpa using h1)).1
      · have : eqOp op false K := br_and hf0
        exact bin_ref rfl (fun w => eqIn_nil hu (by simp [nilD]) w) this
    · exact hf.elim
  · split at hf
    · rename_i id off n _ _ e hu
      rw [VR.c_iff] at hx; subst hx
      simp only [VR] at hy
      have hf0 := hf
      rw [br_iff] at hf
      rcases hy with ⟨h1, rfl, _⟩ | ⟨pl, o, cap, _, rfl, _⟩
      · exact bin_ref rfl (fun w => eqIn_nil hu (by simp [nilD]) w) (hf.1 (by simpa using h1)).1
      · have : eqOp op false K := br_and hf0
        exact bin_ref rfl (fun w => eqIn_nil hu (by simp [nilD]) w) this
    · exact hf.elim
  · split at hf
    · rename_i s xs _ _ e hu
      rw [VR.c_iff] at hy; subst hy
      simp only [VR] at hx
      have hf0 := hf
      rw [br_iff] at hf
      obtain ⟨ad, cap, rfl, _, h3⟩ := hx
      cases ad with
      | none =>
        exact bin_ref rfl (fun w => eqIn_nil hu (by simp [nilD]) w) (hf.1 (by
          rw [decide_eq_true_eq]
          refine Classical.byContradiction fun h0 => ?_
          obtain ⟨_, _, h4, _⟩ := h3 h0
          cases h4)).1
      | some ad =>
        have : eqOp op false K := br_and hf0
        exact bin_ref rfl (fun w => eqIn_nil hu (by simp [nilD]) w) this
    · exact hf.elim
  · split at hf
    · rename_i s xs _ _ e hu
      rw [VR.c_iff] at hx; subst hx
      simp only [VR] at hy
      have hf0 := hf
      rw [br_iff] at hf
      obtain ⟨ad, cap, rfl, _, h3⟩ := hy
      cases ad with
      | none =>
        exact bin_ref rfl (fun w => eqIn_nil hu (by simp [nilD]) w) (hf.1 (by
          rw [decide_eq_true_eq]
          refine Classical.byContradiction fun h0 => ?_
          obtain ⟨_, _, h4, _⟩ := h3 h0
          cases h4)).1
      | some ad =>
        have : eqOp op false K := br_and hf0
        exact bin_ref rfl (fun w => eqIn_nil hu (by simp [nilD]) w) this
    · exact hf.elim
  · split at hf
    · rename_i i o j q e hu
      split at hf
      · rename_i z hz
        split at hf
        · rename_i hc
          obtain ⟨h1, h2, h3⟩ := hc
          subst h2 h3
          simp only [VR] at hx hy
          obtain ⟨pl, ho, rfl⟩ := hx
          obtain ⟨pl', ho', rfl⟩ := hy
          rw [ho] at ho'
          cases ho'
          exact bin_ref rfl (fun w => eqIn_ptr hu hz h1 _ w) hf
        · exact hf.elim
      · exact hf.elim
    · exact hf.elim
  · split at hf
    · rename_i hT
      simp only [Bool.and_eq_true] at hT
      split at hf
      · exact bin_ref (ref_of_nilT hx hT.1 ‹_›) (fun w => nil_eq hx hy hT.1 hT.2 (.inl ⟨‹_›, ‹_›⟩) w) hf
      · exact bin_ref (ref_of_nilT hx hT.1 ‹_›) (fun w => nil_eq hx hy hT.1 hT.2 (.inr ⟨‹_›, ‹_›⟩) w) hf
      · exact hf.elim
    · exact hf.elim
theorem unK_run {own : Own} {C : CellsP} {op : UnOp} {a : AV} {x : Value} {K : Value → Prop} (hx : VR own C a x) (hf : unK op a K) : ∃ v, (∀ w, (Op.unary op x).run P w = .ok v w) ∧ K v := by
  unfold unK at hf
  split at hf
  · rw [VR.c_iff] at hx; subst hx
    exact ⟨_, fun w => rfl, hf⟩
  · rw [VR.c_iff] at hx; subst hx
    exact ⟨_, fun w => by simp [Op.unary, Op.intArith], fitK_out hf⟩
  · rw [VR.c_iff] at hx; subst hx
    exact ⟨_, fun w => by simp [Op.unary, Op.intBits, bitsV], hf⟩
  · exact hf.elim
end
end AM
end Go
