/- The plain operations: what the abstract machine says of them holds. -/
import Derived.Test.YthegkipclogoeaaDoorAmRel
import Derived.Laws.Sem
import Derived.Laws.Strings
import Derived.Laws.Entries
set_option linter.unusedVariables false
set_option linter.unusedSimpArgs false
namespace Go
namespace AM
open LMem LTxt
theorem req_iff {b : Bool} {K : Prop} : req b K ↔ b = true ∧ K := by cases b <;> simp [req]
theorem br_iff {b : Bool} {A B : Prop} : br b A B ↔ (b = true → A) ∧ (b = false → B) := by cases b <;> simp [br]
/-- a run gives a value that the abstract one stands for -/
def Good (P : Program) (own : Own) (h : AH) (w : World) (K : AV → AH → Prop) (r : Result Value) : Prop :=
  ∃ v w' own' h' av, r = .ok v w' ∧ HR own' h' w' ∧ Ext own h w own' h' w' ∧ VR own' (Cw own' h' w') av v ∧ K av h'
section
variable {P : Program} {own : Own} {h : AH} {w : World} {K : AV → AH → Prop}
theorem Good.pure {r : Result Value} {v : Value} {a : AV} (H : HR own h w) (hr : r = .ok v w) (hv : VR own (Cw own h w) a v) (hK : K a h) : Good P own h w K r := ⟨v, w, own, h, a, hr, H, .refl _ _ _, hv, hK⟩
theorem Good.const {r : Result Value} {v : Value} (H : HR own h w) (hr : r = .ok v w) (hK : K (.c v) h) : Good P own h w K r := .pure H hr (by simp only [VR]) hK
theorem VR.c_iff {own : Own} {C : CellsP} {x v : Value} : VR own C (.c x) v ↔ v = x := by simp only [VR]

/-! ### Integers -/
theorem ibeq (x y : Int) : (x == y) = decide (x = y) := by rw [Bool.eq_iff_iff]; simp
theorem sbeq (a b : ByteArray) : (a == b) = strEq a b := by
  show a.beq b = _
  rw [Bool.eq_iff_iff]
  unfold ByteArray.beq strEq
  simp
theorem wrap_inR {k : IntKind} {n : Int} (hn : inR k n = true) : k.wrap n = n := by
  unfold inR at hn
  simp only [Bool.and_eq_true, decide_eq_true_eq] at hn
  obtain ⟨h1, h2⟩ := hn
  cases k <;> simp [IntKind.min, IntKind.max, IntKind.signed, IntKind.bits] at h1 h2 <;> simp [IntKind.wrap, IntKind.signed, IntKind.bits] <;> omega
theorem fitK_out {k : IntKind} {n : Int} {K : Value → Prop} (hf : fitK k n K) : K (.int k (k.wrap n)) := by
  unfold fitK at hf
  split at hf
  · obtain ⟨h1, h2⟩ := req_iff.1 hf
    rw [wrap_inR h1]; exact h2
  · exact hf
theorem intK_run {op : BinOp} {k : IntKind} {x y : Int} {K : Value → Prop} {t : TypeId} (hop : op ≠ .shl ∧ op ≠ .shr) (hf : intK op k x y K) : ∃ v, (∀ w, (binOp op t (.int k x) (.int k y)).run P w = .ok v w) ∧ K v := by
  have e : ∀ w, (binOp op t (.int k x) (.int k y)).run P w = (match op with
      | .add | .sub | .mul => Op.intArith op k x y
      | .quo | .rem => Op.intDiv op k x y
      | .and | .or | .xor | .andNot => Op.intBits op k x y
      | _ => Op.intCmp op x y).run P w := fun w => by cases op <;> simp_all [binOp]
  simp only [e]
  cases op <;> simp only [intK] at hf <;> try (exact hf.elim)
  case add => exact ⟨_, fun w => by simp [Op.intArith], fitK_out hf⟩
  case sub => exact ⟨_, fun w => by simp [Op.intArith], fitK_out hf⟩
  case mul => exact ⟨_, fun w => by simp [Op.intArith], fitK_out hf⟩
  case quo =>
    obtain ⟨h1, h2⟩ := req_iff.1 hf
    simp at h1
    exact ⟨_, fun w => by simp [Op.intDiv, h1], fitK_out h2⟩
  case rem =>
    obtain ⟨h1, h2⟩ := req_iff.1 hf
    simp at h1
    exact ⟨_, fun w => by simp [Op.intDiv, h1], h2⟩
  case and => exact ⟨_, fun w => by simp [Op.intBits, bitsV], hf⟩
  case or => exact ⟨_, fun w => by simp [Op.intBits, bitsV], hf⟩
  case xor => exact ⟨_, fun w => by simp [Op.intBits, bitsV], hf⟩
  case andNot => exact ⟨_, fun w => by simp [Op.intBits, bitsV], hf⟩
  case eql => exact ⟨_, fun w => by simp [Op.intCmp, ibeq], hf⟩
  case neq => exact ⟨_, fun w => by simp [Op.intCmp, bne, ibeq], hf⟩
  case lss => exact ⟨_, fun w => by simp [Op.intCmp], hf⟩
  case leq => exact ⟨_, fun w => by simp [Op.intCmp], hf⟩
  case gtr => exact ⟨_, fun w => by simp [Op.intCmp], hf⟩
  case geq => exact ⟨_, fun w => by simp [Op.intCmp], hf⟩
theorem shiftK_run {op : BinOp} {k k' : IntKind} {x y : Int} {K : Value → Prop} {t : TypeId} (hop : op = .shl ∨ op = .shr) (hf : shiftK op k x y K) : ∃ v, (∀ w, (binOp op t (.int k x) (.int k' y)).run P w = .ok v w) ∧ K v := by
  obtain ⟨h1, h2⟩ := req_iff.1 hf
  simp only [decide_eq_true_eq] at h1
  have h1' : ¬ y < 0 := by omega
  rcases hop with rfl | rfl
  · exact ⟨_, fun w => by simp [binOp, Op.shift, h1'], fitK_out h2⟩
  · exact ⟨_, fun w => by simp [binOp, Op.shift, h1'], h2⟩
theorem toList_data (s : ByteArray) : s.toList = s.data.toList := ByteArray.toList_eq s
theorem strK_run {op : BinOp} {x y : ByteArray} {K : Value → Prop} {t : TypeId} (hf : strK op x y K) : ∃ v, (∀ w, (binOp op t (.string x) (.string y)).run P w = .ok v w) ∧ K v := by
  have e : ∀ w, (binOp op t (.string x) (.string y)).run P w = (Op.stringOp op x y).run P w := fun w => by cases op <;> rfl
  simp only [e]
  cases op <;> simp only [strK] at hf <;> try (exact hf.elim)
  case add =>
    obtain ⟨h1, h2⟩ := req_iff.1 hf
    simp only [decide_eq_true_eq] at h1
    have : ¬ ((x.size + y.size : Nat) : Int) > IntKind.i64.max := by simp [IntKind.max, IntKind.signed, IntKind.bits]; omega
    exact ⟨_, fun w => by simp only [Op.stringOp, if_neg this]; rfl, h2⟩
  case eql => exact ⟨_, fun w => by simp only [Op.stringOp, toList_data]; rfl, hf⟩
  case neq => exact ⟨_, fun w => by simp only [Op.stringOp, toList_data]; rfl, hf⟩
  case lss => exact ⟨_, fun w => by simp only [Op.stringOp, toList_data]; rfl, hf⟩
  case leq => exact ⟨_, fun w => by simp only [Op.stringOp, toList_data]; rfl, hf⟩
  case gtr => exact ⟨_, fun w => by simp only [Op.stringOp, toList_data]; rfl, hf⟩
  case geq => exact ⟨_, fun w => by simp only [Op.stringOp, toList_data]; rfl, hf⟩

/-! ### Equality -/
theorem eqOp_run {op : BinOp} {b : Bool} {K : Value → Prop} {t : TypeId} {x y : Value} (hb : ∀ w, (Op.equal t x y).run P w = .ok b w)
    (he : ∀ w, (binOp .eql t x y).run P w = ((do pure (.bool (← Op.equal t x y))) : Sem Value).run P w) (hn : ∀ w, (binOp .neq t x y).run P w = ((do pure (.bool (!(← Op.equal t x y)))) : Sem Value).run P w)
    (hf : eqOp op b K) : ∃ v, (∀ w, (binOp op t x y).run P w = .ok v w) ∧ K v := by
  cases op <;> simp only [eqOp] at hf <;> try (exact hf.elim)
  case eql => exact ⟨_, fun w => by rw [he]; simp [hb], hf⟩
  case neq => exact ⟨_, fun w => by rw [hn]; simp [hb], hf⟩
theorem eql_bool {x y : Bool} {t : TypeId} (ht : P.underlying t = some .bool) (w : World) : (Op.equal t (.bool x) (.bool y)).run P w = .ok (x == y) w := by
  unfold Op.equal Op.maxDepth Op.equalIn
  simp [run_underlying ht]
def isScalD : TypeDesc → Bool
  | .int _ => true
  | .bool => true
  | .string => true
  | _ => false
def fitsD : TypeDesc → Value → Bool
  | .int _, .int _ _ => true
  | .bool, .bool _ => true
  | .string, .string _ => true
  | _, _ => false
/-- the types of scalars -/
def scalT (P : Program) (t : TypeId) : Bool := match P.underlying t with
  | some (.int _) => true
  | some .bool => true
  | some .string => true
  | _ => false
theorem eqIn_scal {d : Nat} {a b : Value} {e : Bool} {t : TypeId} {k : TypeDesc} (ht : P.underlying t = some k) (hk : isScalD k = true) (hs : scalEq a b = some e)
    (hd : fitsD k a = true) (w : World) :
    (Op.equalIn (d + 1) t a b).run P w = .ok e w := by
  unfold Op.equalIn
  cases k <;> simp [isScalD] at hk <;> cases a <;> simp [fitsD] at hd <;> cases b <;> simp only [scalEq] at hs <;> try (cases hs; done)
  · cases hs; simp [run_underlying ht]
  · split at hs
    · rename_i hkk
      cases hs
      subst hkk
      simp [run_underlying ht, ibeq]
    · cases hs
  · cases hs
    simp [run_underlying ht, sbeq]
/-- is a value the nil of its kind? -/
def nilD : TypeDesc → Value → Option Bool
  | .pointer _, .pointer x => some x.isNone
  | .slice _, .slice x _ _ => some x.isNone
  | .map _ _, .map x => some x.isNone
  | .func _ _ _, .nilFunc => some true
  | .func _ _ _, .func _ _ _ => some false
  | _, _ => none
theorem eqIn_nil {d : Nat} {t : TypeId} {k : TypeDesc} {x y : Value} {e : Bool} (ht : P.underlying t = some k)
    (hv : (nilD k x = some true ∧ nilD k y = some e) ∨ (nilD k x = some e ∧ nilD k y = some true)) (w : World) : (Op.equalIn (d + 1) t x y).run P w = .ok e w := by
  unfold Op.equalIn
  simp only [Sem.run_bind, run_underlying ht, Result.andThen_ok]
  rcases hv with ⟨h1, h2⟩ | ⟨h1, h2⟩
  · unfold nilD at h1
    split at h1 <;> simp only [Option.some.injEq, reduceCtorEq] at h1 <;> cases y <;> simp only [nilD, Option.some.injEq, reduceCtorEq] at h2 <;> subst h2
    all_goals first | rfl | (rename Option Addr => a; cases a <;> simp_all <;> rfl) | skip
    all_goals (simp only [Option.isNone_iff_eq_none] at h1; subst h1; rfl)
  · unfold nilD at h2
    split at h2 <;> simp only [Option.some.injEq, reduceCtorEq] at h2 <;> cases x <;> simp only [nilD, Option.some.injEq, reduceCtorEq] at h1 <;> subst h1
    all_goals first | rfl | skip
    all_goals (simp only [Option.isNone_iff_eq_none] at h2; subst h2)
    all_goals first | (rename Option Addr => a; cases a <;> rfl) | (rename Option Nat => a; cases a <;> rfl)
end
end AM
end Go
