/- A region that draws its order, walked in the order of the text: the operations that do not look at memory commute with all others, loads commute with loads. -/
import Derived.Still
import Derived.Tactics
import Derived.Tactics2
import Derived.Laws.Sem
set_option linter.unusedVariables false
set_option linter.unusedSimpArgs false
namespace Go
namespace LTxt

/-! ### Runs that do not hang on the world -/
def SIndep {α : Type} (P : Program) (s : Sem α) : Prop := ∀ w v w1, s.run P w = .ok v w1 → w1 = w ∧ ∀ w', s.run P w' = .ok v w'
def SFails {α : Type} (P : Program) (s : Sem α) : Prop := ∀ w v w1, s.run P w ≠ .ok v w1
section
variable {P : Program}
theorem SFails.indep {α : Type} {s : Sem α} (h : SFails P s) : SIndep P s := fun w v w1 e => absurd e (h w v w1)
theorem SIndep.pure {α : Type} (a : α) : SIndep P (Pure.pure a : Sem α) := fun w v w1 e => by
  simp only [Sem.run_pure, Result.ok.injEq] at e
  obtain ⟨rfl, rfl⟩ := e
  exact ⟨rfl, fun w' => rfl⟩
theorem SIndep.bind {α β : Type} {s : Sem α} {f : α → Sem β} (hs : SIndep P s) (hf : ∀ v, SIndep P (f v)) : SIndep P (s >>= f) := fun w v w1 e => by
  rw [Sem.run_bind] at e
  cases h : s.run P w with
  | halt x wx => rw [h] at e; simp at e
  | ok u wu =>
    rw [h] at e
    simp only [Result.andThen_ok] at e
    obtain ⟨rfl, h2⟩ := hs w u wu h
    obtain ⟨rfl, h4⟩ := hf u _ v w1 e
    exact ⟨rfl, fun w' => by rw [Sem.run_bind, h2 w', Result.andThen_ok, h4 w']⟩
theorem SIndep.program : SIndep P Go.program := fun w v w1 e => by
  simp only [run_program, Result.ok.injEq] at e
  obtain ⟨rfl, rfl⟩ := e
  exact ⟨rfl, fun w' => rfl⟩
theorem SFails.halt {α : Type} (h : Halt) : SFails P (Sem.halt h : Sem α) := fun w v w1 e => by simp at e
theorem SFails.stuck {α : Type} (s : String) : SFails P (Go.stuck s : Sem α) := fun w v w1 e => by simp at e
theorem SFails.unsupported {α : Type} (s : Unsupported) : SFails P (Go.unsupported s : Sem α) := fun w v w1 e => by simp at e
theorem SFails.goPanic {α : Type} (v : Value) : SFails P (Go.goPanic v : Sem α) := fun w v w1 e => by simp at e
theorem SFails.bind_left {α β : Type} {s : Sem α} {f : α → Sem β} (hs : SFails P s) : SFails P (s >>= f) := fun w v w1 e => by
  rw [Sem.run_bind] at e
  cases h : s.run P w with
  | halt x wx => rw [h] at e; simp at e
  | ok u wu => exact hs _ _ _ h
theorem SFails.bind_right {α β : Type} {s : Sem α} {f : α → Sem β} (hf : ∀ v, SFails P (f v)) : SFails P (s >>= f) := fun w v w1 e => by
  rw [Sem.run_bind] at e
  cases h : s.run P w with
  | halt x wx => rw [h] at e; simp at e
  | ok u wu => rw [h] at e; exact hf _ _ _ _ e
theorem SFails.runtimePanic {α : Type} (e : RuntimeError) : SFails P (Go.runtimePanic e : Sem α) := by
  unfold Go.runtimePanic
  refine SFails.bind_right fun p => ?_
  cases e <;> dsimp only
  case bounds => exact .goPanic _
  case error => exact .goPanic _
  case plain => exact .goPanic _
  case nilDeref => exact .goPanic _
  case typeAssertion => exact .bind_right fun _ => .bind_right fun _ => .goPanic _
  case panicNil => exact .bind_right fun _ => .bind_right fun _ => .goPanic _
  case unhashable => exact .goPanic _
theorem SFails.boundsPanic {α : Type} (k : IntKind) (x y : Int) (c : BoundsCode) : SFails P (Go.boundsPanic k x y c : Sem α) := by
  unfold Go.boundsPanic
  dsimp only
  split <;> exact .bind_right fun _ => .runtimePanic _
theorem SIndep.ite {α : Type} {c : Prop} [Decidable c] {s t : Sem α} (hs : SIndep P s) (ht : SIndep P t) : SIndep P (if c then s else t) := by
  split
  · exact hs
  · exact ht
theorem SIndep.map {α β : Type} {s : Sem α} (f : α → β) (hs : SIndep P s) : SIndep P (f <$> s) := fun w v w1 e => by
  rw [Sem.run_map] at e
  cases h : s.run P w with
  | halt x wx => rw [h] at e; simp at e
  | ok u wu =>
    rw [h] at e
    simp only [Result.andThen_ok, Result.ok.injEq] at e
    obtain ⟨rfl, rfl⟩ := e
    obtain ⟨rfl, h2⟩ := hs w u wu h
    exact ⟨rfl, fun w' => by rw [Sem.run_map, h2 w', Result.andThen_ok]⟩
theorem SIndep.typeInfo (t : TypeId) : SIndep P (Go.typeInfo t) := by
  unfold Go.typeInfo
  refine .bind .program fun p => ?_
  split
  · exact .pure _
  · exact (SFails.stuck _).indep
theorem SIndep.underlying (t : TypeId) : SIndep P (Go.underlying t) := by
  unfold Go.underlying
  refine .bind .program fun p => ?_
  split
  · exact .pure _
  · exact (SFails.stuck _).indep
theorem SIndep.zeroValue (t : TypeId) : SIndep P (Go.zeroValue t) := by
  unfold Go.zeroValue
  refine .bind (.typeInfo t) fun p => ?_
  split
  · exact .pure _
  · exact (SFails.unsupported _).indep
theorem SIndep.sizeOf (t : TypeId) : SIndep P (Go.sizeOf t) := by
  unfold Go.sizeOf
  exact .bind (.typeInfo t) fun p => .pure _
theorem SIndep.isAgg (t : TypeId) : SIndep P (Go.isAgg t) := by
  unfold Go.isAgg
  refine .bind (.underlying t) fun p => ?_
  split <;> exact .pure _
theorem SIndep.asAgg (v : Value) : SIndep P (Go.asAgg v) := by
  unfold Go.asAgg
  split
  · exact .pure _
  · exact (SFails.stuck _).indep
theorem SIndep.part (t : TypeId) (cs : Array Value) (off : Nat) : SIndep P (Go.part t cs off) := by
  unfold Go.part
  refine .bind (.isAgg t) fun b => ?_
  split
  · exact .bind (.sizeOf t) fun _ => .pure _
  · split
    · exact .pure _
    · exact (SFails.stuck _).indep
theorem SIndep.asIntOf (v : Value) : SIndep P (Go.asIntOf v) := by
  unfold Go.asIntOf
  split
  · exact .pure _
  · exact (SFails.unsupported _).indep
  · exact (SFails.stuck _).indep
theorem SIndep.asBool (v : Value) : SIndep P (Go.asBool v) := by
  unfold Go.asBool
  split
  · exact .pure _
  · exact (SFails.stuck _).indep
theorem SIndep.mapM {α β : Type} (f : α → Sem β) (hf : ∀ x, SIndep P (f x)) (l : List α) : SIndep P (l.mapM f) := by
  induction l with
  | nil => rw [List.mapM_nil]; exact .pure _
  | cons x l ih => rw [List.mapM_cons]; exact .bind (hf x) fun _ => .bind ih fun _ => .pure _
theorem SIndep.mapMA {α β : Type} (f : α → Sem β) (hf : ∀ x, SIndep P (f x)) (l : Array α) : SIndep P (l.mapM f) := by
  rw [Array.mapM_eq_mapM_toList]
  exact .map _ (.mapM f hf _)
theorem SIndep.build (t : TypeId) (parts : Array (Nat × Value)) : SIndep P (Instr.build t parts) := by
  unfold Instr.build
  refine .bind (.zeroValue t) fun z => .bind (.underlying t) fun u => ?_
  split
  · refine .bind (.mapMA _ (fun f => .bind (.sizeOf _) fun _ => .pure _) _) fun places => ?_
    split
    · exact .pure _
    · exact (SFails.stuck _).indep
  · refine .bind (.sizeOf _) fun s => ?_
    split
    · exact .pure _
    · exact (SFails.stuck _).indep
  · exact (SFails.stuck _).indep
theorem SIndep.field (t : TypeId) (x : Value) (f : Nat) : SIndep P (Instr.field t x f) := by
  unfold Instr.field
  refine .bind (.underlying t) fun u => ?_
  split
  · split
    · exact .bind (.asAgg _) fun _ => .part _ _ _
    · exact (SFails.stuck _).indep
  · exact (SFails.stuck _).indep
theorem SIndep.index (t : TypeId) (x i : Value) : SIndep P (Instr.index t x i) := by
  unfold Instr.index
  refine .bind (.asIntOf _) fun ki => .bind (.underlying t) fun u => ?_
  split
  · exact .ite (.bind (.sizeOf _) fun _ => .part _ _ _) (SFails.boundsPanic _ _ _ _).indep
  · split
    · exact .pure _
    · exact (SFails.boundsPanic _ _ _ _).indep
  · exact (SFails.stuck _).indep
theorem SIndep.extract (t : Value) (i : Nat) : SIndep P (Instr.extract t i) := by
  unfold Instr.extract
  split
  · split
    · exact .pure _
    · exact (SFails.stuck _).indep
  · exact (SFails.stuck _).indep
theorem SIndep.makeInterface (t : TypeId) (x : Value) : SIndep P (Instr.makeInterface t x) := by
  unfold Instr.makeInterface
  refine .bind (.underlying t) fun u => ?_
  split
  · exact (SFails.stuck _).indep
  · exact .pure _
theorem SIndep.sureAddr (x : Value) : SIndep P (Instr.sureAddr x) := by
  unfold Instr.sureAddr
  split
  · exact .pure _
  · exact (SFails.stuck _).indep
theorem SIndep.indexAt (t : TypeId) (x i : Value) : SIndep P (Instr.indexAt t x i) := by
  unfold Instr.indexAt
  refine .bind (.asIntOf _) fun ki => .bind (.underlying t) fun u => ?_
  dsimp only
  have jp : ∀ (base : Option Addr) (len : Nat) (elem : TypeId), SIndep P (do
      let u' ← Go.underlying t
      match base with
      | some a =>
        if 0 ≤ ki.2 ∧ ki.2 < len then do
          let s ← Go.sizeOf elem
          Pure.pure (Value.pointer (some (a.add (ki.2.toNat * s))))
        else if (decide (len ≤ 1) && match u' with | TypeDesc.array _ _ => true | _ => false) = true then unsupported (.noEntry "op/indexAddr.an index out of range at an array of length 0 or 1 (ledger 616)")
        else boundsPanic ki.1 ki.2 len .index
      | none => boundsPanic ki.1 ki.2 0 .index) := fun base len elem => by
    refine .bind (.underlying t) fun u' => ?_
    split
    · exact .ite (.bind (.sizeOf _) fun _ => .pure _) (.ite (SFails.unsupported _).indep (SFails.boundsPanic _ _ _ _).indep)
    · exact (SFails.boundsPanic _ _ _ _).indep
  split
  · exact .bind (.sureAddr _) fun _ => .bind (.pure _) fun b => jp b.1 b.2.1 b.2.2
  · exact .bind (.pure _) fun b => jp b.1 b.2.1 b.2.2
  · exact .bind (SFails.stuck _).indep fun b => jp b.1 b.2.1 b.2.2
theorem SIndep.sliceBound (x : Value) (y : Nat) (c : BoundsCode) : SIndep P (Instr.sliceBound x y c) := by
  unfold Instr.sliceBound
  exact .bind (.asIntOf _) fun _ => .ite (.pure _) (SFails.boundsPanic _ _ _ _).indep
theorem SIndep.sliceBounds (b : Bool) (n c : Nat) (lo hi mx : Option Value) : SIndep P (Instr.sliceBounds b n c lo hi mx) := by
  unfold Instr.sliceBounds
  cases mx <;> cases hi <;> cases lo <;> dsimp only <;>
    repeat (first | exact SIndep.pure _ | refine SIndep.bind (.sliceBound _ _ _) fun _ => ?_ | refine SIndep.bind (.pure _) fun _ => ?_ | refine SIndep.bind (SFails.stuck _).indep fun _ => ?_)
theorem SIndep.asAddr (v : Value) : SIndep P (Go.asAddr v) := by
  unfold Go.asAddr
  split
  · exact .pure _
  · exact (SFails.runtimePanic _).indep
  · exact (SFails.stuck _).indep
theorem SIndep.slice (t : TypeId) (x : Value) (lo hi mx : Option Value) : SIndep P (Instr.slice t x lo hi mx) := by
  unfold Instr.slice
  refine .bind (.underlying t) fun u => ?_
  split
  · exact .ite (.bind (SFails.stuck _).indep fun _ => .bind (.sliceBounds _ _ _ _ _ _) fun _ => .pure _) (.bind (.sliceBounds _ _ _ _ _ _) fun _ => .pure _)
  · exact .bind (.sliceBounds _ _ _ _ _ _) fun _ => .bind (.sizeOf _) fun _ => .pure _
  · refine .bind (.asAddr _) fun _ => .bind (.underlying _) fun u => ?_
    split
    · exact .bind (.sliceBounds _ _ _ _ _ _) fun _ => .bind (.sizeOf _) fun _ => .pure _
    · exact (SFails.stuck _).indep
  · exact (SFails.stuck _).indep
theorem SIndep.sliceAt (t : TypeId) (x : Value) (lo hi mx : Option Value) : SIndep P (Instr.sliceAt t x lo hi mx) := by
  unfold Instr.sliceAt
  refine .bind (.underlying t) fun u => ?_
  split
  · exact .bind (.sureAddr _) fun _ => .bind (.sliceBounds _ _ _ _ _ _) fun _ => .bind (.sizeOf _) fun _ => .pure _
  · exact .slice _ _ _ _ _
theorem SIndep.unary (op : UnOp) (x : Value) : SIndep P (Op.unary op x) := by
  unfold Op.unary
  split
  · exact .pure _
  · unfold Op.intBits; exact .pure _
  · exact .pure _
  · exact .pure _
  · exact .pure _
  · exact (SFails.unsupported _).indep
  · exact (SFails.unsupported _).indep
  · exact (SFails.stuck _).indep
end
/-! ### Which operations are of that kind -/
structure Tys where
  structs : List TypeId
  scalars : List TypeId
  lens : List TypeId
  aggs : List TypeId

def structOK (P : Program) (s : TypeId) : Bool :=
  match P.underlying s with
  | some (.struct fs) => fs.all fun f => match P.info? f.type with | some i => i.size != 0 | none => false
  | _ => false
def scalarOK (P : Program) (t : TypeId) : Bool :=
  match P.underlying t with
  | some (.int _) => true
  | some .string => true
  | some .bool => true
  | _ => false
def lenOK (P : Program) (t : TypeId) : Bool :=
  match P.underlying t with
  | some .string => true
  | some (.slice _) => true
  | some (.array _ _) => true
  | _ => false
def Tys.ok (P : Program) (T : Tys) : Bool := T.structs.all (structOK P) && T.scalars.all (scalarOK P) && T.lens.all (lenOK P)

def scalarV : Value → Bool
  | .int _ _ => true
  | .bool _ => true
  | .string _ => true
  | _ => false
def nilV : Value → Bool
  | .pointer none => true
  | .slice none _ _ => true
  | .map none => true
  | .nilFunc => true
  | .nilIface => true
  | _ => false
def okPair (op : BinOp) (x y : Value) : Bool :=
  (scalarV x && scalarV y) || ((match op with | .eql | .neq => true | _ => false) && (nilV x || nilV y))

def yB (T : Tys) (o : Oper) : Bool :=
  match o.op with
  | .move _ | .assign _ | .pick .. | .build .. | .nilCheck _ | .unOp .. | .makeInterface .. | .makeFunc .. | .slice .. | .field .. | .indexAddr .. | .index .. | .extract .. => true
  | .binOp _ t _ _ _ => !T.aggs.contains t
  | .fieldAddr s _ _ => T.structs.contains s
  | .convert s d _ => T.scalars.contains s && T.scalars.contains d
  | .call { callee := .builtin .len, argTypes, .. } => T.lens.contains (argTypes.getD 0 0) && decide (0 < argTypes.size)
  | .call { callee := .builtin .cap, argTypes, .. } => T.lens.contains (argTypes.getD 0 0) && decide (0 < argTypes.size)
  | .call { callee := .builtin .min, .. } => true
  | .call { callee := .builtin .max, .. } => true
  | _ => false
def plainArgs (ρ : Operand → Value) (o : Oper) : Bool :=
  match o.op with
  | .binOp op _ x y _ => okPair op (ρ x) (ρ y)
  | .convert _ _ x => scalarV (ρ x)
  | .call { callee := .builtin .min, args, .. } => args.toList.all fun x => scalarV (ρ x)
  | .call { callee := .builtin .max, args, .. } => args.toList.all fun x => scalarV (ρ x)
  | _ => true
def calmB (o : Oper) : Bool :=
  match o.op with
  | .load .. => true
  | _ => false

section
variable {P : Program}
theorem SIndep.shift (op : BinOp) (k : IntKind) (x : Int) (yk : IntKind) (y : Int) : SIndep P (Op.shift op k x yk y) := by
  unfold Op.shift
  refine .ite (SFails.runtimePanic _).indep ?_
  dsimp only
  split
  · exact .pure _
  · exact .pure _
  · exact (SFails.stuck _).indep
theorem SIndep.intArith (op : BinOp) (k : IntKind) (x y : Int) : SIndep P (Op.intArith op k x y) := by
  unfold Op.intArith
  split <;> first | exact .pure _ | exact (SFails.stuck _).indep
theorem SIndep.intDiv (op : BinOp) (k : IntKind) (x y : Int) : SIndep P (Op.intDiv op k x y) := by
  unfold Op.intDiv
  refine .ite (SFails.runtimePanic _).indep ?_
  split <;> first | exact .pure _ | exact (SFails.stuck _).indep
theorem SIndep.intBits (op : BinOp) (k : IntKind) (x y : Int) : SIndep P (Op.intBits op k x y) := by
  unfold Op.intBits
  dsimp only
  split <;> first | exact .pure _ | exact (SFails.stuck _).indep
theorem SIndep.intCmp (op : BinOp) (x y : Int) : SIndep P (Op.intCmp op x y) := by
  unfold Op.intCmp
  split <;> first | exact .pure _ | exact (SFails.stuck _).indep
theorem SIndep.stringOp (op : BinOp) (x y : ByteArray) : SIndep P (Op.stringOp op x y) := by
  unfold Op.stringOp
  dsimp only
  split <;> first | exact .pure _ | exact (SFails.stuck _).indep | exact .ite (SFails.unsupported _).indep (.pure _)
theorem SIndep.equalIn_scalar (d : Nat) (t : TypeId) (x y : Value) (hx : scalarV x = true) (hy : scalarV y = true) : SIndep P (Op.equalIn d t x y) := by
  cases d with
  | zero => exact (SFails.unsupported _).indep
  | succ d =>
    unfold Op.equalIn
    refine .bind (.underlying t) fun u => ?_
    cases x <;> simp only [scalarV, Bool.false_eq_true] at hx <;> cases y <;> simp only [scalarV, Bool.false_eq_true] at hy <;> cases u <;> (try dsimp only) <;>
      first
        | exact .pure _
        | exact (SFails.stuck _).indep
        | exact .ite (.pure _) (SFails.stuck _).indep
theorem SIndep.equalIn_nil_left (d : Nat) (t : TypeId) (x y : Value) (hx : nilV x = true) : SIndep P (Op.equalIn d t x y) := by
  cases d with
  | zero => exact (SFails.unsupported _).indep
  | succ d =>
    unfold Op.equalIn
    refine .bind (.underlying t) fun u => ?_
    have pn : ∀ (s : TypeDesc) (y : Value), True := fun _ _ => trivial
    cases x with
    | pointer a =>
      cases a with
      | some a => simp [nilV] at hx
      | none =>
        cases u <;> (try dsimp only) <;> cases y <;> (try dsimp only) <;>
          first
            | exact .pure _
            | exact (SFails.stuck _).indep
            | exact (SFails.unsupported _).indep
            | (rename_i o; cases o <;> (try dsimp only [samePointer]) <;> first | exact .pure _ | exact (SFails.unsupported _).indep | exact (SFails.stuck _).indep)
            | (split <;> first | exact .pure _ | exact (SFails.stuck _).indep | exact (SFails.unsupported _).indep)
    | slice a n c =>
      cases a with
      | some a => simp [nilV] at hx
      | none =>
        cases u <;> (try dsimp only) <;> cases y <;> (try dsimp only) <;>
          first
            | exact .pure _
            | exact (SFails.stuck _).indep
            | exact (SFails.unsupported _).indep
    | map a =>
      cases a with
      | some a => simp [nilV] at hx
      | none =>
        cases u <;> (try dsimp only) <;> cases y <;> (try dsimp only) <;>
          first
            | exact .pure _
            | exact (SFails.stuck _).indep
            | exact (SFails.unsupported _).indep
    | nilFunc =>
      cases u <;> (try dsimp only) <;> cases y <;> (try dsimp only) <;>
        first
          | exact .pure _
          | exact (SFails.stuck _).indep
          | exact (SFails.unsupported _).indep
    | nilIface =>
      cases u <;> (try dsimp only) <;> cases y <;> (try dsimp only) <;>
        first
          | exact .pure _
          | exact (SFails.stuck _).indep
          | exact (SFails.unsupported _).indep
    | _ => simp [nilV] at hx
theorem eqr_ptr (d : Nat) (t : TypeId) (x : Value) : SIndep P (Op.equalIn (d + 1) t x (.pointer none)) := by
  unfold Op.equalIn
  refine .bind (.underlying t) fun u => ?_
  cases x with
  | pointer a => cases a <;> cases u <;> dsimp only [samePointer] <;> first | exact .pure _ | exact (SFails.unsupported _).indep | exact (SFails.stuck _).indep
  | slice a n c => cases a <;> cases u <;> dsimp only <;> first | exact .pure _ | exact (SFails.unsupported _).indep | exact (SFails.stuck _).indep
  | map a => cases a <;> cases u <;> dsimp only <;> first | exact .pure _ | exact (SFails.unsupported _).indep | exact (SFails.stuck _).indep
  | _ => cases u <;> dsimp only <;> first | exact .pure _ | exact (SFails.unsupported _).indep | exact (SFails.stuck _).indep
theorem eqr_slice (d : Nat) (t : TypeId) (x : Value) (n0 c0 : Nat) : SIndep P (Op.equalIn (d + 1) t x (.slice none n0 c0)) := by
  unfold Op.equalIn
  refine .bind (.underlying t) fun u => ?_
  cases x with
  | pointer a => cases a <;> cases u <;> dsimp only [samePointer] <;> first | exact .pure _ | exact (SFails.unsupported _).indep | exact (SFails.stuck _).indep
  | slice a n c => cases a <;> cases u <;> dsimp only <;> first | exact .pure _ | exact (SFails.unsupported _).indep | exact (SFails.stuck _).indep
  | map a => cases a <;> cases u <;> dsimp only <;> first | exact .pure _ | exact (SFails.unsupported _).indep | exact (SFails.stuck _).indep
  | _ => cases u <;> dsimp only <;> first | exact .pure _ | exact (SFails.unsupported _).indep | exact (SFails.stuck _).indep
theorem eqr_map (d : Nat) (t : TypeId) (x : Value) : SIndep P (Op.equalIn (d + 1) t x (.map none)) := by
  unfold Op.equalIn
  refine .bind (.underlying t) fun u => ?_
  cases x with
  | pointer a => cases a <;> cases u <;> dsimp only [samePointer] <;> first | exact .pure _ | exact (SFails.unsupported _).indep | exact (SFails.stuck _).indep
  | slice a n c => cases a <;> cases u <;> dsimp only <;> first | exact .pure _ | exact (SFails.unsupported _).indep | exact (SFails.stuck _).indep
  | map a => cases a <;> cases u <;> dsimp only <;> first | exact .pure _ | exact (SFails.unsupported _).indep | exact (SFails.stuck _).indep
  | _ => cases u <;> dsimp only <;> first | exact .pure _ | exact (SFails.unsupported _).indep | exact (SFails.stuck _).indep
theorem eqr_func (d : Nat) (t : TypeId) (x : Value) : SIndep P (Op.equalIn (d + 1) t x .nilFunc) := by
  unfold Op.equalIn
  refine .bind (.underlying t) fun u => ?_
  cases x with
  | pointer a => cases a <;> cases u <;> dsimp only [samePointer] <;> first | exact .pure _ | exact (SFails.unsupported _).indep | exact (SFails.stuck _).indep
  | slice a n c => cases a <;> cases u <;> dsimp only <;> first | exact .pure _ | exact (SFails.unsupported _).indep | exact (SFails.stuck _).indep
  | map a => cases a <;> cases u <;> dsimp only <;> first | exact .pure _ | exact (SFails.unsupported _).indep | exact (SFails.stuck _).indep
  | _ => cases u <;> dsimp only <;> first | exact .pure _ | exact (SFails.unsupported _).indep | exact (SFails.stuck _).indep
theorem eqr_iface (d : Nat) (t : TypeId) (x : Value) : SIndep P (Op.equalIn (d + 1) t x .nilIface) := by
  unfold Op.equalIn
  refine .bind (.underlying t) fun u => ?_
  cases x with
  | pointer a => cases a <;> cases u <;> dsimp only [samePointer] <;> first | exact .pure _ | exact (SFails.unsupported _).indep | exact (SFails.stuck _).indep
  | slice a n c => cases a <;> cases u <;> dsimp only <;> first | exact .pure _ | exact (SFails.unsupported _).indep | exact (SFails.stuck _).indep
  | map a => cases a <;> cases u <;> dsimp only <;> first | exact .pure _ | exact (SFails.unsupported _).indep | exact (SFails.stuck _).indep
  | _ => cases u <;> dsimp only <;> first | exact .pure _ | exact (SFails.unsupported _).indep | exact (SFails.stuck _).indep
theorem SIndep.equalIn_nil_right (d : Nat) (t : TypeId) (x y : Value) (hy : nilV y = true) : SIndep P (Op.equalIn d t x y) := by
  cases d with
  | zero => exact (SFails.unsupported _).indep
  | succ d =>
    cases y with
    | pointer a =>
      cases a with
      | some a => simp [nilV] at hy
      | none => exact eqr_ptr d t x
    | slice a n c =>
      cases a with
      | some a => simp [nilV] at hy
      | none => exact eqr_slice d t x n c
    | map a =>
      cases a with
      | some a => simp [nilV] at hy
      | none => exact eqr_map d t x
    | nilFunc => exact eqr_func d t x
    | nilIface => exact eqr_iface d t x
    | _ => simp [nilV] at hy
theorem SIndep.intToString (n : Int) : SIndep P (Conv.intToString n) := by
  unfold Conv.intToString
  exact .pure _
theorem SIndep.max2 (x y : Value) (hx : scalarV x = true) (hy : scalarV y = true) : SIndep P (Builtin.max2 x y) := by
  cases x <;> simp only [scalarV, Bool.false_eq_true] at hx <;> cases y <;> simp only [scalarV, Bool.false_eq_true] at hy <;> unfold Builtin.max2 <;> (try dsimp only) <;>
    first
      | exact .pure _
      | exact (SFails.stuck _).indep
      | exact .bind (.stringOp _ _ _) fun _ => .bind (.asBool _) fun _ => .pure _
theorem SIndep.min2 (x y : Value) (hx : scalarV x = true) (hy : scalarV y = true) : SIndep P (Builtin.min2 x y) := by
  cases x <;> simp only [scalarV, Bool.false_eq_true] at hx <;> cases y <;> simp only [scalarV, Bool.false_eq_true] at hy <;> unfold Builtin.min2 <;> (try dsimp only) <;>
    first
      | exact .pure _
      | exact (SFails.stuck _).indep
      | exact .bind (.stringOp _ _ _) fun _ => .bind (.asBool _) fun _ => .pure _
theorem max2_scalar {x y v : Value} {w w1 : World} (hx : scalarV x = true) (hy : scalarV y = true) (h : (Builtin.max2 x y).run P w = .ok v w1) : scalarV v = true := by
  cases x <;> simp only [scalarV, Bool.false_eq_true] at hx <;> cases y <;> simp only [scalarV, Bool.false_eq_true] at hy <;> unfold Builtin.max2 at h <;> (try dsimp only at h) <;>
    first
      | (simp only [Sem.run_pure, Result.ok.injEq] at h; obtain ⟨rfl, _⟩ := h; rfl)
      | (simp at h; done)
      | (simp only [Sem.run_bind] at h
         generalize (Op.stringOp .geq _ _).run P w = r at h
         cases r with
         | halt x wx => simp at h
         | ok u wu =>
           simp only [Result.andThen_ok] at h
           cases u <;> simp [Go.asBool] at h
           obtain ⟨rfl, _⟩ := h; split <;> rfl)
theorem min2_scalar {x y v : Value} {w w1 : World} (hx : scalarV x = true) (hy : scalarV y = true) (h : (Builtin.min2 x y).run P w = .ok v w1) : scalarV v = true := by
  cases x <;> simp only [scalarV, Bool.false_eq_true] at hx <;> cases y <;> simp only [scalarV, Bool.false_eq_true] at hy <;> unfold Builtin.min2 at h <;> (try dsimp only at h) <;>
    first
      | (simp only [Sem.run_pure, Result.ok.injEq] at h; obtain ⟨rfl, _⟩ := h; rfl)
      | (simp at h; done)
      | (simp only [Sem.run_bind] at h
         generalize (Op.stringOp _ _ _).run P w = r at h
         cases r with
         | halt x wx => simp at h
         | ok u wu =>
           simp only [Result.andThen_ok] at h
           cases u <;> simp [Go.asBool] at h
           obtain ⟨rfl, _⟩ := h; split <;> rfl)
theorem SIndep.foldlM (f : Value → Value → Sem Value) (hf : ∀ x y, scalarV x = true → scalarV y = true → SIndep P (f x y))
    (hs : ∀ {x y v : Value} {w w1 : World}, scalarV x = true → scalarV y = true → (f x y).run P w = .ok v w1 → scalarV v = true) :
    ∀ (l : List Value) (x : Value), scalarV x = true → (∀ y ∈ l, scalarV y = true) → SIndep P (l.foldlM f x)
  | [], x, _, _ => by rw [List.foldlM_nil]; exact .pure _
  | y :: l, x, hx, hl => by
    rw [List.foldlM_cons]
    have hy := hl y (by simp)
    intro w v w1 e
    rw [Sem.run_bind] at e
    cases h : (f x y).run P w with
    | halt z wx => rw [h] at e; simp at e
    | ok u wu =>
      rw [h] at e
      simp only [Result.andThen_ok] at e
      obtain ⟨rfl, h2⟩ := hf x y hx hy w u wu h
      obtain ⟨rfl, h4⟩ := SIndep.foldlM f hf hs l u (hs hx hy h) (fun z hz => hl z (by simp [hz])) _ v w1 e
      exact ⟨rfl, fun w' => by rw [Sem.run_bind, h2 w', Result.andThen_ok, h4 w']⟩
theorem scalar_not_agg {x y : Value} : scalarV x = true → scalarV y = true → True := fun _ _ => trivial
theorem SIndep.binOp (op : BinOp) (t : TypeId) (x y : Value) (h : okPair op x y = true) : SIndep P (Go.binOp op t x y) := by
  simp only [okPair, Bool.or_eq_true, Bool.and_eq_true] at h
  rcases h with ⟨hx, hy⟩ | ⟨hop, hn⟩
  · cases x <;> simp only [scalarV, Bool.false_eq_true] at hx <;> cases y <;> simp only [scalarV, Bool.false_eq_true] at hy <;> cases op <;> unfold Go.binOp <;> (try dsimp only) <;>
      first
        | exact .shift _ _ _ _ _
        | exact (SFails.stuck _).indep
        | exact .stringOp _ _ _
        | exact .bind (.equalIn_scalar _ _ _ _ rfl rfl) fun _ => .pure _
        | exact .ite (SFails.stuck _).indep (.intArith _ _ _ _)
        | exact .ite (SFails.stuck _).indep (.intDiv _ _ _ _)
        | exact .ite (SFails.stuck _).indep (.intBits _ _ _ _)
        | exact .ite (SFails.stuck _).indep (.intCmp _ _ _)
  · have heq : SIndep P (Op.equal t x y) := by
      rcases hn with hn | hn
      · exact .equalIn_nil_left _ _ _ _ hn
      · exact .equalIn_nil_right _ _ _ _ hn
    rcases hn with hn | hn
    · cases x <;> simp only [nilV, Bool.false_eq_true] at hn <;> cases op <;> simp only [Bool.false_eq_true] at hop <;> unfold Go.binOp <;> (try dsimp only) <;> exact .bind heq fun _ => .pure _
    · cases y <;> simp only [nilV, Bool.false_eq_true] at hn <;> cases op <;> simp only [Bool.false_eq_true] at hop <;> cases x <;> unfold Go.binOp <;> (try dsimp only) <;> exact .bind heq fun _ => .pure _
theorem SIndep.eqGuard (op : BinOp) (t : TypeId) (x y : Operand) (a b : Value) (h : okPair op a b = true) : SIndep P (Go.eqGuard op t x y a b) := by
  unfold Go.eqGuard
  refine .ite (.pure _) ?_
  split
  · refine .ite (.pure _) (.bind ?_ fun r => .ite (SFails.unsupported _).indep (.pure _))
    unfold Op.maxDepth Op.eqGuardIn
    refine .bind (.underlying _) fun u => ?_
    cases u <;> exact .pure _
  · exfalso
    simp [okPair, scalarV, nilV] at h
  · exact .pure _
theorem SIndep.len (ats : Array TypeId) (ty : TypeId) (args : Array Value) (h : lenOK P (ats.getD 0 0) = true) (h0 : 0 < ats.size) : SIndep P (Builtin.len_ ats ty args) := by
  unfold Builtin.len_
  have e : ats[0]? = some (ats.getD 0 0) := by simp [h0]
  rw [e]
  cases hx : args[0]? with
  | none => exact (SFails.stuck _).indep
  | some x =>
    dsimp only
    generalize ats.getD 0 0 = t at h
    intro w v w1 hr
    rw [Sem.run_bind] at hr
    have hu : ∀ w, (Go.underlying t).run P w = match P.underlying t with | some d => .ok d w | none => .halt (.stuck "no such type") w := fun w => by
      unfold Go.underlying
      rw [Sem.run_bind, run_program, Result.andThen_ok]
      split <;> simp_all
    simp only [Sem.run_bind, hu]
    rw [hu] at hr
    unfold lenOK at h
    split at h
    all_goals first | (simp at h; done) | skip
    all_goals
      rename_i hd
      rw [hd] at hr ⊢
      simp only [Result.andThen_ok] at hr ⊢
    · cases x <;> simp [goInt] at hr ⊢
      obtain ⟨rfl, rfl⟩ := hr
      simp
    · cases x <;> simp [goInt] at hr ⊢
      obtain ⟨rfl, rfl⟩ := hr
      simp
    · simp [goInt] at hr ⊢
      obtain ⟨rfl, rfl⟩ := hr
      simp
theorem SIndep.cap (ats : Array TypeId) (ty : TypeId) (args : Array Value) (h : lenOK P (ats.getD 0 0) = true) (h0 : 0 < ats.size) : SIndep P (Builtin.cap_ ats ty args) := by
  unfold Builtin.cap_
  have e : ats[0]? = some (ats.getD 0 0) := by simp [h0]
  rw [e]
  cases hx : args[0]? with
  | none => exact (SFails.stuck _).indep
  | some x =>
    dsimp only
    generalize ats.getD 0 0 = t at h
    intro w v w1 hr
    rw [Sem.run_bind] at hr
    have hu : ∀ w, (Go.underlying t).run P w = match P.underlying t with | some d => .ok d w | none => .halt (.stuck "no such type") w := fun w => by
      unfold Go.underlying
      rw [Sem.run_bind, run_program, Result.andThen_ok]
      split <;> simp_all
    simp only [Sem.run_bind, hu]
    rw [hu] at hr
    unfold lenOK at h
    split at h
    all_goals first | (simp at h; done) | skip
    all_goals
      rename_i hd
      rw [hd] at hr ⊢
      simp only [Result.andThen_ok] at hr ⊢
    · cases x <;> simp at hr
    · cases x <;> simp [goInt] at hr ⊢
      obtain ⟨rfl, rfl⟩ := hr
      simp
    · simp [goInt] at hr ⊢
      obtain ⟨rfl, rfl⟩ := hr
      simp
theorem SIndep.convert (src dst : TypeId) (x : Value) (hs : scalarOK P src = true) (hd : scalarOK P dst = true) (hx : scalarV x = true) : SIndep P (Go.convert src dst x) := by
  have hu : ∀ t w, (Go.underlying t).run P w = match P.underlying t with | some d => .ok d w | none => .halt (.stuck "no such type") w := fun t w => by
    unfold Go.underlying
    rw [Sem.run_bind, run_program, Result.andThen_ok]
    split <;> simp_all
  unfold Go.convert
  intro w v w1 hr
  simp only [Sem.run_bind, hu] at hr ⊢
  unfold scalarOK at hs hd
  split at hs
  all_goals first | (simp at hs; done) | skip
  all_goals
    rename_i e1
    rw [e1] at hr ⊢
    split at hd
    all_goals first | (simp at hd; done) | skip
    all_goals
      rename_i e2
      rw [e2] at hr ⊢
      simp only [Result.andThen_ok] at hr ⊢
      cases x <;> simp only [scalarV, Bool.false_eq_true] at hx
      all_goals simp [Conv.intToInt, Conv.intToString] at hr ⊢
      all_goals first | (obtain ⟨rfl, rfl⟩ := hr; simp) | skip
theorem SIndep.followBlind : ∀ (l : List FieldStep) (t : TypeId) (x : Option Value), SIndep P (Go.followBlind l t x)
  | [], t, x => .pure _
  | s :: rest, t, x => by
    unfold Go.followBlind
    refine .bind (.underlying _) fun u => ?_
    split
    · split
      · split
        · exact .pure _
        · exact .followBlind _ _ _
        · exact (SFails.stuck _).indep
        · exact .pure _
        · exact .bind (.part _ _ _) fun _ => .followBlind _ _ _
        · exact (SFails.stuck _).indep
        · exact .followBlind _ _ _
      · exact (SFails.stuck _).indep
    · exact (SFails.stuck _).indep
theorem SIndep.nilAhead : ∀ (n : Nat) (t : TypeId) (v : Value) (name : String), SIndep P (Go.nilAhead n t v name)
  | 0, _, _, _ => .pure _
  | n + 1, t, v, name => by
    unfold Go.nilAhead
    refine .bind (.typeInfo _) fun i => ?_
    split
    · refine .bind (.followBlind _ _ _) fun r => ?_
      split
      · exact .pure _
      · split
        · exact .nilAhead _ _ _ _
        · exact .pure _
        · exact (SFails.stuck _).indep
        · exact .pure _
        · exact .pure _
        · refine .bind (.underlying _) fun u => ?_
          split <;> exact .pure _
    · exact (SFails.stuck _).indep
theorem SIndep.fieldAt (s : TypeId) (x : Value) (f : Nat) (h : structOK P s = true) : SIndep P (Instr.fieldAt s x f) := by
  have hu : ∀ t w, (Go.underlying t).run P w = match P.underlying t with | some d => .ok d w | none => .halt (.stuck "no such type") w := fun t w => by
    unfold Go.underlying
    rw [Sem.run_bind, run_program, Result.andThen_ok]
    split <;> simp_all
  unfold Instr.fieldAt
  intro w v w1 hr
  simp only [Sem.run_bind, hu] at hr ⊢
  unfold structOK at h
  split at h
  · rename_i fs hfs
    rw [hfs] at hr ⊢
    simp only [Result.andThen_ok] at hr ⊢
    cases hf : fs[f]? with
    | none => rw [hf] at hr; simp at hr
    | some fl =>
      rw [hf] at hr
      simp only [Sem.run_bind] at hr ⊢
      have hfl := Array.all_eq_true_iff_forall_mem.1 h fl (Array.mem_of_getElem? hf)
      have hplace : ∀ (a : Addr) (w : World), (fieldPlace a fl).run P w = .ok (a.add fl.offset) w := fun a w => by
        unfold fieldPlace Go.sizeOf Go.typeInfo
        split at hfl
        · rename_i i hi
          have : i.size ≠ 0 := by simpa using hfl
          simp [hi, this]
        · simp at hfl
      cases x <;> simp [Instr.sureAddr] at hr ⊢
      rename_i a
      cases a with
      | none => simp at hr
      | some a =>
        simp [hplace] at hr ⊢
        obtain ⟨rfl, rfl⟩ := hr
        simp
  · simp at h

/-! ### The operations -/
def YRes (P : Program) (s : Sem Next) : Prop := ∀ w n w1, s.run P w = .ok n w1 → ∃ v, n = .value v ∧ w1 = w ∧ ∀ w', s.run P w' = .ok (.value v) w'
theorem YRes.pureV (v : Value) : YRes P (Pure.pure (Next.value v)) := fun w n w1 h => by
  simp only [Sem.run_pure, Result.ok.injEq] at h
  exact ⟨v, h.1.symm, h.2.symm, fun _ => rfl⟩
theorem SFails.yres {s : Sem Next} (h : SFails P s) : YRes P s := fun w v w1 e => absurd e (h w v w1)
theorem YRes.bindI {α : Type} {s : Sem α} {f : α → Sem Next} (hs : SIndep P s) (hf : ∀ v, YRes P (f v)) : YRes P (s >>= f) := fun w n w1 e => by
  rw [Sem.run_bind] at e
  cases h : s.run P w with
  | halt x wx => rw [h] at e; simp at e
  | ok u wu =>
    rw [h] at e
    simp only [Result.andThen_ok] at e
    obtain ⟨rfl, h2⟩ := hs w u wu h
    obtain ⟨v, rfl, rfl, h4⟩ := hf u _ n w1 e
    exact ⟨v, rfl, rfl, fun w' => by rw [Sem.run_bind, h2 w', Result.andThen_ok, h4 w']⟩
theorem YRes.ofV {s : Sem Value} (hs : SIndep P s) : YRes P (s >>= fun v => Pure.pure (Next.value v)) := .bindI hs fun v => .pureV v
theorem YRes.ite {c : Prop} [Decidable c] {s t : Sem Next} (hs : YRes P s) (ht : YRes P t) : YRes P (if c then s else t) := by
  split
  · exact hs
  · exact ht
theorem Tys.structs_ok {T : Tys} (hT : T.ok P = true) {s : TypeId} (h : T.structs.contains s = true) : structOK P s = true := by
  simp only [Tys.ok, Bool.and_eq_true, List.all_eq_true] at hT
  exact hT.1.1 s (by simpa using h)
theorem Tys.scalars_ok {T : Tys} (hT : T.ok P = true) {s : TypeId} (h : T.scalars.contains s = true) : scalarOK P s = true := by
  simp only [Tys.ok, Bool.and_eq_true, List.all_eq_true] at hT
  exact hT.1.2 s (by simpa using h)
theorem Tys.lens_ok {T : Tys} (hT : T.ok P = true) {s : TypeId} (h : T.lens.contains s = true) : lenOK P s = true := by
  simp only [Tys.ok, Bool.and_eq_true, List.all_eq_true] at hT
  exact hT.2 s (by simpa using h)
theorem yOp {T : Tys} (hT : T.ok P = true) {o : Oper} {ρ : Operand → Value} (hy : yB T o = true) (hp : plainArgs ρ o = true) : YRes P (execOp ρ o) := by
  obtain ⟨dst, op, type, pos, after, guard⟩ := o
  cases op <;> simp only [yB, Bool.false_eq_true] at hy <;> simp only [plainArgs] at hp <;> simp only [execOp]
  case move x => exact .pureV _
  case assign x => exact .pureV _
  case pick c a b => exact .bindI (.asBool _) fun _ => .pureV _
  case build t ps => exact .ofV (.build _ _)
  case nilCheck x =>
    split
    · exact (SFails.runtimePanic _).yres
    · exact (SFails.runtimePanic _).yres
    · exact (SFails.runtimePanic _).yres
    · split
      · exact (SFails.runtimePanic _).yres
      · refine .bindI .program fun _ => .bindI (.nilAhead _ _ _ _) fun _ => ?_
        split
        · exact (SFails.bind_left (SFails.unsupported _)).yres
        · exact .pureV _
      · exact .pureV _
    · exact .pureV _
  case binOp op t x y yt =>
    have := YRes.bindI (SIndep.eqGuard (P := P) op t x y (ρ x) (ρ y) hp) fun _ => YRes.ofV (SIndep.binOp (P := P) op t (ρ x) (ρ y) hp)
    intro w n w1 h
    have := this w n w1
    simp only [bind_assoc] at this h ⊢
    exact this h
  case unOp op t x => exact .ofV (.unary _ _)
  case convert src dst x =>
    simp only [Bool.and_eq_true] at hy
    exact .ofV (.convert _ _ _ (Tys.scalars_ok hT hy.1) (Tys.scalars_ok hT hy.2) hp)
  case makeInterface t x => exact .ofV (.makeInterface _ _)
  case makeFunc fn f c => exact .ofV (.pure _)
  case slice t x lo hi mx => exact .ofV (.sliceAt _ _ _ _ _)
  case fieldAddr s x f => exact .ofV (.fieldAt _ _ _ (Tys.structs_ok hT hy))
  case field t x f => exact .ofV (.field _ _ _)
  case indexAddr t x i => exact .ofV (.indexAt _ _ _)
  case index t x i => exact .ofV (.index _ _ _)
  case extract t i => exact .ofV (.extract _ _)
  case call c =>
    obtain ⟨callee, args, ats⟩ := c
    cases callee with
    | value f => simp at hy
    | invoke r m => simp at hy
    | builtin b =>
      have e : resolve ρ { callee := .builtin b, args := args, argTypes := ats } type = Pure.pure { target := .builtin b ats type (args.map fun | .const _ => true | _ => false), args := args.map ρ } := rfl
      rw [e, pure_bind]
      have hall : (args.toList.all fun x => scalarV (ρ x)) = true → ((args.map ρ).toList.all scalarV) = true := fun h => by
        simp only [List.all_eq_true, Array.toList_map, List.mem_map] at h ⊢
        rintro _ ⟨y, hy, rfl⟩
        exact h y hy
      simp only [invoke]
      generalize args.map ρ = vs at hall
      cases b <;> simp only [Bool.and_eq_true, decide_eq_true_eq, Bool.false_eq_true] at hy <;> simp only [Go.builtin]
      case len => exact .ofV (.len _ _ _ (Tys.lens_ok hT hy.1) hy.2)
      case cap => exact .ofV (.cap _ _ _ (Tys.lens_ok hT hy.1) hy.2)
      case max =>
        refine .ofV ?_
        unfold Builtin.max_
        have hl := hall hp
        generalize vs.toList = l at hl
        cases l with
        | nil => exact (SFails.stuck _).indep
        | cons x rest =>
          simp only [List.all_cons, Bool.and_eq_true, List.all_eq_true] at hl
          exact .foldlM _ (fun _ _ => .max2 _ _) max2_scalar rest x hl.1 hl.2
      case min =>
        refine .ofV ?_
        unfold Builtin.min_
        have hl := hall hp
        generalize vs.toList = l at hl
        cases l with
        | nil => exact (SFails.stuck _).indep
        | cons x rest =>
          simp only [List.all_cons, Bool.and_eq_true, List.all_eq_true] at hl
          exact .foldlM _ (fun _ _ => .min2 _ _) min2_scalar rest x hl.1 hl.2
theorem all_same {α : Type} {l : List α} {p q : α → Bool} (h : ∀ x ∈ l, p x = q x) : l.all p = l.all q := by
  induction l with
  | nil => rfl
  | cons x l ih => simp only [List.all_cons, h x (by simp), ih fun y hy => h y (by simp [hy])]
theorem plainArgs_congr {ρ ρ' : Operand → Value} (o : Oper) (h : ∀ x ∈ o.op.operands, ρ x = ρ' x) : plainArgs ρ o = plainArgs ρ' o := by
  obtain ⟨dst, op, type, pos, after, guard⟩ := o
  unfold plainArgs
  dsimp only at h ⊢
  split
  · rw [h _ (by simp [Op.operands]), h _ (by simp [Op.operands])]
  · rw [h _ (by simp [Op.operands])]
  · exact all_same fun x hx => by rw [h x (by simp [Op.operands, Call.operands]; simpa using hx)]
  · exact all_same fun x hx => by rw [h x (by simp [Op.operands, Call.operands]; simpa using hx)]
  · rfl
theorem calmOp {o : Oper} {ρ : Operand → Value} (hy : calmB o = true) {w n w1} (h : (execOp ρ o).run P w = .ok n w1) : ∃ v, n = .value v ∧ w1 = w := by
  obtain ⟨dst, op, type, pos, after, guard⟩ := o
  cases op <;> simp only [calmB, Bool.false_eq_true] at hy
  case load t a =>
    simp only [execOp] at h
    rw [Sem.run_bind] at h
    cases hl : (Instr.loadAt t (ρ a)).run P w with
    | halt x wx => rw [hl] at h; simp at h
    | ok u wu =>
      rw [hl] at h
      simp only [Result.andThen_ok, Sem.run_pure, Result.ok.injEq] at h
      refine ⟨u, h.1.symm, ?_⟩
      rw [← h.2]
      have cells : ∀ (n i : Nat) (ad : Addr) (acc : Array Value) (w : World) (u : Array Value) (wu : World), (loadCellsFrom ad i n acc).run P w = .ok u wu → wu = w := by
        intro n
        induction n with
        | zero => intro i ad acc w u wu h; simp [loadCellsFrom] at h; exact h.2.symm
        | succ n ih =>
          intro i ad acc w u wu h
          simp only [loadCellsFrom, Sem.run_bind] at h
          cases h1 : (load (ad.add i)).run P w with
          | halt x wx => rw [h1] at h; simp at h
          | ok y wy =>
            rw [h1] at h
            simp only [Result.andThen_ok] at h
            have : wy = w := by
              rw [run_load] at h1
              split at h1
              · simp at h1; exact h1.2.symm
              · split at h1
                · simp at h1; exact h1.2.symm
                · simp at h1
            exact this ▸ ih _ _ _ _ _ _ h
      unfold Instr.loadAt at hl
      rw [Sem.run_bind] at hl
      cases hs : (Instr.sureAddr (ρ a)).run P w with
      | halt x wx => rw [hs] at hl; simp at hl
      | ok ad wa =>
        rw [hs] at hl
        obtain ⟨rfl, _⟩ := SIndep.sureAddr (P := P) (ρ a) w ad wa hs
        simp only [Result.andThen_ok] at hl
        unfold loadVar at hl
        rw [Sem.run_bind] at hl
        cases hg : (Go.isAgg t).run P wa with
        | halt x wx => rw [hg] at hl; simp at hl
        | ok b wb =>
          rw [hg] at hl
          obtain ⟨rfl, _⟩ := SIndep.isAgg (P := P) t wa b wb hg
          simp only [Result.andThen_ok] at hl
          split at hl
          · simp only [Sem.run_bind] at hl
            cases hz : (Go.sizeOf t).run P wb with
            | halt x wx => rw [hz] at hl; simp at hl
            | ok z wz =>
              rw [hz] at hl
              obtain ⟨rfl, _⟩ := SIndep.sizeOf (P := P) t wb z wz hz
              simp only [Result.andThen_ok] at hl
              cases hc : (loadCells ad z).run P wz with
              | halt x wx => rw [hc] at hl; simp at hl
              | ok cs wc =>
                rw [hc] at hl
                simp only [Result.andThen_ok, Sem.run_pure, Result.ok.injEq] at hl
                rw [← hl.2]
                exact cells _ _ _ _ _ _ _ hc
          · rw [run_load] at hl
            split at hl
            · simp at hl; exact hl.2.symm
            · split at hl
              · simp at hl; exact hl.2.symm
              · simp at hl

/-! ### The walk in the order of the text, or of a tree of orders -/
variable {T : Tys} {H : Bool} {S : World → Prop} {ops : Array Oper} {md : Region.Mode} {N : Act → World → Prop}
def OnlyN (N : Act → World → Prop) : Exit → Act → World → Prop
  | .normal, a, w => N a w
  | _, _, _ => False
theorem not_lets (h : LetsOut (OnlyN N)) : False := by
  obtain ⟨_, _, h⟩ := h
  exact h
/-- A load that gives the same in every world in which `S` holds. -/
def HeldAt (P : Program) (S : World → Prop) (o : Oper) (a : Act) : Prop := ∃ v, ∀ w', S w' → (execOp a.eval o).run P w' = .ok (.value v) w'
def Dyn (P : Program) (T : Tys) (H : Bool) (S : World → Prop) (o : Oper) (a : Act) : Prop :=
  (yB T o = true → plainArgs a.eval o = true) ∧ ((H && calmB o) = true → HeldAt P S o a)
def stillB (T : Tys) (H : Bool) (o : Oper) : Bool := yB T o || (H && calmB o)
/-- who waits for `k`, itself or through others: one bit each -/
def depBits (md : Region.Mode) (ops : Array Oper) (k : Nat) : Nat :=
  ops.toList.zipIdx.foldl (fun acc x => if x.1.after.any (fun e => Region.binds md e && (e.on == k || acc.testBit e.on)) then acc ||| 2 ^ x.2 else acc) 0
/-- does the operation act while a load may still come? -/
def ndB (ops : Array Oper) (i : Nat) : Bool :=
  (List.range ops.size).any fun j => j != i && match ops[j]? with
    | some oj => calmB oj && !(depBits .any ops j).testBit i
    | none => false
def postOf (T : Tys) (H : Bool) (S : World → Prop) (ops : Array Oper) (i : Nat) (o : Oper) (w w' : World) : Prop :=
  (stillB T H o = true → w' = w) ∧ (stillB T H o = false → H = true → ndB ops i = true → S w')
def wpX (P : Program) (T : Tys) (H : Bool) (S : World → Prop) (ops : Array Oper) (N : Act → World → Prop) (i : Nat) (K : Act → World → Prop) (a : Act) (w : World) : Prop :=
  match ops[i]? with
  | none => K a w
  | some o => if Region.wanted o (yielded ops a.tmps) then Dyn P T H S o a ∧ o.wp P a w (fun a' w' => postOf T H S ops i o w w' ∧ K a' w') (OnlyN N) else K (a.put o.dst undef) w
theorem upon_mono {o : Oper} {a : Act} {K K' : Act → World → Prop} {r : Result Next} (h : ∀ u a' w', a'.tmps = (a.put o.dst u).tmps → K a' w' → K' a' w')
    (hh : o.upon P a K (OnlyN N) r) : o.upon P a K' (OnlyN N) r := by
  cases r with
  | ok n w' =>
    cases n <;> simp only [Oper.upon] at hh ⊢
    case value v => exact h v _ _ rfl hh
    case skip => exact h _ _ _ rfl hh
    case defer d => exact h undef _ _ (by cases o.dst <;> rfl) hh
    case enter f args => exact Calls.mono hh (fun e w'' he => by
      cases e with
      | returned v => exact h v _ _ rfl he
      | panicked c => exact he
      | outgrown => exact (not_lets he).elim)
    case row r args => exact Rows.mono hh (fun v w'' he => h v _ _ rfl he)
  | halt x w' => cases x <;> simp only [Oper.upon] at hh ⊢ <;> exact hh
theorem wpX_mono {i : Nat} {a : Act} {w : World} {K K' : Act → World → Prop} {o : Oper} (ho : ops[i]? = some o) (h : ∀ u a' w', a'.tmps = (a.put o.dst u).tmps → (w' = w ∨ postOf T H S ops i o w w') → K a' w' → K' a' w')
    (hh : wpX P T H S ops N i K a w) : wpX P T H S ops N i K' a w := by
  unfold wpX at *
  simp only [ho] at *
  split
  · rename_i hw; simp only [hw, if_true] at hh; exact ⟨hh.1, upon_mono (fun u a' w' ht hk => ⟨hk.1, h u a' w' ht (.inr hk.1) hk.2⟩) hh.2⟩
  · rename_i hw; simp only [hw] at hh; exact h undef _ _ rfl (.inl rfl) hh
theorem upon_some {o : Oper} {a : Act} {K : Act → World → Prop} {r : Result Next} (hh : o.upon P a K (OnlyN N) r) : ∃ u a' w', K a' w' ∧ a'.tmps = (a.put o.dst u).tmps := by
  cases r with
  | ok n w' =>
    cases n <;> simp only [Oper.upon] at hh
    case value v => exact ⟨v, _, _, hh, rfl⟩
    case skip => exact ⟨_, _, _, hh, rfl⟩
    case defer d => exact ⟨undef, _, _, hh, by cases o.dst <;> rfl⟩
    case enter f args =>
      obtain ⟨e, w'', fr, hR, _⟩ := hh []
      cases e with
      | returned v => exact ⟨v, _, _, hR, rfl⟩
      | panicked c => exact hR.elim
      | outgrown => exact (not_lets hR).elim
    case row r args =>
      obtain ⟨v, w'', hR, _⟩ := hh default []
      exact ⟨v, _, _, hR, rfl⟩
  | halt x w' => cases x <;> simp only [Oper.upon] at hh; exact hh.elim
theorem wpX_some {i : Nat} {a : Act} {w : World} {K : Act → World → Prop} {o : Oper} (ho : ops[i]? = some o) (hh : wpX P T H S ops N i K a w) :
    ∃ u a' w', K a' w' ∧ (w' = w ∨ postOf T H S ops i o w w') ∧ a'.tmps = (a.put o.dst u).tmps := by
  unfold wpX at hh
  simp only [ho] at hh
  split at hh
  · obtain ⟨u, a', w', hK, ht⟩ := upon_some hh.2
    exact ⟨u, a', w', hK.2, .inr hK.1, ht⟩
  · exact ⟨undef, _, _, hh, .inl rfl, rfl⟩
theorem eval_tmps {a b : Act} (h : a.tmps = b.tmps) : a.eval = b.eval := by
  funext x
  cases x <;> simp [Act.eval, h]
theorem plainArgs_put (o : Oper) (a : Act) (dst : Option Tmp) (v : Value) (h : ∀ d, dst = some d → d ∉ o.looksAt ops) : plainArgs (a.put dst v).eval o = plainArgs a.eval o :=
  plainArgs_congr o fun x hx => Act.eval_put fun d hd hxd => h d hd (by
    subst hxd
    exact List.mem_append_left _ (List.mem_filterMap.2 ⟨.tmp d, by simpa using hx, rfl⟩))
def noSel (o : Oper) : Prop := ∀ cs b, o.op ≠ .select cs b
theorem Dyn_put (o : Oper) (hs : noSel o) (a : Act) (x : Option Tmp) (v : Value) (h : ∀ d, x = some d → d ∉ o.looksAt ops) : Dyn P T H S o (a.put x v) ↔ Dyn P T H S o a := by
  unfold Dyn HeldAt
  rw [plainArgs_put o a x v h, execOp_put o hs a x v h]
theorem Dyn_tmps {o : Oper} {a b : Act} (he : a.tmps = b.tmps) (h : Dyn P T H S o a) : Dyn P T H S o b := by
  unfold Dyn HeldAt at *
  rw [← eval_tmps he]
  exact h
theorem upon_put {o : Oper} {a : Act} {K : Act → World → Prop} {r : Result Next} {x : Option Tmp} {v : Value} (hne : ∀ d, x = some d → o.dst ≠ some d) :
    o.upon P (a.put x v) K (OnlyN N) r ↔ o.upon P a (fun a' w' => K (a'.put x v) w') (OnlyN N) r := by
  cases r with
  | ok n w' =>
    cases n <;> simp only [Oper.upon]
    case value u => rw [Act.put_comm a v u hne]
    case skip => rw [Act.put_comm a v undef hne]
    case defer d => rw [Act.put_defers, Act.put_comm _ v undef hne]
    case enter f args =>
      constructor <;> intro h <;> refine Calls.mono h (fun e w'' he => ?_) <;> cases e <;> dsimp only at he ⊢
      · rw [← Act.put_comm a v _ hne]; exact he
      · exact he
      · exact he
      · rw [Act.put_comm a v _ hne]; exact he
      · exact he
      · exact he
    case row r args =>
      constructor <;> intro h <;> refine Rows.mono h (fun u w'' he => ?_)
      · rw [← Act.put_comm a v _ hne]; exact he
      · rw [Act.put_comm a v _ hne]; exact he
  | halt h w' => cases h <;> simp only [Oper.upon]; exact Iff.rfl
theorem wpX_put {i : Nat} {o : Oper} {a : Act} {w : World} {K : Act → World → Prop} {x : Option Tmp} {v : Value} (ho : ops[i]? = some o) (hs : noSel o)
    (hlook : ∀ d, x = some d → d ∉ o.looksAt ops) (hne : ∀ d, x = some d → o.dst ≠ some d) :
    wpX P T H S ops N i K (a.put x v) w ↔ wpX P T H S ops N i (fun a' w' => K (a'.put x v) w') a w := by
  unfold wpX
  simp only [ho]
  rw [wanted_put o a x v hlook, Dyn_put o hs a x v hlook]
  unfold Oper.wp
  rw [execOp_put o hs a x v hlook, Act.put_comm a v undef hne]
  split
  · exact and_congr_right fun _ => upon_put hne
  · exact Iff.rfl
def Res (P : Program) (T : Tys) (H : Bool) (S : World → Prop) (ops : Array Oper) (o : Oper) (a : Act) (w : World) (v : Value) : Prop :=
  (Region.wanted o (yielded ops a.tmps) = true ∧ Dyn P T H S o a ∧ (execOp a.eval o).run P w = .ok (.value v) w) ∨ (Region.wanted o (yielded ops a.tmps) = false ∧ v = undef)
theorem Res.det {o : Oper} {a : Act} {w : World} {v u : Value} (h : Res P T H S ops o a w v) (h' : Res P T H S ops o a w u) : v = u := by
  rcases h with ⟨h1, _, h2⟩ | ⟨h1, h2⟩ <;> rcases h' with ⟨h3, _, h4⟩ | ⟨h3, h4⟩
  · rw [h2] at h4; simpa using h4
  · rw [h1] at h3; cases h3
  · rw [h1] at h3; cases h3
  · rw [h2, h4]
theorem Res.of {i : Nat} {o : Oper} {a : Act} {w : World} {v : Value} {K : Act → World → Prop} (ho : ops[i]? = some o) (hS : stillB T H o = true ∨ H = false) (h : Res P T H S ops o a w v) (hK : K (a.put o.dst v) w) :
    wpX P T H S ops N i K a w := by
  unfold wpX
  simp only [ho]
  rcases h with ⟨h1, hp, h2⟩ | ⟨h1, rfl⟩
  · simp only [h1, if_true, Oper.wp, h2, Oper.upon]
    exact ⟨hp, ⟨fun _ => rfl, fun hs hH => by rcases hS with h | h <;> simp_all⟩, hK⟩
  · simp only [h1, Bool.false_eq_true, if_false]; exact hK
theorem stillB_or {o : Oper} (h : stillB T H o = true) : yB T o = true ∨ calmB o = true := by
  simp only [stillB, Bool.or_eq_true, Bool.and_eq_true] at h
  exact h.imp id fun x => x.2
theorem Res.get (hT : T.ok P = true) {i : Nat} {o : Oper} {a : Act} {w : World} {K : Act → World → Prop} (ho : ops[i]? = some o) (hc : yB T o = true ∨ calmB o = true) (h : wpX P T H S ops N i K a w) :
    ∃ v, Res P T H S ops o a w v ∧ K (a.put o.dst v) w := by
  unfold wpX at h
  simp only [ho] at h
  by_cases hw : Region.wanted o (yielded ops a.tmps) = true
  · simp only [hw, if_true, Oper.wp] at h
    obtain ⟨hp, h⟩ := h
    cases hr : (execOp a.eval o).run P w with
    | halt x w' => rw [hr] at h; cases x <;> simp only [Oper.upon] at h; exact h.elim
    | ok n w' =>
      have : ∃ v, n = .value v ∧ w' = w := by
        rcases hc with hc | hc
        · obtain ⟨v, h1, h2, _⟩ := yOp hT hc (hp.1 hc) w n w' hr
          exact ⟨v, h1, h2⟩
        · exact calmOp hc hr
      obtain ⟨v, rfl, rfl⟩ := this
      rw [hr] at h
      exact ⟨v, .inl ⟨hw, hp, hr⟩, h.2⟩
  · have hw' : Region.wanted o (yielded ops a.tmps) = false := by simpa using hw
    simp only [hw', Bool.false_eq_true, if_false] at h
    exact ⟨undef, .inr ⟨hw', rfl⟩, h⟩
theorem Res.world (hT : T.ok P = true) {o : Oper} {a : Act} {w : World} {v : Value} (hy : stillB T H o = true) (hS : H = true → calmB o = true → S w) (h : Res P T H S ops o a w v) (w' : World) (hS' : H = true → calmB o = true → S w') : Res P T H S ops o a w' v := by
  rcases h with ⟨h1, hp, h2⟩ | h
  · simp only [stillB, Bool.or_eq_true] at hy
    rcases hy with hy | hy
    · obtain ⟨u, h3, _, h4⟩ := yOp hT hy (hp.1 hy) _ _ _ h2
      cases h3
      exact .inl ⟨h1, hp, h4 w'⟩
    · obtain ⟨u, hu⟩ := hp.2 hy
      simp only [Bool.and_eq_true] at hy
      have h3 := hu w (hS hy.1 hy.2)
      rw [h2] at h3
      have : v = u := by simpa using h3
      exact .inl ⟨h1, hp, this ▸ hu w' (hS' hy.1 hy.2)⟩
  · exact .inr h
theorem Res.tmps {o : Oper} {a b : Act} {w : World} {v : Value} (he : a.tmps = b.tmps) (h : Res P T H S ops o a w v) : Res P T H S ops o b w v := by
  unfold Res at *
  rw [← eval_tmps he, ← he]
  exact h.imp (fun x => ⟨x.1, Dyn_tmps he x.2.1, x.2.2⟩) id
theorem Res.put {o : Oper} {a : Act} {w : World} {v : Value} (hs : noSel o) {x : Option Tmp} {u : Value} (hlook : ∀ d, x = some d → d ∉ o.looksAt ops) :
    Res P T H S ops o (a.put x u) w v ↔ Res P T H S ops o a w v := by
  unfold Res
  rw [wanted_put o a x u hlook, Dyn_put o hs a x u hlook, execOp_put o hs a x u hlook]

/-- two operations that stand beside each other change places -/
def pairB (T : Tys) (H : Bool) (ok oj : Oper) : Bool := stillB T H oj || stillB T H ok || (calmB ok && calmB oj)
theorem wpX_swap (hT : T.ok P = true) {k j : Nat} {ok oj : Oper} (hk : ops[k]? = some ok) (hj : ops[j]? = some oj) (hsk : noSel ok) (hsj : noSel oj) (hap : ok.apart ops oj = true)
    (hc : pairB T H ok oj = true) {K : Act → World → Prop} {a : Act} {w : World}
    (hS : H = true → (calmB ok = true ∨ calmB oj = true) → S w) (hnk : calmB oj = true → ndB ops k = true) (hnj : calmB ok = true → ndB ops j = true)
    (h : wpX P T H S ops N k (fun a' w' => wpX P T H S ops N j K a' w') a w) : wpX P T H S ops N j (fun a' w' => wpX P T H S ops N k K a' w') a w := by
  obtain ⟨h1, h2, h3⟩ := Oper.apart_spec hap
  have h2' : ∀ d, oj.dst = some d → ok.dst ≠ some d := fun d hd hd' => h2 d hd' hd
  simp only [pairB, Bool.or_eq_true, Bool.and_eq_true] at hc
  have after : ∀ {i : Nat} {o : Oper} {w' : World}, (w' = w ∨ postOf T H S ops i o w w') → H = true → S w → ndB ops i = true → S w' := fun {i o w'} hp hH hs hn => by
    rcases hp with rfl | hp
    · exact hs
    · cases hst : stillB T H o with
      | true => rw [hp.1 hst]; exact hs
      | false => exact hp.2 hst hH hn
  by_cases hyj : stillB T H oj = true
  · -- the other is of the kind that does not look
    obtain ⟨u, a', w', hj', hS', ht⟩ := wpX_some hk h
    obtain ⟨v, hr, _⟩ := Res.get hT hj (stillB_or hyj) hj'
    have hr0 : Res P T H S ops oj a w v := ((Res.put hsj h1).1 (hr.tmps ht)).world hT hyj (fun hH hc => after hS' hH (hS hH (.inr hc)) (hnk hc)) w (fun hH hc => hS hH (.inr hc))
    refine hr0.of hj (.inl hyj) ((wpX_put hk hsk h3 h2').2 (wpX_mono hk (fun u' a'' w'' ht' hS'' hh => ?_) h))
    obtain ⟨v', hr', hK⟩ := Res.get hT hj (stillB_or hyj) hh
    have : v' = v := (((Res.put hsj h1).1 (hr'.tmps ht')).world hT hyj (fun hH hc => after hS'' hH (hS hH (.inr hc)) (hnk hc)) w (fun hH hc => hS hH (.inr hc))).det hr0
    exact this ▸ hK
  · by_cases hyk : stillB T H ok = true
    · obtain ⟨u, hr, hh⟩ := Res.get hT hk (stillB_or hyk) h
      refine wpX_mono hj (fun u' a'' w'' ht' hS'' hK => ?_) ((wpX_put hj hsj h1 h2).1 hh)
      exact ((((Res.put hsk h3).2 hr).tmps ht'.symm).world hT hyk (fun hH hc => hS hH (.inl hc)) w'' (fun hH hc => after hS'' hH (hS hH (.inl hc)) (hnj hc))).of hk (.inl hyk) hK
    · have hc' : calmB ok = true ∧ calmB oj = true := by
        rcases hc with (hc | hc) | hc
        · exact absurd hc hyj
        · exact absurd hc hyk
        · exact hc
      have hH : H = false := by
        cases hH : H with
        | false => rfl
        | true => simp [stillB, hH, hc'.1] at hyk
      obtain ⟨u, hr, hh⟩ := Res.get hT hk (.inr hc'.1) h
      obtain ⟨v, hr', hK⟩ := Res.get hT hj (.inr hc'.2) hh
      refine ((Res.put hsj h1).1 hr').of hj (.inr hH) (((Res.put hsk h3).2 hr).of hk (.inr hH) ?_)
      rw [← Act.put_comm a u v h2]
      exact hK
def wpAnyX (P : Program) (T : Tys) (H : Bool) (S : World → Prop) (md : Region.Mode) (ops : Array Oper) (N : Act → World → Prop) : Nat → Array Bool → Act → World → Prop
  | 0, listed, a, w => Region.ready md ops listed = [] ∧ N a w
  | fuel + 1, listed, a, w =>
    (Region.ready md ops listed = [] → N a w) ∧
    ∀ i ∈ Region.ready md ops listed, wpX P T H S ops N i (wpAnyX P T H S md ops N fuel (listed.setIfInBounds i true)) a w
theorem wpAny_of_X : ∀ (fuel : Nat) (listed : Array Bool) (a : Act) (w : World), wpAnyX P T H S md ops N fuel listed a w → wpAny P md ops (OnlyN N) fuel listed a w
  | 0, _, _, _, h => h
  | fuel + 1, listed, a, w, h => ⟨h.1, fun i hi => by
      have h2 := h.2 i hi
      obtain ⟨_, o, ho, _⟩ := mem_ready.1 hi
      have h3 := wpX_mono ho (K' := wpAny P md ops (OnlyN N) fuel (listed.setIfInBounds i true)) (fun _ a' w' _ _ hh => wpAny_of_X fuel _ a' w' hh) h2
      unfold wpX at h3
      unfold wpOp
      simp only [ho] at h3 ⊢
      split
      · rename_i hw; simp only [hw, if_true] at h3; exact .inl (upon_mono (fun _ _ _ _ hk => hk.2) h3.2)
      · rename_i hw; simp only [hw] at h3; exact h3⟩
/-- the operation `k` is ready; what may come ahead of it changes places with it -/
structure Frees (T : Tys) (H : Bool) (md : Region.Mode) (ops : Array Oper) (k : Nat) (ok : Oper) (D : Nat → Bool) (listed : Array Bool) : Prop where
  un : listed.getD k true = false
  waits : ∀ j, D j = true → listed.getD j false = false ∧ ∀ oj, ops[j]? = some oj → ∃ e ∈ oj.after, Region.binds md e = true ∧ (e.on = k ∨ D e.on = true)
  free : ∀ j oj, ops[j]? = some oj → j ≠ k → listed.getD j true = false → D j = false → noSel oj ∧ ok.apart ops oj = true ∧ pairB T H ok oj = true
theorem getD_false_of {listed : Array Bool} {i : Nat} (h : listed.getD i true = false) : listed.getD i false = false := by
  rcases Nat.lt_or_ge i listed.size with h' | h'
  · simp [h'] at h ⊢; exact h
  · simp [Array.getElem?_eq_none h'] at h
/-- what is done is done with all that it waits for -/
def Closed (ops : Array Oper) (listed : Array Bool) : Prop := ∀ m o, ops[m]? = some o → listed.getD m false = true → ∀ e ∈ o.after, Region.binds .any e = true → listed.getD e.on false = true
/-- as long as a load may come, `S` holds -/
def Inv (H : Bool) (S : World → Prop) (ops : Array Oper) (listed : Array Bool) (w : World) : Prop :=
  Closed ops listed ∧ (H = true → ∀ i o, ops[i]? = some o → calmB o = true → listed.getD i true = false → S w)
theorem dep_fold (L : Nat → Prop) {k : Nat} (hk : ¬ L k) : ∀ (l : List (Oper × Nat)), (∀ x ∈ l, L x.2 → ∀ e ∈ x.1.after, Region.binds .any e = true → L e.on) → ∀ acc : Nat, (∀ m, acc.testBit m = true → ¬ L m) →
    ∀ m, (l.foldl (fun acc x => if x.1.after.any (fun e => Region.binds .any e && (e.on == k || acc.testBit e.on)) then acc ||| 2 ^ x.2 else acc) acc).testBit m = true → ¬ L m
  | [], _, acc, ha, m, h => ha m h
  | x :: l, hl, acc, ha, m, h => by
    rw [List.foldl_cons] at h
    refine dep_fold L hk l (fun y hy => hl y (List.mem_cons_of_mem _ hy)) _ (fun m hm => ?_) m h
    split at hm
    · rename_i hx
      rw [Nat.testBit_or, Bool.or_eq_true] at hm
      rcases hm with hm | hm
      · exact ha m hm
      · rw [Nat.testBit_two_pow] at hm
        have hm := of_decide_eq_true hm
        subst hm
        intro hL
        obtain ⟨e, he, hb⟩ := Array.any_eq_true'.1 hx
        simp only [Bool.and_eq_true, Bool.or_eq_true, beq_iff_eq] at hb
        have h1 := hl x (List.mem_cons_self ..) hL e he hb.1
        rcases hb.2 with h2 | h2
        · rw [h2] at h1; exact hk h1
        · exact ha _ h2 h1
    · exact ha m hm
theorem nd_of_ready {listed : Array Bool} {i j : Nat} {oi : Oper} (hcl : Closed ops listed) (hi : i ∈ Region.ready .any ops listed) (hne : i ≠ j) (hoi : ops[j]? = some oi) (hc : calmB oi = true) (hun : listed.getD j true = false) : ndB ops i = true := by
  obtain ⟨_, o, ho, hall⟩ := mem_ready.1 hi
  unfold ndB
  rw [List.any_eq_true]
  refine ⟨j, List.mem_range.2 (Array.getElem?_eq_some_iff.1 hoi).1, ?_⟩
  simp only [hoi, hc, Bool.and_eq_true, bne_iff_ne, ne_eq, Bool.true_and, Bool.not_eq_true']
  refine ⟨Ne.symm hne, ?_⟩
  cases hx : (depBits .any ops j).testBit i with
  | false => rfl
  | true =>
    refine absurd (Or.inr rfl) (dep_fold (fun m => listed.getD m false = true ∨ m = i) (k := j) (fun h => ?_) ops.toList.zipIdx (fun x hx hL e he hb => ?_) 0 (fun m hm => by simp at hm) i hx)
    · rcases h with h | h
      · rw [getD_false_of hun] at h; cases h
      · exact hne h.symm
    · obtain ⟨o', m⟩ := x
      have hm : ops[m]? = some o' := by
        have := List.mem_zipIdx_iff_getElem?.1 hx
        simpa using this
      rcases hL with h | h
      · exact .inl (hcl m o' hm h e he hb)
      · simp only at h
        subst h
        rw [ho] at hm
        cases hm
        exact .inl (hall e he hb)
theorem Closed.set {listed : Array Bool} {i : Nat} (h : Closed ops listed) (hi : i ∈ Region.ready .any ops listed) : Closed ops (listed.setIfInBounds i true) := by
  obtain ⟨_, o, ho, hall⟩ := mem_ready.1 hi
  have hup : ∀ m, listed.getD m false = true → (listed.setIfInBounds i true).getD m false = true := fun m hm => by
    by_cases hne : i = m
    · subst hne
      have hlt : i < listed.size := by
        rcases Nat.lt_or_ge i listed.size with h' | h'
        · exact h'
        · simp [Array.getElem?_eq_none h'] at hm
      simp [hlt]
    · rw [getD_set_ne false hne]; exact hm
  intro m o' hm hl e he hb
  by_cases hne : i = m
  · subst hne
    rw [ho] at hm
    cases hm
    exact hup _ (hall e he hb)
  · rw [getD_set_ne false hne] at hl
    exact hup _ (h m o' hm hl e he hb)
theorem closed_start {n : Nat} : Closed ops (Array.replicate n false) := fun m o hm hl => by
  rcases Nat.lt_or_ge m n with h | h <;> simp [h] at hl
theorem Inv.step {listed : Array Bool} {w w' : World} {i : Nat} {o : Oper} (h : Inv H S ops listed w) (hi : i ∈ Region.ready .any ops listed) (hp : w' = w ∨ postOf T H S ops i o w w') :
    Inv H S ops (listed.setIfInBounds i true) w' := by
  refine ⟨h.1.set hi, fun hH j oj hoj hc hun => ?_⟩
  have hlt : i < listed.size := by
    rcases Nat.lt_or_ge i listed.size with h' | h'
    · exact h'
    · have := (mem_ready.1 hi).1
      simp [Array.getElem?_eq_none h'] at this
  have hne : i ≠ j := fun e => by
    subst e
    simp [hlt] at hun
  rw [getD_set_ne true hne] at hun
  have hs := h.2 hH j oj hoj hc hun
  rcases hp with rfl | hp
  · exact hs
  · cases hst : stillB T H o with
    | true => rw [hp.1 hst]; exact hs
    | false => exact hp.2 hst hH (nd_of_ready h.1 hi hne hoj hc hun)
theorem wpAnyX_first (hT : T.ok P = true) {k : Nat} {ok : Oper} (hk : ops[k]? = some ok) (hsk : noSel ok) {D : Nat → Bool} :
    ∀ (fuel : Nat) (listed : Array Bool) (a : Act) (w : World), Inv H S ops listed w → Frees T H .any ops k ok D listed → k ∈ Region.ready .any ops listed →
      wpX P T H S ops N k (wpAnyX P T H S .any ops N fuel (listed.setIfInBounds k true)) a w → wpAnyX P T H S .any ops N (fuel + 1) listed a w := by
  intro fuel
  induction fuel with
  | zero =>
    intro listed a w hS _ hr H
    refine ⟨fun h => (by rw [h] at hr; cases hr), fun j hj => ?_⟩
    by_cases hjk : j = k
    · subst hjk; exact H
    · obtain ⟨u, a', w', h1, _⟩ := wpX_some hk H
      have := ready_mono hj hjk
      rw [h1.1] at this
      cases this
  | succ fuel ih =>
    intro listed a w hS F hr HH
    refine ⟨fun h => (by rw [h] at hr; cases hr), fun j hj => ?_⟩
    by_cases hjk : j = k
    · subst hjk; exact HH
    · obtain ⟨hjun, oj, hoj, hall⟩ := mem_ready.1 hj
      have hD : D j = false := by
        cases hDj : D j with
        | false => rfl
        | true =>
          obtain ⟨_, hw⟩ := F.waits j hDj
          obtain ⟨e, he, hb, hon⟩ := hw oj hoj
          have h1 := hall e he hb
          rcases hon with hon | hon
          · rw [hon, getD_false_of F.un] at h1; cases h1
          · rw [(F.waits _ hon).1] at h1; cases h1
      obtain ⟨hsj, hap, hp⟩ := F.free j oj hoj hjk hjun hD
      have h1 : wpX P T H S ops N k (fun a' w' => wpX P T H S ops N j (wpAnyX P T H S .any ops N fuel ((listed.setIfInBounds k true).setIfInBounds j true)) a' w') a w :=
        wpX_mono hk (fun _ a' w' _ _ hh => hh.2 j (ready_mono hj hjk)) HH
      have hsw := wpX_swap hT hk hoj hsk hsj hap hp
        (fun hH hc => hc.elim (fun hc => hS.2 hH k ok hk hc F.un) (fun hc => hS.2 hH j oj hoj hc hjun))
        (fun hc => nd_of_ready hS.1 hr (Ne.symm hjk) hoj hc hjun) (fun hc => nd_of_ready hS.1 hj hjk hk hc F.un) h1
      refine wpX_mono hoj (fun _ a' w' _ hS' hh => ih (listed.setIfInBounds j true) a' w' (hS.step hj hS') ?_ (ready_mono hr (Ne.symm hjk)) ?_) hsw
      · refine ⟨by rw [getD_set_ne true hjk]; exact F.un, fun i hi => ?_, fun i oi hoi hik hun hDi => ?_⟩
        · have hne : j ≠ i := fun e => by rw [← e, hD] at hi; cases hi
          exact ⟨by rw [getD_set_ne false hne]; exact (F.waits i hi).1, (F.waits i hi).2⟩
        · refine F.free i oi hoi hik ?_ hDi
          by_cases hji : j = i
          · subst hji; exact hjun
          · rw [getD_set_ne true hji] at hun; exact hun
      · rw [Array.setIfInBounds_comm _ _ hjk]
        exact hh
def noSelB (o : Oper) : Bool := match o.op with | .select .. => false | _ => true
def freesB (T : Tys) (H : Bool) (md : Region.Mode) (ops : Array Oper) (k : Nat) (listed : Array Bool) : Bool :=
  let D := depBits md ops k
  match ops[k]? with
  | none => false
  | some ok => noSelB ok && (List.range ops.size).all fun j =>
    match ops[j]? with
    | none => true
    | some oj =>
      if D.testBit j then !listed.getD j false && oj.after.any (fun e => Region.binds md e && (e.on == k || (D.testBit e.on && decide (e.on < ops.size))))
      else j == k || listed.getD j true || (noSelB oj && ok.apart ops oj && pairB T H ok oj)
theorem noSelB_spec {o : Oper} (h : noSelB o = true) : noSel o := fun cs b e => by simp [noSelB, e] at h
theorem freesB_spec {k : Nat} {ok : Oper} {listed : Array Bool} (hk : ops[k]? = some ok) (hun : listed.getD k true = false) (h : freesB T H md ops k listed = true) :
    noSel ok ∧ Frees T H md ops k ok (fun j => (depBits md ops k).testBit j && decide (j < ops.size)) listed := by
  unfold freesB at h
  simp only [hk, Bool.and_eq_true, List.all_eq_true, List.mem_range] at h
  obtain ⟨hs, h⟩ := h
  refine ⟨noSelB_spec hs, hun, fun j hj => ?_, fun j oj hoj hjk hju hD => ?_⟩
  · simp only [Bool.and_eq_true, decide_eq_true_eq] at hj
    have h1 := h j hj.2
    have hoj : ops[j]? = some ops[j] := by simp [hj.2]
    simp only [hoj, hj.1, if_true, Bool.and_eq_true, Bool.not_eq_true'] at h1
    refine ⟨h1.1, fun oj ho => ?_⟩
    have : oj = ops[j] := Option.some.inj (ho.symm.trans hoj)
    subst this
    obtain ⟨e, he, hb⟩ := Array.any_eq_true'.1 h1.2
    simp only [Bool.and_eq_true, Bool.or_eq_true, beq_iff_eq] at hb
    exact ⟨e, he, hb.1, hb.2.imp id fun x => by simpa using x⟩
  · have hlt : j < ops.size := (Array.getElem?_eq_some_iff.1 hoj).1
    have h1 := h j hlt
    simp only [hlt, decide_true, Bool.and_true] at hD
    simp only [hoj, hD, Bool.false_eq_true, if_false, Bool.or_eq_true, beq_iff_eq, hjk, false_or, hju, Bool.and_eq_true] at h1
    exact ⟨noSelB_spec h1.1.1, h1.1.2, h1.2⟩

/-! #### The text, in one line -/
def wpTxt (P : Program) (T : Tys) (ops : Array Oper) (N : Act → World → Prop) : List Oper → Act → World → Prop
  | [], a, w => N a w
  | o :: rest, a, w =>
    if Region.wanted o (yielded ops a.tmps) then
      (yB T o = true → plainArgs a.eval o = true) ∧ o.wp P a w (wpTxt P T ops N rest) (OnlyN N)
    else wpTxt P T ops N rest (a.put o.dst undef) w
def textFrom (T : Tys) (H : Bool) (md : Region.Mode) (ops : Array Oper) : Nat → Nat → Array Bool → Bool
  | 0, _, listed => (Region.ready md ops listed).isEmpty
  | fuel + 1, k, listed => (Region.ready md ops listed).contains k && freesB T H md ops k listed && textFrom T H md ops fuel (k + 1) (listed.setIfInBounds k true)
def textB (T : Tys) (ops : Array Oper) : Bool := textFrom T false .any ops ops.size 0 (Array.replicate ops.size false)
theorem wpAnyX_text (hT : T.ok P = true) : ∀ (l : List Oper) (k : Nat) (listed : Array Bool) (a : Act) (w : World), (∀ j, l[j]? = ops[k + j]?) →
    Closed ops listed → textFrom T false .any ops l.length k listed = true → wpTxt P T ops N l a w → wpAnyX P T false (fun _ => True) .any ops N l.length listed a w
  | [], _, _, _, _, _, _, hB, h => ⟨by simpa [textFrom] using hB, h⟩
  | o :: l, k, listed, a, w, hl, hcl, hB, h => by
    have h0 : ops[k]? = some o := by simpa using (hl 0).symm
    simp only [List.length_cons, textFrom, Bool.and_eq_true] at hB
    obtain ⟨⟨hr, hf⟩, hB'⟩ := hB
    have hr' : k ∈ Region.ready .any ops listed := by simpa using hr
    obtain ⟨hs, F⟩ := freesB_spec h0 (mem_ready.1 hr').1 hf
    refine wpAnyX_first hT h0 hs l.length listed a w ⟨hcl, fun h => by cases h⟩ F hr' (wpX_mono (K := wpTxt P T ops N l) h0 (fun _ a' w' _ _ hh => ?_) ?_)
    · exact wpAnyX_text hT l (k + 1) _ _ _ (fun j => by have := hl (j + 1); simpa [Nat.add_assoc, Nat.add_comm 1 j] using this) (hcl.set hr') hB' hh
    · unfold wpX
      simp only [h0]
      unfold wpTxt at h
      split
      · rename_i hw
        rw [if_pos hw] at h
        refine ⟨⟨h.1, fun hf => by simp at hf⟩, ?_⟩
        by_cases hy : yB T o = true
        · have h2 := h.2
          unfold Oper.wp at h2 ⊢
          cases hr : (execOp a.eval o).run P w with
          | halt x w' => rw [hr] at h2; cases x <;> simp only [Oper.upon] at h2; exact h2.elim
          | ok n w' =>
            obtain ⟨v, rfl, rfl, _⟩ := yOp hT hy (h.1 hy) w n w' hr
            rw [hr] at h2
            exact ⟨⟨fun _ => rfl, fun _ hH => by cases hH⟩, h2⟩
        · exact upon_mono (fun _ _ _ _ hk => ⟨⟨fun hs => by simp [stillB, hy] at hs, fun _ hH => by cases hH⟩, hk⟩) h.2
      · rename_i hw
        rw [if_neg hw] at h
        exact h
/-- A REGION THAT DRAWS, IN THE ORDER OF THE TEXT. -/
theorem wp_region_text (T : Tys) {id : Nat} {Q : Exit → Act → World → Prop} {a : Act} {w : World} {l : List Oper} (hm : P.follows .mixedOrders = true) (hT : T.ok P = true) (hB : textB T l.toArray = true)
    (h : wpTxt P T l.toArray (Q .normal) l a w.drew) : (Code.region id l.toArray true).wp P Q a w := by
  have h1 : (Code.region id l.toArray true).wp P (OnlyN (Q .normal)) a w := by
    refine wp_region_any hm (wpAny_of_X (T := T) (H := false) (S := fun _ => True) _ _ _ _ ?_)
    have := wpAnyX_text (N := Q .normal) hT l 0 (Array.replicate l.toArray.size false) a w.drew (by simp) closed_start (by simpa [textB] using hB) h
    simpa using this
  exact Code.wp_mono (fun e a w q => by cases e <;> first | exact q | exact q.elim) h1
theorem wpTxt_nil {a : Act} {w : World} (h : N a w) : wpTxt P T ops N [] a w := h
theorem wpTxt_step {a : Act} {w : World} {o : Oper} {rest : List Oper} (hp : yB T o = true → plainArgs a.eval o = true)
    (h : ∀ K : Act → World → Prop, (∀ a w, wpTxt P T ops N rest a w → K a w) →
      if Region.wanted o (yielded ops a.tmps) then o.wp P a w K (OnlyN N) else K (a.put o.dst undef) w) : wpTxt P T ops N (o :: rest) a w := by
  have := h _ (fun _ _ h => h)
  unfold wpTxt
  split
  · rename_i hw; rw [if_pos hw] at this; exact ⟨hp, this⟩
  · rename_i hw; rw [if_neg hw] at this; exact this
theorem wpTxt_plain {a : Act} {w : World} {o : Oper} {rest : List Oper} (hg : o.guard = none) (hp : yB T o = true → plainArgs a.eval o = true)
    (h : ∀ K : Act → World → Prop, (∀ a w, wpTxt P T ops N rest a w → K a w) → o.wp P a w K (OnlyN N)) : wpTxt P T ops N (o :: rest) a w :=
  wpTxt_step hp fun K hK => by simp only [Region.wanted, hg, if_true]; exact h K hK
theorem wpTxt_skip {a : Act} {w : World} {o : Oper} {rest : List Oper} (hw : Region.wanted o (yielded ops a.tmps) = false) (h : wpTxt P T ops N rest (a.put o.dst undef) w) : wpTxt P T ops N (o :: rest) a w := by
  simp only [wpTxt, hw]
  exact h

/-! #### A tree of orders: loads are held by `S`; where what acts is left open, both ways are walked -/
inductive Tree where
  | done
  | take (k : Nat) (t : Tree)
  | branch (k : Nat) (t : Tree) (rest : Tree)
def Tree.tops : Tree → List Nat
  | .branch k _ r => k :: r.tops
  | _ => []
def Tree.check (T : Tys) (ops : Array Oper) : Tree → Array Bool → Bool
  | .done, listed => (Region.ready .any ops listed).isEmpty
  | .take k t, listed => (Region.ready .any ops listed).contains k && freesB T true .any ops k listed && t.check T ops (listed.setIfInBounds k true)
  | .branch k t r, listed => !(Region.ready .any ops listed).isEmpty && (Region.ready .any ops listed).all (fun i => (k :: r.tops).contains i) && t.check T ops (listed.setIfInBounds k true) && checkRest T ops r listed
where
  checkRest (T : Tys) (ops : Array Oper) : Tree → Array Bool → Bool
  | .branch k t r, listed => t.check T ops (listed.setIfInBounds k true) && checkRest T ops r listed
  | _, _ => true
/-- one operation of a walk by a tree -/
def wpOne (P : Program) (T : Tys) (S : World → Prop) (ops : Array Oper) (N : Act → World → Prop) (k : Nat) (o : Oper) (K : Act → World → Prop) (a : Act) (w : World) : Prop :=
  if Region.wanted o (yielded ops a.tmps) then
    if calmB o then ∃ v, (∀ w', S w' → (execOp a.eval o).run P w' = .ok (.value v) w') ∧ K (a.put o.dst v) w
    else if yB T o then plainArgs a.eval o = true ∧ o.wp P a w K (OnlyN N)
    else o.wp P a w (fun a' w' => (ndB ops k = true → S w') ∧ K a' w') (OnlyN N)
  else K (a.put o.dst undef) w
def Tree.wp (P : Program) (T : Tys) (S : World → Prop) (ops : Array Oper) (N : Act → World → Prop) : Tree → Act → World → Prop
  | .done, a, w => N a w
  | .take k t, a, w => ∃ o, ops[k]? = some o ∧ wpOne P T S ops N k o (t.wp P T S ops N) a w
  | .branch k t r, a, w => (∃ o, ops[k]? = some o ∧ wpOne P T S ops N k o (t.wp P T S ops N) a w) ∧ wpRest P T S ops N r a w
where
  wpRest (P : Program) (T : Tys) (S : World → Prop) (ops : Array Oper) (N : Act → World → Prop) : Tree → Act → World → Prop
  | .branch k t r, a, w => (∃ o, ops[k]? = some o ∧ wpOne P T S ops N k o (t.wp P T S ops N) a w) ∧ wpRest P T S ops N r a w
  | _, _, _ => True
theorem wpX_of_one (hT : T.ok P = true) {k : Nat} {o : Oper} {K K' : Act → World → Prop} {a : Act} {w : World} (ho : ops[k]? = some o) (hS : calmB o = true → S w)
    (hK : ∀ a w', (w' = w ∨ postOf T true S ops k o w w') → K a w' → K' a w')
    (h : wpOne P T S ops N k o K a w) : wpX P T true S ops N k K' a w := by
  unfold wpX
  simp only [ho]
  unfold wpOne at h
  split
  · rename_i hw
    rw [if_pos hw] at h
    by_cases hc : calmB o = true
    · rw [if_pos hc] at h
      obtain ⟨v, hv, hk⟩ := h
      have hst : stillB T true o = true := by simp [stillB, hc]
      refine ⟨⟨fun hy => ?_, fun _ => ⟨v, hv⟩⟩, ?_⟩
      · obtain ⟨dst, op, type, pos, after, guard⟩ := o
        cases op <;> simp only [calmB, Bool.false_eq_true] at hc
        simp [yB] at hy
      · simp only [Oper.wp, hv w (hS hc), Oper.upon]; exact ⟨⟨fun _ => rfl, fun h => by rw [hst] at h; cases h⟩, hK _ _ (.inl rfl) hk⟩
    · rw [if_neg hc] at h
      by_cases hy : yB T o = true
      · rw [if_pos hy] at h
        have hst : stillB T true o = true := by simp [stillB, hy]
        refine ⟨⟨fun _ => h.1, fun hx => (by simp at hx; exact absurd hx hc)⟩, ?_⟩
        have h2 := h.2
        unfold Oper.wp at h2 ⊢
        cases hr : (execOp a.eval o).run P w with
        | halt x w' => rw [hr] at h2; cases x <;> simp only [Oper.upon] at h2; exact h2.elim
        | ok n w' =>
          obtain ⟨v, rfl, rfl, _⟩ := yOp hT hy h.1 w n w' hr
          rw [hr] at h2
          exact ⟨⟨fun _ => rfl, fun h => by rw [hst] at h; cases h⟩, hK _ _ (.inl rfl) h2⟩
      · rw [if_neg hy] at h
        have hst : stillB T true o = false := by simp [stillB, hy, hc]
        exact ⟨⟨fun hx => absurd hx hy, fun hx => (by simp at hx; exact absurd hx hc)⟩, upon_mono (fun _ _ _ _ hk =>
          have hp : postOf T true S ops k o w _ := ⟨fun h => (by rw [hst] at h; cases h), fun _ _ hn => hk.1 hn⟩
          ⟨hp, hK _ _ (.inr hp) hk.2⟩) h⟩
  · rename_i hw
    rw [if_neg hw] at h
    exact hK _ _ (.inl rfl) h
theorem ready_size {listed : Array Bool} {k : Nat} (h : k ∈ Region.ready md ops listed) : k < ops.size := by
  obtain ⟨_, o, ho, _⟩ := mem_ready.1 h
  exact (Array.getElem?_eq_some_iff.1 ho).1
def Tree.depth : Tree → Nat
  | .done => 0
  | .take _ t => t.depth + 1
  | .branch _ t r => max (t.depth + 1) r.depth
theorem ready_nil {listed : Array Bool} (h : (Region.ready md ops listed).isEmpty = true) (f : Nat) {a : Act} {w : World} (hN : N a w) : wpAnyX P T H S md ops N f listed a w := by
  have h' : Region.ready md ops listed = [] := by simpa using h
  cases f with
  | zero => exact ⟨h', hN⟩
  | succ f => exact ⟨fun _ => hN, by rw [h']; simp⟩
mutual
theorem tree_any (hT : T.ok P = true) : ∀ (t : Tree) (f : Nat) (listed : Array Bool) (a : Act) (w : World), t.depth ≤ f → Inv true S ops listed w → t.check T ops listed = true → t.wp P T S ops N a w → wpAnyX P T true S .any ops N f listed a w
  | .done, f, listed, a, w, hf, hS, hB, h => ready_nil hB f h
  | .take k t, f, listed, a, w, hf, hS, hB, h => by
    simp only [Tree.check, Bool.and_eq_true] at hB
    obtain ⟨⟨hr, hfr⟩, hB'⟩ := hB
    obtain ⟨o, ho, h1⟩ := h
    have hr' : k ∈ Region.ready .any ops listed := by simpa using hr
    have hun := (mem_ready.1 hr').1
    obtain ⟨hs, F⟩ := freesB_spec ho hun hfr
    simp only [Tree.depth] at hf
    obtain ⟨f, rfl⟩ : ∃ g, f = g + 1 := ⟨f - 1, by omega⟩
    exact wpAnyX_first hT ho hs f listed a w hS F hr' (wpX_of_one hT ho (fun hc => hS.2 rfl k o ho hc hun) (fun a' w' hS' hk => tree_any hT t f _ a' w' (by omega) (hS.step hr' hS') hB' hk) h1)
  | .branch k t r, f, listed, a, w, hf, hS, hB, h => by
    simp only [Tree.check, Bool.and_eq_true, Bool.not_eq_true', List.all_eq_true] at hB
    obtain ⟨⟨⟨hne, hall⟩, hB1⟩, hB2⟩ := hB
    simp only [Tree.depth] at hf
    have hf1 : t.depth + 1 ≤ f := Nat.le_trans (Nat.le_max_left _ _) hf
    have hf2 : r.depth ≤ f := Nat.le_trans (Nat.le_max_right _ _) hf
    obtain ⟨f, rfl⟩ : ∃ g, f = g + 1 := ⟨f - 1, by omega⟩
    obtain ⟨⟨o, ho, h1⟩, h2⟩ := h
    refine ⟨fun h0 => by rw [h0] at hne; simp at hne, fun i hi => ?_⟩
    have hi' := hall i hi
    simp only [List.contains_cons, Bool.or_eq_true, beq_iff_eq] at hi'
    have hun := (mem_ready.1 hi).1
    rcases hi' with rfl | hi'
    · exact wpX_of_one hT ho (fun hc => hS.2 rfl i o ho hc hun) (fun a' w' hS' hk => tree_any hT t f _ a' w' (by omega) (hS.step hi hS') hB1 hk) h1
    · exact tree_rest hT r f listed a w hf2 hS hB2 h2 i (by simpa using hi') hi
theorem tree_rest (hT : T.ok P = true) : ∀ (r : Tree) (f : Nat) (listed : Array Bool) (a : Act) (w : World), r.depth ≤ f + 1 → Inv true S ops listed w → Tree.check.checkRest T ops r listed = true → Tree.wp.wpRest P T S ops N r a w →
    ∀ i ∈ r.tops, i ∈ Region.ready .any ops listed → wpX P T true S ops N i (wpAnyX P T true S .any ops N f (listed.setIfInBounds i true)) a w
  | .done, _, _, _, _, _, _, _, _ => by simp [Tree.tops]
  | .take _ _, _, _, _, _, _, _, _, _ => by simp [Tree.tops]
  | .branch k t r, f, listed, a, w, hf, hS, hB, h => by
    simp only [Tree.check.checkRest, Bool.and_eq_true] at hB
    simp only [Tree.depth] at hf
    have hf1 : t.depth ≤ f := by have := Nat.le_trans (Nat.le_max_left (t.depth + 1) r.depth) hf; omega
    have hf2 : r.depth ≤ f + 1 := Nat.le_trans (Nat.le_max_right (t.depth + 1) r.depth) hf
    obtain ⟨⟨o, ho, h1⟩, h2⟩ := h
    intro i hi hr
    simp only [Tree.tops, List.mem_cons] at hi
    have hun := (mem_ready.1 hr).1
    rcases hi with rfl | hi
    · exact wpX_of_one hT ho (fun hc => hS.2 rfl i o ho hc hun) (fun a' w' hS' hk => tree_any hT t f _ a' w' hf1 (hS.step hr hS') hB.1 hk) h1
    · exact tree_rest hT r f listed a w hf2 hS hB.2 h2 i hi hr
end
/-- A REGION THAT DRAWS, BY A TREE OF ORDERS, its loads held by `S`. -/
theorem wp_region_tree (T : Tys) (S : World → Prop) (t : Tree) {id : Nat} {Q : Exit → Act → World → Prop} {a : Act} {w : World} {l : List Oper} (hm : P.follows .mixedOrders = true) (hT : T.ok P = true)
    (hB : t.check T l.toArray (Array.replicate l.length false) = true) (hd : Nat.ble t.depth l.length = true) (hS : S w.drew)
    (h : t.wp P T S l.toArray (Q .normal) a w.drew) : (Code.region id l.toArray true).wp P Q a w := by
  have h1 : (Code.region id l.toArray true).wp P (OnlyN (Q .normal)) a w := by
    refine wp_region_any hm (wpAny_of_X (T := T) (H := true) (S := S) _ _ _ _ ?_)
    exact tree_any hT t _ _ a w.drew (by simpa using hd) ⟨closed_start, fun _ _ _ _ _ _ => hS⟩ (by simpa using hB) h
  exact Code.wp_mono (fun e a w q => by cases e <;> first | exact q | exact q.elim) h1
/-! #### A tree of orders without held loads -/
def Tree.checkN (T : Tys) (ops : Array Oper) : Tree → Array Bool → Bool
  | .done, listed => (Region.ready .any ops listed).isEmpty
  | .take k t, listed => (Region.ready .any ops listed).contains k && freesB T false .any ops k listed && t.checkN T ops (listed.setIfInBounds k true)
  | .branch k t r, listed => !(Region.ready .any ops listed).isEmpty && (Region.ready .any ops listed).all (fun i => (k :: r.tops).contains i) && t.checkN T ops (listed.setIfInBounds k true) && checkRestN T ops r listed
where
  checkRestN (T : Tys) (ops : Array Oper) : Tree → Array Bool → Bool
  | .branch k t r, listed => t.checkN T ops (listed.setIfInBounds k true) && checkRestN T ops r listed
  | _, _ => true
def wpNo (P : Program) (T : Tys) (ops : Array Oper) (N : Act → World → Prop) (o : Oper) (K : Act → World → Prop) (a : Act) (w : World) : Prop :=
  if Region.wanted o (yielded ops a.tmps) then (yB T o = true → plainArgs a.eval o = true) ∧ o.wp P a w K (OnlyN N) else K (a.put o.dst undef) w
def Tree.wpN (P : Program) (T : Tys) (ops : Array Oper) (N : Act → World → Prop) : Tree → Act → World → Prop
  | .done, a, w => N a w
  | .take k t, a, w => ∃ o, ops[k]? = some o ∧ wpNo P T ops N o (t.wpN P T ops N) a w
  | .branch k t r, a, w => (∃ o, ops[k]? = some o ∧ wpNo P T ops N o (t.wpN P T ops N) a w) ∧ wpRestN P T ops N r a w
where
  wpRestN (P : Program) (T : Tys) (ops : Array Oper) (N : Act → World → Prop) : Tree → Act → World → Prop
  | .branch k t r, a, w => (∃ o, ops[k]? = some o ∧ wpNo P T ops N o (t.wpN P T ops N) a w) ∧ wpRestN P T ops N r a w
  | _, _, _ => True
theorem wpX_of_no (hT : T.ok P = true) {k : Nat} {o : Oper} {K K' : Act → World → Prop} {a : Act} {w : World} (ho : ops[k]? = some o) (hK : ∀ a w, K a w → K' a w) (h : wpNo P T ops N o K a w) : wpX P T false S ops N k K' a w := by
  unfold wpX
  simp only [ho]
  unfold wpNo at h
  split
  · rename_i hw
    rw [if_pos hw] at h
    refine ⟨⟨h.1, fun hf => by simp at hf⟩, ?_⟩
    by_cases hy : yB T o = true
    · have h2 := h.2
      unfold Oper.wp at h2 ⊢
      cases hr : (execOp a.eval o).run P w with
      | halt x w' => rw [hr] at h2; cases x <;> simp only [Oper.upon] at h2; exact h2.elim
      | ok n w' =>
        obtain ⟨v, rfl, rfl, _⟩ := yOp hT hy (h.1 hy) w n w' hr
        rw [hr] at h2
        exact ⟨⟨fun _ => rfl, fun _ hH => by cases hH⟩, hK _ _ h2⟩
    · exact upon_mono (fun _ _ _ _ hk => ⟨⟨fun hs => by simp [stillB, hy] at hs, fun _ hH => by cases hH⟩, hK _ _ hk⟩) h.2
  · rename_i hw
    rw [if_neg hw] at h
    exact hK _ _ h
theorem InvF {listed : Array Bool} {w : World} (h : Closed ops listed) : Inv false S ops listed w := ⟨h, fun h => by cases h⟩
mutual
theorem tree_anyN (hT : T.ok P = true) : ∀ (t : Tree) (f : Nat) (listed : Array Bool) (a : Act) (w : World), t.depth ≤ f → Closed ops listed → t.checkN T ops listed = true → t.wpN P T ops N a w → wpAnyX P T false S .any ops N f listed a w
  | .done, f, listed, a, w, hf, hS, hB, h => ready_nil hB f h
  | .take k t, f, listed, a, w, hf, hS, hB, h => by
    simp only [Tree.checkN, Bool.and_eq_true] at hB
    obtain ⟨⟨hr, hfr⟩, hB'⟩ := hB
    obtain ⟨o, ho, h1⟩ := h
    have hr' : k ∈ Region.ready .any ops listed := by simpa using hr
    have hun := (mem_ready.1 hr').1
    obtain ⟨hs, F⟩ := freesB_spec ho hun hfr
    simp only [Tree.depth] at hf
    obtain ⟨f, rfl⟩ : ∃ g, f = g + 1 := ⟨f - 1, by omega⟩
    exact wpAnyX_first hT ho hs f listed a w (InvF hS) F hr' (wpX_of_no hT ho (fun a' w' hk => tree_anyN hT t f _ a' w' (by omega) (hS.set hr') hB' hk) h1)
  | .branch k t r, f, listed, a, w, hf, hS, hB, h => by
    simp only [Tree.checkN, Bool.and_eq_true, Bool.not_eq_true', List.all_eq_true] at hB
    obtain ⟨⟨⟨hne, hall⟩, hB1⟩, hB2⟩ := hB
    simp only [Tree.depth] at hf
    have hf1 : t.depth + 1 ≤ f := Nat.le_trans (Nat.le_max_left _ _) hf
    have hf2 : r.depth ≤ f := Nat.le_trans (Nat.le_max_right _ _) hf
    obtain ⟨f, rfl⟩ : ∃ g, f = g + 1 := ⟨f - 1, by omega⟩
    obtain ⟨⟨o, ho, h1⟩, h2⟩ := h
    refine ⟨fun h0 => by rw [h0] at hne; simp at hne, fun i hi => ?_⟩
    have hi' := hall i hi
    simp only [List.contains_cons, Bool.or_eq_true, beq_iff_eq] at hi'
    rcases hi' with rfl | hi'
    · exact wpX_of_no hT ho (fun a' w' hk => tree_anyN hT t f _ a' w' (by omega) (hS.set hi) hB1 hk) h1
    · exact tree_restN hT r f listed a w hf2 hS hB2 h2 i (by simpa using hi') hi
theorem tree_restN (hT : T.ok P = true) : ∀ (r : Tree) (f : Nat) (listed : Array Bool) (a : Act) (w : World), r.depth ≤ f + 1 → Closed ops listed → Tree.checkN.checkRestN T ops r listed = true → Tree.wpN.wpRestN P T ops N r a w →
    ∀ i ∈ r.tops, i ∈ Region.ready .any ops listed → wpX P T false S ops N i (wpAnyX P T false S .any ops N f (listed.setIfInBounds i true)) a w
  | .done, _, _, _, _, _, _, _, _ => by simp [Tree.tops]
  | .take _ _, _, _, _, _, _, _, _, _ => by simp [Tree.tops]
  | .branch k t r, f, listed, a, w, hf, hS, hB, h => by
    simp only [Tree.checkN.checkRestN, Bool.and_eq_true] at hB
    simp only [Tree.depth] at hf
    have hf1 : t.depth ≤ f := by have := Nat.le_trans (Nat.le_max_left (t.depth + 1) r.depth) hf; omega
    have hf2 : r.depth ≤ f + 1 := Nat.le_trans (Nat.le_max_right (t.depth + 1) r.depth) hf
    obtain ⟨⟨o, ho, h1⟩, h2⟩ := h
    intro i hi hr
    simp only [Tree.tops, List.mem_cons] at hi
    rcases hi with rfl | hi
    · exact wpX_of_no hT ho (fun a' w' hk => tree_anyN hT t f _ a' w' hf1 (hS.set hr) hB.1 hk) h1
    · exact tree_restN hT r f listed a w hf2 hS hB.2 h2 i hi hr
end
/-- A REGION THAT DRAWS, BY A TREE OF ORDERS, nothing held. -/
theorem wp_region_treeN (T : Tys) (t : Tree) {id : Nat} {Q : Exit → Act → World → Prop} {a : Act} {w : World} {l : List Oper} (hm : P.follows .mixedOrders = true) (hT : T.ok P = true)
    (hB : t.checkN T l.toArray (Array.replicate l.length false) = true) (hd : Nat.ble t.depth l.length = true)
    (h : t.wpN P T l.toArray (Q .normal) a w.drew) : (Code.region id l.toArray true).wp P Q a w := by
  have h1 : (Code.region id l.toArray true).wp P (OnlyN (Q .normal)) a w := by
    refine wp_region_any hm (wpAny_of_X (T := T) (H := false) (S := fun _ => True) _ _ _ _ ?_)
    exact tree_anyN hT t _ _ a w.drew (by simpa using hd) closed_start (by simpa using hB) h
  exact Code.wp_mono (fun e a w q => by cases e <;> first | exact q | exact q.elim) h1
theorem tree_done {a : Act} {w : World} (h : N a w) : Tree.done.wp P T S ops N a w := h
theorem tree_take {k : Nat} {t : Tree} {o : Oper} {a : Act} {w : World} (ho : ops[k]? = some o) (h : ∀ K : Act → World → Prop, (∀ a w, t.wp P T S ops N a w → K a w) → wpOne P T S ops N k o K a w) :
    (Tree.take k t).wp P T S ops N a w := ⟨o, ho, h _ (fun _ _ h => h)⟩
theorem tree_branch {k : Nat} {t r : Tree} {o : Oper} {a : Act} {w : World} (ho : ops[k]? = some o) (h : ∀ K : Act → World → Prop, (∀ a w, t.wp P T S ops N a w → K a w) → wpOne P T S ops N k o K a w)
    (h2 : Tree.wp.wpRest P T S ops N r a w) : (Tree.branch k t r).wp P T S ops N a w := ⟨⟨o, ho, h _ (fun _ _ h => h)⟩, h2⟩
theorem tree_rest_branch {k : Nat} {t r : Tree} {o : Oper} {a : Act} {w : World} (ho : ops[k]? = some o) (h : ∀ K : Act → World → Prop, (∀ a w, t.wp P T S ops N a w → K a w) → wpOne P T S ops N k o K a w)
    (h2 : Tree.wp.wpRest P T S ops N r a w) : Tree.wp.wpRest P T S ops N (Tree.branch k t r) a w := ⟨⟨o, ho, h _ (fun _ _ h => h)⟩, h2⟩
theorem tree_rest_done {a : Act} {w : World} : Tree.wp.wpRest P T S ops N .done a w := trivial
theorem one_load {k : Nat} {o : Oper} {K : Act → World → Prop} {a : Act} {w : World} (hw : Region.wanted o (yielded ops a.tmps) = true) (hc : calmB o = true) (v : Value)
    (hv : ∀ w', S w' → (execOp a.eval o).run P w' = .ok (.value v) w') (h : K (a.put o.dst v) w) : wpOne P T S ops N k o K a w := by
  unfold wpOne
  rw [if_pos hw, if_pos hc]
  exact ⟨v, hv, h⟩
theorem one_still {k : Nat} {o : Oper} {K : Act → World → Prop} {a : Act} {w : World} (hw : Region.wanted o (yielded ops a.tmps) = true) (hc : calmB o = false) (hy : yB T o = true) (hp : plainArgs a.eval o = true)
    (h : o.wp P a w K (OnlyN N)) : wpOne P T S ops N k o K a w := by
  unfold wpOne
  rw [if_pos hw, hc, if_neg (by simp), if_pos hy]
  exact ⟨hp, h⟩
theorem one_acts {k : Nat} {o : Oper} {K : Act → World → Prop} {a : Act} {w : World} (hw : Region.wanted o (yielded ops a.tmps) = true) (hc : calmB o = false) (hy : yB T o = false)
    (h : ∀ K' : Act → World → Prop, (∀ a w, (ndB ops k = true → S w) → K a w → K' a w) → o.wp P a w K' (OnlyN N)) : wpOne P T S ops N k o K a w := by
  unfold wpOne
  rw [if_pos hw, hc, if_neg (by simp), hy, if_neg (by simp)]
  exact h _ fun _ _ hS hK => ⟨hS, hK⟩
theorem one_free {k : Nat} {o : Oper} {K : Act → World → Prop} {a : Act} {w : World} (hn : ndB ops k = false) (hw : Region.wanted o (yielded ops a.tmps) = true) (hc : calmB o = false) (hy : yB T o = false)
    (h : o.wp P a w K (OnlyN N)) : wpOne P T S ops N k o K a w := by
  unfold wpOne
  rw [if_pos hw, hc, if_neg (by simp), hy, if_neg (by simp)]
  exact upon_mono (fun _ _ _ _ hk => ⟨fun h => (by rw [hn] at h; cases h), hk⟩) h
theorem one_skip {k : Nat} {o : Oper} {K : Act → World → Prop} {a : Act} {w : World} (hw : Region.wanted o (yielded ops a.tmps) = false) (h : K (a.put o.dst undef) w) : wpOne P T S ops N k o K a w := by
  unfold wpOne
  rw [hw, if_neg (by simp)]
  exact h
end
end LTxt
end Go
