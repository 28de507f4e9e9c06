/- Tables of rules. -/
import Derived.Test.YthegkipclogoeaaDoorAmLeaf
set_option linter.unusedVariables false
namespace Go
namespace AM
open LMem LTxt
def callTab : List (FuncId × CallT) → FuncId → Option CallT
  | [], _ => none
  | (k, R) :: l, g => match Nat.beq k g with
    | true => some R
    | false => callTab l g
def loopTab : List (FuncId × Nat × LoopT) → FuncId → Nat → Option LoopT
  | [], _, _ => none
  | (k, i, R) :: l, g, j => match Nat.beq k g && Nat.beq i j with
    | true => some R
    | false => loopTab l g j
def mkG (E : List TypeId) (l : List (FuncId × CallT)) (m : List (FuncId × Nat × LoopT)) (r : List (FuncId × Nat × LoopT) := []) : Rules := ⟨E, callTab l, loopTab m, loopTab r⟩
/-- the one region of a function that bears a number -/
def isReg (id : Nat) (c : Code) : Bool := match c with
  | .region i _ _ => Nat.beq i id
  | _ => false
def theReg (P : Program) (F : FuncId) (id : Nat) : Code := match (regsOf (bodyOf P F)).filter (isReg id) with
  | [b] => b
  | _ => .skip
def oneReg (P : Program) (F : FuncId) (id : Nat) : Bool := match (regsOf (bodyOf P F)).filter (isReg id) with
  | [_] => true
  | _ => false
/-- the one loop of a function whose first region bears a number -/
def atId (id : Nat) (b : Code) : Bool := match firstId b with
  | some i => Nat.beq i id
  | none => false
def theLoop (P : Program) (F : FuncId) (id : Nat) : Code := match (loopsOf (bodyOf P F)).filter (atId id) with
  | [b] => b
  | _ => .skip
def oneLoop (P : Program) (F : FuncId) (id : Nat) : Bool := match (loopsOf (bodyOf P F)).filter (atId id) with
  | [_] => true
  | _ => false
section
variable {P : Program} {T : Tys}
def CallsOK (P : Program) (l : List (FuncId × CallT)) : Prop := ∀ x ∈ l, CallOK P x.1 x.2
def LoopsOK (P : Program) (m : List (FuncId × Nat × LoopT)) : Prop := ∀ x ∈ m, ∀ b ∈ loopsOf (bodyOf P x.1), firstId b = some x.2.1 → LoopOK P b x.2.2
def RegsOK (P : Program) (m : List (FuncId × Nat × LoopT)) : Prop := ∀ x ∈ m, ∀ ops d, Code.region x.2.1 ops d ∈ regsOf (bodyOf P x.1) → RegOK P (.region x.2.1 ops d) x.2.2
theorem RegsOK.nil : RegsOK P [] := fun x hx => by simp at hx
theorem RegsOK.append {l m : List (FuncId × Nat × LoopT)} (h : RegsOK P l) (h2 : RegsOK P m) : RegsOK P (l ++ m) := fun x hx => (List.mem_append.1 hx).elim (h x) (h2 x)
theorem theReg_mem {F : FuncId} {id : Nat} (h : oneReg P F id = true) : theReg P F id ∈ regsOf (bodyOf P F) := by
  unfold oneReg at h
  unfold theReg
  split at h
  · rename_i b hb
    have : b ∈ (regsOf (bodyOf P F)).filter (isReg id) := by rw [hb]; simp
    exact (List.mem_filter.1 this).1
  · cases h
theorem theReg_eq {F : FuncId} {id : Nat} (h : oneReg P F id = true) {ops : Array Oper} {d : Bool} (hb : Code.region id ops d ∈ regsOf (bodyOf P F)) : Code.region id ops d = theReg P F id := by
  unfold oneReg at h
  unfold theReg
  split at h
  · rename_i c hc
    have : Code.region id ops d ∈ (regsOf (bodyOf P F)).filter (isReg id) := List.mem_filter.2 ⟨hb, by simp [isReg]⟩
    rw [hc] at this
    simpa using this
  · cases h
theorem RegsOK.cons {F : FuncId} {id : Nat} {R : LoopT} {m : List (FuncId × Nat × LoopT)} (h1 : oneReg P F id = true) (h : RegOK P (theReg P F id) R) (h2 : RegsOK P m) : RegsOK P ((F, id, R) :: m) := fun x hx => by
  rcases List.mem_cons.1 hx with rfl | hx
  · intro ops d hb
    rw [theReg_eq h1 hb]
    exact h
  · exact h2 x hx
theorem regTab_ok : ∀ {m : List (FuncId × Nat × LoopT)}, RegsOK P m → ∀ F id R ops d, loopTab m F id = some R → Code.region id ops d ∈ regsOf (bodyOf P F) → RegOK P (.region id ops d) R
  | [], _, F, id, R, ops, d, h, _ => by cases h
  | (k, i, S) :: m, hm, F, id, R, ops, d, h, hb => by
    unfold loopTab at h
    split at h
    · rename_i hk
      cases h
      simp only [Bool.and_eq_true] at hk
      have e1 := Nat.eq_of_beq_eq_true hk.1
      have e2 := Nat.eq_of_beq_eq_true hk.2
      subst e1
      subst e2
      exact hm _ (List.mem_cons_self ..) ops d hb
    · exact regTab_ok (fun x hx => hm x (by simp [hx])) F id R ops d h hb
theorem CallsOK.nil : CallsOK P [] := fun x hx => by simp at hx
theorem LoopsOK.nil : LoopsOK P [] := fun x hx => by simp at hx
theorem CallsOK.cons {g : FuncId} {R : CallT} {l : List (FuncId × CallT)} (h : CallOK P g R) (h2 : CallsOK P l) : CallsOK P ((g, R) :: l) := fun x hx => by
  rcases List.mem_cons.1 hx with rfl | hx
  · exact h
  · exact h2 x hx
theorem CallsOK.append {l m : List (FuncId × CallT)} (h : CallsOK P l) (h2 : CallsOK P m) : CallsOK P (l ++ m) := fun x hx => (List.mem_append.1 hx).elim (h x) (h2 x)
theorem LoopsOK.append {l m : List (FuncId × Nat × LoopT)} (h : LoopsOK P l) (h2 : LoopsOK P m) : LoopsOK P (l ++ m) := fun x hx => (List.mem_append.1 hx).elim (h x) (h2 x)
theorem theLoop_mem {F : FuncId} {id : Nat} (h : oneLoop P F id = true) : theLoop P F id ∈ loopsOf (bodyOf P F) := by
  unfold oneLoop at h
  unfold theLoop
  split at h
  · rename_i b hb
    have : b ∈ (loopsOf (bodyOf P F)).filter (atId id) := by rw [hb]; simp
    exact (List.mem_filter.1 this).1
  · cases h
theorem theLoop_eq {F : FuncId} {id : Nat} (h : oneLoop P F id = true) {b : Code} (hb : b ∈ loopsOf (bodyOf P F)) (hi : firstId b = some id) : b = theLoop P F id := by
  unfold oneLoop at h
  unfold theLoop
  split at h
  · rename_i c hc
    have : b ∈ (loopsOf (bodyOf P F)).filter (atId id) := List.mem_filter.2 ⟨hb, by unfold atId; rw [hi]; simp⟩
    rw [hc] at this
    simpa using this
  · cases h
theorem LoopsOK.cons {F : FuncId} {id : Nat} {R : LoopT} {m : List (FuncId × Nat × LoopT)} (h1 : oneLoop P F id = true) (h : LoopOK P (theLoop P F id) R) (h2 : LoopsOK P m) : LoopsOK P ((F, id, R) :: m) := fun x hx => by
  rcases List.mem_cons.1 hx with rfl | hx
  · intro b hb hi
    rw [theLoop_eq h1 hb hi]
    exact h
  · exact h2 x hx
theorem callTab_ok : ∀ {l : List (FuncId × CallT)}, CallsOK P l → ∀ g R, callTab l g = some R → CallOK P g R
  | [], _, g, R, h => by cases h
  | (k, S) :: l, hl, g, R, h => by
    unfold callTab at h
    split at h
    · rename_i hk
      cases h
      rw [← Nat.eq_of_beq_eq_true hk]
      exact hl _ (List.mem_cons_self ..)
    · exact callTab_ok (fun x hx => hl x (by simp [hx])) g R h
theorem loopTab_ok : ∀ {m : List (FuncId × Nat × LoopT)}, LoopsOK P m → ∀ F id R b, loopTab m F id = some R → b ∈ loopsOf (bodyOf P F) → firstId b = some id → LoopOK P b R
  | [], _, F, id, R, b, h, _, _ => by cases h
  | (k, i, S) :: m, hm, F, id, R, b, h, hb, hi => by
    unfold loopTab at h
    split at h
    · rename_i hk
      cases h
      simp only [Bool.and_eq_true] at hk
      have e1 := Nat.eq_of_beq_eq_true hk.1
      have e2 := Nat.eq_of_beq_eq_true hk.2
      subst e1
      subst e2
      exact hm _ (List.mem_cons_self ..) b hb hi
    · exact loopTab_ok (fun x hx => hm x (by simp [hx])) F id R b h hb hi
theorem mk_sound (hm : P.follows .mixedOrders = true) (ht : T.ok P = true) (hn : NamesOK P) {E : List TypeId} (hE : E.all (eqOK P) = true)
    {l : List (FuncId × CallT)} {m r : List (FuncId × Nat × LoopT)} (hl : CallsOK P l) (hlm : LoopsOK P m) (hr : RegsOK P r := by exact RegsOK.nil) : Sound P T (mkG E l m r) :=
  ⟨hm, ht, fun t h => List.all_eq_true.1 hE t h, hn, fun g R h => callTab_ok hl g R h, fun F id R b h hb hi => loopTab_ok hlm F id R b h hb hi, fun F id R ops d h hb => regTab_ok hr F id R ops d h hb⟩
/-- trees -/
theorem br_mk {b : Bool} {A B : Prop} (h1 : b = true → A) (h2 : b = false → B) : br b A B := by
  cases b
  · exact h2 rfl
  · exact h1 rfl
theorem req_mk {b : Bool} {K : Prop} (h1 : b = true) (h2 : K) : req b K := by
  subst h1
  exact h2
theorem dapp_full (xs ys : List Dat) : dapp xs 0 xs.length ys = xs ++ ys := by simp [dapp]
end
end AM
end Go
