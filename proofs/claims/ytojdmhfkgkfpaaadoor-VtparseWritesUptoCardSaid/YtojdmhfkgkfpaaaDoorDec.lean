/- Runes in bytes, in plain Lean: how long a form is, whether it is whole, its rune. -/
import Derived.RowKit
import Derived.Lib.DecodeN
set_option linter.unusedVariables false
namespace Go.Proofs.YtojdmhfkgkfpaaaDoor
def need (x : Nat) : Nat := if x < 128 then 1 else if 194 ≤ x ∧ x ≤ 223 then 2 else if 224 ≤ x ∧ x ≤ 239 then 3 else if 240 ≤ x ∧ x ≤ 244 then 4 else 0
theorem need_le (x : Nat) : need x ≤ 4 := by
  unfold need
  repeat' split
  all_goals omega
def second (x y : Nat) : Bool := decide ((if x = 224 then 160 else if x = 240 then 144 else 128) ≤ y) && decide (y ≤ (if x = 237 then 159 else if x = 244 then 143 else 191))
def contB (y : Nat) : Bool := decide (128 ≤ y) && decide (y ≤ 191)
/-- from the `h`-th byte on -/
def headFrom (l : List UInt8) (n : Nat) : Nat → Nat → Nat × Nat
  | 0, h => (h, n)
  | f + 1, h => if h < n then
      match l[h]? with
      | none => (h, n)
      | some y => if ((h == 1) && !second (l.headD 0).toNat y.toNat) || !contB y.toNat then (0, n) else headFrom l n f (h + 1)
    else (h, n)
def head (l : List UInt8) : Nat × Nat :=
  match l with
  | [] => (0, 0)
  | x :: _ => if need x.toNat = 0 then (0, 0) else headFrom l (need x.toNat) 4 1
def value (l : List UInt8) : Int :=
  match l with
  | [x] => x.toNat
  | [x, y] => (x.toNat : Int) % 32 * 64 + (y.toNat : Int) % 64
  | [x, y, z] => (x.toNat : Int) % 16 * 4096 + (y.toNat : Int) % 64 * 64 + (z.toNat : Int) % 64
  | [x, y, z, t] => (x.toNat : Int) % 8 * 262144 + (y.toNat : Int) % 64 * 4096 + (z.toNat : Int) % 64 * 64 + (t.toNat : Int) % 64
  | _ => 0
/-! the library's way -/
def b_ (l : List UInt8) (i : Nat) : Nat := (l.getD i 0).toNat
theorem b_le (l : List UInt8) (i : Nat) : b_ l i ≤ 255 := by unfold b_; have := (l.getD i 0).toNat_lt; omega
def decP (l : List UInt8) : Nat × Nat :=
  if l.length = 0 then (65533, 0) else if b_ l 0 < 128 then (b_ l 0, 1) else if 240 ≤ Lib.firstT (b_ l 0) then (65533, 1)
  else Lib.slowN l.length (b_ l 0) (b_ l 1) (b_ l 2) (b_ l 3) (Lib.firstT (b_ l 0) % 8) (Lib.accLo (Lib.firstT (b_ l 0) / 16)) (Lib.accHi (Lib.firstT (b_ l 0) / 16))
def fullP (l : List UInt8) : Bool :=
  if l.length = 0 then false else if Lib.firstT (b_ l 0) % 8 ≤ l.length then true
  else if 1 < l.length ∧ (b_ l 1 < Lib.accLo (Lib.firstT (b_ l 0) / 16) ∨ Lib.accHi (Lib.firstT (b_ l 0) / 16) < b_ l 1) then true
  else if 2 < l.length ∧ (b_ l 2 < 128 ∨ 191 < b_ l 2) then true else false
theorem first_cases (b : Nat) : Lib.firstT b = 240 ∨ Lib.firstT b = 241 ∨ Lib.firstT b = 2 ∨ Lib.firstT b = 19 ∨ Lib.firstT b = 3 ∨ Lib.firstT b = 35 ∨ Lib.firstT b = 52 ∨ Lib.firstT b = 4 ∨ Lib.firstT b = 68 := by
  unfold Lib.firstT
  repeat' split
  all_goals simp
theorem first_240 (b : Nat) : Lib.firstT b = 240 → b < 128 := by
  unfold Lib.firstT
  intro h
  repeat' split at h
  all_goals omega
end Go.Proofs.YtojdmhfkgkfpaaaDoor
