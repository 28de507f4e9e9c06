/- The library's way to read a rune and the reference's way are one. -/
import Derived.Test.YtojdmhfkgkfpaaaDoorDec
set_option linter.unusedVariables false
set_option linter.unusedSimpArgs false
namespace Go.Proofs.YtojdmhfkgkfpaaaDoor
def headN (n b0 b1 b2 b3 : Nat) : Nat × Nat :=
  if n = 0 then (0, 0) else if need b0 = 0 then (0, 0) else if need b0 = 1 then (1, 1)
  else if n ≤ 1 then (1, need b0) else if second b0 b1 = false ∨ contB b1 = false then (0, need b0) else if need b0 = 2 then (2, 2)
  else if n ≤ 2 then (2, need b0) else if contB b2 = false then (0, need b0) else if need b0 = 3 then (3, 3)
  else if n ≤ 3 then (3, need b0) else if contB b3 = false then (0, need b0) else (4, need b0)
theorem head_nat (l : List UInt8) : head l = headN l.length (b_ l 0) (b_ l 1) (b_ l 2) (b_ l 3) := by
  have hle := need_le (b_ l 0)
  match l with
  | [] => rfl
  | [x] =>
    simp only [head, headN, b_, List.getD_cons_zero, List.length_cons, List.length_nil, headFrom] at *
    generalize need x.toNat = m at *
    have : m = 0 ∨ m = 1 ∨ m = 2 ∨ m = 3 ∨ m = 4 := by omega
    rcases this with rfl | rfl | rfl | rfl | rfl <;> simp
  | [x, y] =>
    simp only [head, headN, b_, List.getD_cons_zero, List.getD_cons_succ, List.length_cons, List.length_nil, headFrom] at *
    generalize need x.toNat = m at *
    have : m = 0 ∨ m = 1 ∨ m = 2 ∨ m = 3 ∨ m = 4 := by omega
    rcases this with rfl | rfl | rfl | rfl | rfl <;> simp
  | [x, y, z] =>
    simp only [head, headN, b_, List.getD_cons_zero, List.getD_cons_succ, List.length_cons, List.length_nil, headFrom] at *
    generalize need x.toNat = m at *
    have : m = 0 ∨ m = 1 ∨ m = 2 ∨ m = 3 ∨ m = 4 := by omega
    rcases this with rfl | rfl | rfl | rfl | rfl <;> simp
  | x :: y :: z :: t :: r =>
    simp only [head, headN, b_, List.getD_cons_zero, List.getD_cons_succ, List.length_cons, headFrom] at *
    generalize need x.toNat = m at *
    have : m = 0 ∨ m = 1 ∨ m = 2 ∨ m = 3 ∨ m = 4 := by omega
    rcases this with rfl | rfl | rfl | rfl | rfl <;> simp
def dec (l : List UInt8) : Int × Nat :=
  if (head l).1 = (head l).2 ∧ 0 < (head l).2 then (value (l.take (head l).2), (head l).2) else (65533, 1)
def valN (m b0 b1 b2 b3 : Nat) : Nat :=
  if m = 1 then b0 else if m = 2 then b0 % 32 * 64 + b1 % 64 else if m = 3 then b0 % 16 * 4096 + b1 % 64 * 64 + b2 % 64 else b0 % 8 * 262144 + b1 % 64 * 4096 + b2 % 64 * 64 + b3 % 64
theorem value_nat (l : List UInt8) (m : Nat) (h0 : 0 < m) (h4 : m ≤ 4) (hl : m ≤ l.length) : value (l.take m) = (valN m (b_ l 0) (b_ l 1) (b_ l 2) (b_ l 3) : Nat) := by
  match l with
  | [] => simp at hl; omega
  | [x] =>
    have : m = 1 := by simp at hl; omega
    subst this
    simp [value, valN, b_]
  | [x, y] =>
    have : m = 1 ∨ m = 2 := by simp at hl; omega
    rcases this with rfl | rfl <;> simp [value, valN, b_]
  | [x, y, z] =>
    have : m = 1 ∨ m = 2 ∨ m = 3 := by simp at hl; omega
    rcases this with rfl | rfl | rfl <;> simp [value, valN, b_]
  | x :: y :: z :: t :: r =>
    have : m = 1 ∨ m = 2 ∨ m = 3 ∨ m = 4 := by omega
    rcases this with rfl | rfl | rfl | rfl <;> simp [value, valN, b_]
def decN (n b0 b1 b2 b3 : Nat) : Nat × Nat :=
  if b0 < 128 then (b0, 1) else if 240 ≤ Lib.firstT b0 then (65533, 1)
  else Lib.slowN n b0 b1 b2 b3 (Lib.firstT b0 % 8) (Lib.accLo (Lib.firstT b0 / 16)) (Lib.accHi (Lib.firstT b0 / 16))
def decH (n b0 b1 b2 b3 : Nat) : Nat × Nat :=
  if (headN n b0 b1 b2 b3).1 = (headN n b0 b1 b2 b3).2 ∧ 0 < (headN n b0 b1 b2 b3).2 then (valN (headN n b0 b1 b2 b3).2 b0 b1 b2 b3, (headN n b0 b1 b2 b3).2) else (65533, 1)
def fullN (n b0 b1 b2 b3 : Nat) : Bool :=
  if Lib.firstT b0 % 8 ≤ n then true
  else if 1 < n ∧ (b1 < Lib.accLo (Lib.firstT b0 / 16) ∨ Lib.accHi (Lib.firstT b0 / 16) < b1) then true
  else if 2 < n ∧ (b2 < 128 ∨ 191 < b2) then true else false
/-- the classes of a first byte: need, firstT, the second's range -/
theorem classes (b : Nat) (h : b ≤ 255) : (b < 128 ∧ need b = 1 ∧ Lib.firstT b = 240) ∨ ((128 ≤ b ∧ (b < 194 ∨ 244 < b)) ∧ need b = 0 ∧ Lib.firstT b = 241) ∨
    ((194 ≤ b ∧ b ≤ 223) ∧ need b = 2 ∧ Lib.firstT b = 2) ∨ ((224 ≤ b ∧ b ≤ 224) ∧ need b = 3 ∧ Lib.firstT b = 19) ∨ ((224 < b ∧ b ≤ 239 ∧ b ≠ 237) ∧ need b = 3 ∧ Lib.firstT b = 3) ∨ ((237 ≤ b ∧ b ≤ 237) ∧ need b = 3 ∧ Lib.firstT b = 35) ∨
    ((240 ≤ b ∧ b ≤ 240) ∧ need b = 4 ∧ Lib.firstT b = 52) ∨ ((240 < b ∧ b < 244) ∧ need b = 4 ∧ Lib.firstT b = 4) ∨ ((244 ≤ b ∧ b ≤ 244) ∧ need b = 4 ∧ Lib.firstT b = 68) := by
  by_cases h1 : b < 128
  · exact .inl ⟨h1, by unfold need; rw [if_pos h1], by unfold Lib.firstT; rw [if_pos h1]⟩
  have hd : ∀ c : Fin 256, ¬ c.val < 128 → ((128 ≤ c.val ∧ (c.val < 194 ∨ 244 < c.val)) ∧ need c.val = 0 ∧ Lib.firstT c.val = 241) ∨
    ((194 ≤ c.val ∧ c.val ≤ 223) ∧ need c.val = 2 ∧ Lib.firstT c.val = 2) ∨ ((224 ≤ c.val ∧ c.val ≤ 224) ∧ need c.val = 3 ∧ Lib.firstT c.val = 19) ∨ ((224 < c.val ∧ c.val ≤ 239 ∧ c.val ≠ 237) ∧ need c.val = 3 ∧ Lib.firstT c.val = 3) ∨ ((237 ≤ c.val ∧ c.val ≤ 237) ∧ need c.val = 3 ∧ Lib.firstT c.val = 35) ∨
    ((240 ≤ c.val ∧ c.val ≤ 240) ∧ need c.val = 4 ∧ Lib.firstT c.val = 52) ∨ ((240 < c.val ∧ c.val < 244) ∧ need c.val = 4 ∧ Lib.firstT c.val = 4) ∨ ((244 ≤ c.val ∧ c.val ≤ 244) ∧ need c.val = 4 ∧ Lib.firstT c.val = 68) := by decide +kernel
  exact .inr (hd ⟨b, by omega⟩ h1)
theorem second_eq (x y : Nat) : second x y = true ↔ ((if x = 224 then 160 else if x = 240 then 144 else 128) ≤ y ∧ y ≤ (if x = 237 then 159 else if x = 244 then 143 else 191)) := by
  unfold second
  rw [Bool.and_eq_true, decide_eq_true_eq, decide_eq_true_eq]
theorem contB_eq (y : Nat) : contB y = true ↔ 128 ≤ y ∧ y ≤ 191 := by
  unfold contB
  rw [Bool.and_eq_true, decide_eq_true_eq, decide_eq_true_eq]
/-- what stands second, by class -/
theorem second_is (x y : Nat) (lo hi : Nat) (hlo : (if x = 224 then 160 else if x = 240 then 144 else 128) = lo) (hhi : (if x = 237 then 159 else if x = 244 then 143 else 191) = hi) : (second x y = false) = (y < lo ∨ hi < y) := by
  apply propext
  have := second_eq x y
  rw [hlo, hhi] at this
  rw [← Bool.not_eq_true, this]
  omega
theorem contB_is (y : Nat) : (contB y = false) = (y < 128 ∨ 191 < y) := by
  apply propext
  rw [← Bool.not_eq_true, contB_eq]
  omega
/-- the nested tests of a class, at once -/
theorem class_dec (n b0 b1 b2 b3 m lo hi : Nat) (hn : 0 < n) (h128 : 128 ≤ b0) (hm : m = 2 ∨ m = 3 ∨ m = 4) (hneed : need b0 = m) (hs : (second b0 b1 = false) = (b1 < lo ∨ hi < b1)) (hlo : 128 ≤ lo) (hhi : hi ≤ 191) :
    Lib.slowN n b0 b1 b2 b3 m lo hi = decH n b0 b1 b2 b3 := by
  unfold decH headN Lib.slowN
  rw [hneed]
  simp only [hs, contB_is]
  rcases hm with rfl | rfl | rfl
  · by_cases c0 : n ≤ 1
    · rw [if_pos (by omega)]; simp [c0, show n ≠ 0 by omega]
    · by_cases c1 : b1 < lo ∨ hi < b1
      · simp [c0, c1, show n ≠ 0 by omega]
      · simp [c0, c1, show n ≠ 0 by omega, show ¬ n < 2 by omega, show ¬ (b1 < 128 ∨ 191 < b1) by omega, valN]
  · by_cases c0 : n ≤ 1
    · rw [if_pos (by omega)]; simp [c0, show n ≠ 0 by omega]
    · by_cases c1 : b1 < lo ∨ hi < b1
      · simp [c0, c1, show n ≠ 0 by omega]
      · have c1' : ¬ (b1 < 128 ∨ 191 < b1) := by omega
        by_cases c2 : n ≤ 2
        · simp [c0, c1, c1', c2, show n ≠ 0 by omega, show n < 3 by omega]
        · by_cases c3 : b2 < 128 ∨ 191 < b2
          · simp [c0, c1, c1', c2, c3, show n ≠ 0 by omega, show ¬ n < 3 by omega]
          · simp [c0, c1, c1', c2, c3, show n ≠ 0 by omega, show ¬ n < 3 by omega, valN]
  · by_cases c0 : n ≤ 1
    · rw [if_pos (by omega)]; simp [c0, show n ≠ 0 by omega]
    · by_cases c1 : b1 < lo ∨ hi < b1
      · simp [c0, c1, show n ≠ 0 by omega]
      · have c1' : ¬ (b1 < 128 ∨ 191 < b1) := by omega
        by_cases c2 : n ≤ 2
        · simp [c0, c1, c1', c2, show n ≠ 0 by omega, show n < 4 by omega]
        · by_cases c3 : b2 < 128 ∨ 191 < b2
          · simp [c0, c1, c1', c2, c3, show n ≠ 0 by omega]
          · by_cases c4 : n ≤ 3
            · simp [c0, c1, c1', c2, c3, c4, show n ≠ 0 by omega, show n < 4 by omega]
            · by_cases c5 : b3 < 128 ∨ 191 < b3
              · simp [c0, c1, c1', c2, c3, c4, c5, show n ≠ 0 by omega, show ¬ n < 4 by omega]
              · simp [c0, c1, c1', c2, c3, c4, c5, show n ≠ 0 by omega, show ¬ n < 4 by omega, valN]
theorem dec_nat (n b0 b1 b2 b3 : Nat) (hn : 0 < n) (h0 : b0 ≤ 255) : decN n b0 b1 b2 b3 = decH n b0 b1 b2 b3 := by
  unfold decN
  rcases classes b0 h0 with h | h | h | h | h | h | h | h | h
  · rw [if_pos h.1]
    unfold decH headN
    rw [h.2.1]
    simp [show n ≠ 0 by omega, valN]
  · rw [if_neg (by omega), h.2.2]
    unfold decH headN
    rw [h.2.1]
    simp
  all_goals
    rw [if_neg (by omega), h.2.2, if_neg (by decide)]
    refine class_dec n b0 b1 b2 b3 _ _ _ hn (by omega) (by decide) h.2.1 (second_is b0 b1 _ _ ?_ ?_) (by decide) (by decide)
    all_goals (repeat (first | rw [if_pos (by omega)] | rw [if_neg (by omega)]))
    all_goals rfl
end Go.Proofs.YtojdmhfkgkfpaaaDoor
