/- Layer 05: words for the loops of both sides. -/
import Derived.Test.YtojdmhfkgkfpaaaDoorRl
import Derived.Test.YtojdmhfkgkfpaaaDoorAmPat
set_option linter.unusedVariables false
set_option linter.unusedSimpArgs false
set_option maxRecDepth 100000
namespace Go.Proofs.YtojdmhfkgkfpaaaDoor
open Go.AM Go.LTxt Go.LMem Go.RowKit
theorem head_le4 (l : List UInt8) : (head l).1 ≤ 4 := by
  rw [head_nat]
  exact (headN_le _ _ _ _ _).2
def rD (l : List UInt8) : List Dat := (runes l).map .int
def iD (l : List Int) : List Dat := l.map .int
theorem cut_tail (xs : List Dat) (k : Nat) : (xs.drop k).take (xs.length - k) = xs.drop k := by rw [← List.length_drop, List.take_length]
theorem dcut_full (xs : List Dat) : dcut xs 0 xs.length = xs := by simp [dcut]
theorem dcut_tail (xs : List Dat) (k : Nat) : dcut xs k (xs.length - k) = xs.drop k := by unfold dcut; exact cut_tail xs k
theorem app_ok {xs : List Dat} {k b : Nat} (h : (xs.length + k) * b ≤ 140737488351232) : appOK xs 0 xs.length k b = true := by simp [appOK]; exact h
theorem req_t {K : Prop} : req true K = K := rfl
theorem br_t {A B : Prop} : br true A B = A := rfl
theorem br_f {A B : Prop} : br false A B = B := rfl
theorem eq_and {α : Type} {a : α} {K : Prop} : ((a = a) ∧ K) = K := by simp
def lim : Nat := 1073741824

theorem decP_eq (l : List UInt8) (h : 0 < l.length) : ((decP l).1 : Int) = (dec l).1 ∧ (decP l).2 = (dec l).2 := by
  rw [decP_dec l h]
  exact ⟨rfl, rfl⟩
def act (kind rune fin priv : Int) (params : List Dat) (inter text : ByteArray) : Dat := .pair (.int kind) (.pair (.int rune) (.pair (.int fin) (.pair (.int priv) (.pair (.list params) (.pair (.str inter) (.pair (.str text) (.int 0)))))))
def prD (l : List Dat) : List Dat := (l.filter fun d => decide (d.toInt < 128) || decide (159 < d.toInt)).map fun d => act 1 d.toInt 0 0 [] ⟨#[]⟩ ⟨#[]⟩
theorem prD_cons (d : Dat) (l : List Dat) : prD (d :: l) = (if d.toInt < 128 ∨ 159 < d.toInt then [act 1 d.toInt 0 0 [] ⟨#[]⟩ ⟨#[]⟩] else []) ++ prD l := by
  unfold prD
  rw [List.filter_cons]
  by_cases h : d.toInt < 128 ∨ 159 < d.toInt <;> simp [h]
theorem prD_length (l : List Dat) : (prD l).length ≤ l.length := by
  unfold prD
  simp [List.length_filter_le]
def limA : Nat := 1073741824
theorem drop_cons {l : List Dat} {i : Nat} (h : i < l.length) : l.drop i = l.getD i default :: l.drop (i + 1) := by
  rw [List.drop_eq_getElem_cons h, List.getD_eq_getElem?_getD, List.getElem?_eq_getElem h]
  rfl
end Go.Proofs.YtojdmhfkgkfpaaaDoor
