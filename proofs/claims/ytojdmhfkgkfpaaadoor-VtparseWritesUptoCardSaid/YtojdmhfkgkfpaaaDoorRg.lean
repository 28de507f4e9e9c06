/- Layer 05, the reference: its small functions in plain words. -/
import Derived.Test.YtojdmhfkgkfpaaaDoorRf1
import Derived.Test.YtojdmhfkgkfpaaaDoorMx
set_option linter.unusedVariables false
set_option linter.unusedSimpArgs false
set_option maxRecDepth 100000
namespace Go.Proofs.YtojdmhfkgkfpaaaDoor
open Go.AM Go.LTxt Go.LMem Go.RowKit

theorem f46_eq (r : RS) (a a2 a3 a4 : Int) (a5 : List Dat) (a6 a7 : ByteArray) : f46 r a a2 a3 a4 a5 a6 a7 = { r with out := r.out ++ [act a a2 a3 a4 a5 a6 a7] } := by
  unfold f46
  rw [dapp_full]
  rfl
theorem s46_of {r : RS} {a a2 a3 a4 : Int} {a5 : List Dat} {a6 a7 : ByteArray} (h : r.out.length ≤ limB) : s46 r a a2 a3 a4 a5 a6 a7 := by
  unfold s46 limB at *
  exact ⟨app_ok (by omega), trivial⟩
theorem f31_eq (r : RS) (l : List Dat) : f31 r l = { r with out := r.out ++ prD l } := by
  unfold f31 f31_1
  simp
theorem s31_of {r : RS} {l : List Dat} (h : r.out.length ≤ limB) (h2 : l.length ≤ limB) : s31 r l := by
  unfold s31 s31_1 limB lim at *
  simp
  omega
theorem f32_eq (r : RS) : f32 r = ({ r with db := [] }, rD (toB r.db)) := by
  unfold f32 f47 f47_2
  simp
theorem s32_of {r : RS} (h : okB r.db) (h2 : r.db.length ≤ limB) : s32 r := by
  unfold s32 s47 s47_2 limB lim at *
  simp [h]
  omega
theorem f56_eq (r : RS) : f56 r = { r with private_ := 0, params := [], many := 0, inter := e0, text := e0, final := 0 } := by
  unfold f56
  rfl
theorem f74_eq (r : RS) (b : Int) : f74 r b = { r with inter := gat r.inter b } := by
  unfold f74 gat
  simp only [decide_eq_true_eq]
  split <;> rfl
theorem f72_eq (r : RS) (b : Int) : f72 r b = { r with text := putT r.text b } := by
  unfold f72 putT
  simp only [decide_eq_true_eq]
  split <;> rfl
theorem f86_eq (r : RS) (h : r.many ≤ 17) : f86 r = { r with params := nxP r.params r.many, many := nxM r.many } := by
  unfold f86 nxP nxM
  simp only [decide_eq_true_eq, dapp_full]
  split
  · rfl
  · split
    · split <;> rfl
    · rw [if_neg (by omega)]
theorem dcut_set (ps : List Dat) (i : Nat) (d : Dat) : dcut (ps.set i d) 0 ps.length = ps.set i d := by
  unfold dcut
  rw [List.drop_zero, List.take_of_length_le (by simp)]
theorem wrap_u8 (b : Int) (h0 : 48 ≤ b) (h1 : b ≤ 255) : IntKind.wrap .u8 (b - 48) = b - 48 := by
  simp [IntKind.wrap, IntKind.signed, IntKind.bits]
  omega
theorem f87_eq (r : RS) (b : Int) (h0 : 48 ≤ b) (h1 : b ≤ 255) (hm : 0 ≤ r.many) (hm2 : r.many ≤ 17) (hl : (r.params.length : Int) = min r.many 16) : f87 r b = { r with params := dgP r.params r.many b, many := dgM r.many } := by
  unfold f87 dgP dgM
  rw [wrap_u8 b h0 h1]
  simp only [decide_eq_true_eq, dcut_full, dcut_set, Nat.zero_add, if_true, Bool.false_eq_true, if_false]
  split
  · rename_i h
    simp only [dg, capV]
  · split
    · rw [if_neg (by omega)]
    · have e : (↑(List.length (RS.params r)) - (1 : Int)).toNat = (r.many - 1).toNat := by omega
      rw [if_pos (by omega), e]
      rfl
structure RelR (r : RS) (x : X) (o : List Dat) : Prop where
  st : r.state = x.st
  db : r.db = bD x.held
  out : r.out = o
  lv : x.st ≠ 0 → x.st ≠ 13 → r.private_ = x.priv ∧ r.params = x.params ∧ r.many = x.many ∧ r.inter = x.inter ∧ r.text = x.text ∧ r.final = x.fin
def RelS (r : RS) (o : List Dat) (p : X × List Dat) : Prop := RelR r p.1 (o ++ p.2)
theorem RelS.l {c : Prop} [Decidable c] {a b : RS} {o : List Dat} {p : X × List Dat} (h1 : c → RelS a o p) (h2 : ¬ c → RelS b o p) : RelS (if c then a else b) o p := by
  split
  · exact h1 ‹_›
  · exact h2 ‹_›
theorem RelS.r {c : Prop} [Decidable c] {a : RS} {o : List Dat} {p q : X × List Dat} (h1 : c → RelS a o p) (h2 : ¬ c → RelS a o q) : RelS a o (if c then p else q) := by
  split
  · exact h1 ‹_›
  · exact h2 ‹_›
theorem bD_snoc (l : List UInt8) (b : Int) (h0 : 0 ≤ b) (h1 : b ≤ 255) : bD l ++ [.int b] = bD (l ++ [UInt8.ofNat b.toNat]) := by
  rw [bD_append]
  congr 1
  simp only [bD, List.map_cons, List.map_nil]
  rw [ofNat_toNat h0 h1]
end Go.Proofs.YtojdmhfkgkfpaaaDoor
