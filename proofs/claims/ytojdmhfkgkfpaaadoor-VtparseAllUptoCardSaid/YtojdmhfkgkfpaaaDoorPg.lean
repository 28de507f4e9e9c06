/- Layer 05, the program: its small functions in plain words. -/
import Derived.Test.YtojdmhfkgkfpaaaDoorPf1
import Derived.Test.YtojdmhfkgkfpaaaDoorMx
set_option linter.unusedVariables false
set_option linter.unusedSimpArgs false
set_option maxRecDepth 100000
namespace Go.Proofs.YtojdmhfkgkfpaaaDoor
open Go.AM Go.LTxt Go.LMem Go.RowKit
theorem f48_eq (p : PS) (d : DS) (b : Int) : f48 p d b = ({ p with out := p.out ++ [exec b] }, d) := by
  unfold f48
  rw [dapp_full]
  rfl
theorem f49_eq (p : PS) (d : DS) (k : Int) : f49 p d k = ({ p with out := p.out ++ [act k p.aRune p.aFinal p.aPrivate p.aParams p.aInter p.aText] }, d) := by
  unfold f49
  simp only [decide_eq_true_eq, dapp_full, List.take_length]
  have e : dapp [] 0 0 p.aParams = p.aParams := by simp [dapp]
  split
  · rename_i h
    have : p.aParams = [] := List.eq_nil_of_length_eq_zero h
    rw [this]
    rfl
  · simp only [e, List.take_length]
    rfl
theorem f29_eq (p : PS) (d : DS) (l : List Dat) : f29 p d l = ({ p with out := p.out ++ prD l }, d) := by
  unfold f29 f29_1
  simp
theorem f30_eq (d : DS) (h : d.made = true) : f30 d = ({ d with b := [] }, rD (toB d.b)) := by
  unfold f30 f45 f45_2
  simp [h]
theorem f69_eq (p : PS) (d : DS) (b : Int) : f69 p d b = ({ p with aInter := gat p.aInter b }, d) := by
  unfold f69 gat
  simp only [decide_eq_true_eq]
  split <;> rfl
theorem f68_eq (p : PS) (d : DS) (b : Int) : f68 p d b = ({ p with aText := putT p.aText b }, d) := by
  unfold f68 putT
  simp only [decide_eq_true_eq]
  split <;> rfl
theorem dcut_setP (ps : List Dat) (i : Nat) (d : Dat) : dcut (ps.set i d) 0 ps.length = ps.set i d := by
  unfold dcut
  rw [List.drop_zero, List.take_of_length_le (by simp)]
theorem wrap_u8P (b : Int) (h0 : 48 ≤ b) (h1 : b ≤ 255) : IntKind.wrap .u8 (b - 48) = b - 48 := by
  simp [IntKind.wrap, IntKind.signed, IntKind.bits]
  omega
def nxQ (m : Int) : Int := if m = 0 then 2 else m + 1
theorem f84_59 (p : PS) (d : DS) : f84 p d 59 = ({ p with aParams := nxP p.aParams p.many, many := nxQ p.many }, d) := by
  unfold f84 nxP nxQ
  simp only [decide_eq_true_eq, dapp_full, dcut_full, if_true]
  split
  · rfl
  · split <;> rfl
theorem f84_dg (p : PS) (d : DS) (b : Int) (h0 : 48 ≤ b) (h1 : b ≤ 255) (h2 : b ≠ 59) : f84 p d b = ({ p with aParams := dgP p.aParams p.many b, many := dgM p.many }, d) := by
  unfold f84 dgP dgM
  rw [wrap_u8P b h0 h1]
  simp only [decide_eq_true_eq, dcut_full, dcut_setP, Nat.zero_add, if_true, Bool.false_eq_true, if_false, if_neg h2]
  split
  · simp only [dg, capV]
  · split
    · rfl
    · rfl
theorem prD_one (b : Int) (h : b < 128) : prD [.int b] = [act 1 b 0 0 [] e0 e0] := by
  unfold prD
  simp [Dat.toInt, h, e0]
theorem pair_eta (q : PS × DS) : (q.1, q.2) = q := rfl
structure RelP (p : PS) (d : DS) (x : X) (o : List Dat) (M : Int) : Prop where
  mp : p.made = true
  md : d.made = true
  st : p.state = x.st
  b : d.b = bD x.held
  out : p.out = o
  ru : p.aRune = 0
  m0 : 0 ≤ p.many
  m1 : p.many ≤ M
  lv : x.st ≠ 0 → x.st ≠ 13 → p.aPrivate = x.priv ∧ p.aParams = x.params ∧ x.many = min p.many 17 ∧ p.aInter = x.inter ∧ p.aText = x.text ∧ p.aFinal = x.fin
def RelQ (r : PS × DS) (o : List Dat) (p : X × List Dat) (M : Int) : Prop := RelP r.1 r.2 p.1 (o ++ p.2) M
theorem RelQ.l {c : Prop} [Decidable c] {a b : PS × DS} {o : List Dat} {p : X × List Dat} {M : Int} (h1 : c → RelQ a o p M) (h2 : ¬ c → RelQ b o p M) : RelQ (if c then a else b) o p M := by
  split
  · exact h1 ‹_›
  · exact h2 ‹_›
theorem RelQ.r {c : Prop} [Decidable c] {a : PS × DS} {o : List Dat} {p q : X × List Dat} {M : Int} (h1 : c → RelQ a o p M) (h2 : ¬ c → RelQ a o q M) : RelQ a o (if c then p else q) M := by
  split
  · exact h1 ‹_›
  · exact h2 ‹_›
theorem bD_snocP (l : List UInt8) (b : Int) (h0 : 0 ≤ b) (h1 : b ≤ 255) : bD l ++ [.int b] = bD (l ++ [UInt8.ofNat b.toNat]) := by
  rw [bD_append]
  congr 1
  simp only [bD, List.map_cons, List.map_nil]
  rw [ofNat_toNat h0 h1]
theorem nxP_cap (ps : List Dat) (m : Int) : nxP ps (min m 17) = nxP ps m := by
  unfold nxP
  have e1 : (min m 17 = 0) = (m = 0) := propext ⟨by omega, by omega⟩
  have e2 : (min m 17 + 1 ≤ 16) = (m + 1 ≤ 16) := propext ⟨by omega, by omega⟩
  simp only [e1, e2]
theorem dgP_cap (ps : List Dat) (m b : Int) : dgP ps (min m 17) b = dgP ps m b := by
  unfold dgP
  have e1 : (min m 17 = 0) = (m = 0) := propext ⟨by omega, by omega⟩
  have e2 : (min m 17 ≤ 16) = (m ≤ 16) := propext ⟨by omega, by omega⟩
  simp only [e1, e2]
  split
  · rfl
  · split
    · rename_i h
      rw [show min m 17 = m by omega]
    · rfl
theorem nxM_cap (m : Int) (h : 0 ≤ m) : nxM (min m 17) = min (nxQ m) 17 := by
  unfold nxM nxQ
  by_cases h0 : m = 0
  · subst h0; rfl
  · rw [if_neg (by omega), if_neg h0]
    split <;> omega
theorem dgM_cap (m : Int) (h : 0 ≤ m) : dgM (min m 17) = min (dgM m) 17 := by
  unfold dgM
  by_cases h0 : m = 0
  · subst h0; rfl
  · rw [if_neg (by omega), if_neg h0]
theorem nxQ_b (m : Int) (h : 0 ≤ m) : 0 ≤ nxQ m ∧ nxQ m ≤ m + 2 := by
  unfold nxQ
  split <;> omega
theorem dgM_b (m : Int) (h : 0 ≤ m) : 0 ≤ dgM m ∧ dgM m ≤ m + 2 := by
  unfold dgM
  split <;> omega
end Go.Proofs.YtojdmhfkgkfpaaaDoor
