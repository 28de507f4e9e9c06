/- Layer 05: what holds of all actions. -/
import Derived.Test.YtojdmhfkgkfpaaaDoorPf1
import Derived.Test.YtojdmhfkgkfpaaaDoorMx
import Derived.Test.YtojdmhfkgkfpaaaDoorMi
import Derived.Test.YtojdmhfkgkfpaaaDoorRs2
set_option linter.unusedVariables false
set_option linter.unusedSimpArgs false
set_option maxRecDepth 100000
namespace Go.Proofs.YtojdmhfkgkfpaaaDoor
open Go.AM Go.LTxt Go.LMem Go.RowKit
theorem f48_eq (p : PS) (d : DS) (b : Int) : f48 p d b = ({ p with out := p.out ++ [exec b] }, d) := by
  unfold f48
  rw [dapp_full]
  rfl
theorem f49_eq (p : PS) (d : DS) (k : Int) : f49 p d k = ({ p with out := p.out ++ [act k p.aRune p.aFinal p.aPrivate p.aParams p.aInter p.aText] }, d) := by
  unfold f49
  simp only [decide_eq_true_eq, dapp_full, List.take_length]
  have e : dapp [] 0 0 p.aParams = p.aParams := by simp [dapp]
  split
  · rename_i h
    have : p.aParams = [] := List.eq_nil_of_length_eq_zero h
    rw [this]
    rfl
  · simp only [e, List.take_length]
    rfl
theorem f29_eq (p : PS) (d : DS) (l : List Dat) : f29 p d l = ({ p with out := p.out ++ prD l }, d) := by
  unfold f29 f29_1
  simp
theorem f30_eq (d : DS) (h : d.made = true) : f30 d = ({ d with b := [] }, rD (toB d.b)) := by
  unfold f30 f45 f45_2
  simp [h]
theorem f69_eq (p : PS) (d : DS) (b : Int) : f69 p d b = ({ p with aInter := gat p.aInter b }, d) := by
  unfold f69 gat
  simp only [decide_eq_true_eq]
  split <;> rfl
theorem f68_eq (p : PS) (d : DS) (b : Int) : f68 p d b = ({ p with aText := putT p.aText b }, d) := by
  unfold f68 putT
  simp only [decide_eq_true_eq]
  split <;> rfl
theorem dcut_setP (ps : List Dat) (i : Nat) (d : Dat) : dcut (ps.set i d) 0 ps.length = ps.set i d := by
  unfold dcut
  rw [List.drop_zero, List.take_of_length_le (by simp)]
theorem wrap_u8P (b : Int) (h0 : 48 ≤ b) (h1 : b ≤ 255) : IntKind.wrap .u8 (b - 48) = b - 48 := by
  simp [IntKind.wrap, IntKind.signed, IntKind.bits]
  omega
def nxQ (m : Int) : Int := if m = 0 then 2 else m + 1
theorem f84_59 (p : PS) (d : DS) : f84 p d 59 = ({ p with aParams := nxP p.aParams p.many, many := nxQ p.many }, d) := by
  unfold f84 nxP nxQ
  simp only [decide_eq_true_eq, dapp_full, dcut_full, if_true]
  split
  · rfl
  · split <;> rfl
theorem f84_dg (p : PS) (d : DS) (b : Int) (h0 : 48 ≤ b) (h1 : b ≤ 255) (h2 : b ≠ 59) : f84 p d b = ({ p with aParams := dgP p.aParams p.many b, many := dgM p.many }, d) := by
  unfold f84 dgP dgM
  rw [wrap_u8P b h0 h1]
  simp only [decide_eq_true_eq, dcut_full, dcut_setP, Nat.zero_add, if_true, Bool.false_eq_true, if_false, if_neg h2]
  split
  · simp only [dg, capV]
  · split
    · rfl
    · rfl
theorem prD_one (b : Int) (h : b < 128) : prD [.int b] = [act 1 b 0 0 [] e0 e0] := by
  unfold prD
  simp [Dat.toInt, h, e0]
theorem pair_eta (q : PS × DS) : (q.1, q.2) = q := rfl
structure RelP (p : PS) (d : DS) (x : X) (o : List Dat) (M : Int) : Prop where
  mp : p.made = true
  md : d.made = true
  st : p.state = x.st
  b : d.b = bD x.held
  out : p.out = o
  ru : p.aRune = 0
  m0 : 0 ≤ p.many
  m1 : p.many ≤ M
  lv : x.st ≠ 0 → x.st ≠ 13 → p.aPrivate = x.priv ∧ p.aParams = x.params ∧ x.many = min p.many 17 ∧ p.aInter = x.inter ∧ p.aText = x.text ∧ p.aFinal = x.fin
def RelQ (r : PS × DS) (o : List Dat) (p : X × List Dat) (M : Int) : Prop := RelP r.1 r.2 p.1 (o ++ p.2) M
theorem RelQ.l {c : Prop} [Decidable c] {a b : PS × DS} {o : List Dat} {p : X × List Dat} {M : Int} (h1 : c → RelQ a o p M) (h2 : ¬ c → RelQ b o p M) : RelQ (if c then a else b) o p M := by
  split
  · exact h1 ‹_›
  · exact h2 ‹_›
theorem RelQ.r {c : Prop} [Decidable c] {a : PS × DS} {o : List Dat} {p q : X × List Dat} {M : Int} (h1 : c → RelQ a o p M) (h2 : ¬ c → RelQ a o q M) : RelQ a o (if c then p else q) M := by
  split
  · exact h1 ‹_›
  · exact h2 ‹_›
theorem bD_snocP (l : List UInt8) (b : Int) (h0 : 0 ≤ b) (h1 : b ≤ 255) : bD l ++ [.int b] = bD (l ++ [UInt8.ofNat b.toNat]) := by
  rw [bD_append]
  congr 1
  simp only [bD, List.map_cons, List.map_nil]
  rw [ofNat_toNat h0 h1]
theorem nxP_cap (ps : List Dat) (m : Int) : nxP ps (min m 17) = nxP ps m := by
  unfold nxP
  have e1 : (min m 17 = 0) = (m = 0) := propext ⟨by omega, by omega⟩
  have e2 : (min m 17 + 1 ≤ 16) = (m + 1 ≤ 16) := propext ⟨by omega, by omega⟩
  simp only [e1, e2]
theorem dgP_cap (ps : List Dat) (m b : Int) : dgP ps (min m 17) b = dgP ps m b := by
  unfold dgP
  have e1 : (min m 17 = 0) = (m = 0) := propext ⟨by omega, by omega⟩
  have e2 : (min m 17 ≤ 16) = (m ≤ 16) := propext ⟨by omega, by omega⟩
  simp only [e1, e2]
  split
  · rfl
  · split
    · rename_i h
      rw [show min m 17 = m by omega]
    · rfl
theorem nxM_cap (m : Int) (h : 0 ≤ m) : nxM (min m 17) = min (nxQ m) 17 := by
  unfold nxM nxQ
  by_cases h0 : m = 0
  · subst h0; rfl
  · rw [if_neg (by omega), if_neg h0]
    split <;> omega
theorem dgM_cap (m : Int) (h : 0 ≤ m) : dgM (min m 17) = min (dgM m) 17 := by
  unfold dgM
  by_cases h0 : m = 0
  · subst h0; rfl
  · rw [if_neg (by omega), if_neg h0]
theorem nxQ_b (m : Int) (h : 0 ≤ m) : 0 ≤ nxQ m ∧ nxQ m ≤ m + 2 := by
  unfold nxQ
  split <;> omega
theorem dgM_b (m : Int) (h : 0 ≤ m) : 0 ≤ dgM m ∧ dgM m ≤ m + 2 := by
  unfold dgM
  split <;> omega
end Go.Proofs.YtojdmhfkgkfpaaaDoor

set_option linter.unusedVariables false
set_option linter.unusedSimpArgs false
set_option maxRecDepth 100000
namespace Go.Proofs.YtojdmhfkgkfpaaaDoor
open Go.AM Go.LTxt Go.LMem Go.RowKit
set_option maxHeartbeats 0
theorem P_step0 {p : PS} {d : DS} {x : X} {o : List Dat} {M : Int} (hR : RelP p d x o M) (hI : Inv x) (b : Int) (h0 : 0 ≤ b) (h1 : b ≤ 255) (hs : x.st = 0) : RelQ (f35 p d b) o (step x b) (M + 2) := by
  obtain ⟨a1, a2, g1, g2, g3, a3, a4, a5, g4⟩ := hR
  obtain ⟨made, state, aKind, aRune, aFinal, aPrivate, aParams, aInter, aText, many, out⟩ := p
  obtain ⟨dmade, db⟩ := d
  obtain ⟨st, held, xpriv, xparams, xmany, xinter, xtext, xfin⟩ := x
  obtain ⟨i0, i1, i2, i3, i4, i5, i6, i7, i8, i9, i10, i11, i13⟩ := hI
  simp only at a1 a2 a3 a4 a5 g1 g2 g3 g4 hs i2 i3 i4 i6 i7 i8 i9 i13
  subst hs
  skip
  simp only [ne_eq, Int.reduceEq, not_false_eq_true, forall_const, not_true_eq_false, false_implies, implies_true, or_true, true_or, or_false, false_or, or_self] at g4 i6 i7 i8 i9
  skip
  subst a1 a2 a3 g1 g2 g3 
  skip
  clear i0 i1 i5 i6 i7 i8 i9 i10 i11 i13
  unfold f35 step
  simp only [decide_eq_true_eq, decide_false, decide_true, Bool.not_false, Bool.not_true, Bool.false_eq_true, Bool.not_eq_true', decide_eq_false_iff_not, Int.reduceEq, Int.reduceLE, Int.reduceLT, if_true, if_false, f29_eq, f30_eq, f48_eq, f49_eq, f50, f51, f52, f53, f67, f68_eq, f69_eq, f70, f71, pair_eta, Bool.and_eq_true, Int.reduceSub, Int.reduceAdd, Bool.or_eq_true, dcut_full, List.take_length, toB_bD, bD_snocP _ b h0 h1]
  repeat' (first | refine RelQ.l ?_ ?_ | refine RelQ.r ?_ ?_ | (intro hc; first | (exfalso; omega) | skip))
  all_goals first
    | (subst b; rw [f84_59]; refine ⟨?_, ?_, ?_, ?_, ?_, ?_, ?_, ?_, fun ha hb => ?_⟩ <;> (first | rfl | exact absurd rfl ha | exact absurd rfl hb | exact (nxQ_b _ a4).1 | (have := (nxQ_b _ a4).2; simp only; omega) | simp [X0, exec, e0, bD, act, nxP_cap, nxM_cap _ a4]))
    | (rw [f84_dg _ _ _ (by omega) (by omega) (by omega)]; refine ⟨?_, ?_, ?_, ?_, ?_, ?_, ?_, ?_, fun ha hb => ?_⟩ <;> (first | rfl | exact absurd rfl ha | exact absurd rfl hb | exact (dgM_b _ a4).1 | (have := (dgM_b _ a4).2; simp only; omega) | simp [X0, exec, e0, bD, act, dgP_cap, dgM_cap _ a4]))
    | (refine ⟨?_, ?_, ?_, ?_, ?_, ?_, ?_, ?_, fun ha hb => ?_⟩ <;> (first | rfl | exact absurd rfl ha | exact absurd rfl hb | (simp only; omega) | (simp [X0, exec, e0, bD, act, rD]; done) | (simp [X0, exec, e0, bD, act, rD]; omega)))
    | (have hp := prD_one b (by omega); refine ⟨?_, ?_, ?_, ?_, ?_, ?_, ?_, ?_, fun ha hb => ?_⟩ <;> (first | rfl | exact absurd rfl ha | exact absurd rfl hb | (simp only; omega) | (simp [X0, exec, e0, bD, act, rD, hp]; done) | (rw [hp]; simp [X0, exec, e0, bD, act, rD])))
theorem P_step1 {p : PS} {d : DS} {x : X} {o : List Dat} {M : Int} (hR : RelP p d x o M) (hI : Inv x) (b : Int) (h0 : 0 ≤ b) (h1 : b ≤ 255) (hs : x.st = 1) : RelQ (f35 p d b) o (step x b) (M + 2) := by
  obtain ⟨a1, a2, g1, g2, g3, a3, a4, a5, g4⟩ := hR
  obtain ⟨made, state, aKind, aRune, aFinal, aPrivate, aParams, aInter, aText, many, out⟩ := p
  obtain ⟨dmade, db⟩ := d
  obtain ⟨st, held, xpriv, xparams, xmany, xinter, xtext, xfin⟩ := x
  obtain ⟨i0, i1, i2, i3, i4, i5, i6, i7, i8, i9, i10, i11, i13⟩ := hI
  simp only at a1 a2 a3 a4 a5 g1 g2 g3 g4 hs i2 i3 i4 i6 i7 i8 i9 i13
  subst hs
  have hh : held = [] := i13 (by simp)
  subst hh
  simp only [ne_eq, Int.reduceEq, not_false_eq_true, forall_const, not_true_eq_false, false_implies, implies_true, or_true, true_or, or_false, false_or, or_self] at g4 i6 i7 i8 i9
  obtain ⟨k1, k2, k3, k4, k5, k6⟩ := g4
  subst a1 a2 a3 g1 g2 g3 k1 k2 k3 k4 k5 k6
  obtain ⟨rfl, rfl, z⟩ := i6
  subst i7
  subst i8
  subst i9
  clear i0 i1 i5  i10 i11 i13
  unfold f35 step
  simp only [decide_eq_true_eq, decide_false, decide_true, Bool.not_false, Bool.not_true, Bool.false_eq_true, Bool.not_eq_true', decide_eq_false_iff_not, Int.reduceEq, Int.reduceLE, Int.reduceLT, if_true, if_false, f29_eq, f30_eq, f48_eq, f49_eq, f50, f51, f52, f53, f67, f68_eq, f69_eq, f70, f71, pair_eta, Bool.and_eq_true, Int.reduceSub, Int.reduceAdd, Bool.or_eq_true, dcut_full, List.take_length, toB_bD, bD_snocP _ b h0 h1]
  repeat' (first | refine RelQ.l ?_ ?_ | refine RelQ.r ?_ ?_ | (intro hc; first | (exfalso; omega) | skip))
  all_goals first
    | (subst b; rw [f84_59]; refine ⟨?_, ?_, ?_, ?_, ?_, ?_, ?_, ?_, fun ha hb => ?_⟩ <;> (first | rfl | exact absurd rfl ha | exact absurd rfl hb | exact (nxQ_b _ a4).1 | (have := (nxQ_b _ a4).2; simp only; omega) | simp [X0, exec, e0, bD, act, nxP_cap, nxM_cap _ a4]))
    | (rw [f84_dg _ _ _ (by omega) (by omega) (by omega)]; refine ⟨?_, ?_, ?_, ?_, ?_, ?_, ?_, ?_, fun ha hb => ?_⟩ <;> (first | rfl | exact absurd rfl ha | exact absurd rfl hb | exact (dgM_b _ a4).1 | (have := (dgM_b _ a4).2; simp only; omega) | simp [X0, exec, e0, bD, act, dgP_cap, dgM_cap _ a4]))
    | (refine ⟨?_, ?_, ?_, ?_, ?_, ?_, ?_, ?_, fun ha hb => ?_⟩ <;> (first | rfl | exact absurd rfl ha | exact absurd rfl hb | (simp only; omega) | (simp [X0, exec, e0, bD, act, rD]; done) | (simp [X0, exec, e0, bD, act, rD]; omega)))
theorem P_step2 {p : PS} {d : DS} {x : X} {o : List Dat} {M : Int} (hR : RelP p d x o M) (hI : Inv x) (b : Int) (h0 : 0 ≤ b) (h1 : b ≤ 255) (hs : x.st = 2) : RelQ (f35 p d b) o (step x b) (M + 2) := by
  obtain ⟨a1, a2, g1, g2, g3, a3, a4, a5, g4⟩ := hR
  obtain ⟨made, state, aKind, aRune, aFinal, aPrivate, aParams, aInter, aText, many, out⟩ := p
  obtain ⟨dmade, db⟩ := d
  obtain ⟨st, held, xpriv, xparams, xmany, xinter, xtext, xfin⟩ := x
  obtain ⟨i0, i1, i2, i3, i4, i5, i6, i7, i8, i9, i10, i11, i13⟩ := hI
  simp only at a1 a2 a3 a4 a5 g1 g2 g3 g4 hs i2 i3 i4 i6 i7 i8 i9 i13
  subst hs
  have hh : held = [] := i13 (by simp)
  subst hh
  simp only [ne_eq, Int.reduceEq, not_false_eq_true, forall_const, not_true_eq_false, false_implies, implies_true, or_true, true_or, or_false, false_or, or_self] at g4 i6 i7 i8 i9
  obtain ⟨k1, k2, k3, k4, k5, k6⟩ := g4
  subst a1 a2 a3 g1 g2 g3 k1 k2 k3 k4 k5 k6
  obtain ⟨rfl, rfl, z⟩ := i6
  subst i8
  subst i9
  clear i0 i1 i5 i7 i10 i11 i13
  unfold f35 step
  simp only [decide_eq_true_eq, decide_false, decide_true, Bool.not_false, Bool.not_true, Bool.false_eq_true, Bool.not_eq_true', decide_eq_false_iff_not, Int.reduceEq, Int.reduceLE, Int.reduceLT, if_true, if_false, f29_eq, f30_eq, f48_eq, f49_eq, f50, f51, f52, f53, f67, f68_eq, f69_eq, f70, f71, pair_eta, Bool.and_eq_true, Int.reduceSub, Int.reduceAdd, Bool.or_eq_true, dcut_full, List.take_length, toB_bD, bD_snocP _ b h0 h1]
  repeat' (first | refine RelQ.l ?_ ?_ | refine RelQ.r ?_ ?_ | (intro hc; first | (exfalso; omega) | skip))
  all_goals first
    | (subst b; rw [f84_59]; refine ⟨?_, ?_, ?_, ?_, ?_, ?_, ?_, ?_, fun ha hb => ?_⟩ <;> (first | rfl | exact absurd rfl ha | exact absurd rfl hb | exact (nxQ_b _ a4).1 | (have := (nxQ_b _ a4).2; simp only; omega) | simp [X0, exec, e0, bD, act, nxP_cap, nxM_cap _ a4]))
    | (rw [f84_dg _ _ _ (by omega) (by omega) (by omega)]; refine ⟨?_, ?_, ?_, ?_, ?_, ?_, ?_, ?_, fun ha hb => ?_⟩ <;> (first | rfl | exact absurd rfl ha | exact absurd rfl hb | exact (dgM_b _ a4).1 | (have := (dgM_b _ a4).2; simp only; omega) | simp [X0, exec, e0, bD, act, dgP_cap, dgM_cap _ a4]))
    | (refine ⟨?_, ?_, ?_, ?_, ?_, ?_, ?_, ?_, fun ha hb => ?_⟩ <;> (first | rfl | exact absurd rfl ha | exact absurd rfl hb | (simp only; omega) | (simp [X0, exec, e0, bD, act, rD]; done) | (simp [X0, exec, e0, bD, act, rD]; omega)))
theorem P_step3 {p : PS} {d : DS} {x : X} {o : List Dat} {M : Int} (hR : RelP p d x o M) (hI : Inv x) (b : Int) (h0 : 0 ≤ b) (h1 : b ≤ 255) (hs : x.st = 3) : RelQ (f35 p d b) o (step x b) (M + 2) := by
  obtain ⟨a1, a2, g1, g2, g3, a3, a4, a5, g4⟩ := hR
  obtain ⟨made, state, aKind, aRune, aFinal, aPrivate, aParams, aInter, aText, many, out⟩ := p
  obtain ⟨dmade, db⟩ := d
  obtain ⟨st, held, xpriv, xparams, xmany, xinter, xtext, xfin⟩ := x
  obtain ⟨i0, i1, i2, i3, i4, i5, i6, i7, i8, i9, i10, i11, i13⟩ := hI
  simp only at a1 a2 a3 a4 a5 g1 g2 g3 g4 hs i2 i3 i4 i6 i7 i8 i9 i13
  subst hs
  have hh : held = [] := i13 (by simp)
  subst hh
  simp only [ne_eq, Int.reduceEq, not_false_eq_true, forall_const, not_true_eq_false, false_implies, implies_true, or_true, true_or, or_false, false_or, or_self] at g4 i6 i7 i8 i9
  obtain ⟨k1, k2, k3, k4, k5, k6⟩ := g4
  subst a1 a2 a3 g1 g2 g3 k1 k2 k3 k4 k5 k6
  subst i8
  subst i9
  clear i0 i1 i5 i6 i7 i10 i11 i13
  unfold f35 step
  simp only [decide_eq_true_eq, decide_false, decide_true, Bool.not_false, Bool.not_true, Bool.false_eq_true, Bool.not_eq_true', decide_eq_false_iff_not, Int.reduceEq, Int.reduceLE, Int.reduceLT, if_true, if_false, f29_eq, f30_eq, f48_eq, f49_eq, f50, f51, f52, f53, f67, f68_eq, f69_eq, f70, f71, pair_eta, Bool.and_eq_true, Int.reduceSub, Int.reduceAdd, Bool.or_eq_true, dcut_full, List.take_length, toB_bD, bD_snocP _ b h0 h1]
  repeat' (first | refine RelQ.l ?_ ?_ | refine RelQ.r ?_ ?_ | (intro hc; first | (exfalso; omega) | skip))
  all_goals first
    | (subst b; rw [f84_59]; refine ⟨?_, ?_, ?_, ?_, ?_, ?_, ?_, ?_, fun ha hb => ?_⟩ <;> (first | rfl | exact absurd rfl ha | exact absurd rfl hb | exact (nxQ_b _ a4).1 | (have := (nxQ_b _ a4).2; simp only; omega) | simp [X0, exec, e0, bD, act, nxP_cap, nxM_cap _ a4]))
    | (rw [f84_dg _ _ _ (by omega) (by omega) (by omega)]; refine ⟨?_, ?_, ?_, ?_, ?_, ?_, ?_, ?_, fun ha hb => ?_⟩ <;> (first | rfl | exact absurd rfl ha | exact absurd rfl hb | exact (dgM_b _ a4).1 | (have := (dgM_b _ a4).2; simp only; omega) | simp [X0, exec, e0, bD, act, dgP_cap, dgM_cap _ a4]))
    | (refine ⟨?_, ?_, ?_, ?_, ?_, ?_, ?_, ?_, fun ha hb => ?_⟩ <;> (first | rfl | exact absurd rfl ha | exact absurd rfl hb | (simp only; omega) | (simp [X0, exec, e0, bD, act, rD]; done) | (simp [X0, exec, e0, bD, act, rD]; omega)))
theorem P_step4 {p : PS} {d : DS} {x : X} {o : List Dat} {M : Int} (hR : RelP p d x o M) (hI : Inv x) (b : Int) (h0 : 0 ≤ b) (h1 : b ≤ 255) (hs : x.st = 4) : RelQ (f35 p d b) o (step x b) (M + 2) := by
  obtain ⟨a1, a2, g1, g2, g3, a3, a4, a5, g4⟩ := hR
  obtain ⟨made, state, aKind, aRune, aFinal, aPrivate, aParams, aInter, aText, many, out⟩ := p
  obtain ⟨dmade, db⟩ := d
  obtain ⟨st, held, xpriv, xparams, xmany, xinter, xtext, xfin⟩ := x
  obtain ⟨i0, i1, i2, i3, i4, i5, i6, i7, i8, i9, i10, i11, i13⟩ := hI
  simp only at a1 a2 a3 a4 a5 g1 g2 g3 g4 hs i2 i3 i4 i6 i7 i8 i9 i13
  subst hs
  have hh : held = [] := i13 (by simp)
  subst hh
  simp only [ne_eq, Int.reduceEq, not_false_eq_true, forall_const, not_true_eq_false, false_implies, implies_true, or_true, true_or, or_false, false_or, or_self] at g4 i6 i7 i8 i9
  obtain ⟨k1, k2, k3, k4, k5, k6⟩ := g4
  subst a1 a2 a3 g1 g2 g3 k1 k2 k3 k4 k5 k6
  subst i8
  subst i9
  clear i0 i1 i5 i6 i7 i10 i11 i13
  unfold f35 step
  simp only [decide_eq_true_eq, decide_false, decide_true, Bool.not_false, Bool.not_true, Bool.false_eq_true, Bool.not_eq_true', decide_eq_false_iff_not, Int.reduceEq, Int.reduceLE, Int.reduceLT, if_true, if_false, f29_eq, f30_eq, f48_eq, f49_eq, f50, f51, f52, f53, f67, f68_eq, f69_eq, f70, f71, pair_eta, Bool.and_eq_true, Int.reduceSub, Int.reduceAdd, Bool.or_eq_true, dcut_full, List.take_length, toB_bD, bD_snocP _ b h0 h1]
  repeat' (first | refine RelQ.l ?_ ?_ | refine RelQ.r ?_ ?_ | (intro hc; first | (exfalso; omega) | skip))
  all_goals first
    | (subst b; rw [f84_59]; refine ⟨?_, ?_, ?_, ?_, ?_, ?_, ?_, ?_, fun ha hb => ?_⟩ <;> (first | rfl | exact absurd rfl ha | exact absurd rfl hb | exact (nxQ_b _ a4).1 | (have := (nxQ_b _ a4).2; simp only; omega) | simp [X0, exec, e0, bD, act, nxP_cap, nxM_cap _ a4]))
    | (rw [f84_dg _ _ _ (by omega) (by omega) (by omega)]; refine ⟨?_, ?_, ?_, ?_, ?_, ?_, ?_, ?_, fun ha hb => ?_⟩ <;> (first | rfl | exact absurd rfl ha | exact absurd rfl hb | exact (dgM_b _ a4).1 | (have := (dgM_b _ a4).2; simp only; omega) | simp [X0, exec, e0, bD, act, dgP_cap, dgM_cap _ a4]))
    | (refine ⟨?_, ?_, ?_, ?_, ?_, ?_, ?_, ?_, fun ha hb => ?_⟩ <;> (first | rfl | exact absurd rfl ha | exact absurd rfl hb | (simp only; omega) | (simp [X0, exec, e0, bD, act, rD]; done) | (simp [X0, exec, e0, bD, act, rD]; omega)))
theorem P_step5 {p : PS} {d : DS} {x : X} {o : List Dat} {M : Int} (hR : RelP p d x o M) (hI : Inv x) (b : Int) (h0 : 0 ≤ b) (h1 : b ≤ 255) (hs : x.st = 5) : RelQ (f35 p d b) o (step x b) (M + 2) := by
  obtain ⟨a1, a2, g1, g2, g3, a3, a4, a5, g4⟩ := hR
  obtain ⟨made, state, aKind, aRune, aFinal, aPrivate, aParams, aInter, aText, many, out⟩ := p
  obtain ⟨dmade, db⟩ := d
  obtain ⟨st, held, xpriv, xparams, xmany, xinter, xtext, xfin⟩ := x
  obtain ⟨i0, i1, i2, i3, i4, i5, i6, i7, i8, i9, i10, i11, i13⟩ := hI
  simp only at a1 a2 a3 a4 a5 g1 g2 g3 g4 hs i2 i3 i4 i6 i7 i8 i9 i13
  subst hs
  have hh : held = [] := i13 (by simp)
  subst hh
  simp only [ne_eq, Int.reduceEq, not_false_eq_true, forall_const, not_true_eq_false, false_implies, implies_true, or_true, true_or, or_false, false_or, or_self] at g4 i6 i7 i8 i9
  obtain ⟨k1, k2, k3, k4, k5, k6⟩ := g4
  subst a1 a2 a3 g1 g2 g3 k1 k2 k3 k4 k5 k6
  subst i8
  subst i9
  clear i0 i1 i5 i6 i7 i10 i11 i13
  unfold f35 step
  simp only [decide_eq_true_eq, decide_false, decide_true, Bool.not_false, Bool.not_true, Bool.false_eq_true, Bool.not_eq_true', decide_eq_false_iff_not, Int.reduceEq, Int.reduceLE, Int.reduceLT, if_true, if_false, f29_eq, f30_eq, f48_eq, f49_eq, f50, f51, f52, f53, f67, f68_eq, f69_eq, f70, f71, pair_eta, Bool.and_eq_true, Int.reduceSub, Int.reduceAdd, Bool.or_eq_true, dcut_full, List.take_length, toB_bD, bD_snocP _ b h0 h1]
  repeat' (first | refine RelQ.l ?_ ?_ | refine RelQ.r ?_ ?_ | (intro hc; first | (exfalso; omega) | skip))
  all_goals first
    | (subst b; rw [f84_59]; refine ⟨?_, ?_, ?_, ?_, ?_, ?_, ?_, ?_, fun ha hb => ?_⟩ <;> (first | rfl | exact absurd rfl ha | exact absurd rfl hb | exact (nxQ_b _ a4).1 | (have := (nxQ_b _ a4).2; simp only; omega) | simp [X0, exec, e0, bD, act, nxP_cap, nxM_cap _ a4]))
    | (rw [f84_dg _ _ _ (by omega) (by omega) (by omega)]; refine ⟨?_, ?_, ?_, ?_, ?_, ?_, ?_, ?_, fun ha hb => ?_⟩ <;> (first | rfl | exact absurd rfl ha | exact absurd rfl hb | exact (dgM_b _ a4).1 | (have := (dgM_b _ a4).2; simp only; omega) | simp [X0, exec, e0, bD, act, dgP_cap, dgM_cap _ a4]))
    | (refine ⟨?_, ?_, ?_, ?_, ?_, ?_, ?_, ?_, fun ha hb => ?_⟩ <;> (first | rfl | exact absurd rfl ha | exact absurd rfl hb | (simp only; omega) | (simp [X0, exec, e0, bD, act, rD]; done) | (simp [X0, exec, e0, bD, act, rD]; omega)))
theorem P_step6 {p : PS} {d : DS} {x : X} {o : List Dat} {M : Int} (hR : RelP p d x o M) (hI : Inv x) (b : Int) (h0 : 0 ≤ b) (h1 : b ≤ 255) (hs : x.st = 6) : RelQ (f35 p d b) o (step x b) (M + 2) := by
  obtain ⟨a1, a2, g1, g2, g3, a3, a4, a5, g4⟩ := hR
  obtain ⟨made, state, aKind, aRune, aFinal, aPrivate, aParams, aInter, aText, many, out⟩ := p
  obtain ⟨dmade, db⟩ := d
  obtain ⟨st, held, xpriv, xparams, xmany, xinter, xtext, xfin⟩ := x
  obtain ⟨i0, i1, i2, i3, i4, i5, i6, i7, i8, i9, i10, i11, i13⟩ := hI
  simp only at a1 a2 a3 a4 a5 g1 g2 g3 g4 hs i2 i3 i4 i6 i7 i8 i9 i13
  subst hs
  have hh : held = [] := i13 (by simp)
  subst hh
  simp only [ne_eq, Int.reduceEq, not_false_eq_true, forall_const, not_true_eq_false, false_implies, implies_true, or_true, true_or, or_false, false_or, or_self] at g4 i6 i7 i8 i9
  obtain ⟨k1, k2, k3, k4, k5, k6⟩ := g4
  subst a1 a2 a3 g1 g2 g3 k1 k2 k3 k4 k5 k6
  subst i8
  subst i9
  clear i0 i1 i5 i6 i7 i10 i11 i13
  unfold f35 step
  simp only [decide_eq_true_eq, decide_false, decide_true, Bool.not_false, Bool.not_true, Bool.false_eq_true, Bool.not_eq_true', decide_eq_false_iff_not, Int.reduceEq, Int.reduceLE, Int.reduceLT, if_true, if_false, f29_eq, f30_eq, f48_eq, f49_eq, f50, f51, f52, f53, f67, f68_eq, f69_eq, f70, f71, pair_eta, Bool.and_eq_true, Int.reduceSub, Int.reduceAdd, Bool.or_eq_true, dcut_full, List.take_length, toB_bD, bD_snocP _ b h0 h1]
  repeat' (first | refine RelQ.l ?_ ?_ | refine RelQ.r ?_ ?_ | (intro hc; first | (exfalso; omega) | skip))
  all_goals first
    | (subst b; rw [f84_59]; refine ⟨?_, ?_, ?_, ?_, ?_, ?_, ?_, ?_, fun ha hb => ?_⟩ <;> (first | rfl | exact absurd rfl ha | exact absurd rfl hb | exact (nxQ_b _ a4).1 | (have := (nxQ_b _ a4).2; simp only; omega) | simp [X0, exec, e0, bD, act, nxP_cap, nxM_cap _ a4]))
    | (rw [f84_dg _ _ _ (by omega) (by omega) (by omega)]; refine ⟨?_, ?_, ?_, ?_, ?_, ?_, ?_, ?_, fun ha hb => ?_⟩ <;> (first | rfl | exact absurd rfl ha | exact absurd rfl hb | exact (dgM_b _ a4).1 | (have := (dgM_b _ a4).2; simp only; omega) | simp [X0, exec, e0, bD, act, dgP_cap, dgM_cap _ a4]))
    | (refine ⟨?_, ?_, ?_, ?_, ?_, ?_, ?_, ?_, fun ha hb => ?_⟩ <;> (first | rfl | exact absurd rfl ha | exact absurd rfl hb | (simp only; omega) | (simp [X0, exec, e0, bD, act, rD]; done) | (simp [X0, exec, e0, bD, act, rD]; omega)))
theorem P_step7 {p : PS} {d : DS} {x : X} {o : List Dat} {M : Int} (hR : RelP p d x o M) (hI : Inv x) (b : Int) (h0 : 0 ≤ b) (h1 : b ≤ 255) (hs : x.st = 7) : RelQ (f35 p d b) o (step x b) (M + 2) := by
  obtain ⟨a1, a2, g1, g2, g3, a3, a4, a5, g4⟩ := hR
  obtain ⟨made, state, aKind, aRune, aFinal, aPrivate, aParams, aInter, aText, many, out⟩ := p
  obtain ⟨dmade, db⟩ := d
  obtain ⟨st, held, xpriv, xparams, xmany, xinter, xtext, xfin⟩ := x
  obtain ⟨i0, i1, i2, i3, i4, i5, i6, i7, i8, i9, i10, i11, i13⟩ := hI
  simp only at a1 a2 a3 a4 a5 g1 g2 g3 g4 hs i2 i3 i4 i6 i7 i8 i9 i13
  subst hs
  have hh : held = [] := i13 (by simp)
  subst hh
  simp only [ne_eq, Int.reduceEq, not_false_eq_true, forall_const, not_true_eq_false, false_implies, implies_true, or_true, true_or, or_false, false_or, or_self] at g4 i6 i7 i8 i9
  obtain ⟨k1, k2, k3, k4, k5, k6⟩ := g4
  subst a1 a2 a3 g1 g2 g3 k1 k2 k3 k4 k5 k6
  subst i8
  subst i9
  clear i0 i1 i5 i6 i7 i10 i11 i13
  unfold f35 step
  simp only [decide_eq_true_eq, decide_false, decide_true, Bool.not_false, Bool.not_true, Bool.false_eq_true, Bool.not_eq_true', decide_eq_false_iff_not, Int.reduceEq, Int.reduceLE, Int.reduceLT, if_true, if_false, f29_eq, f30_eq, f48_eq, f49_eq, f50, f51, f52, f53, f67, f68_eq, f69_eq, f70, f71, pair_eta, Bool.and_eq_true, Int.reduceSub, Int.reduceAdd, Bool.or_eq_true, dcut_full, List.take_length, toB_bD, bD_snocP _ b h0 h1]
  repeat' (first | refine RelQ.l ?_ ?_ | refine RelQ.r ?_ ?_ | (intro hc; first | (exfalso; omega) | skip))
  all_goals first
    | (subst b; rw [f84_59]; refine ⟨?_, ?_, ?_, ?_, ?_, ?_, ?_, ?_, fun ha hb => ?_⟩ <;> (first | rfl | exact absurd rfl ha | exact absurd rfl hb | exact (nxQ_b _ a4).1 | (have := (nxQ_b _ a4).2; simp only; omega) | simp [X0, exec, e0, bD, act, nxP_cap, nxM_cap _ a4]))
    | (rw [f84_dg _ _ _ (by omega) (by omega) (by omega)]; refine ⟨?_, ?_, ?_, ?_, ?_, ?_, ?_, ?_, fun ha hb => ?_⟩ <;> (first | rfl | exact absurd rfl ha | exact absurd rfl hb | exact (dgM_b _ a4).1 | (have := (dgM_b _ a4).2; simp only; omega) | simp [X0, exec, e0, bD, act, dgP_cap, dgM_cap _ a4]))
    | (refine ⟨?_, ?_, ?_, ?_, ?_, ?_, ?_, ?_, fun ha hb => ?_⟩ <;> (first | rfl | exact absurd rfl ha | exact absurd rfl hb | (simp only; omega) | (simp [X0, exec, e0, bD, act, rD]; done) | (simp [X0, exec, e0, bD, act, rD]; omega)))
theorem P_step8 {p : PS} {d : DS} {x : X} {o : List Dat} {M : Int} (hR : RelP p d x o M) (hI : Inv x) (b : Int) (h0 : 0 ≤ b) (h1 : b ≤ 255) (hs : x.st = 8) : RelQ (f35 p d b) o (step x b) (M + 2) := by
  obtain ⟨a1, a2, g1, g2, g3, a3, a4, a5, g4⟩ := hR
  obtain ⟨made, state, aKind, aRune, aFinal, aPrivate, aParams, aInter, aText, many, out⟩ := p
  obtain ⟨dmade, db⟩ := d
  obtain ⟨st, held, xpriv, xparams, xmany, xinter, xtext, xfin⟩ := x
  obtain ⟨i0, i1, i2, i3, i4, i5, i6, i7, i8, i9, i10, i11, i13⟩ := hI
  simp only at a1 a2 a3 a4 a5 g1 g2 g3 g4 hs i2 i3 i4 i6 i7 i8 i9 i13
  subst hs
  have hh : held = [] := i13 (by simp)
  subst hh
  simp only [ne_eq, Int.reduceEq, not_false_eq_true, forall_const, not_true_eq_false, false_implies, implies_true, or_true, true_or, or_false, false_or, or_self] at g4 i6 i7 i8 i9
  obtain ⟨k1, k2, k3, k4, k5, k6⟩ := g4
  subst a1 a2 a3 g1 g2 g3 k1 k2 k3 k4 k5 k6
  subst i8
  subst i9
  clear i0 i1 i5 i6 i7 i10 i11 i13
  unfold f35 step
  simp only [decide_eq_true_eq, decide_false, decide_true, Bool.not_false, Bool.not_true, Bool.false_eq_true, Bool.not_eq_true', decide_eq_false_iff_not, Int.reduceEq, Int.reduceLE, Int.reduceLT, if_true, if_false, f29_eq, f30_eq, f48_eq, f49_eq, f50, f51, f52, f53, f67, f68_eq, f69_eq, f70, f71, pair_eta, Bool.and_eq_true, Int.reduceSub, Int.reduceAdd, Bool.or_eq_true, dcut_full, List.take_length, toB_bD, bD_snocP _ b h0 h1]
  repeat' (first | refine RelQ.l ?_ ?_ | refine RelQ.r ?_ ?_ | (intro hc; first | (exfalso; omega) | skip))
  all_goals first
    | (subst b; rw [f84_59]; refine ⟨?_, ?_, ?_, ?_, ?_, ?_, ?_, ?_, fun ha hb => ?_⟩ <;> (first | rfl | exact absurd rfl ha | exact absurd rfl hb | exact (nxQ_b _ a4).1 | (have := (nxQ_b _ a4).2; simp only; omega) | simp [X0, exec, e0, bD, act, nxP_cap, nxM_cap _ a4]))
    | (rw [f84_dg _ _ _ (by omega) (by omega) (by omega)]; refine ⟨?_, ?_, ?_, ?_, ?_, ?_, ?_, ?_, fun ha hb => ?_⟩ <;> (first | rfl | exact absurd rfl ha | exact absurd rfl hb | exact (dgM_b _ a4).1 | (have := (dgM_b _ a4).2; simp only; omega) | simp [X0, exec, e0, bD, act, dgP_cap, dgM_cap _ a4]))
    | (refine ⟨?_, ?_, ?_, ?_, ?_, ?_, ?_, ?_, fun ha hb => ?_⟩ <;> (first | rfl | exact absurd rfl ha | exact absurd rfl hb | (simp only; omega) | (simp [X0, exec, e0, bD, act, rD]; done) | (simp [X0, exec, e0, bD, act, rD]; omega)))
theorem P_step9 {p : PS} {d : DS} {x : X} {o : List Dat} {M : Int} (hR : RelP p d x o M) (hI : Inv x) (b : Int) (h0 : 0 ≤ b) (h1 : b ≤ 255) (hs : x.st = 9) : RelQ (f35 p d b) o (step x b) (M + 2) := by
  obtain ⟨a1, a2, g1, g2, g3, a3, a4, a5, g4⟩ := hR
  obtain ⟨made, state, aKind, aRune, aFinal, aPrivate, aParams, aInter, aText, many, out⟩ := p
  obtain ⟨dmade, db⟩ := d
  obtain ⟨st, held, xpriv, xparams, xmany, xinter, xtext, xfin⟩ := x
  obtain ⟨i0, i1, i2, i3, i4, i5, i6, i7, i8, i9, i10, i11, i13⟩ := hI
  simp only at a1 a2 a3 a4 a5 g1 g2 g3 g4 hs i2 i3 i4 i6 i7 i8 i9 i13
  subst hs
  have hh : held = [] := i13 (by simp)
  subst hh
  simp only [ne_eq, Int.reduceEq, not_false_eq_true, forall_const, not_true_eq_false, false_implies, implies_true, or_true, true_or, or_false, false_or, or_self] at g4 i6 i7 i8 i9
  obtain ⟨k1, k2, k3, k4, k5, k6⟩ := g4
  subst a1 a2 a3 g1 g2 g3 k1 k2 k3 k4 k5 k6
  subst i8
  subst i9
  clear i0 i1 i5 i6 i7 i10 i11 i13
  unfold f35 step
  simp only [decide_eq_true_eq, decide_false, decide_true, Bool.not_false, Bool.not_true, Bool.false_eq_true, Bool.not_eq_true', decide_eq_false_iff_not, Int.reduceEq, Int.reduceLE, Int.reduceLT, if_true, if_false, f29_eq, f30_eq, f48_eq, f49_eq, f50, f51, f52, f53, f67, f68_eq, f69_eq, f70, f71, pair_eta, Bool.and_eq_true, Int.reduceSub, Int.reduceAdd, Bool.or_eq_true, dcut_full, List.take_length, toB_bD, bD_snocP _ b h0 h1]
  repeat' (first | refine RelQ.l ?_ ?_ | refine RelQ.r ?_ ?_ | (intro hc; first | (exfalso; omega) | skip))
  all_goals first
    | (subst b; rw [f84_59]; refine ⟨?_, ?_, ?_, ?_, ?_, ?_, ?_, ?_, fun ha hb => ?_⟩ <;> (first | rfl | exact absurd rfl ha | exact absurd rfl hb | exact (nxQ_b _ a4).1 | (have := (nxQ_b _ a4).2; simp only; omega) | simp [X0, exec, e0, bD, act, nxP_cap, nxM_cap _ a4]))
    | (rw [f84_dg _ _ _ (by omega) (by omega) (by omega)]; refine ⟨?_, ?_, ?_, ?_, ?_, ?_, ?_, ?_, fun ha hb => ?_⟩ <;> (first | rfl | exact absurd rfl ha | exact absurd rfl hb | exact (dgM_b _ a4).1 | (have := (dgM_b _ a4).2; simp only; omega) | simp [X0, exec, e0, bD, act, dgP_cap, dgM_cap _ a4]))
    | (refine ⟨?_, ?_, ?_, ?_, ?_, ?_, ?_, ?_, fun ha hb => ?_⟩ <;> (first | rfl | exact absurd rfl ha | exact absurd rfl hb | (simp only; omega) | (simp [X0, exec, e0, bD, act, rD]; done) | (simp [X0, exec, e0, bD, act, rD]; omega)))
theorem P_step10 {p : PS} {d : DS} {x : X} {o : List Dat} {M : Int} (hR : RelP p d x o M) (hI : Inv x) (b : Int) (h0 : 0 ≤ b) (h1 : b ≤ 255) (hs : x.st = 10) : RelQ (f35 p d b) o (step x b) (M + 2) := by
  obtain ⟨a1, a2, g1, g2, g3, a3, a4, a5, g4⟩ := hR
  obtain ⟨made, state, aKind, aRune, aFinal, aPrivate, aParams, aInter, aText, many, out⟩ := p
  obtain ⟨dmade, db⟩ := d
  obtain ⟨st, held, xpriv, xparams, xmany, xinter, xtext, xfin⟩ := x
  obtain ⟨i0, i1, i2, i3, i4, i5, i6, i7, i8, i9, i10, i11, i13⟩ := hI
  simp only at a1 a2 a3 a4 a5 g1 g2 g3 g4 hs i2 i3 i4 i6 i7 i8 i9 i13
  subst hs
  have hh : held = [] := i13 (by simp)
  subst hh
  simp only [ne_eq, Int.reduceEq, not_false_eq_true, forall_const, not_true_eq_false, false_implies, implies_true, or_true, true_or, or_false, false_or, or_self] at g4 i6 i7 i8 i9
  obtain ⟨k1, k2, k3, k4, k5, k6⟩ := g4
  subst a1 a2 a3 g1 g2 g3 k1 k2 k3 k4 k5 k6
  subst i8
  subst i9
  clear i0 i1 i5 i6 i7 i10 i11 i13
  unfold f35 step
  simp only [decide_eq_true_eq, decide_false, decide_true, Bool.not_false, Bool.not_true, Bool.false_eq_true, Bool.not_eq_true', decide_eq_false_iff_not, Int.reduceEq, Int.reduceLE, Int.reduceLT, if_true, if_false, f29_eq, f30_eq, f48_eq, f49_eq, f50, f51, f52, f53, f67, f68_eq, f69_eq, f70, f71, pair_eta, Bool.and_eq_true, Int.reduceSub, Int.reduceAdd, Bool.or_eq_true, dcut_full, List.take_length, toB_bD, bD_snocP _ b h0 h1]
  repeat' (first | refine RelQ.l ?_ ?_ | refine RelQ.r ?_ ?_ | (intro hc; first | (exfalso; omega) | skip))
  all_goals first
    | (subst b; rw [f84_59]; refine ⟨?_, ?_, ?_, ?_, ?_, ?_, ?_, ?_, fun ha hb => ?_⟩ <;> (first | rfl | exact absurd rfl ha | exact absurd rfl hb | exact (nxQ_b _ a4).1 | (have := (nxQ_b _ a4).2; simp only; omega) | simp [X0, exec, e0, bD, act, nxP_cap, nxM_cap _ a4]))
    | (rw [f84_dg _ _ _ (by omega) (by omega) (by omega)]; refine ⟨?_, ?_, ?_, ?_, ?_, ?_, ?_, ?_, fun ha hb => ?_⟩ <;> (first | rfl | exact absurd rfl ha | exact absurd rfl hb | exact (dgM_b _ a4).1 | (have := (dgM_b _ a4).2; simp only; omega) | simp [X0, exec, e0, bD, act, dgP_cap, dgM_cap _ a4]))
    | (refine ⟨?_, ?_, ?_, ?_, ?_, ?_, ?_, ?_, fun ha hb => ?_⟩ <;> (first | rfl | exact absurd rfl ha | exact absurd rfl hb | (simp only; omega) | (simp [X0, exec, e0, bD, act, rD]; done) | (simp [X0, exec, e0, bD, act, rD]; omega)))
theorem P_step11 {p : PS} {d : DS} {x : X} {o : List Dat} {M : Int} (hR : RelP p d x o M) (hI : Inv x) (b : Int) (h0 : 0 ≤ b) (h1 : b ≤ 255) (hs : x.st = 11) : RelQ (f35 p d b) o (step x b) (M + 2) := by
  obtain ⟨a1, a2, g1, g2, g3, a3, a4, a5, g4⟩ := hR
  obtain ⟨made, state, aKind, aRune, aFinal, aPrivate, aParams, aInter, aText, many, out⟩ := p
  obtain ⟨dmade, db⟩ := d
  obtain ⟨st, held, xpriv, xparams, xmany, xinter, xtext, xfin⟩ := x
  obtain ⟨i0, i1, i2, i3, i4, i5, i6, i7, i8, i9, i10, i11, i13⟩ := hI
  simp only at a1 a2 a3 a4 a5 g1 g2 g3 g4 hs i2 i3 i4 i6 i7 i8 i9 i13
  subst hs
  have hh : held = [] := i13 (by simp)
  subst hh
  simp only [ne_eq, Int.reduceEq, not_false_eq_true, forall_const, not_true_eq_false, false_implies, implies_true, or_true, true_or, or_false, false_or, or_self] at g4 i6 i7 i8 i9
  obtain ⟨k1, k2, k3, k4, k5, k6⟩ := g4
  subst a1 a2 a3 g1 g2 g3 k1 k2 k3 k4 k5 k6
  skip
  clear i0 i1 i5 i6 i7 i8 i9 i10 i11 i13
  unfold f35 step
  simp only [decide_eq_true_eq, decide_false, decide_true, Bool.not_false, Bool.not_true, Bool.false_eq_true, Bool.not_eq_true', decide_eq_false_iff_not, Int.reduceEq, Int.reduceLE, Int.reduceLT, if_true, if_false, f29_eq, f30_eq, f48_eq, f49_eq, f50, f51, f52, f53, f67, f68_eq, f69_eq, f70, f71, pair_eta, Bool.and_eq_true, Int.reduceSub, Int.reduceAdd, Bool.or_eq_true, dcut_full, List.take_length, toB_bD, bD_snocP _ b h0 h1]
  repeat' (first | refine RelQ.l ?_ ?_ | refine RelQ.r ?_ ?_ | (intro hc; first | (exfalso; omega) | skip))
  all_goals first
    | (subst b; rw [f84_59]; refine ⟨?_, ?_, ?_, ?_, ?_, ?_, ?_, ?_, fun ha hb => ?_⟩ <;> (first | rfl | exact absurd rfl ha | exact absurd rfl hb | exact (nxQ_b _ a4).1 | (have := (nxQ_b _ a4).2; simp only; omega) | simp [X0, exec, e0, bD, act, nxP_cap, nxM_cap _ a4]))
    | (rw [f84_dg _ _ _ (by omega) (by omega) (by omega)]; refine ⟨?_, ?_, ?_, ?_, ?_, ?_, ?_, ?_, fun ha hb => ?_⟩ <;> (first | rfl | exact absurd rfl ha | exact absurd rfl hb | exact (dgM_b _ a4).1 | (have := (dgM_b _ a4).2; simp only; omega) | simp [X0, exec, e0, bD, act, dgP_cap, dgM_cap _ a4]))
    | (refine ⟨?_, ?_, ?_, ?_, ?_, ?_, ?_, ?_, fun ha hb => ?_⟩ <;> (first | rfl | exact absurd rfl ha | exact absurd rfl hb | (simp only; omega) | (simp [X0, exec, e0, bD, act, rD]; done) | (simp [X0, exec, e0, bD, act, rD]; omega)))
theorem P_step12 {p : PS} {d : DS} {x : X} {o : List Dat} {M : Int} (hR : RelP p d x o M) (hI : Inv x) (b : Int) (h0 : 0 ≤ b) (h1 : b ≤ 255) (hs : x.st = 12) : RelQ (f35 p d b) o (step x b) (M + 2) := by
  obtain ⟨a1, a2, g1, g2, g3, a3, a4, a5, g4⟩ := hR
  obtain ⟨made, state, aKind, aRune, aFinal, aPrivate, aParams, aInter, aText, many, out⟩ := p
  obtain ⟨dmade, db⟩ := d
  obtain ⟨st, held, xpriv, xparams, xmany, xinter, xtext, xfin⟩ := x
  obtain ⟨i0, i1, i2, i3, i4, i5, i6, i7, i8, i9, i10, i11, i13⟩ := hI
  simp only at a1 a2 a3 a4 a5 g1 g2 g3 g4 hs i2 i3 i4 i6 i7 i8 i9 i13
  subst hs
  have hh : held = [] := i13 (by simp)
  subst hh
  simp only [ne_eq, Int.reduceEq, not_false_eq_true, forall_const, not_true_eq_false, false_implies, implies_true, or_true, true_or, or_false, false_or, or_self] at g4 i6 i7 i8 i9
  obtain ⟨k1, k2, k3, k4, k5, k6⟩ := g4
  subst a1 a2 a3 g1 g2 g3 k1 k2 k3 k4 k5 k6
  obtain ⟨rfl, rfl, z⟩ := i6
  subst i7
  subst i9
  clear i0 i1 i5 i8 i10 i11 i13
  unfold f35 step
  simp only [decide_eq_true_eq, decide_false, decide_true, Bool.not_false, Bool.not_true, Bool.false_eq_true, Bool.not_eq_true', decide_eq_false_iff_not, Int.reduceEq, Int.reduceLE, Int.reduceLT, if_true, if_false, f29_eq, f30_eq, f48_eq, f49_eq, f50, f51, f52, f53, f67, f68_eq, f69_eq, f70, f71, pair_eta, Bool.and_eq_true, Int.reduceSub, Int.reduceAdd, Bool.or_eq_true, dcut_full, List.take_length, toB_bD, bD_snocP _ b h0 h1]
  repeat' (first | refine RelQ.l ?_ ?_ | refine RelQ.r ?_ ?_ | (intro hc; first | (exfalso; omega) | skip))
  all_goals first
    | (subst b; rw [f84_59]; refine ⟨?_, ?_, ?_, ?_, ?_, ?_, ?_, ?_, fun ha hb => ?_⟩ <;> (first | rfl | exact absurd rfl ha | exact absurd rfl hb | exact (nxQ_b _ a4).1 | (have := (nxQ_b _ a4).2; simp only; omega) | simp [X0, exec, e0, bD, act, nxP_cap, nxM_cap _ a4]))
    | (rw [f84_dg _ _ _ (by omega) (by omega) (by omega)]; refine ⟨?_, ?_, ?_, ?_, ?_, ?_, ?_, ?_, fun ha hb => ?_⟩ <;> (first | rfl | exact absurd rfl ha | exact absurd rfl hb | exact (dgM_b _ a4).1 | (have := (dgM_b _ a4).2; simp only; omega) | simp [X0, exec, e0, bD, act, dgP_cap, dgM_cap _ a4]))
    | (refine ⟨?_, ?_, ?_, ?_, ?_, ?_, ?_, ?_, fun ha hb => ?_⟩ <;> (first | rfl | exact absurd rfl ha | exact absurd rfl hb | (simp only; omega) | (simp [X0, exec, e0, bD, act, rD]; done) | (simp [X0, exec, e0, bD, act, rD]; omega)))
theorem P_step13 {p : PS} {d : DS} {x : X} {o : List Dat} {M : Int} (hR : RelP p d x o M) (hI : Inv x) (b : Int) (h0 : 0 ≤ b) (h1 : b ≤ 255) (hs : x.st = 13) : RelQ (f35 p d b) o (step x b) (M + 2) := by
  obtain ⟨a1, a2, g1, g2, g3, a3, a4, a5, g4⟩ := hR
  obtain ⟨made, state, aKind, aRune, aFinal, aPrivate, aParams, aInter, aText, many, out⟩ := p
  obtain ⟨dmade, db⟩ := d
  obtain ⟨st, held, xpriv, xparams, xmany, xinter, xtext, xfin⟩ := x
  obtain ⟨i0, i1, i2, i3, i4, i5, i6, i7, i8, i9, i10, i11, i13⟩ := hI
  simp only at a1 a2 a3 a4 a5 g1 g2 g3 g4 hs i2 i3 i4 i6 i7 i8 i9 i13
  subst hs
  have hh : held = [] := i13 (by simp)
  subst hh
  simp only [ne_eq, Int.reduceEq, not_false_eq_true, forall_const, not_true_eq_false, false_implies, implies_true, or_true, true_or, or_false, false_or, or_self] at g4 i6 i7 i8 i9
  skip
  subst a1 a2 a3 g1 g2 g3 
  skip
  clear i0 i1 i5 i6 i7 i8 i9 i10 i11 i13
  unfold f35 step
  simp only [decide_eq_true_eq, decide_false, decide_true, Bool.not_false, Bool.not_true, Bool.false_eq_true, Bool.not_eq_true', decide_eq_false_iff_not, Int.reduceEq, Int.reduceLE, Int.reduceLT, if_true, if_false, f29_eq, f30_eq, f48_eq, f49_eq, f50, f51, f52, f53, f67, f68_eq, f69_eq, f70, f71, pair_eta, Bool.and_eq_true, Int.reduceSub, Int.reduceAdd, Bool.or_eq_true, dcut_full, List.take_length, toB_bD, bD_snocP _ b h0 h1]
  repeat' (first | refine RelQ.l ?_ ?_ | refine RelQ.r ?_ ?_ | (intro hc; first | (exfalso; omega) | skip))
  all_goals first
    | (subst b; rw [f84_59]; refine ⟨?_, ?_, ?_, ?_, ?_, ?_, ?_, ?_, fun ha hb => ?_⟩ <;> (first | rfl | exact absurd rfl ha | exact absurd rfl hb | exact (nxQ_b _ a4).1 | (have := (nxQ_b _ a4).2; simp only; omega) | simp [X0, exec, e0, bD, act, nxP_cap, nxM_cap _ a4]))
    | (rw [f84_dg _ _ _ (by omega) (by omega) (by omega)]; refine ⟨?_, ?_, ?_, ?_, ?_, ?_, ?_, ?_, fun ha hb => ?_⟩ <;> (first | rfl | exact absurd rfl ha | exact absurd rfl hb | exact (dgM_b _ a4).1 | (have := (dgM_b _ a4).2; simp only; omega) | simp [X0, exec, e0, bD, act, dgP_cap, dgM_cap _ a4]))
    | (refine ⟨?_, ?_, ?_, ?_, ?_, ?_, ?_, ?_, fun ha hb => ?_⟩ <;> (first | rfl | exact absurd rfl ha | exact absurd rfl hb | (simp only; omega) | (simp [X0, exec, e0, bD, act, rD]; done) | (simp [X0, exec, e0, bD, act, rD]; omega)))
theorem P_step {p : PS} {d : DS} {x : X} {o : List Dat} {M : Int} (hR : RelP p d x o M) (hI : Inv x) (b : Int) (h0 : 0 ≤ b) (h1 : b ≤ 255) : RelQ (f35 p d b) o (step x b) (M + 2) := by
  have a := hI.s0
  have c := hI.s1
  rcases (show x.st = 0 ∨ x.st = 1 ∨ x.st = 2 ∨ x.st = 3 ∨ x.st = 4 ∨ x.st = 5 ∨ x.st = 6 ∨ x.st = 7 ∨ x.st = 8 ∨ x.st = 9 ∨ x.st = 10 ∨ x.st = 11 ∨ x.st = 12 ∨ x.st = 13 by omega) with h | h | h | h | h | h | h | h | h | h | h | h | h | h
  · exact P_step0 hR hI b h0 h1 h
  · exact P_step1 hR hI b h0 h1 h
  · exact P_step2 hR hI b h0 h1 h
  · exact P_step3 hR hI b h0 h1 h
  · exact P_step4 hR hI b h0 h1 h
  · exact P_step5 hR hI b h0 h1 h
  · exact P_step6 hR hI b h0 h1 h
  · exact P_step7 hR hI b h0 h1 h
  · exact P_step8 hR hI b h0 h1 h
  · exact P_step9 hR hI b h0 h1 h
  · exact P_step10 hR hI b h0 h1 h
  · exact P_step11 hR hI b h0 h1 h
  · exact P_step12 hR hI b h0 h1 h
  · exact P_step13 hR hI b h0 h1 h
end Go.Proofs.YtojdmhfkgkfpaaaDoor

set_option linter.unusedVariables false
set_option linter.unusedSimpArgs false
set_option maxRecDepth 100000
namespace Go.Proofs.YtojdmhfkgkfpaaaDoor
open Go.AM Go.LTxt Go.LMem Go.RowKit
set_option maxHeartbeats 0
theorem in_i64P (n : Int) (h0 : -1000000000 ≤ n) (h1 : n ≤ 1000000000) : inR .i64 n = true := by
  simp [inR, IntKind.min, IntKind.max, IntKind.bits, IntKind.signed]; omega
theorem in_i32P (n : Int) (h0 : -1000000 ≤ n) (h1 : n ≤ 1000000) : inR .i32 n = true := by
  simp [inR, IntKind.min, IntKind.max, IntKind.bits, IntKind.signed]; omega
theorem s29_of {p : PS} {d : DS} {l : List Dat} (h : p.out.length ≤ limB) (h2 : l.length ≤ limB) : s29 p d l := by
  unfold s29 s29_1 limB lim at *
  simp
  omega
theorem s30_of {d : DS} (h : okB d.b) (h2 : d.b.length ≤ limB) : s30 d := by
  unfold s30 s45 s45_2 limB lim at *
  refine s_ite (fun _ => trivial) (fun _ => ?_)
  simp [h]
  omega
theorem s48_of {p : PS} {d : DS} {b : Int} (h : p.out.length ≤ limB) : s48 p d b := by
  unfold s48 limB at *
  exact ⟨app_ok (by omega), trivial⟩
theorem s49_of {p : PS} {d : DS} {k : Int} (h : p.out.length ≤ limB) (h2 : p.aParams.length ≤ 16) : s49 p d k := by
  unfold s49 limB at *
  have e : dapp [] 0 0 p.aParams = p.aParams := by simp [dapp]
  simp only [List.take_length, Nat.zero_add, e, Nat.le_refl, decide_true, true_and, and_true, dapp_full]
  have a1 : appOK (PS.out p) 0 (List.length (PS.out p)) 1 72 = true := app_ok (by omega)
  have a2 : appOK [] 0 0 (List.length (PS.aParams p)) 8 = true := by simp [appOK]; omega
  refine s_ite (fun hc => ⟨a1, ⟨a2, a1⟩, ?_⟩) (fun hc => ⟨a2, a1⟩)
  have : p.aParams = [] := List.eq_nil_of_length_eq_zero (by simpa using hc)
  rw [this]
theorem s69_of {p : PS} {d : DS} {b : Int} (h : p.aInter.size ≤ 2) (h0 : 0 ≤ b) (h1 : b < 128) : s69 p d b := by
  unfold s69
  refine s_ite (fun _ => ⟨in_i32P b (by omega) (by omega), ?_, trivial⟩) (fun _ => trivial)
  rw [enc_size b h0 h1]
  exact decide_eq_true (by omega)
theorem s68_of {p : PS} {d : DS} {b : Int} (h : p.aText.size ≤ 1024) : s68 p d b := by
  unfold s68
  refine s_ite (fun _ => ⟨?_, trivial⟩) (fun _ => trivial)
  have e : (strD [Dat.int b]).size = 1 := rfl
  rw [e]
  exact decide_eq_true (by omega)
theorem getD_rngP {ps : List Dat} (h : ∀ d ∈ ps, -1 ≤ d.toInt ∧ d.toInt ≤ 65535) (i : Nat) (hi : i < ps.length) : -1 ≤ (ps.getD i default).toInt ∧ (ps.getD i default).toInt ≤ 65535 := by
  rw [List.getD_eq_getElem?_getD, List.getElem?_eq_getElem hi]
  exact h _ (List.getElem_mem hi)
theorem s84_of {p : PS} {d : DS} {b : Int} (h0 : 48 ≤ b) (h1 : b ≤ 255) (hm : 0 ≤ p.many) (hm2 : p.many ≤ limB) (hl : (p.aParams.length : Int) = min p.many 16) (hr : ∀ d ∈ p.aParams, -1 ≤ d.toInt ∧ d.toInt ≤ 65535) : s84 p d b := by
  have hlim : limB = 100000000 := rfl
  unfold s84
  rw [wrap_u8P b h0 h1]
  simp only [decide_eq_true_eq]
  refine s_ite (fun hz => s_ite (fun _ => ⟨rfl, by simp [dapp], trivial⟩) (fun _ => ⟨in_i64P _ (by omega) (by omega), in_i64P _ ?_ ?_, trivial⟩)) (fun hz => s_ite (fun _ => ⟨in_i64P _ (by omega) (by omega), s_ite (fun _ => ⟨app_ok (by omega), by simp, trivial⟩) (fun _ => ⟨by simp, trivial⟩)⟩) (fun _ => s_ite (fun hg => ?_) (fun _ => ⟨by simp, trivial⟩)))
  · simp only [if_true]; omega
  · simp only [if_true]; omega
  · have hg2 := getD_rngP hr (p.many - 1).toNat (by omega)
    simp only [Nat.zero_add, if_true]
    refine ⟨in_i64P _ (by omega) (by omega), by simp; omega, by omega, in_i64P _ (by omega) (by omega), in_i64P _ (by omega) (by omega), in_i64P _ (by omega) (by omega), by omega, ?_⟩
    simp
theorem P_ok0 {p : PS} {d : DS} {x : X} {o : List Dat} {M : Int} (hR : RelP p d x o M) (hI : Inv x) (b : Int) (h0 : 0 ≤ b) (h1 : b ≤ 255) (hN : o.length + x.held.length + 8 ≤ limB) (hM : M ≤ limB) (hs : x.st = 0) : s35 p d b := by
  obtain ⟨a1, a2, g1, g2, g3, a3, a4, a5, g4⟩ := hR
  obtain ⟨made, state, aKind, aRune, aFinal, aPrivate, aParams, aInter, aText, many, out⟩ := p
  obtain ⟨dmade, db⟩ := d
  obtain ⟨st, held, xpriv, xparams, xmany, xinter, xtext, xfin⟩ := x
  obtain ⟨i0, i1, i2, i3, i4, i5, i6, i7, i8, i9, i10, i11, i13⟩ := hI
  simp only at a1 a2 a3 a4 a5 g1 g2 g3 g4 hs i2 i3 i4 i5 i10 i11 i13 hN
  subst hs
  skip
  simp only [ne_eq, Int.reduceEq, not_false_eq_true, forall_const, not_true_eq_false, false_implies, implies_true, or_true, true_or, or_false, false_or, or_self] at g4
  skip
  subst a1 a2 a3 g1 g2 g3 
  clear i0 i1 i6 i7 i8 i9 i13
  have q1 := prR_len held
  have q2 := prP_len (held ++ [UInt8.ofNat b.toNat])
  have q3 := runes_len held.length held (Nat.le_refl _)
  have q4 := putD_len (held ++ [UInt8.ofNat b.toNat]).length (held ++ [UInt8.ofNat b.toNat]) (Nat.le_refl _)
  simp only [List.length_append, List.length_cons, List.length_nil] at q2 q4
  have hlim : limB = 100000000 := rfl
  have hlim2 : lim = 1073741824 := rfl
  unfold s35
  simp only [decide_eq_true_eq, decide_false, decide_true, Bool.not_false, Bool.not_true, Bool.false_eq_true, Bool.not_eq_true', decide_eq_false_iff_not, Int.reduceEq, Int.reduceLE, Int.reduceLT, if_true, if_false, true_and, and_true, f29_eq, f30_eq, f48_eq, f49_eq, s50, s51, s52, s53, s67, s70, s71, f50, f51, f52, f53, f67, f68_eq, f69_eq, f70, f71, pair_eta, Bool.and_eq_true, Int.reduceSub, Int.reduceAdd, Bool.or_eq_true, dcut_full, List.take_length, toB_bD, bD_snocP _ b h0 h1]
  repeat' (first | exact trivial | (with_reducible refine And.intro ?_ ?_) | (with_reducible refine s_ite ?_ ?_) | (intro hc; first | (exfalso; omega) | skip))
  all_goals first
    | rfl
    | omega
    | exact okB_bD _
    | (refine s48_of ?_; simp only [List.length_append, List.length_cons, List.length_nil]; omega)
    | (refine s49_of ?_ ?_ <;> simp only [List.length_append, List.length_cons, List.length_nil] <;> omega)
    | (refine s29_of ?_ ?_ <;> simp only [rD, iD, List.length_map, List.length_append, List.length_cons, List.length_nil] <;> omega)
    | (refine s29_of ?_ ?_ <;> simp only [List.length_append, List.length_cons, List.length_nil] <;> omega)
    | (refine s30_of (okB_bD _) ?_; simp only [bD_length]; omega)
    | exact s69_of i10 (by omega) (by omega)
    | exact s68_of i11
    | exact s84_of (by omega) (by omega) a4 (by simp only; omega) (by simp only; omega) i5
    | (refine in_i32P _ ?_ ?_ <;> omega)
    | (refine in_i64P _ ?_ ?_ <;> omega)
    | (simp only [bD_length, List.length_append, List.length_cons, List.length_nil]; omega)
    | (simp; done)
    | (simp; omega)
    | skip
theorem P_ok1 {p : PS} {d : DS} {x : X} {o : List Dat} {M : Int} (hR : RelP p d x o M) (hI : Inv x) (b : Int) (h0 : 0 ≤ b) (h1 : b ≤ 255) (hN : o.length + x.held.length + 8 ≤ limB) (hM : M ≤ limB) (hs : x.st = 1) : s35 p d b := by
  obtain ⟨a1, a2, g1, g2, g3, a3, a4, a5, g4⟩ := hR
  obtain ⟨made, state, aKind, aRune, aFinal, aPrivate, aParams, aInter, aText, many, out⟩ := p
  obtain ⟨dmade, db⟩ := d
  obtain ⟨st, held, xpriv, xparams, xmany, xinter, xtext, xfin⟩ := x
  obtain ⟨i0, i1, i2, i3, i4, i5, i6, i7, i8, i9, i10, i11, i13⟩ := hI
  simp only at a1 a2 a3 a4 a5 g1 g2 g3 g4 hs i2 i3 i4 i5 i10 i11 i13 hN
  subst hs
  have hh : held = [] := i13 (by simp)
  subst hh
  simp only [ne_eq, Int.reduceEq, not_false_eq_true, forall_const, not_true_eq_false, false_implies, implies_true, or_true, true_or, or_false, false_or, or_self] at g4
  obtain ⟨k1, k2, k3, k4, k5, k6⟩ := g4
  subst a1 a2 a3 g1 g2 g3 k1 k2 k3 k4 k5 k6
  clear i0 i1 i6 i7 i8 i9 i13
  have q1 := prR_len ([] : List UInt8)
  have q2 := prP_len (([] : List UInt8) ++ [UInt8.ofNat b.toNat])
  have q3 := runes_len ([] : List UInt8).length ([] : List UInt8) (Nat.le_refl _)
  have q4 := putD_len (([] : List UInt8) ++ [UInt8.ofNat b.toNat]).length (([] : List UInt8) ++ [UInt8.ofNat b.toNat]) (Nat.le_refl _)
  simp only [List.length_append, List.length_cons, List.length_nil] at q2 q4
  have hlim : limB = 100000000 := rfl
  have hlim2 : lim = 1073741824 := rfl
  unfold s35
  simp only [decide_eq_true_eq, decide_false, decide_true, Bool.not_false, Bool.not_true, Bool.false_eq_true, Bool.not_eq_true', decide_eq_false_iff_not, Int.reduceEq, Int.reduceLE, Int.reduceLT, if_true, if_false, true_and, and_true, f29_eq, f30_eq, f48_eq, f49_eq, s50, s51, s52, s53, s67, s70, s71, f50, f51, f52, f53, f67, f68_eq, f69_eq, f70, f71, pair_eta, Bool.and_eq_true, Int.reduceSub, Int.reduceAdd, Bool.or_eq_true, dcut_full, List.take_length, toB_bD, bD_snocP _ b h0 h1]
  repeat' (first | exact trivial | (with_reducible refine And.intro ?_ ?_) | (with_reducible refine s_ite ?_ ?_) | (intro hc; first | (exfalso; omega) | skip))
  all_goals first
    | rfl
    | omega
    | exact okB_bD _
    | (refine s48_of ?_; simp only [List.length_append, List.length_cons, List.length_nil]; omega)
    | (refine s49_of ?_ ?_ <;> simp only [List.length_append, List.length_cons, List.length_nil] <;> omega)
    | (refine s29_of ?_ ?_ <;> simp only [rD, iD, List.length_map, List.length_append, List.length_cons, List.length_nil] <;> omega)
    | (refine s29_of ?_ ?_ <;> simp only [List.length_append, List.length_cons, List.length_nil] <;> omega)
    | (refine s30_of (okB_bD _) ?_; simp only [bD_length]; omega)
    | exact s69_of i10 (by omega) (by omega)
    | exact s68_of i11
    | exact s84_of (by omega) (by omega) a4 (by simp only; omega) (by simp only; omega) i5
    | (refine in_i32P _ ?_ ?_ <;> omega)
    | (refine in_i64P _ ?_ ?_ <;> omega)
    | (simp only [bD_length, List.length_append, List.length_cons, List.length_nil]; omega)
    | (simp; done)
    | (simp; omega)
    | skip
theorem P_ok2 {p : PS} {d : DS} {x : X} {o : List Dat} {M : Int} (hR : RelP p d x o M) (hI : Inv x) (b : Int) (h0 : 0 ≤ b) (h1 : b ≤ 255) (hN : o.length + x.held.length + 8 ≤ limB) (hM : M ≤ limB) (hs : x.st = 2) : s35 p d b := by
  obtain ⟨a1, a2, g1, g2, g3, a3, a4, a5, g4⟩ := hR
  obtain ⟨made, state, aKind, aRune, aFinal, aPrivate, aParams, aInter, aText, many, out⟩ := p
  obtain ⟨dmade, db⟩ := d
  obtain ⟨st, held, xpriv, xparams, xmany, xinter, xtext, xfin⟩ := x
  obtain ⟨i0, i1, i2, i3, i4, i5, i6, i7, i8, i9, i10, i11, i13⟩ := hI
  simp only at a1 a2 a3 a4 a5 g1 g2 g3 g4 hs i2 i3 i4 i5 i10 i11 i13 hN
  subst hs
  have hh : held = [] := i13 (by simp)
  subst hh
  simp only [ne_eq, Int.reduceEq, not_false_eq_true, forall_const, not_true_eq_false, false_implies, implies_true, or_true, true_or, or_false, false_or, or_self] at g4
  obtain ⟨k1, k2, k3, k4, k5, k6⟩ := g4
  subst a1 a2 a3 g1 g2 g3 k1 k2 k3 k4 k5 k6
  clear i0 i1 i6 i7 i8 i9 i13
  have q1 := prR_len ([] : List UInt8)
  have q2 := prP_len (([] : List UInt8) ++ [UInt8.ofNat b.toNat])
  have q3 := runes_len ([] : List UInt8).length ([] : List UInt8) (Nat.le_refl _)
  have q4 := putD_len (([] : List UInt8) ++ [UInt8.ofNat b.toNat]).length (([] : List UInt8) ++ [UInt8.ofNat b.toNat]) (Nat.le_refl _)
  simp only [List.length_append, List.length_cons, List.length_nil] at q2 q4
  have hlim : limB = 100000000 := rfl
  have hlim2 : lim = 1073741824 := rfl
  unfold s35
  simp only [decide_eq_true_eq, decide_false, decide_true, Bool.not_false, Bool.not_true, Bool.false_eq_true, Bool.not_eq_true', decide_eq_false_iff_not, Int.reduceEq, Int.reduceLE, Int.reduceLT, if_true, if_false, true_and, and_true, f29_eq, f30_eq, f48_eq, f49_eq, s50, s51, s52, s53, s67, s70, s71, f50, f51, f52, f53, f67, f68_eq, f69_eq, f70, f71, pair_eta, Bool.and_eq_true, Int.reduceSub, Int.reduceAdd, Bool.or_eq_true, dcut_full, List.take_length, toB_bD, bD_snocP _ b h0 h1]
  repeat' (first | exact trivial | (with_reducible refine And.intro ?_ ?_) | (with_reducible refine s_ite ?_ ?_) | (intro hc; first | (exfalso; omega) | skip))
  all_goals first
    | rfl
    | omega
    | exact okB_bD _
    | (refine s48_of ?_; simp only [List.length_append, List.length_cons, List.length_nil]; omega)
    | (refine s49_of ?_ ?_ <;> simp only [List.length_append, List.length_cons, List.length_nil] <;> omega)
    | (refine s29_of ?_ ?_ <;> simp only [rD, iD, List.length_map, List.length_append, List.length_cons, List.length_nil] <;> omega)
    | (refine s29_of ?_ ?_ <;> simp only [List.length_append, List.length_cons, List.length_nil] <;> omega)
    | (refine s30_of (okB_bD _) ?_; simp only [bD_length]; omega)
    | exact s69_of i10 (by omega) (by omega)
    | exact s68_of i11
    | exact s84_of (by omega) (by omega) a4 (by simp only; omega) (by simp only; omega) i5
    | (refine in_i32P _ ?_ ?_ <;> omega)
    | (refine in_i64P _ ?_ ?_ <;> omega)
    | (simp only [bD_length, List.length_append, List.length_cons, List.length_nil]; omega)
    | (simp; done)
    | (simp; omega)
    | skip
theorem P_ok3 {p : PS} {d : DS} {x : X} {o : List Dat} {M : Int} (hR : RelP p d x o M) (hI : Inv x) (b : Int) (h0 : 0 ≤ b) (h1 : b ≤ 255) (hN : o.length + x.held.length + 8 ≤ limB) (hM : M ≤ limB) (hs : x.st = 3) : s35 p d b := by
  obtain ⟨a1, a2, g1, g2, g3, a3, a4, a5, g4⟩ := hR
  obtain ⟨made, state, aKind, aRune, aFinal, aPrivate, aParams, aInter, aText, many, out⟩ := p
  obtain ⟨dmade, db⟩ := d
  obtain ⟨st, held, xpriv, xparams, xmany, xinter, xtext, xfin⟩ := x
  obtain ⟨i0, i1, i2, i3, i4, i5, i6, i7, i8, i9, i10, i11, i13⟩ := hI
  simp only at a1 a2 a3 a4 a5 g1 g2 g3 g4 hs i2 i3 i4 i5 i10 i11 i13 hN
  subst hs
  have hh : held = [] := i13 (by simp)
  subst hh
  simp only [ne_eq, Int.reduceEq, not_false_eq_true, forall_const, not_true_eq_false, false_implies, implies_true, or_true, true_or, or_false, false_or, or_self] at g4
  obtain ⟨k1, k2, k3, k4, k5, k6⟩ := g4
  subst a1 a2 a3 g1 g2 g3 k1 k2 k3 k4 k5 k6
  clear i0 i1 i6 i7 i8 i9 i13
  have q1 := prR_len ([] : List UInt8)
  have q2 := prP_len (([] : List UInt8) ++ [UInt8.ofNat b.toNat])
  have q3 := runes_len ([] : List UInt8).length ([] : List UInt8) (Nat.le_refl _)
  have q4 := putD_len (([] : List UInt8) ++ [UInt8.ofNat b.toNat]).length (([] : List UInt8) ++ [UInt8.ofNat b.toNat]) (Nat.le_refl _)
  simp only [List.length_append, List.length_cons, List.length_nil] at q2 q4
  have hlim : limB = 100000000 := rfl
  have hlim2 : lim = 1073741824 := rfl
  unfold s35
  simp only [decide_eq_true_eq, decide_false, decide_true, Bool.not_false, Bool.not_true, Bool.false_eq_true, Bool.not_eq_true', decide_eq_false_iff_not, Int.reduceEq, Int.reduceLE, Int.reduceLT, if_true, if_false, true_and, and_true, f29_eq, f30_eq, f48_eq, f49_eq, s50, s51, s52, s53, s67, s70, s71, f50, f51, f52, f53, f67, f68_eq, f69_eq, f70, f71, pair_eta, Bool.and_eq_true, Int.reduceSub, Int.reduceAdd, Bool.or_eq_true, dcut_full, List.take_length, toB_bD, bD_snocP _ b h0 h1]
  repeat' (first | exact trivial | (with_reducible refine And.intro ?_ ?_) | (with_reducible refine s_ite ?_ ?_) | (intro hc; first | (exfalso; omega) | skip))
  all_goals first
    | rfl
    | omega
    | exact okB_bD _
    | (refine s48_of ?_; simp only [List.length_append, List.length_cons, List.length_nil]; omega)
    | (refine s49_of ?_ ?_ <;> simp only [List.length_append, List.length_cons, List.length_nil] <;> omega)
    | (refine s29_of ?_ ?_ <;> simp only [rD, iD, List.length_map, List.length_append, List.length_cons, List.length_nil] <;> omega)
    | (refine s29_of ?_ ?_ <;> simp only [List.length_append, List.length_cons, List.length_nil] <;> omega)
    | (refine s30_of (okB_bD _) ?_; simp only [bD_length]; omega)
    | exact s69_of i10 (by omega) (by omega)
    | exact s68_of i11
    | exact s84_of (by omega) (by omega) a4 (by simp only; omega) (by simp only; omega) i5
    | (refine in_i32P _ ?_ ?_ <;> omega)
    | (refine in_i64P _ ?_ ?_ <;> omega)
    | (simp only [bD_length, List.length_append, List.length_cons, List.length_nil]; omega)
    | (simp; done)
    | (simp; omega)
    | skip
theorem P_ok4 {p : PS} {d : DS} {x : X} {o : List Dat} {M : Int} (hR : RelP p d x o M) (hI : Inv x) (b : Int) (h0 : 0 ≤ b) (h1 : b ≤ 255) (hN : o.length + x.held.length + 8 ≤ limB) (hM : M ≤ limB) (hs : x.st = 4) : s35 p d b := by
  obtain ⟨a1, a2, g1, g2, g3, a3, a4, a5, g4⟩ := hR
  obtain ⟨made, state, aKind, aRune, aFinal, aPrivate, aParams, aInter, aText, many, out⟩ := p
  obtain ⟨dmade, db⟩ := d
  obtain ⟨st, held, xpriv, xparams, xmany, xinter, xtext, xfin⟩ := x
  obtain ⟨i0, i1, i2, i3, i4, i5, i6, i7, i8, i9, i10, i11, i13⟩ := hI
  simp only at a1 a2 a3 a4 a5 g1 g2 g3 g4 hs i2 i3 i4 i5 i10 i11 i13 hN
  subst hs
  have hh : held = [] := i13 (by simp)
  subst hh
  simp only [ne_eq, Int.reduceEq, not_false_eq_true, forall_const, not_true_eq_false, false_implies, implies_true, or_true, true_or, or_false, false_or, or_self] at g4
  obtain ⟨k1, k2, k3, k4, k5, k6⟩ := g4
  subst a1 a2 a3 g1 g2 g3 k1 k2 k3 k4 k5 k6
  clear i0 i1 i6 i7 i8 i9 i13
  have q1 := prR_len ([] : List UInt8)
  have q2 := prP_len (([] : List UInt8) ++ [UInt8.ofNat b.toNat])
  have q3 := runes_len ([] : List UInt8).length ([] : List UInt8) (Nat.le_refl _)
  have q4 := putD_len (([] : List UInt8) ++ [UInt8.ofNat b.toNat]).length (([] : List UInt8) ++ [UInt8.ofNat b.toNat]) (Nat.le_refl _)
  simp only [List.length_append, List.length_cons, List.length_nil] at q2 q4
  have hlim : limB = 100000000 := rfl
  have hlim2 : lim = 1073741824 := rfl
  unfold s35
  simp only [decide_eq_true_eq, decide_false, decide_true, Bool.not_false, Bool.not_true, Bool.false_eq_true, Bool.not_eq_true', decide_eq_false_iff_not, Int.reduceEq, Int.reduceLE, Int.reduceLT, if_true, if_false, true_and, and_true, f29_eq, f30_eq, f48_eq, f49_eq, s50, s51, s52, s53, s67, s70, s71, f50, f51, f52, f53, f67, f68_eq, f69_eq, f70, f71, pair_eta, Bool.and_eq_true, Int.reduceSub, Int.reduceAdd, Bool.or_eq_true, dcut_full, List.take_length, toB_bD, bD_snocP _ b h0 h1]
  repeat' (first | exact trivial | (with_reducible refine And.intro ?_ ?_) | (with_reducible refine s_ite ?_ ?_) | (intro hc; first | (exfalso; omega) | skip))
  all_goals first
    | rfl
    | omega
    | exact okB_bD _
    | (refine s48_of ?_; simp only [List.length_append, List.length_cons, List.length_nil]; omega)
    | (refine s49_of ?_ ?_ <;> simp only [List.length_append, List.length_cons, List.length_nil] <;> omega)
    | (refine s29_of ?_ ?_ <;> simp only [rD, iD, List.length_map, List.length_append, List.length_cons, List.length_nil] <;> omega)
    | (refine s29_of ?_ ?_ <;> simp only [List.length_append, List.length_cons, List.length_nil] <;> omega)
    | (refine s30_of (okB_bD _) ?_; simp only [bD_length]; omega)
    | exact s69_of i10 (by omega) (by omega)
    | exact s68_of i11
    | exact s84_of (by omega) (by omega) a4 (by simp only; omega) (by simp only; omega) i5
    | (refine in_i32P _ ?_ ?_ <;> omega)
    | (refine in_i64P _ ?_ ?_ <;> omega)
    | (simp only [bD_length, List.length_append, List.length_cons, List.length_nil]; omega)
    | (simp; done)
    | (simp; omega)
    | skip
theorem P_ok5 {p : PS} {d : DS} {x : X} {o : List Dat} {M : Int} (hR : RelP p d x o M) (hI : Inv x) (b : Int) (h0 : 0 ≤ b) (h1 : b ≤ 255) (hN : o.length + x.held.length + 8 ≤ limB) (hM : M ≤ limB) (hs : x.st = 5) : s35 p d b := by
  obtain ⟨a1, a2, g1, g2, g3, a3, a4, a5, g4⟩ := hR
  obtain ⟨made, state, aKind, aRune, aFinal, aPrivate, aParams, aInter, aText, many, out⟩ := p
  obtain ⟨dmade, db⟩ := d
  obtain ⟨st, held, xpriv, xparams, xmany, xinter, xtext, xfin⟩ := x
  obtain ⟨i0, i1, i2, i3, i4, i5, i6, i7, i8, i9, i10, i11, i13⟩ := hI
  simp only at a1 a2 a3 a4 a5 g1 g2 g3 g4 hs i2 i3 i4 i5 i10 i11 i13 hN
  subst hs
  have hh : held = [] := i13 (by simp)
  subst hh
  simp only [ne_eq, Int.reduceEq, not_false_eq_true, forall_const, not_true_eq_false, false_implies, implies_true, or_true, true_or, or_false, false_or, or_self] at g4
  obtain ⟨k1, k2, k3, k4, k5, k6⟩ := g4
  subst a1 a2 a3 g1 g2 g3 k1 k2 k3 k4 k5 k6
  clear i0 i1 i6 i7 i8 i9 i13
  have q1 := prR_len ([] : List UInt8)
  have q2 := prP_len (([] : List UInt8) ++ [UInt8.ofNat b.toNat])
  have q3 := runes_len ([] : List UInt8).length ([] : List UInt8) (Nat.le_refl _)
  have q4 := putD_len (([] : List UInt8) ++ [UInt8.ofNat b.toNat]).length (([] : List UInt8) ++ [UInt8.ofNat b.toNat]) (Nat.le_refl _)
  simp only [List.length_append, List.length_cons, List.length_nil] at q2 q4
  have hlim : limB = 100000000 := rfl
  have hlim2 : lim = 1073741824 := rfl
  unfold s35
  simp only [decide_eq_true_eq, decide_false, decide_true, Bool.not_false, Bool.not_true, Bool.false_eq_true, Bool.not_eq_true', decide_eq_false_iff_not, Int.reduceEq, Int.reduceLE, Int.reduceLT, if_true, if_false, true_and, and_true, f29_eq, f30_eq, f48_eq, f49_eq, s50, s51, s52, s53, s67, s70, s71, f50, f51, f52, f53, f67, f68_eq, f69_eq, f70, f71, pair_eta, Bool.and_eq_true, Int.reduceSub, Int.reduceAdd, Bool.or_eq_true, dcut_full, List.take_length, toB_bD, bD_snocP _ b h0 h1]
  repeat' (first | exact trivial | (with_reducible refine And.intro ?_ ?_) | (with_reducible refine s_ite ?_ ?_) | (intro hc; first | (exfalso; omega) | skip))
  all_goals first
    | rfl
    | omega
    | exact okB_bD _
    | (refine s48_of ?_; simp only [List.length_append, List.length_cons, List.length_nil]; omega)
    | (refine s49_of ?_ ?_ <;> simp only [List.length_append, List.length_cons, List.length_nil] <;> omega)
    | (refine s29_of ?_ ?_ <;> simp only [rD, iD, List.length_map, List.length_append, List.length_cons, List.length_nil] <;> omega)
    | (refine s29_of ?_ ?_ <;> simp only [List.length_append, List.length_cons, List.length_nil] <;> omega)
    | (refine s30_of (okB_bD _) ?_; simp only [bD_length]; omega)
    | exact s69_of i10 (by omega) (by omega)
    | exact s68_of i11
    | exact s84_of (by omega) (by omega) a4 (by simp only; omega) (by simp only; omega) i5
    | (refine in_i32P _ ?_ ?_ <;> omega)
    | (refine in_i64P _ ?_ ?_ <;> omega)
    | (simp only [bD_length, List.length_append, List.length_cons, List.length_nil]; omega)
    | (simp; done)
    | (simp; omega)
    | skip
theorem P_ok6 {p : PS} {d : DS} {x : X} {o : List Dat} {M : Int} (hR : RelP p d x o M) (hI : Inv x) (b : Int) (h0 : 0 ≤ b) (h1 : b ≤ 255) (hN : o.length + x.held.length + 8 ≤ limB) (hM : M ≤ limB) (hs : x.st = 6) : s35 p d b := by
  obtain ⟨a1, a2, g1, g2, g3, a3, a4, a5, g4⟩ := hR
  obtain ⟨made, state, aKind, aRune, aFinal, aPrivate, aParams, aInter, aText, many, out⟩ := p
  obtain ⟨dmade, db⟩ := d
  obtain ⟨st, held, xpriv, xparams, xmany, xinter, xtext, xfin⟩ := x
  obtain ⟨i0, i1, i2, i3, i4, i5, i6, i7, i8, i9, i10, i11, i13⟩ := hI
  simp only at a1 a2 a3 a4 a5 g1 g2 g3 g4 hs i2 i3 i4 i5 i10 i11 i13 hN
  subst hs
  have hh : held = [] := i13 (by simp)
  subst hh
  simp only [ne_eq, Int.reduceEq, not_false_eq_true, forall_const, not_true_eq_false, false_implies, implies_true, or_true, true_or, or_false, false_or, or_self] at g4
  obtain ⟨k1, k2, k3, k4, k5, k6⟩ := g4
  subst a1 a2 a3 g1 g2 g3 k1 k2 k3 k4 k5 k6
  clear i0 i1 i6 i7 i8 i9 i13
  have q1 := prR_len ([] : List UInt8)
  have q2 := prP_len (([] : List UInt8) ++ [UInt8.ofNat b.toNat])
  have q3 := runes_len ([] : List UInt8).length ([] : List UInt8) (Nat.le_refl _)
  have q4 := putD_len (([] : List UInt8) ++ [UInt8.ofNat b.toNat]).length (([] : List UInt8) ++ [UInt8.ofNat b.toNat]) (Nat.le_refl _)
  simp only [List.length_append, List.length_cons, List.length_nil] at q2 q4
  have hlim : limB = 100000000 := rfl
  have hlim2 : lim = 1073741824 := rfl
  unfold s35
  simp only [decide_eq_true_eq, decide_false, decide_true, Bool.not_false, Bool.not_true, Bool.false_eq_true, Bool.not_eq_true', decide_eq_false_iff_not, Int.reduceEq, Int.reduceLE, Int.reduceLT, if_true, if_false, true_and, and_true, f29_eq, f30_eq, f48_eq, f49_eq, s50, s51, s52, s53, s67, s70, s71, f50, f51, f52, f53, f67, f68_eq, f69_eq, f70, f71, pair_eta, Bool.and_eq_true, Int.reduceSub, Int.reduceAdd, Bool.or_eq_true, dcut_full, List.take_length, toB_bD, bD_snocP _ b h0 h1]
  repeat' (first | exact trivial | (with_reducible refine And.intro ?_ ?_) | (with_reducible refine s_ite ?_ ?_) | (intro hc; first | (exfalso; omega) | skip))
  all_goals first
    | rfl
    | omega
    | exact okB_bD _
    | (refine s48_of ?_; simp only [List.length_append, List.length_cons, List.length_nil]; omega)
    | (refine s49_of ?_ ?_ <;> simp only [List.length_append, List.length_cons, List.length_nil] <;> omega)
    | (refine s29_of ?_ ?_ <;> simp only [rD, iD, List.length_map, List.length_append, List.length_cons, List.length_nil] <;> omega)
    | (refine s29_of ?_ ?_ <;> simp only [List.length_append, List.length_cons, List.length_nil] <;> omega)
    | (refine s30_of (okB_bD _) ?_; simp only [bD_length]; omega)
    | exact s69_of i10 (by omega) (by omega)
    | exact s68_of i11
    | exact s84_of (by omega) (by omega) a4 (by simp only; omega) (by simp only; omega) i5
    | (refine in_i32P _ ?_ ?_ <;> omega)
    | (refine in_i64P _ ?_ ?_ <;> omega)
    | (simp only [bD_length, List.length_append, List.length_cons, List.length_nil]; omega)
    | (simp; done)
    | (simp; omega)
    | skip
theorem P_ok7 {p : PS} {d : DS} {x : X} {o : List Dat} {M : Int} (hR : RelP p d x o M) (hI : Inv x) (b : Int) (h0 : 0 ≤ b) (h1 : b ≤ 255) (hN : o.length + x.held.length + 8 ≤ limB) (hM : M ≤ limB) (hs : x.st = 7) : s35 p d b := by
  obtain ⟨a1, a2, g1, g2, g3, a3, a4, a5, g4⟩ := hR
  obtain ⟨made, state, aKind, aRune, aFinal, aPrivate, aParams, aInter, aText, many, out⟩ := p
  obtain ⟨dmade, db⟩ := d
  obtain ⟨st, held, xpriv, xparams, xmany, xinter, xtext, xfin⟩ := x
  obtain ⟨i0, i1, i2, i3, i4, i5, i6, i7, i8, i9, i10, i11, i13⟩ := hI
  simp only at a1 a2 a3 a4 a5 g1 g2 g3 g4 hs i2 i3 i4 i5 i10 i11 i13 hN
  subst hs
  have hh : held = [] := i13 (by simp)
  subst hh
  simp only [ne_eq, Int.reduceEq, not_false_eq_true, forall_const, not_true_eq_false, false_implies, implies_true, or_true, true_or, or_false, false_or, or_self] at g4
  obtain ⟨k1, k2, k3, k4, k5, k6⟩ := g4
  subst a1 a2 a3 g1 g2 g3 k1 k2 k3 k4 k5 k6
  clear i0 i1 i6 i7 i8 i9 i13
  have q1 := prR_len ([] : List UInt8)
  have q2 := prP_len (([] : List UInt8) ++ [UInt8.ofNat b.toNat])
  have q3 := runes_len ([] : List UInt8).length ([] : List UInt8) (Nat.le_refl _)
  have q4 := putD_len (([] : List UInt8) ++ [UInt8.ofNat b.toNat]).length (([] : List UInt8) ++ [UInt8.ofNat b.toNat]) (Nat.le_refl _)
  simp only [List.length_append, List.length_cons, List.length_nil] at q2 q4
  have hlim : limB = 100000000 := rfl
  have hlim2 : lim = 1073741824 := rfl
  unfold s35
  simp only [decide_eq_true_eq, decide_false, decide_true, Bool.not_false, Bool.not_true, Bool.false_eq_true, Bool.not_eq_true', decide_eq_false_iff_not, Int.reduceEq, Int.reduceLE, Int.reduceLT, if_true, if_false, true_and, and_true, f29_eq, f30_eq, f48_eq, f49_eq, s50, s51, s52, s53, s67, s70, s71, f50, f51, f52, f53, f67, f68_eq, f69_eq, f70, f71, pair_eta, Bool.and_eq_true, Int.reduceSub, Int.reduceAdd, Bool.or_eq_true, dcut_full, List.take_length, toB_bD, bD_snocP _ b h0 h1]
  repeat' (first | exact trivial | (with_reducible refine And.intro ?_ ?_) | (with_reducible refine s_ite ?_ ?_) | (intro hc; first | (exfalso; omega) | skip))
  all_goals first
    | rfl
    | omega
    | exact okB_bD _
    | (refine s48_of ?_; simp only [List.length_append, List.length_cons, List.length_nil]; omega)
    | (refine s49_of ?_ ?_ <;> simp only [List.length_append, List.length_cons, List.length_nil] <;> omega)
    | (refine s29_of ?_ ?_ <;> simp only [rD, iD, List.length_map, List.length_append, List.length_cons, List.length_nil] <;> omega)
    | (refine s29_of ?_ ?_ <;> simp only [List.length_append, List.length_cons, List.length_nil] <;> omega)
    | (refine s30_of (okB_bD _) ?_; simp only [bD_length]; omega)
    | exact s69_of i10 (by omega) (by omega)
    | exact s68_of i11
    | exact s84_of (by omega) (by omega) a4 (by simp only; omega) (by simp only; omega) i5
    | (refine in_i32P _ ?_ ?_ <;> omega)
    | (refine in_i64P _ ?_ ?_ <;> omega)
    | (simp only [bD_length, List.length_append, List.length_cons, List.length_nil]; omega)
    | (simp; done)
    | (simp; omega)
    | skip
theorem P_ok8 {p : PS} {d : DS} {x : X} {o : List Dat} {M : Int} (hR : RelP p d x o M) (hI : Inv x) (b : Int) (h0 : 0 ≤ b) (h1 : b ≤ 255) (hN : o.length + x.held.length + 8 ≤ limB) (hM : M ≤ limB) (hs : x.st = 8) : s35 p d b := by
  obtain ⟨a1, a2, g1, g2, g3, a3, a4, a5, g4⟩ := hR
  obtain ⟨made, state, aKind, aRune, aFinal, aPrivate, aParams, aInter, aText, many, out⟩ := p
  obtain ⟨dmade, db⟩ := d
  obtain ⟨st, held, xpriv, xparams, xmany, xinter, xtext, xfin⟩ := x
  obtain ⟨i0, i1, i2, i3, i4, i5, i6, i7, i8, i9, i10, i11, i13⟩ := hI
  simp only at a1 a2 a3 a4 a5 g1 g2 g3 g4 hs i2 i3 i4 i5 i10 i11 i13 hN
  subst hs
  have hh : held = [] := i13 (by simp)
  subst hh
  simp only [ne_eq, Int.reduceEq, not_false_eq_true, forall_const, not_true_eq_false, false_implies, implies_true, or_true, true_or, or_false, false_or, or_self] at g4
  obtain ⟨k1, k2, k3, k4, k5, k6⟩ := g4
  subst a1 a2 a3 g1 g2 g3 k1 k2 k3 k4 k5 k6
  clear i0 i1 i6 i7 i8 i9 i13
  have q1 := prR_len ([] : List UInt8)
  have q2 := prP_len (([] : List UInt8) ++ [UInt8.ofNat b.toNat])
  have q3 := runes_len ([] : List UInt8).length ([] : List UInt8) (Nat.le_refl _)
  have q4 := putD_len (([] : List UInt8) ++ [UInt8.ofNat b.toNat]).length (([] : List UInt8) ++ [UInt8.ofNat b.toNat]) (Nat.le_refl _)
  simp only [List.length_append, List.length_cons, List.length_nil] at q2 q4
  have hlim : limB = 100000000 := rfl
  have hlim2 : lim = 1073741824 := rfl
  unfold s35
  simp only [decide_eq_true_eq, decide_false, decide_true, Bool.not_false, Bool.not_true, Bool.false_eq_true, Bool.not_eq_true', decide_eq_false_iff_not, Int.reduceEq, Int.reduceLE, Int.reduceLT, if_true, if_false, true_and, and_true, f29_eq, f30_eq, f48_eq, f49_eq, s50, s51, s52, s53, s67, s70, s71, f50, f51, f52, f53, f67, f68_eq, f69_eq, f70, f71, pair_eta, Bool.and_eq_true, Int.reduceSub, Int.reduceAdd, Bool.or_eq_true, dcut_full, List.take_length, toB_bD, bD_snocP _ b h0 h1]
  repeat' (first | exact trivial | (with_reducible refine And.intro ?_ ?_) | (with_reducible refine s_ite ?_ ?_) | (intro hc; first | (exfalso; omega) | skip))
  all_goals first
    | rfl
    | omega
    | exact okB_bD _
    | (refine s48_of ?_; simp only [List.length_append, List.length_cons, List.length_nil]; omega)
    | (refine s49_of ?_ ?_ <;> simp only [List.length_append, List.length_cons, List.length_nil] <;> omega)
    | (refine s29_of ?_ ?_ <;> simp only [rD, iD, List.length_map, List.length_append, List.length_cons, List.length_nil] <;> omega)
    | (refine s29_of ?_ ?_ <;> simp only [List.length_append, List.length_cons, List.length_nil] <;> omega)
    | (refine s30_of (okB_bD _) ?_; simp only [bD_length]; omega)
    | exact s69_of i10 (by omega) (by omega)
    | exact s68_of i11
    | exact s84_of (by omega) (by omega) a4 (by simp only; omega) (by simp only; omega) i5
    | (refine in_i32P _ ?_ ?_ <;> omega)
    | (refine in_i64P _ ?_ ?_ <;> omega)
    | (simp only [bD_length, List.length_append, List.length_cons, List.length_nil]; omega)
    | (simp; done)
    | (simp; omega)
    | skip
theorem P_ok9 {p : PS} {d : DS} {x : X} {o : List Dat} {M : Int} (hR : RelP p d x o M) (hI : Inv x) (b : Int) (h0 : 0 ≤ b) (h1 : b ≤ 255) (hN : o.length + x.held.length + 8 ≤ limB) (hM : M ≤ limB) (hs : x.st = 9) : s35 p d b := by
  obtain ⟨a1, a2, g1, g2, g3, a3, a4, a5, g4⟩ := hR
  obtain ⟨made, state, aKind, aRune, aFinal, aPrivate, aParams, aInter, aText, many, out⟩ := p
  obtain ⟨dmade, db⟩ := d
  obtain ⟨st, held, xpriv, xparams, xmany, xinter, xtext, xfin⟩ := x
  obtain ⟨i0, i1, i2, i3, i4, i5, i6, i7, i8, i9, i10, i11, i13⟩ := hI
  simp only at a1 a2 a3 a4 a5 g1 g2 g3 g4 hs i2 i3 i4 i5 i10 i11 i13 hN
  subst hs
  have hh : held = [] := i13 (by simp)
  subst hh
  simp only [ne_eq, Int.reduceEq, not_false_eq_true, forall_const, not_true_eq_false, false_implies, implies_true, or_true, true_or, or_false, false_or, or_self] at g4
  obtain ⟨k1, k2, k3, k4, k5, k6⟩ := g4
  subst a1 a2 a3 g1 g2 g3 k1 k2 k3 k4 k5 k6
  clear i0 i1 i6 i7 i8 i9 i13
  have q1 := prR_len ([] : List UInt8)
  have q2 := prP_len (([] : List UInt8) ++ [UInt8.ofNat b.toNat])
  have q3 := runes_len ([] : List UInt8).length ([] : List UInt8) (Nat.le_refl _)
  have q4 := putD_len (([] : List UInt8) ++ [UInt8.ofNat b.toNat]).length (([] : List UInt8) ++ [UInt8.ofNat b.toNat]) (Nat.le_refl _)
  simp only [List.length_append, List.length_cons, List.length_nil] at q2 q4
  have hlim : limB = 100000000 := rfl
  have hlim2 : lim = 1073741824 := rfl
  unfold s35
  simp only [decide_eq_true_eq, decide_false, decide_true, Bool.not_false, Bool.not_true, Bool.false_eq_true, Bool.not_eq_true', decide_eq_false_iff_not, Int.reduceEq, Int.reduceLE, Int.reduceLT, if_true, if_false, true_and, and_true, f29_eq, f30_eq, f48_eq, f49_eq, s50, s51, s52, s53, s67, s70, s71, f50, f51, f52, f53, f67, f68_eq, f69_eq, f70, f71, pair_eta, Bool.and_eq_true, Int.reduceSub, Int.reduceAdd, Bool.or_eq_true, dcut_full, List.take_length, toB_bD, bD_snocP _ b h0 h1]
  repeat' (first | exact trivial | (with_reducible refine And.intro ?_ ?_) | (with_reducible refine s_ite ?_ ?_) | (intro hc; first | (exfalso; omega) | skip))
  all_goals first
    | rfl
    | omega
    | exact okB_bD _
    | (refine s48_of ?_; simp only [List.length_append, List.length_cons, List.length_nil]; omega)
    | (refine s49_of ?_ ?_ <;> simp only [List.length_append, List.length_cons, List.length_nil] <;> omega)
    | (refine s29_of ?_ ?_ <;> simp only [rD, iD, List.length_map, List.length_append, List.length_cons, List.length_nil] <;> omega)
    | (refine s29_of ?_ ?_ <;> simp only [List.length_append, List.length_cons, List.length_nil] <;> omega)
    | (refine s30_of (okB_bD _) ?_; simp only [bD_length]; omega)
    | exact s69_of i10 (by omega) (by omega)
    | exact s68_of i11
    | exact s84_of (by omega) (by omega) a4 (by simp only; omega) (by simp only; omega) i5
    | (refine in_i32P _ ?_ ?_ <;> omega)
    | (refine in_i64P _ ?_ ?_ <;> omega)
    | (simp only [bD_length, List.length_append, List.length_cons, List.length_nil]; omega)
    | (simp; done)
    | (simp; omega)
    | skip
theorem P_ok10 {p : PS} {d : DS} {x : X} {o : List Dat} {M : Int} (hR : RelP p d x o M) (hI : Inv x) (b : Int) (h0 : 0 ≤ b) (h1 : b ≤ 255) (hN : o.length + x.held.length + 8 ≤ limB) (hM : M ≤ limB) (hs : x.st = 10) : s35 p d b := by
  obtain ⟨a1, a2, g1, g2, g3, a3, a4, a5, g4⟩ := hR
  obtain ⟨made, state, aKind, aRune, aFinal, aPrivate, aParams, aInter, aText, many, out⟩ := p
  obtain ⟨dmade, db⟩ := d
  obtain ⟨st, held, xpriv, xparams, xmany, xinter, xtext, xfin⟩ := x
  obtain ⟨i0, i1, i2, i3, i4, i5, i6, i7, i8, i9, i10, i11, i13⟩ := hI
  simp only at a1 a2 a3 a4 a5 g1 g2 g3 g4 hs i2 i3 i4 i5 i10 i11 i13 hN
  subst hs
  have hh : held = [] := i13 (by simp)
  subst hh
  simp only [ne_eq, Int.reduceEq, not_false_eq_true, forall_const, not_true_eq_false, false_implies, implies_true, or_true, true_or, or_false, false_or, or_self] at g4
  obtain ⟨k1, k2, k3, k4, k5, k6⟩ := g4
  subst a1 a2 a3 g1 g2 g3 k1 k2 k3 k4 k5 k6
  clear i0 i1 i6 i7 i8 i9 i13
  have q1 := prR_len ([] : List UInt8)
  have q2 := prP_len (([] : List UInt8) ++ [UInt8.ofNat b.toNat])
  have q3 := runes_len ([] : List UInt8).length ([] : List UInt8) (Nat.le_refl _)
  have q4 := putD_len (([] : List UInt8) ++ [UInt8.ofNat b.toNat]).length (([] : List UInt8) ++ [UInt8.ofNat b.toNat]) (Nat.le_refl _)
  simp only [List.length_append, List.length_cons, List.length_nil] at q2 q4
  have hlim : limB = 100000000 := rfl
  have hlim2 : lim = 1073741824 := rfl
  unfold s35
  simp only [decide_eq_true_eq, decide_false, decide_true, Bool.not_false, Bool.not_true, Bool.false_eq_true, Bool.not_eq_true', decide_eq_false_iff_not, Int.reduceEq, Int.reduceLE, Int.reduceLT, if_true, if_false, true_and, and_true, f29_eq, f30_eq, f48_eq, f49_eq, s50, s51, s52, s53, s67, s70, s71, f50, f51, f52, f53, f67, f68_eq, f69_eq, f70, f71, pair_eta, Bool.and_eq_true, Int.reduceSub, Int.reduceAdd, Bool.or_eq_true, dcut_full, List.take_length, toB_bD, bD_snocP _ b h0 h1]
  repeat' (first | exact trivial | (with_reducible refine And.intro ?_ ?_) | (with_reducible refine s_ite ?_ ?_) | (intro hc; first | (exfalso; omega) | skip))
  all_goals first
    | rfl
    | omega
    | exact okB_bD _
    | (refine s48_of ?_; simp only [List.length_append, List.length_cons, List.length_nil]; omega)
    | (refine s49_of ?_ ?_ <;> simp only [List.length_append, List.length_cons, List.length_nil] <;> omega)
    | (refine s29_of ?_ ?_ <;> simp only [rD, iD, List.length_map, List.length_append, List.length_cons, List.length_nil] <;> omega)
    | (refine s29_of ?_ ?_ <;> simp only [List.length_append, List.length_cons, List.length_nil] <;> omega)
    | (refine s30_of (okB_bD _) ?_; simp only [bD_length]; omega)
    | exact s69_of i10 (by omega) (by omega)
    | exact s68_of i11
    | exact s84_of (by omega) (by omega) a4 (by simp only; omega) (by simp only; omega) i5
    | (refine in_i32P _ ?_ ?_ <;> omega)
    | (refine in_i64P _ ?_ ?_ <;> omega)
    | (simp only [bD_length, List.length_append, List.length_cons, List.length_nil]; omega)
    | (simp; done)
    | (simp; omega)
    | skip
theorem P_ok11 {p : PS} {d : DS} {x : X} {o : List Dat} {M : Int} (hR : RelP p d x o M) (hI : Inv x) (b : Int) (h0 : 0 ≤ b) (h1 : b ≤ 255) (hN : o.length + x.held.length + 8 ≤ limB) (hM : M ≤ limB) (hs : x.st = 11) : s35 p d b := by
  obtain ⟨a1, a2, g1, g2, g3, a3, a4, a5, g4⟩ := hR
  obtain ⟨made, state, aKind, aRune, aFinal, aPrivate, aParams, aInter, aText, many, out⟩ := p
  obtain ⟨dmade, db⟩ := d
  obtain ⟨st, held, xpriv, xparams, xmany, xinter, xtext, xfin⟩ := x
  obtain ⟨i0, i1, i2, i3, i4, i5, i6, i7, i8, i9, i10, i11, i13⟩ := hI
  simp only at a1 a2 a3 a4 a5 g1 g2 g3 g4 hs i2 i3 i4 i5 i10 i11 i13 hN
  subst hs
  have hh : held = [] := i13 (by simp)
  subst hh
  simp only [ne_eq, Int.reduceEq, not_false_eq_true, forall_const, not_true_eq_false, false_implies, implies_true, or_true, true_or, or_false, false_or, or_self] at g4
  obtain ⟨k1, k2, k3, k4, k5, k6⟩ := g4
  subst a1 a2 a3 g1 g2 g3 k1 k2 k3 k4 k5 k6
  clear i0 i1 i6 i7 i8 i9 i13
  have q1 := prR_len ([] : List UInt8)
  have q2 := prP_len (([] : List UInt8) ++ [UInt8.ofNat b.toNat])
  have q3 := runes_len ([] : List UInt8).length ([] : List UInt8) (Nat.le_refl _)
  have q4 := putD_len (([] : List UInt8) ++ [UInt8.ofNat b.toNat]).length (([] : List UInt8) ++ [UInt8.ofNat b.toNat]) (Nat.le_refl _)
  simp only [List.length_append, List.length_cons, List.length_nil] at q2 q4
  have hlim : limB = 100000000 := rfl
  have hlim2 : lim = 1073741824 := rfl
  unfold s35
  simp only [decide_eq_true_eq, decide_false, decide_true, Bool.not_false, Bool.not_true, Bool.false_eq_true, Bool.not_eq_true', decide_eq_false_iff_not, Int.reduceEq, Int.reduceLE, Int.reduceLT, if_true, if_false, true_and, and_true, f29_eq, f30_eq, f48_eq, f49_eq, s50, s51, s52, s53, s67, s70, s71, f50, f51, f52, f53, f67, f68_eq, f69_eq, f70, f71, pair_eta, Bool.and_eq_true, Int.reduceSub, Int.reduceAdd, Bool.or_eq_true, dcut_full, List.take_length, toB_bD, bD_snocP _ b h0 h1]
  repeat' (first | exact trivial | (with_reducible refine And.intro ?_ ?_) | (with_reducible refine s_ite ?_ ?_) | (intro hc; first | (exfalso; omega) | skip))
  all_goals first
    | rfl
    | omega
    | exact okB_bD _
    | (refine s48_of ?_; simp only [List.length_append, List.length_cons, List.length_nil]; omega)
    | (refine s49_of ?_ ?_ <;> simp only [List.length_append, List.length_cons, List.length_nil] <;> omega)
    | (refine s29_of ?_ ?_ <;> simp only [rD, iD, List.length_map, List.length_append, List.length_cons, List.length_nil] <;> omega)
    | (refine s29_of ?_ ?_ <;> simp only [List.length_append, List.length_cons, List.length_nil] <;> omega)
    | (refine s30_of (okB_bD _) ?_; simp only [bD_length]; omega)
    | exact s69_of i10 (by omega) (by omega)
    | exact s68_of i11
    | exact s84_of (by omega) (by omega) a4 (by simp only; omega) (by simp only; omega) i5
    | (refine in_i32P _ ?_ ?_ <;> omega)
    | (refine in_i64P _ ?_ ?_ <;> omega)
    | (simp only [bD_length, List.length_append, List.length_cons, List.length_nil]; omega)
    | (simp; done)
    | (simp; omega)
    | skip
theorem P_ok12 {p : PS} {d : DS} {x : X} {o : List Dat} {M : Int} (hR : RelP p d x o M) (hI : Inv x) (b : Int) (h0 : 0 ≤ b) (h1 : b ≤ 255) (hN : o.length + x.held.length + 8 ≤ limB) (hM : M ≤ limB) (hs : x.st = 12) : s35 p d b := by
  obtain ⟨a1, a2, g1, g2, g3, a3, a4, a5, g4⟩ := hR
  obtain ⟨made, state, aKind, aRune, aFinal, aPrivate, aParams, aInter, aText, many, out⟩ := p
  obtain ⟨dmade, db⟩ := d
  obtain ⟨st, held, xpriv, xparams, xmany, xinter, xtext, xfin⟩ := x
  obtain ⟨i0, i1, i2, i3, i4, i5, i6, i7, i8, i9, i10, i11, i13⟩ := hI
  simp only at a1 a2 a3 a4 a5 g1 g2 g3 g4 hs i2 i3 i4 i5 i10 i11 i13 hN
  subst hs
  have hh : held = [] := i13 (by simp)
  subst hh
  simp only [ne_eq, Int.reduceEq, not_false_eq_true, forall_const, not_true_eq_false, false_implies, implies_true, or_true, true_or, or_false, false_or, or_self] at g4
  obtain ⟨k1, k2, k3, k4, k5, k6⟩ := g4
  subst a1 a2 a3 g1 g2 g3 k1 k2 k3 k4 k5 k6
  clear i0 i1 i6 i7 i8 i9 i13
  have q1 := prR_len ([] : List UInt8)
  have q2 := prP_len (([] : List UInt8) ++ [UInt8.ofNat b.toNat])
  have q3 := runes_len ([] : List UInt8).length ([] : List UInt8) (Nat.le_refl _)
  have q4 := putD_len (([] : List UInt8) ++ [UInt8.ofNat b.toNat]).length (([] : List UInt8) ++ [UInt8.ofNat b.toNat]) (Nat.le_refl _)
  simp only [List.length_append, List.length_cons, List.length_nil] at q2 q4
  have hlim : limB = 100000000 := rfl
  have hlim2 : lim = 1073741824 := rfl
  unfold s35
  simp only [decide_eq_true_eq, decide_false, decide_true, Bool.not_false, Bool.not_true, Bool.false_eq_true, Bool.not_eq_true', decide_eq_false_iff_not, Int.reduceEq, Int.reduceLE, Int.reduceLT, if_true, if_false, true_and, and_true, f29_eq, f30_eq, f48_eq, f49_eq, s50, s51, s52, s53, s67, s70, s71, f50, f51, f52, f53, f67, f68_eq, f69_eq, f70, f71, pair_eta, Bool.and_eq_true, Int.reduceSub, Int.reduceAdd, Bool.or_eq_true, dcut_full, List.take_length, toB_bD, bD_snocP _ b h0 h1]
  repeat' (first | exact trivial | (with_reducible refine And.intro ?_ ?_) | (with_reducible refine s_ite ?_ ?_) | (intro hc; first | (exfalso; omega) | skip))
  all_goals first
    | rfl
    | omega
    | exact okB_bD _
    | (refine s48_of ?_; simp only [List.length_append, List.length_cons, List.length_nil]; omega)
    | (refine s49_of ?_ ?_ <;> simp only [List.length_append, List.length_cons, List.length_nil] <;> omega)
    | (refine s29_of ?_ ?_ <;> simp only [rD, iD, List.length_map, List.length_append, List.length_cons, List.length_nil] <;> omega)
    | (refine s29_of ?_ ?_ <;> simp only [List.length_append, List.length_cons, List.length_nil] <;> omega)
    | (refine s30_of (okB_bD _) ?_; simp only [bD_length]; omega)
    | exact s69_of i10 (by omega) (by omega)
    | exact s68_of i11
    | exact s84_of (by omega) (by omega) a4 (by simp only; omega) (by simp only; omega) i5
    | (refine in_i32P _ ?_ ?_ <;> omega)
    | (refine in_i64P _ ?_ ?_ <;> omega)
    | (simp only [bD_length, List.length_append, List.length_cons, List.length_nil]; omega)
    | (simp; done)
    | (simp; omega)
    | skip
theorem P_ok13 {p : PS} {d : DS} {x : X} {o : List Dat} {M : Int} (hR : RelP p d x o M) (hI : Inv x) (b : Int) (h0 : 0 ≤ b) (h1 : b ≤ 255) (hN : o.length + x.held.length + 8 ≤ limB) (hM : M ≤ limB) (hs : x.st = 13) : s35 p d b := by
  obtain ⟨a1, a2, g1, g2, g3, a3, a4, a5, g4⟩ := hR
  obtain ⟨made, state, aKind, aRune, aFinal, aPrivate, aParams, aInter, aText, many, out⟩ := p
  obtain ⟨dmade, db⟩ := d
  obtain ⟨st, held, xpriv, xparams, xmany, xinter, xtext, xfin⟩ := x
  obtain ⟨i0, i1, i2, i3, i4, i5, i6, i7, i8, i9, i10, i11, i13⟩ := hI
  simp only at a1 a2 a3 a4 a5 g1 g2 g3 g4 hs i2 i3 i4 i5 i10 i11 i13 hN
  subst hs
  have hh : held = [] := i13 (by simp)
  subst hh
  simp only [ne_eq, Int.reduceEq, not_false_eq_true, forall_const, not_true_eq_false, false_implies, implies_true, or_true, true_or, or_false, false_or, or_self] at g4
  skip
  subst a1 a2 a3 g1 g2 g3 
  clear i0 i1 i6 i7 i8 i9 i13
  have q1 := prR_len ([] : List UInt8)
  have q2 := prP_len (([] : List UInt8) ++ [UInt8.ofNat b.toNat])
  have q3 := runes_len ([] : List UInt8).length ([] : List UInt8) (Nat.le_refl _)
  have q4 := putD_len (([] : List UInt8) ++ [UInt8.ofNat b.toNat]).length (([] : List UInt8) ++ [UInt8.ofNat b.toNat]) (Nat.le_refl _)
  simp only [List.length_append, List.length_cons, List.length_nil] at q2 q4
  have hlim : limB = 100000000 := rfl
  have hlim2 : lim = 1073741824 := rfl
  unfold s35
  simp only [decide_eq_true_eq, decide_false, decide_true, Bool.not_false, Bool.not_true, Bool.false_eq_true, Bool.not_eq_true', decide_eq_false_iff_not, Int.reduceEq, Int.reduceLE, Int.reduceLT, if_true, if_false, true_and, and_true, f29_eq, f30_eq, f48_eq, f49_eq, s50, s51, s52, s53, s67, s70, s71, f50, f51, f52, f53, f67, f68_eq, f69_eq, f70, f71, pair_eta, Bool.and_eq_true, Int.reduceSub, Int.reduceAdd, Bool.or_eq_true, dcut_full, List.take_length, toB_bD, bD_snocP _ b h0 h1]
  repeat' (first | exact trivial | (with_reducible refine And.intro ?_ ?_) | (with_reducible refine s_ite ?_ ?_) | (intro hc; first | (exfalso; omega) | skip))
  all_goals first
    | rfl
    | omega
    | exact okB_bD _
    | (refine s48_of ?_; simp only [List.length_append, List.length_cons, List.length_nil]; omega)
    | (refine s49_of ?_ ?_ <;> simp only [List.length_append, List.length_cons, List.length_nil] <;> omega)
    | (refine s29_of ?_ ?_ <;> simp only [rD, iD, List.length_map, List.length_append, List.length_cons, List.length_nil] <;> omega)
    | (refine s29_of ?_ ?_ <;> simp only [List.length_append, List.length_cons, List.length_nil] <;> omega)
    | (refine s30_of (okB_bD _) ?_; simp only [bD_length]; omega)
    | exact s69_of i10 (by omega) (by omega)
    | exact s68_of i11
    | exact s84_of (by omega) (by omega) a4 (by simp only; omega) (by simp only; omega) i5
    | (refine in_i32P _ ?_ ?_ <;> omega)
    | (refine in_i64P _ ?_ ?_ <;> omega)
    | (simp only [bD_length, List.length_append, List.length_cons, List.length_nil]; omega)
    | (simp; done)
    | (simp; omega)
    | skip
theorem P_ok {p : PS} {d : DS} {x : X} {o : List Dat} {M : Int} (hR : RelP p d x o M) (hI : Inv x) (b : Int) (h0 : 0 ≤ b) (h1 : b ≤ 255) (hN : o.length + x.held.length + 8 ≤ limB) (hM : M ≤ limB) : s35 p d b := by
  have a := hI.s0
  have c := hI.s1
  rcases (show x.st = 0 ∨ x.st = 1 ∨ x.st = 2 ∨ x.st = 3 ∨ x.st = 4 ∨ x.st = 5 ∨ x.st = 6 ∨ x.st = 7 ∨ x.st = 8 ∨ x.st = 9 ∨ x.st = 10 ∨ x.st = 11 ∨ x.st = 12 ∨ x.st = 13 by omega) with h | h | h | h | h | h | h | h | h | h | h | h | h | h
  · exact P_ok0 hR hI b h0 h1 hN hM h
  · exact P_ok1 hR hI b h0 h1 hN hM h
  · exact P_ok2 hR hI b h0 h1 hN hM h
  · exact P_ok3 hR hI b h0 h1 hN hM h
  · exact P_ok4 hR hI b h0 h1 hN hM h
  · exact P_ok5 hR hI b h0 h1 hN hM h
  · exact P_ok6 hR hI b h0 h1 hN hM h
  · exact P_ok7 hR hI b h0 h1 hN hM h
  · exact P_ok8 hR hI b h0 h1 hN hM h
  · exact P_ok9 hR hI b h0 h1 hN hM h
  · exact P_ok10 hR hI b h0 h1 hN hM h
  · exact P_ok11 hR hI b h0 h1 hN hM h
  · exact P_ok12 hR hI b h0 h1 hN hM h
  · exact P_ok13 hR hI b h0 h1 hN hM h
end Go.Proofs.YtojdmhfkgkfpaaaDoor

set_option linter.unusedVariables false
set_option linter.unusedSimpArgs false
set_option maxRecDepth 100000
namespace Go.Proofs.YtojdmhfkgkfpaaaDoor
open Go.AM Go.LTxt Go.LMem Go.RowKit
def steps : X → List Dat → X × List Dat
  | x, [] => (x, [])
  | x, b :: l => ((steps (step x b.toInt).1 l).1, (step x b.toInt).2 ++ (steps (step x b.toInt).1 l).2)
theorem steps_inv : ∀ {x : X} {l : List Dat}, Inv x → okB l → Inv (steps x l).1
  | x, [], h, _ => h
  | x, b :: l, h, hok => by
    have hb := okB_int hok b (List.mem_cons_self ..)
    simp only [steps]
    exact steps_inv (Inv_step h _ hb.1 hb.2) (by have := okB_drop hok 1; simpa using this)
theorem steps_cnt : ∀ {x : X} {l : List Dat}, Inv x → okB l → (steps x l).2.length + cnt (steps x l).1 ≤ cnt x + l.length
  | x, [], h, _ => by simp [steps]
  | x, b :: l, h, hok => by
    have hb := okB_int hok b (List.mem_cons_self ..)
    have h1 := cnt_step h b.toInt
    have h2 := steps_cnt (x := (step x b.toInt).1) (l := l) (Inv_step h _ hb.1 hb.2) (by have := okB_drop hok 1; simpa using this)
    simp only [steps, List.length_append, List.length_cons]
    omega
theorem steps_app : ∀ (x : X) (l m : List Dat), steps x (l ++ m) = ((steps (steps x l).1 m).1, (steps x l).2 ++ (steps (steps x l).1 m).2)
  | x, [], m => by simp [steps]
  | x, b :: l, m => by
    simp only [List.cons_append, steps, steps_app _ l m, List.append_assoc]
theorem in64 (k : Nat) (h : k ≤ 100000000) : inR .i64 ((k : Int) + 1) = true := in_i64P ((k : Int) + 1) (by omega) (by omega)
theorem r20_3 (b : List Dat) (hb : okB b) (E : RS → Prop) : ∀ (n : Nat) (r : RS) (x : X) (o : List Dat) (k : Nat), b.length - k < n → k ≤ b.length → RelR r x o → Inv x → o.length + cnt x + (b.length - k) + 8 ≤ limB → b.length ≤ limB →
    (∀ r', RelR r' (steps x (b.drop k)).1 (o ++ (steps x (b.drop k)).2) → E r') → l20_3 n r b k E
  | 0, r, x, o, k, hn, _, _, _, _, _, _ => by omega
  | n + 1, r, x, o, k, hn, hk, hR, hI, hN, hB, hE => by
    have hlim : limB = 100000000 := rfl
    unfold l20_3
    simp only [true_and, Int.toNat_natCast]
    refine br_mk (fun h2 => ?_) (fun h2 => ?_)
    · have hkl : k < b.length := by simpa using h2
      have hd := okB_int hb (b.getD k default) (by rw [List.getD_eq_getElem?_getD, List.getElem?_eq_getElem hkl]; exact List.getElem_mem hkl)
      refine req_mk (by simp; omega) (req_mk (by simpa using hkl) ?_)
      have hcx : x.held.length ≤ cnt x := by unfold cnt; omega
      refine v37 _ _ _ (R_ok hR hI _ hd.1 hd.2 (by omega)) ?_
      rw [in64 k (by omega), req_t]
      have hs := R_step hR hI _ hd.1 hd.2
      have hc := cnt_step hI (b.getD k default).toInt
      rw [show (k : Int) + 1 = ((k + 1 : Nat) : Int) by omega]
      refine r20_3 b hb E n _ (step x (b.getD k default).toInt).1 _ (k + 1) (by omega) (by omega) hs (Inv_step hI _ hd.1 hd.2) ?_ hB fun r' hr' => hE r' ?_
      · rw [List.length_append]; omega
      · rw [drop_cons hkl]
        simpa only [steps, List.append_assoc] using hr'
    · have hkl : b.length ≤ k := by have := of_decide_eq_false h2; omega
      refine hE r ?_
      rw [List.drop_of_length_le hkl]
      simpa [steps] using hR
theorem v20 {r : RS} {x : X} {o b : List Dat} {K : RS → Prop} (hR : RelR r x o) (hI : Inv x) (hb : okB b) (hN : cnt x + b.length + 8 ≤ limB) (hK : ∀ r', RelR r' (steps x b).1 (steps x b).2 → K r') : m20 r b K := by
  unfold m20
  simp only [true_and]
  refine ⟨b.length + 1, r20_3 b hb K _ _ x [] 0 (by omega) (by omega) ⟨hR.st, hR.db, rfl, hR.lv⟩ hI (by simp; omega) (by omega) fun r' hr' => hK r' (by simpa using hr')⟩
theorem r17_5 (b : List Dat) (hb : okB b) (E : PS → DS → Prop) : ∀ (n : Nat) (p : PS) (d : DS) (x : X) (o : List Dat) (M : Int) (k : Nat), b.length - k < n → k ≤ b.length → RelP p d x o M → Inv x → o.length + cnt x + (b.length - k) + 8 ≤ limB → M + 2 * (b.length - k : Nat) ≤ limB →
    (∀ p' d', RelP p' d' (steps x (b.drop k)).1 (o ++ (steps x (b.drop k)).2) (M + 2 * (b.length - k : Nat)) → E p' d') → b.length ≤ limB → l17_5 n p d b b.length k E
  | 0, p, d, x, o, M, k, hn, _, _, _, _, _, _, _ => by omega
  | n + 1, p, d, x, o, M, k, hn, hk, hR, hI, hN, hM, hE, hB => by
    have hlim : limB = 100000000 := rfl
    unfold l17_5
    simp only [true_and, Int.toNat_natCast]
    refine br_mk (fun h2 => ?_) (fun h2 => ?_)
    · have hkl : k < b.length := by simpa using h2
      have hd := okB_int hb (b.getD k default) (by rw [List.getD_eq_getElem?_getD, List.getElem?_eq_getElem hkl]; exact List.getElem_mem hkl)
      refine req_mk (by simp; omega) (req_mk (by simpa using hkl) ?_)
      have hcx : x.held.length ≤ cnt x := by unfold cnt; omega
      refine v35 _ _ _ _ (P_ok hR hI _ hd.1 hd.2 (by omega) (by omega)) ?_
      rw [in64 k (by omega), req_t]
      have hs := P_step hR hI _ hd.1 hd.2
      have hc := cnt_step hI (b.getD k default).toInt
      rw [show (k : Int) + 1 = ((k + 1 : Nat) : Int) by omega]
      refine r17_5 b hb E n _ _ (step x (b.getD k default).toInt).1 _ (M + 2) (k + 1) (by omega) (by omega) hs (Inv_step hI _ hd.1 hd.2) ?_ (by omega) (fun p' d' hr' => hE p' d' ?_) hB
      · rw [List.length_append]; omega
      · rw [drop_cons hkl]
        have e : M + 2 + 2 * ((b.length - (k + 1) : Nat) : Int) = M + 2 * ((b.length - k : Nat) : Int) := by omega
        rw [e] at hr'
        simpa only [steps, List.append_assoc] using hr'
    · have hkl : b.length ≤ k := by have := of_decide_eq_false h2; omega
      refine hE p d ?_
      rw [List.drop_of_length_le hkl, show b.length - k = 0 by omega]
      simpa [steps] using hR
theorem RelP.mono {p : PS} {d : DS} {x : X} {o : List Dat} {M M' : Int} (h : RelP p d x o M) (hM : M ≤ M') : RelP p d x o M' :=
  ⟨h.mp, h.md, h.st, h.b, h.out, h.ru, h.m0, by have := h.m1; omega, h.lv⟩
theorem RelP.out' {p : PS} {d : DS} {x : X} {o : List Dat} {M : Int} (h : RelP p d x o M) (o' : List Dat) : RelP { p with out := o' } d x o' M :=
  ⟨h.mp, h.md, h.st, h.b, rfl, h.ru, h.m0, h.m1, h.lv⟩
theorem v17 {p : PS} {d : DS} {x : X} {o b : List Dat} {M : Int} {K : PS → DS → List Dat → Prop} (hR : RelP p d x o M) (hI : Inv x) (hb : okB b) (hN : cnt x + b.length + 8 ≤ limB) (hM : M + 2 * b.length ≤ limB)
    (hK : ∀ p' d', RelP p' d' (steps x b).1 [] (M + 2 * b.length) → K p' d' (steps x b).2) : m17 p d b K := by
  unfold m17
  simp only [true_and, hR.mp, Bool.not_true, br_f]
  refine ⟨b.length + 1, r17_5 b hb _ _ _ _ x [] M 0 (by omega) (by omega) ?_ hI (by simp; omega) (by simpa using hM) (fun p' d' hr' => ?_) (by omega)⟩
  · have := hR.out' []
    rw [hR.mp] at this
    exact this
  · have h1 := hr'.out
    simp only [List.nil_append, List.drop_zero] at h1
    rw [h1]
    refine hK _ _ ?_
    have := hr'.out' []
    simpa using this
def isG (x : X) : Bool := decide (x.st = 0) && decide (x.held.length = 0)
theorem v21 {r : RS} {x : X} {o : List Dat} {K : RS → Bool → Prop} (hR : RelR r x o) (hK : K r (isG x)) : m21 r K := by
  unfold m21
  rw [hR.st, hR.db, bD_length]
  refine br_mk (fun h => ?_) (fun h => ?_)
  · have h' := of_decide_eq_true h
    have e : isG x = decide ((x.held.length : Int) = 0) := by simp [isG, h']
    rw [← e]; exact hK
  · have h' := of_decide_eq_false h
    have e : isG x = false := by simp [isG, h']
    rw [← e]; exact hK
theorem v18 {p : PS} {d : DS} {x : X} {o : List Dat} {M : Int} {K : PS → DS → Bool → Prop} (hR : RelP p d x o M) (hK : K p d (isG x)) : m18 p d K := by
  unfold m18
  rw [hR.st, hR.b, hR.mp, hR.md, bD_length]
  simp only [Bool.not_true, Bool.not_false, br_t, br_f]
  refine br_mk (fun h => ?_) (fun h => ?_)
  · have h' := of_decide_eq_true h
    have e : isG x = decide ((x.held.length : Int) = 0) := by simp [isG, h']
    rw [← e]; exact hK
  · have h' := of_decide_eq_false h
    have e : isG x = false := by simp [isG, h']
    rw [← e]; exact hK
def newP : PS := { made := true, state := 0, aKind := 0, aRune := 0, aFinal := 0, aPrivate := 0, aParams := [], aInter := e0, aText := e0, many := 0, out := [] }
def newD : DS := { made := true, b := [] }
def newR : RS := { state := 0, db := [], private_ := 0, params := [], many := 0, inter := e0, text := e0, final := 0, out := [] }
theorem newP_rel : RelP newP newD X0 [] 0 := ⟨rfl, rfl, rfl, rfl, rfl, rfl, Int.le_refl 0, Int.le_refl 0, fun h => absurd rfl h⟩
theorem newR_rel : RelR newR X0 [] := ⟨rfl, rfl, rfl, fun h => absurd rfl h⟩
theorem v16 {K : PS → DS → Prop} (hK : K newP newD) : m16 K := hK
theorem v19 {K : RS → Prop} (hK : K newR) : m19 K := hK
/-- all that bytes say -/
def allD (b : List Dat) : List Dat := (steps X0 b).2 ++ (if (steps X0 b).1.st = 0 then prD (rD (steps X0 b).1.held) else [])
theorem allD_len {b : List Dat} (hb : okB b) : (allD b).length ≤ b.length := by
  have h := steps_cnt Inv0 hb
  have e : cnt X0 = 0 := rfl
  unfold allD
  have := prR_len (steps X0 b).1.held
  unfold cnt at h
  split
  · rw [List.length_append]; simp [cnt, pend, X0] at *; omega
  · simp [cnt, pend, X0] at *; omega
theorem v14 {b : List Dat} {K : List Dat → Prop} (hb : okB b) (hN : b.length ≤ 24000000) (hK : K (allD b)) : m14 b K := by
  have hlim : limB = 100000000 := rfl
  have hcnt := steps_cnt Inv0 hb
  have e : cnt X0 = 0 := rfl
  have hal := allD_len hb
  unfold m14
  refine v16 ?_
  simp only [true_and]
  refine v17 newP_rel Inv0 hb (by rw [e]; omega) (by omega) fun p' d' hr' => ?_
  have hc2 : (steps X0 b).1.held.length ≤ cnt (steps X0 b).1 := by unfold cnt; omega
  unfold allD at hK hal
  refine br_mk (fun h => ?_) (fun h => ?_)
  · have h' := of_decide_eq_true h
    rw [hr'.st] at h'
    rw [if_pos h'] at hK hal
    refine v30 _ _ (s30_of (by rw [hr'.b]; exact okB_bD _) (by rw [hr'.b, bD_length]; omega)) ?_
    rw [f30_eq _ hr'.md]
    simp only [Nat.zero_add, Nat.le_refl, decide_true, req_t, List.take_length]
    have hp := prR_len (steps X0 b).1.held
    have hq := runes_len (steps X0 b).1.held.length (steps X0 b).1.held (Nat.le_refl _)
    refine v29 _ _ _ _ (s29_of (by rw [hr'.out]; simp) (by rw [hr'.b, toB_bD]; simp [rD]; omega)) ?_
    rw [f29_eq]
    simp only [Nat.zero_add, Nat.le_refl, decide_true, req_t, List.take_length, hr'.out, List.nil_append, dapp_full, hr'.b, toB_bD]
    refine req_mk (app_ok ?_) hK
    rw [List.length_append] at hal
    omega
  · have h' := of_decide_eq_false h
    rw [hr'.st] at h'
    rw [if_neg h', List.append_nil] at hK hal
    simp only [hr'.out, List.length_nil, List.take_nil, dapp_full, List.append_nil, Nat.zero_add, Nat.le_refl, decide_true, req_t]
    exact req_mk (app_ok (by simp; omega)) hK
theorem v15 {b : List Dat} {K : List Dat → Prop} (hb : okB b) (hN : b.length ≤ 24000000) (hK : K (allD b)) : m15 b K := by
  have hlim : limB = 100000000 := rfl
  have hcnt := steps_cnt Inv0 hb
  have e : cnt X0 = 0 := rfl
  have hal := allD_len hb
  unfold m15
  refine v19 ?_
  simp only [true_and]
  refine v20 newR_rel Inv0 hb (by rw [e]; omega) fun r' hr' => ?_
  have hc2 : (steps X0 b).1.held.length ≤ cnt (steps X0 b).1 := by unfold cnt; omega
  unfold allD at hK hal
  refine br_mk (fun h => ?_) (fun h => ?_)
  · have h' := of_decide_eq_true h
    rw [hr'.st] at h'
    rw [if_pos h'] at hK hal
    refine v32 _ _ (s32_of (by simp only [hr'.db]; exact okB_bD _) (by simp only [hr'.db, bD_length]; omega)) ?_
    rw [f32_eq]
    simp only [Nat.zero_add, Nat.le_refl, decide_true, req_t, List.take_length]
    have hp := prR_len (steps X0 b).1.held
    have hq := runes_len (steps X0 b).1.held.length (steps X0 b).1.held (Nat.le_refl _)
    refine v31 _ _ _ (s31_of (by simp) (by simp only [hr'.db, toB_bD]; simp [rD]; omega)) ?_
    rw [f31_eq]
    simp only [Nat.zero_add, Nat.le_refl, decide_true, req_t, List.take_length, hr'.out, List.nil_append, dapp_full, hr'.db, toB_bD]
    refine req_mk (app_ok ?_) hK
    rw [List.length_append] at hal
    omega
  · have h' := of_decide_eq_false h
    rw [hr'.st] at h'
    rw [if_neg h', List.append_nil] at hK
    rw [hr'.out]
    exact hK
end Go.Proofs.YtojdmhfkgkfpaaaDoor

set_option linter.unusedVariables false
set_option linter.unusedSimpArgs false
set_option maxRecDepth 100000
namespace Go.Proofs.YtojdmhfkgkfpaaaDoor
open Go.AM Go.LTxt Go.LMem Go.RowKit
set_option maxHeartbeats 0
def aKind (d : Dat) : Int := d.fst.toInt
def aParams (d : Dat) : List Dat := d.snd.snd.snd.snd.fst.toList
def aInter (d : Dat) : ByteArray := d.snd.snd.snd.snd.snd.fst.toStr
def aText (d : Dat) : ByteArray := d.snd.snd.snd.snd.snd.snd.fst.toStr
structure okAct (d : Dat) : Prop where
  k0 : 1 ≤ aKind d
  k1 : aKind d ≤ 6
  pl : (aParams d).length ≤ 16
  pr : ∀ n ∈ aParams d, -1 ≤ n.toInt ∧ n.toInt ≤ 65535
  it : (aInter d).size ≤ 2
  tx : (aText d).size ≤ 1024
theorem okAct_mk {k r f p : Int} {ps : List Dat} {i t : ByteArray} (h0 : 1 ≤ k) (h1 : k ≤ 6) (h2 : ps.length ≤ 16) (h3 : ∀ n ∈ ps, -1 ≤ n.toInt ∧ n.toInt ≤ 65535) (h4 : i.size ≤ 2) (h5 : t.size ≤ 1024) : okAct (act k r f p ps i t) := ⟨h0, h1, h2, h3, h4, h5⟩
theorem okAct_nil {k r f p : Int} {i t : ByteArray} (h0 : 1 ≤ k) (h1 : k ≤ 6) (h4 : i.size ≤ 2) (h5 : t.size ≤ 1024) : okAct (act k r f p [] i t) := okAct_mk h0 h1 (by simp) (fun n hn => by simp at hn) h4 h5
theorem e0_size : e0.size = 0 := rfl
theorem prD_ok (l : List Dat) : ∀ d ∈ prD l, okAct d := by
  intro d hd
  unfold prD at hd
  rw [List.mem_map] at hd
  obtain ⟨r, _, rfl⟩ := hd
  exact okAct_nil (by decide) (by decide) (by decide) (by decide)
structure AllOk (l : List Dat) : Prop where
  all : ∀ d ∈ l, okAct d
theorem AllOk.nil : AllOk [] := ⟨fun d hd => by simp at hd⟩
theorem AllOk.one {d : Dat} (h : okAct d) : AllOk [d] := ⟨fun x hx => by rw [List.mem_singleton] at hx; subst hx; exact h⟩
theorem AllOk.app {l m : List Dat} (h : AllOk l) (h2 : AllOk m) : AllOk (l ++ m) := ⟨fun d hd => (List.mem_append.1 hd).elim (h.all d) (h2.all d)⟩
theorem step_ok {x : X} (hI : Inv x) (b : Int) : AllOk (step x b).2 := by
  obtain ⟨i0, i1, i2, i3, i4, i5, i6, i7, i8, i9, i10, i11, i13⟩ := hI
  have e1 : AllOk [exec b] := .one (okAct_nil (by decide) (by decide) (by decide) (by decide))
  have e2 : AllOk (prD (rD x.held)) := ⟨prD_ok _⟩
  have e3 : ∀ f : Int, AllOk [act 3 0 f 0 [] x.inter e0] := fun f => .one (okAct_nil (by decide) (by decide) i10 (by decide))
  have e4 : ∀ f : Int, AllOk [act 4 0 f x.priv x.params x.inter e0] := fun f => .one (okAct_mk (by decide) (by decide) (by omega) i5 i10 (by decide))
  have e5 : AllOk [act 5 0 0 0 [] e0 x.text] := .one (okAct_nil (by decide) (by decide) (by decide) i11)
  have e6 : AllOk [act 6 0 x.fin x.priv x.params x.inter x.text] := .one (okAct_mk (by decide) (by decide) (by omega) i5 i10 i11)
  have e7 : ∀ f : Int, AllOk [act 3 0 f 0 [] e0 e0] := fun f => .one (okAct_nil (by decide) (by decide) (by decide) (by decide))
  have e8 : AllOk [act 1 b 0 0 [] e0 e0] := .one (okAct_nil (by decide) (by decide) (by decide) (by decide))
  unfold step
  repeat' (first | (with_reducible refine ite_p (P := fun z : X × List Dat => AllOk z.2) ?_ ?_) | (with_reducible refine ite_p (P := AllOk) ?_ ?_) | intro _)
  all_goals first
    | exact .nil
    | exact e1
    | exact e2
    | exact e2.app e1
    | exact e2.app e8
    | exact e3 b
    | exact e4 b
    | exact e5
    | exact e6
    | exact e7 b
    | exact ⟨prD_ok _⟩
    | (try simp only; repeat' (first | (with_reducible refine ite_p (P := AllOk) ?_ ?_) | intro _); all_goals first | exact e5 | exact e6 | exact .nil | exact e1)
theorem steps_ok : ∀ {x : X} {l : List Dat}, Inv x → okB l → AllOk (steps x l).2
  | x, [], h, _ => .nil
  | x, b :: l, h, hok => by
    have hb := okB_int hok b (List.mem_cons_self ..)
    simp only [steps]
    exact (step_ok h _).app (steps_ok (Inv_step h _ hb.1 hb.2) (by have := okB_drop hok 1; simpa using this))
theorem allD_ok {b : List Dat} (hb : okB b) : AllOk (allD b) := by
  unfold allD
  refine (steps_ok Inv0 hb).app ?_
  split
  · exact ⟨prD_ok _⟩
  · exact .nil
end Go.Proofs.YtojdmhfkgkfpaaaDoor

