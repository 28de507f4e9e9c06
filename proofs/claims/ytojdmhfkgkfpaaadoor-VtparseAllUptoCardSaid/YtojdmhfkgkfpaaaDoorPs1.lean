/- Layer 05, the program: its step is the machine's. -/
import Derived.Test.YtojdmhfkgkfpaaaDoorPg
set_option linter.unusedVariables false
set_option linter.unusedSimpArgs false
set_option maxRecDepth 100000
namespace Go.Proofs.YtojdmhfkgkfpaaaDoor
open Go.AM Go.LTxt Go.LMem Go.RowKit
set_option maxHeartbeats 0
theorem P_step0 {p : PS} {d : DS} {x : X} {o : List Dat} {M : Int} (hR : RelP p d x o M) (hI : Inv x) (b : Int) (h0 : 0 ≤ b) (h1 : b ≤ 255) (hs : x.st = 0) : RelQ (f35 p d b) o (step x b) (M + 2) := by
  obtain ⟨a1, a2, g1, g2, g3, a3, a4, a5, g4⟩ := hR
  obtain ⟨made, state, aKind, aRune, aFinal, aPrivate, aParams, aInter, aText, many, out⟩ := p
  obtain ⟨dmade, db⟩ := d
  obtain ⟨st, held, xpriv, xparams, xmany, xinter, xtext, xfin⟩ := x
  obtain ⟨i0, i1, i2, i3, i4, i5, i6, i7, i8, i9, i10, i11, i13⟩ := hI
  simp only at a1 a2 a3 a4 a5 g1 g2 g3 g4 hs i2 i3 i4 i6 i7 i8 i9 i13
  subst hs
  skip
  simp only [ne_eq, Int.reduceEq, not_false_eq_true, forall_const, not_true_eq_false, false_implies, implies_true, or_true, true_or, or_false, false_or, or_self] at g4 i6 i7 i8 i9
  skip
  subst a1 a2 a3 g1 g2 g3 
  skip
  clear i0 i1 i5 i6 i7 i8 i9 i10 i11 i13
  unfold f35 step
  simp only [decide_eq_true_eq, decide_false, decide_true, Bool.not_false, Bool.not_true, Bool.false_eq_true, Bool.not_eq_true', decide_eq_false_iff_not, Int.reduceEq, Int.reduceLE, Int.reduceLT, if_true, if_false, f29_eq, f30_eq, f48_eq, f49_eq, f50, f51, f52, f53, f67, f68_eq, f69_eq, f70, f71, pair_eta, Bool.and_eq_true, Int.reduceSub, Int.reduceAdd, Bool.or_eq_true, dcut_full, List.take_length, toB_bD, bD_snocP _ b h0 h1]
  repeat' (first | refine RelQ.l ?_ ?_ | refine RelQ.r ?_ ?_ | (intro hc; first | (exfalso; omega) | skip))
  all_goals first
    | (subst b; rw [f84_59]; refine ⟨?_, ?_, ?_, ?_, ?_, ?_, ?_, ?_, fun ha hb => ?_⟩ <;> (first | rfl | exact absurd rfl ha | exact absurd rfl hb | exact (nxQ_b _ a4).1 | (have := (nxQ_b _ a4).2; simp only; omega) | simp [X0, exec, e0, bD, act, nxP_cap, nxM_cap _ a4]))
    | (rw [f84_dg _ _ _ (by omega) (by omega) (by omega)]; refine ⟨?_, ?_, ?_, ?_, ?_, ?_, ?_, ?_, fun ha hb => ?_⟩ <;> (first | rfl | exact absurd rfl ha | exact absurd rfl hb | exact (dgM_b _ a4).1 | (have := (dgM_b _ a4).2; simp only; omega) | simp [X0, exec, e0, bD, act, dgP_cap, dgM_cap _ a4]))
    | (refine ⟨?_, ?_, ?_, ?_, ?_, ?_, ?_, ?_, fun ha hb => ?_⟩ <;> (first | rfl | exact absurd rfl ha | exact absurd rfl hb | (simp only; omega) | (simp [X0, exec, e0, bD, act, rD]; done) | (simp [X0, exec, e0, bD, act, rD]; omega)))
    | (have hp := prD_one b (by omega); refine ⟨?_, ?_, ?_, ?_, ?_, ?_, ?_, ?_, fun ha hb => ?_⟩ <;> (first | rfl | exact absurd rfl ha | exact absurd rfl hb | (simp only; omega) | (simp [X0, exec, e0, bD, act, rD, hp]; done) | (rw [hp]; simp [X0, exec, e0, bD, act, rD])))
theorem P_step1 {p : PS} {d : DS} {x : X} {o : List Dat} {M : Int} (hR : RelP p d x o M) (hI : Inv x) (b : Int) (h0 : 0 ≤ b) (h1 : b ≤ 255) (hs : x.st = 1) : RelQ (f35 p d b) o (step x b) (M + 2) := by
  obtain ⟨a1, a2, g1, g2, g3, a3, a4, a5, g4⟩ := hR
  obtain ⟨made, state, aKind, aRune, aFinal, aPrivate, aParams, aInter, aText, many, out⟩ := p
  obtain ⟨dmade, db⟩ := d
  obtain ⟨st, held, xpriv, xparams, xmany, xinter, xtext, xfin⟩ := x
  obtain ⟨i0, i1, i2, i3, i4, i5, i6, i7, i8, i9, i10, i11, i13⟩ := hI
  simp only at a1 a2 a3 a4 a5 g1 g2 g3 g4 hs i2 i3 i4 i6 i7 i8 i9 i13
  subst hs
  have hh : held = [] := i13 (by simp)
  subst hh
  simp only [ne_eq, Int.reduceEq, not_false_eq_true, forall_const, not_true_eq_false, false_implies, implies_true, or_true, true_or, or_false, false_or, or_self] at g4 i6 i7 i8 i9
  obtain ⟨k1, k2, k3, k4, k5, k6⟩ := g4
  subst a1 a2 a3 g1 g2 g3 k1 k2 k3 k4 k5 k6
  obtain ⟨rfl, rfl, z⟩ := i6
  subst i7
  subst i8
  subst i9
  clear i0 i1 i5  i10 i11 i13
  unfold f35 step
  simp only [decide_eq_true_eq, decide_false, decide_true, Bool.not_false, Bool.not_true, Bool.false_eq_true, Bool.not_eq_true', decide_eq_false_iff_not, Int.reduceEq, Int.reduceLE, Int.reduceLT, if_true, if_false, f29_eq, f30_eq, f48_eq, f49_eq, f50, f51, f52, f53, f67, f68_eq, f69_eq, f70, f71, pair_eta, Bool.and_eq_true, Int.reduceSub, Int.reduceAdd, Bool.or_eq_true, dcut_full, List.take_length, toB_bD, bD_snocP _ b h0 h1]
  repeat' (first | refine RelQ.l ?_ ?_ | refine RelQ.r ?_ ?_ | (intro hc; first | (exfalso; omega) | skip))
  all_goals first
    | (subst b; rw [f84_59]; refine ⟨?_, ?_, ?_, ?_, ?_, ?_, ?_, ?_, fun ha hb => ?_⟩ <;> (first | rfl | exact absurd rfl ha | exact absurd rfl hb | exact (nxQ_b _ a4).1 | (have := (nxQ_b _ a4).2; simp only; omega) | simp [X0, exec, e0, bD, act, nxP_cap, nxM_cap _ a4]))
    | (rw [f84_dg _ _ _ (by omega) (by omega) (by omega)]; refine ⟨?_, ?_, ?_, ?_, ?_, ?_, ?_, ?_, fun ha hb => ?_⟩ <;> (first | rfl | exact absurd rfl ha | exact absurd rfl hb | exact (dgM_b _ a4).1 | (have := (dgM_b _ a4).2; simp only; omega) | simp [X0, exec, e0, bD, act, dgP_cap, dgM_cap _ a4]))
    | (refine ⟨?_, ?_, ?_, ?_, ?_, ?_, ?_, ?_, fun ha hb => ?_⟩ <;> (first | rfl | exact absurd rfl ha | exact absurd rfl hb | (simp only; omega) | (simp [X0, exec, e0, bD, act, rD]; done) | (simp [X0, exec, e0, bD, act, rD]; omega)))
theorem P_step2 {p : PS} {d : DS} {x : X} {o : List Dat} {M : Int} (hR : RelP p d x o M) (hI : Inv x) (b : Int) (h0 : 0 ≤ b) (h1 : b ≤ 255) (hs : x.st = 2) : RelQ (f35 p d b) o (step x b) (M + 2) := by
  obtain ⟨a1, a2, g1, g2, g3, a3, a4, a5, g4⟩ := hR
  obtain ⟨made, state, aKind, aRune, aFinal, aPrivate, aParams, aInter, aText, many, out⟩ := p
  obtain ⟨dmade, db⟩ := d
  obtain ⟨st, held, xpriv, xparams, xmany, xinter, xtext, xfin⟩ := x
  obtain ⟨i0, i1, i2, i3, i4, i5, i6, i7, i8, i9, i10, i11, i13⟩ := hI
  simp only at a1 a2 a3 a4 a5 g1 g2 g3 g4 hs i2 i3 i4 i6 i7 i8 i9 i13
  subst hs
  have hh : held = [] := i13 (by simp)
  subst hh
  simp only [ne_eq, Int.reduceEq, not_false_eq_true, forall_const, not_true_eq_false, false_implies, implies_true, or_true, true_or, or_false, false_or, or_self] at g4 i6 i7 i8 i9
  obtain ⟨k1, k2, k3, k4, k5, k6⟩ := g4
  subst a1 a2 a3 g1 g2 g3 k1 k2 k3 k4 k5 k6
  obtain ⟨rfl, rfl, z⟩ := i6
  subst i8
  subst i9
  clear i0 i1 i5 i7 i10 i11 i13
  unfold f35 step
  simp only [decide_eq_true_eq, decide_false, decide_true, Bool.not_false, Bool.not_true, Bool.false_eq_true, Bool.not_eq_true', decide_eq_false_iff_not, Int.reduceEq, Int.reduceLE, Int.reduceLT, if_true, if_false, f29_eq, f30_eq, f48_eq, f49_eq, f50, f51, f52, f53, f67, f68_eq, f69_eq, f70, f71, pair_eta, Bool.and_eq_true, Int.reduceSub, Int.reduceAdd, Bool.or_eq_true, dcut_full, List.take_length, toB_bD, bD_snocP _ b h0 h1]
  repeat' (first | refine RelQ.l ?_ ?_ | refine RelQ.r ?_ ?_ | (intro hc; first | (exfalso; omega) | skip))
  all_goals first
    | (subst b; rw [f84_59]; refine ⟨?_, ?_, ?_, ?_, ?_, ?_, ?_, ?_, fun ha hb => ?_⟩ <;> (first | rfl | exact absurd rfl ha | exact absurd rfl hb | exact (nxQ_b _ a4).1 | (have := (nxQ_b _ a4).2; simp only; omega) | simp [X0, exec, e0, bD, act, nxP_cap, nxM_cap _ a4]))
    | (rw [f84_dg _ _ _ (by omega) (by omega) (by omega)]; refine ⟨?_, ?_, ?_, ?_, ?_, ?_, ?_, ?_, fun ha hb => ?_⟩ <;> (first | rfl | exact absurd rfl ha | exact absurd rfl hb | exact (dgM_b _ a4).1 | (have := (dgM_b _ a4).2; simp only; omega) | simp [X0, exec, e0, bD, act, dgP_cap, dgM_cap _ a4]))
    | (refine ⟨?_, ?_, ?_, ?_, ?_, ?_, ?_, ?_, fun ha hb => ?_⟩ <;> (first | rfl | exact absurd rfl ha | exact absurd rfl hb | (simp only; omega) | (simp [X0, exec, e0, bD, act, rD]; done) | (simp [X0, exec, e0, bD, act, rD]; omega)))
theorem P_step3 {p : PS} {d : DS} {x : X} {o : List Dat} {M : Int} (hR : RelP p d x o M) (hI : Inv x) (b : Int) (h0 : 0 ≤ b) (h1 : b ≤ 255) (hs : x.st = 3) : RelQ (f35 p d b) o (step x b) (M + 2) := by
  obtain ⟨a1, a2, g1, g2, g3, a3, a4, a5, g4⟩ := hR
  obtain ⟨made, state, aKind, aRune, aFinal, aPrivate, aParams, aInter, aText, many, out⟩ := p
  obtain ⟨dmade, db⟩ := d
  obtain ⟨st, held, xpriv, xparams, xmany, xinter, xtext, xfin⟩ := x
  obtain ⟨i0, i1, i2, i3, i4, i5, i6, i7, i8, i9, i10, i11, i13⟩ := hI
  simp only at a1 a2 a3 a4 a5 g1 g2 g3 g4 hs i2 i3 i4 i6 i7 i8 i9 i13
  subst hs
  have hh : held = [] := i13 (by simp)
  subst hh
  simp only [ne_eq, Int.reduceEq, not_false_eq_true, forall_const, not_true_eq_false, false_implies, implies_true, or_true, true_or, or_false, false_or, or_self] at g4 i6 i7 i8 i9
  obtain ⟨k1, k2, k3, k4, k5, k6⟩ := g4
  subst a1 a2 a3 g1 g2 g3 k1 k2 k3 k4 k5 k6
  subst i8
  subst i9
  clear i0 i1 i5 i6 i7 i10 i11 i13
  unfold f35 step
  simp only [decide_eq_true_eq, decide_false, decide_true, Bool.not_false, Bool.not_true, Bool.false_eq_true, Bool.not_eq_true', decide_eq_false_iff_not, Int.reduceEq, Int.reduceLE, Int.reduceLT, if_true, if_false, f29_eq, f30_eq, f48_eq, f49_eq, f50, f51, f52, f53, f67, f68_eq, f69_eq, f70, f71, pair_eta, Bool.and_eq_true, Int.reduceSub, Int.reduceAdd, Bool.or_eq_true, dcut_full, List.take_length, toB_bD, bD_snocP _ b h0 h1]
  repeat' (first | refine RelQ.l ?_ ?_ | refine RelQ.r ?_ ?_ | (intro hc; first | (exfalso; omega) | skip))
  all_goals first
    | (subst b; rw [f84_59]; refine ⟨?_, ?_, ?_, ?_, ?_, ?_, ?_, ?_, fun ha hb => ?_⟩ <;> (first | rfl | exact absurd rfl ha | exact absurd rfl hb | exact (nxQ_b _ a4).1 | (have := (nxQ_b _ a4).2; simp only; omega) | simp [X0, exec, e0, bD, act, nxP_cap, nxM_cap _ a4]))
    | (rw [f84_dg _ _ _ (by omega) (by omega) (by omega)]; refine ⟨?_, ?_, ?_, ?_, ?_, ?_, ?_, ?_, fun ha hb => ?_⟩ <;> (first | rfl | exact absurd rfl ha | exact absurd rfl hb | exact (dgM_b _ a4).1 | (have := (dgM_b _ a4).2; simp only; omega) | simp [X0, exec, e0, bD, act, dgP_cap, dgM_cap _ a4]))
    | (refine ⟨?_, ?_, ?_, ?_, ?_, ?_, ?_, ?_, fun ha hb => ?_⟩ <;> (first | rfl | exact absurd rfl ha | exact absurd rfl hb | (simp only; omega) | (simp [X0, exec, e0, bD, act, rD]; done) | (simp [X0, exec, e0, bD, act, rD]; omega)))
theorem P_step4 {p : PS} {d : DS} {x : X} {o : List Dat} {M : Int} (hR : RelP p d x o M) (hI : Inv x) (b : Int) (h0 : 0 ≤ b) (h1 : b ≤ 255) (hs : x.st = 4) : RelQ (f35 p d b) o (step x b) (M + 2) := by
  obtain ⟨a1, a2, g1, g2, g3, a3, a4, a5, g4⟩ := hR
  obtain ⟨made, state, aKind, aRune, aFinal, aPrivate, aParams, aInter, aText, many, out⟩ := p
  obtain ⟨dmade, db⟩ := d
  obtain ⟨st, held, xpriv, xparams, xmany, xinter, xtext, xfin⟩ := x
  obtain ⟨i0, i1, i2, i3, i4, i5, i6, i7, i8, i9, i10, i11, i13⟩ := hI
  simp only at a1 a2 a3 a4 a5 g1 g2 g3 g4 hs i2 i3 i4 i6 i7 i8 i9 i13
  subst hs
  have hh : held = [] := i13 (by simp)
  subst hh
  simp only [ne_eq, Int.reduceEq, not_false_eq_true, forall_const, not_true_eq_false, false_implies, implies_true, or_true, true_or, or_false, false_or, or_self] at g4 i6 i7 i8 i9
  obtain ⟨k1, k2, k3, k4, k5, k6⟩ := g4
  subst a1 a2 a3 g1 g2 g3 k1 k2 k3 k4 k5 k6
  subst i8
  subst i9
  clear i0 i1 i5 i6 i7 i10 i11 i13
  unfold f35 step
  simp only [decide_eq_true_eq, decide_false, decide_true, Bool.not_false, Bool.not_true, Bool.false_eq_true, Bool.not_eq_true', decide_eq_false_iff_not, Int.reduceEq, Int.reduceLE, Int.reduceLT, if_true, if_false, f29_eq, f30_eq, f48_eq, f49_eq, f50, f51, f52, f53, f67, f68_eq, f69_eq, f70, f71, pair_eta, Bool.and_eq_true, Int.reduceSub, Int.reduceAdd, Bool.or_eq_true, dcut_full, List.take_length, toB_bD, bD_snocP _ b h0 h1]
  repeat' (first | refine RelQ.l ?_ ?_ | refine RelQ.r ?_ ?_ | (intro hc; first | (exfalso; omega) | skip))
  all_goals first
    | (subst b; rw [f84_59]; refine ⟨?_, ?_, ?_, ?_, ?_, ?_, ?_, ?_, fun ha hb => ?_⟩ <;> (first | rfl | exact absurd rfl ha | exact absurd rfl hb | exact (nxQ_b _ a4).1 | (have := (nxQ_b _ a4).2; simp only; omega) | simp [X0, exec, e0, bD, act, nxP_cap, nxM_cap _ a4]))
    | (rw [f84_dg _ _ _ (by omega) (by omega) (by omega)]; refine ⟨?_, ?_, ?_, ?_, ?_, ?_, ?_, ?_, fun ha hb => ?_⟩ <;> (first | rfl | exact absurd rfl ha | exact absurd rfl hb | exact (dgM_b _ a4).1 | (have := (dgM_b _ a4).2; simp only; omega) | simp [X0, exec, e0, bD, act, dgP_cap, dgM_cap _ a4]))
    | (refine ⟨?_, ?_, ?_, ?_, ?_, ?_, ?_, ?_, fun ha hb => ?_⟩ <;> (first | rfl | exact absurd rfl ha | exact absurd rfl hb | (simp only; omega) | (simp [X0, exec, e0, bD, act, rD]; done) | (simp [X0, exec, e0, bD, act, rD]; omega)))
theorem P_step5 {p : PS} {d : DS} {x : X} {o : List Dat} {M : Int} (hR : RelP p d x o M) (hI : Inv x) (b : Int) (h0 : 0 ≤ b) (h1 : b ≤ 255) (hs : x.st = 5) : RelQ (f35 p d b) o (step x b) (M + 2) := by
  obtain ⟨a1, a2, g1, g2, g3, a3, a4, a5, g4⟩ := hR
  obtain ⟨made, state, aKind, aRune, aFinal, aPrivate, aParams, aInter, aText, many, out⟩ := p
  obtain ⟨dmade, db⟩ := d
  obtain ⟨st, held, xpriv, xparams, xmany, xinter, xtext, xfin⟩ := x
  obtain ⟨i0, i1, i2, i3, i4, i5, i6, i7, i8, i9, i10, i11, i13⟩ := hI
  simp only at a1 a2 a3 a4 a5 g1 g2 g3 g4 hs i2 i3 i4 i6 i7 i8 i9 i13
  subst hs
  have hh : held = [] := i13 (by simp)
  subst hh
  simp only [ne_eq, Int.reduceEq, not_false_eq_true, forall_const, not_true_eq_false, false_implies, implies_true, or_true, true_or, or_false, false_or, or_self] at g4 i6 i7 i8 i9
  obtain ⟨k1, k2, k3, k4, k5, k6⟩ := g4
  subst a1 a2 a3 g1 g2 g3 k1 k2 k3 k4 k5 k6
  subst i8
  subst i9
  clear i0 i1 i5 i6 i7 i10 i11 i13
  unfold f35 step
  simp only [decide_eq_true_eq, decide_false, decide_true, Bool.not_false, Bool.not_true, Bool.false_eq_true, Bool.not_eq_true', decide_eq_false_iff_not, Int.reduceEq, Int.reduceLE, Int.reduceLT, if_true, if_false, f29_eq, f30_eq, f48_eq, f49_eq, f50, f51, f52, f53, f67, f68_eq, f69_eq, f70, f71, pair_eta, Bool.and_eq_true, Int.reduceSub, Int.reduceAdd, Bool.or_eq_true, dcut_full, List.take_length, toB_bD, bD_snocP _ b h0 h1]
  repeat' (first | refine RelQ.l ?_ ?_ | refine RelQ.r ?_ ?_ | (intro hc; first | (exfalso; omega) | skip))
  all_goals first
    | (subst b; rw [f84_59]; refine ⟨?_, ?_, ?_, ?_, ?_, ?_, ?_, ?_, fun ha hb => ?_⟩ <;> (first | rfl | exact absurd rfl ha | exact absurd rfl hb | exact (nxQ_b _ a4).1 | (have := (nxQ_b _ a4).2; simp only; omega) | simp [X0, exec, e0, bD, act, nxP_cap, nxM_cap _ a4]))
    | (rw [f84_dg _ _ _ (by omega) (by omega) (by omega)]; refine ⟨?_, ?_, ?_, ?_, ?_, ?_, ?_, ?_, fun ha hb => ?_⟩ <;> (first | rfl | exact absurd rfl ha | exact absurd rfl hb | exact (dgM_b _ a4).1 | (have := (dgM_b _ a4).2; simp only; omega) | simp [X0, exec, e0, bD, act, dgP_cap, dgM_cap _ a4]))
    | (refine ⟨?_, ?_, ?_, ?_, ?_, ?_, ?_, ?_, fun ha hb => ?_⟩ <;> (first | rfl | exact absurd rfl ha | exact absurd rfl hb | (simp only; omega) | (simp [X0, exec, e0, bD, act, rD]; done) | (simp [X0, exec, e0, bD, act, rD]; omega)))
theorem P_step6 {p : PS} {d : DS} {x : X} {o : List Dat} {M : Int} (hR : RelP p d x o M) (hI : Inv x) (b : Int) (h0 : 0 ≤ b) (h1 : b ≤ 255) (hs : x.st = 6) : RelQ (f35 p d b) o (step x b) (M + 2) := by
  obtain ⟨a1, a2, g1, g2, g3, a3, a4, a5, g4⟩ := hR
  obtain ⟨made, state, aKind, aRune, aFinal, aPrivate, aParams, aInter, aText, many, out⟩ := p
  obtain ⟨dmade, db⟩ := d
  obtain ⟨st, held, xpriv, xparams, xmany, xinter, xtext, xfin⟩ := x
  obtain ⟨i0, i1, i2, i3, i4, i5, i6, i7, i8, i9, i10, i11, i13⟩ := hI
  simp only at a1 a2 a3 a4 a5 g1 g2 g3 g4 hs i2 i3 i4 i6 i7 i8 i9 i13
  subst hs
  have hh : held = [] := i13 (by simp)
  subst hh
  simp only [ne_eq, Int.reduceEq, not_false_eq_true, forall_const, not_true_eq_false, false_implies, implies_true, or_true, true_or, or_false, false_or, or_self] at g4 i6 i7 i8 i9
  obtain ⟨k1, k2, k3, k4, k5, k6⟩ := g4
  subst a1 a2 a3 g1 g2 g3 k1 k2 k3 k4 k5 k6
  subst i8
  subst i9
  clear i0 i1 i5 i6 i7 i10 i11 i13
  unfold f35 step
  simp only [decide_eq_true_eq, decide_false, decide_true, Bool.not_false, Bool.not_true, Bool.false_eq_true, Bool.not_eq_true', decide_eq_false_iff_not, Int.reduceEq, Int.reduceLE, Int.reduceLT, if_true, if_false, f29_eq, f30_eq, f48_eq, f49_eq, f50, f51, f52, f53, f67, f68_eq, f69_eq, f70, f71, pair_eta, Bool.and_eq_true, Int.reduceSub, Int.reduceAdd, Bool.or_eq_true, dcut_full, List.take_length, toB_bD, bD_snocP _ b h0 h1]
  repeat' (first | refine RelQ.l ?_ ?_ | refine RelQ.r ?_ ?_ | (intro hc; first | (exfalso; omega) | skip))
  all_goals first
    | (subst b; rw [f84_59]; refine ⟨?_, ?_, ?_, ?_, ?_, ?_, ?_, ?_, fun ha hb => ?_⟩ <;> (first | rfl | exact absurd rfl ha | exact absurd rfl hb | exact (nxQ_b _ a4).1 | (have := (nxQ_b _ a4).2; simp only; omega) | simp [X0, exec, e0, bD, act, nxP_cap, nxM_cap _ a4]))
    | (rw [f84_dg _ _ _ (by omega) (by omega) (by omega)]; refine ⟨?_, ?_, ?_, ?_, ?_, ?_, ?_, ?_, fun ha hb => ?_⟩ <;> (first | rfl | exact absurd rfl ha | exact absurd rfl hb | exact (dgM_b _ a4).1 | (have := (dgM_b _ a4).2; simp only; omega) | simp [X0, exec, e0, bD, act, dgP_cap, dgM_cap _ a4]))
    | (refine ⟨?_, ?_, ?_, ?_, ?_, ?_, ?_, ?_, fun ha hb => ?_⟩ <;> (first | rfl | exact absurd rfl ha | exact absurd rfl hb | (simp only; omega) | (simp [X0, exec, e0, bD, act, rD]; done) | (simp [X0, exec, e0, bD, act, rD]; omega)))
theorem P_step7 {p : PS} {d : DS} {x : X} {o : List Dat} {M : Int} (hR : RelP p d x o M) (hI : Inv x) (b : Int) (h0 : 0 ≤ b) (h1 : b ≤ 255) (hs : x.st = 7) : RelQ (f35 p d b) o (step x b) (M + 2) := by
  obtain ⟨a1, a2, g1, g2, g3, a3, a4, a5, g4⟩ := hR
  obtain ⟨made, state, aKind, aRune, aFinal, aPrivate, aParams, aInter, aText, many, out⟩ := p
  obtain ⟨dmade, db⟩ := d
  obtain ⟨st, held, xpriv, xparams, xmany, xinter, xtext, xfin⟩ := x
  obtain ⟨i0, i1, i2, i3, i4, i5, i6, i7, i8, i9, i10, i11, i13⟩ := hI
  simp only at a1 a2 a3 a4 a5 g1 g2 g3 g4 hs i2 i3 i4 i6 i7 i8 i9 i13
  subst hs
  have hh : held = [] := i13 (by simp)
  subst hh
  simp only [ne_eq, Int.reduceEq, not_false_eq_true, forall_const, not_true_eq_false, false_implies, implies_true, or_true, true_or, or_false, false_or, or_self] at g4 i6 i7 i8 i9
  obtain ⟨k1, k2, k3, k4, k5, k6⟩ := g4
  subst a1 a2 a3 g1 g2 g3 k1 k2 k3 k4 k5 k6
  subst i8
  subst i9
  clear i0 i1 i5 i6 i7 i10 i11 i13
  unfold f35 step
  simp only [decide_eq_true_eq, decide_false, decide_true, Bool.not_false, Bool.not_true, Bool.false_eq_true, Bool.not_eq_true', decide_eq_false_iff_not, Int.reduceEq, Int.reduceLE, Int.reduceLT, if_true, if_false, f29_eq, f30_eq, f48_eq, f49_eq, f50, f51, f52, f53, f67, f68_eq, f69_eq, f70, f71, pair_eta, Bool.and_eq_true, Int.reduceSub, Int.reduceAdd, Bool.or_eq_true, dcut_full, List.take_length, toB_bD, bD_snocP _ b h0 h1]
  repeat' (first | refine RelQ.l ?_ ?_ | refine RelQ.r ?_ ?_ | (intro hc; first | (exfalso; omega) | skip))
  all_goals first
    | (subst b; rw [f84_59]; refine ⟨?_, ?_, ?_, ?_, ?_, ?_, ?_, ?_, fun ha hb => ?_⟩ <;> (first | rfl | exact absurd rfl ha | exact absurd rfl hb | exact (nxQ_b _ a4).1 | (have := (nxQ_b _ a4).2; simp only; omega) | simp [X0, exec, e0, bD, act, nxP_cap, nxM_cap _ a4]))
    | (rw [f84_dg _ _ _ (by omega) (by omega) (by omega)]; refine ⟨?_, ?_, ?_, ?_, ?_, ?_, ?_, ?_, fun ha hb => ?_⟩ <;> (first | rfl | exact absurd rfl ha | exact absurd rfl hb | exact (dgM_b _ a4).1 | (have := (dgM_b _ a4).2; simp only; omega) | simp [X0, exec, e0, bD, act, dgP_cap, dgM_cap _ a4]))
    | (refine ⟨?_, ?_, ?_, ?_, ?_, ?_, ?_, ?_, fun ha hb => ?_⟩ <;> (first | rfl | exact absurd rfl ha | exact absurd rfl hb | (simp only; omega) | (simp [X0, exec, e0, bD, act, rD]; done) | (simp [X0, exec, e0, bD, act, rD]; omega)))
theorem P_step8 {p : PS} {d : DS} {x : X} {o : List Dat} {M : Int} (hR : RelP p d x o M) (hI : Inv x) (b : Int) (h0 : 0 ≤ b) (h1 : b ≤ 255) (hs : x.st = 8) : RelQ (f35 p d b) o (step x b) (M + 2) := by
  obtain ⟨a1, a2, g1, g2, g3, a3, a4, a5, g4⟩ := hR
  obtain ⟨made, state, aKind, aRune, aFinal, aPrivate, aParams, aInter, aText, many, out⟩ := p
  obtain ⟨dmade, db⟩ := d
  obtain ⟨st, held, xpriv, xparams, xmany, xinter, xtext, xfin⟩ := x
  obtain ⟨i0, i1, i2, i3, i4, i5, i6, i7, i8, i9, i10, i11, i13⟩ := hI
  simp only at a1 a2 a3 a4 a5 g1 g2 g3 g4 hs i2 i3 i4 i6 i7 i8 i9 i13
  subst hs
  have hh : held = [] := i13 (by simp)
  subst hh
  simp only [ne_eq, Int.reduceEq, not_false_eq_true, forall_const, not_true_eq_false, false_implies, implies_true, or_true, true_or, or_false, false_or, or_self] at g4 i6 i7 i8 i9
  obtain ⟨k1, k2, k3, k4, k5, k6⟩ := g4
  subst a1 a2 a3 g1 g2 g3 k1 k2 k3 k4 k5 k6
  subst i8
  subst i9
  clear i0 i1 i5 i6 i7 i10 i11 i13
  unfold f35 step
  simp only [decide_eq_true_eq, decide_false, decide_true, Bool.not_false, Bool.not_true, Bool.false_eq_true, Bool.not_eq_true', decide_eq_false_iff_not, Int.reduceEq, Int.reduceLE, Int.reduceLT, if_true, if_false, f29_eq, f30_eq, f48_eq, f49_eq, f50, f51, f52, f53, f67, f68_eq, f69_eq, f70, f71, pair_eta, Bool.and_eq_true, Int.reduceSub, Int.reduceAdd, Bool.or_eq_true, dcut_full, List.take_length, toB_bD, bD_snocP _ b h0 h1]
  repeat' (first | refine RelQ.l ?_ ?_ | refine RelQ.r ?_ ?_ | (intro hc; first | (exfalso; omega) | skip))
  all_goals first
    | (subst b; rw [f84_59]; refine ⟨?_, ?_, ?_, ?_, ?_, ?_, ?_, ?_, fun ha hb => ?_⟩ <;> (first | rfl | exact absurd rfl ha | exact absurd rfl hb | exact (nxQ_b _ a4).1 | (have := (nxQ_b _ a4).2; simp only; omega) | simp [X0, exec, e0, bD, act, nxP_cap, nxM_cap _ a4]))
    | (rw [f84_dg _ _ _ (by omega) (by omega) (by omega)]; refine ⟨?_, ?_, ?_, ?_, ?_, ?_, ?_, ?_, fun ha hb => ?_⟩ <;> (first | rfl | exact absurd rfl ha | exact absurd rfl hb | exact (dgM_b _ a4).1 | (have := (dgM_b _ a4).2; simp only; omega) | simp [X0, exec, e0, bD, act, dgP_cap, dgM_cap _ a4]))
    | (refine ⟨?_, ?_, ?_, ?_, ?_, ?_, ?_, ?_, fun ha hb => ?_⟩ <;> (first | rfl | exact absurd rfl ha | exact absurd rfl hb | (simp only; omega) | (simp [X0, exec, e0, bD, act, rD]; done) | (simp [X0, exec, e0, bD, act, rD]; omega)))
theorem P_step9 {p : PS} {d : DS} {x : X} {o : List Dat} {M : Int} (hR : RelP p d x o M) (hI : Inv x) (b : Int) (h0 : 0 ≤ b) (h1 : b ≤ 255) (hs : x.st = 9) : RelQ (f35 p d b) o (step x b) (M + 2) := by
  obtain ⟨a1, a2, g1, g2, g3, a3, a4, a5, g4⟩ := hR
  obtain ⟨made, state, aKind, aRune, aFinal, aPrivate, aParams, aInter, aText, many, out⟩ := p
  obtain ⟨dmade, db⟩ := d
  obtain ⟨st, held, xpriv, xparams, xmany, xinter, xtext, xfin⟩ := x
  obtain ⟨i0, i1, i2, i3, i4, i5, i6, i7, i8, i9, i10, i11, i13⟩ := hI
  simp only at a1 a2 a3 a4 a5 g1 g2 g3 g4 hs i2 i3 i4 i6 i7 i8 i9 i13
  subst hs
  have hh : held = [] := i13 (by simp)
  subst hh
  simp only [ne_eq, Int.reduceEq, not_false_eq_true, forall_const, not_true_eq_false, false_implies, implies_true, or_true, true_or, or_false, false_or, or_self] at g4 i6 i7 i8 i9
  obtain ⟨k1, k2, k3, k4, k5, k6⟩ := g4
  subst a1 a2 a3 g1 g2 g3 k1 k2 k3 k4 k5 k6
  subst i8
  subst i9
  clear i0 i1 i5 i6 i7 i10 i11 i13
  unfold f35 step
  simp only [decide_eq_true_eq, decide_false, decide_true, Bool.not_false, Bool.not_true, Bool.false_eq_true, Bool.not_eq_true', decide_eq_false_iff_not, Int.reduceEq, Int.reduceLE, Int.reduceLT, if_true, if_false, f29_eq, f30_eq, f48_eq, f49_eq, f50, f51, f52, f53, f67, f68_eq, f69_eq, f70, f71, pair_eta, Bool.and_eq_true, Int.reduceSub, Int.reduceAdd, Bool.or_eq_true, dcut_full, List.take_length, toB_bD, bD_snocP _ b h0 h1]
  repeat' (first | refine RelQ.l ?_ ?_ | refine RelQ.r ?_ ?_ | (intro hc; first | (exfalso; omega) | skip))
  all_goals first
    | (subst b; rw [f84_59]; refine ⟨?_, ?_, ?_, ?_, ?_, ?_, ?_, ?_, fun ha hb => ?_⟩ <;> (first | rfl | exact absurd rfl ha | exact absurd rfl hb | exact (nxQ_b _ a4).1 | (have := (nxQ_b _ a4).2; simp only; omega) | simp [X0, exec, e0, bD, act, nxP_cap, nxM_cap _ a4]))
    | (rw [f84_dg _ _ _ (by omega) (by omega) (by omega)]; refine ⟨?_, ?_, ?_, ?_, ?_, ?_, ?_, ?_, fun ha hb => ?_⟩ <;> (first | rfl | exact absurd rfl ha | exact absurd rfl hb | exact (dgM_b _ a4).1 | (have := (dgM_b _ a4).2; simp only; omega) | simp [X0, exec, e0, bD, act, dgP_cap, dgM_cap _ a4]))
    | (refine ⟨?_, ?_, ?_, ?_, ?_, ?_, ?_, ?_, fun ha hb => ?_⟩ <;> (first | rfl | exact absurd rfl ha | exact absurd rfl hb | (simp only; omega) | (simp [X0, exec, e0, bD, act, rD]; done) | (simp [X0, exec, e0, bD, act, rD]; omega)))
theorem P_step10 {p : PS} {d : DS} {x : X} {o : List Dat} {M : Int} (hR : RelP p d x o M) (hI : Inv x) (b : Int) (h0 : 0 ≤ b) (h1 : b ≤ 255) (hs : x.st = 10) : RelQ (f35 p d b) o (step x b) (M + 2) := by
  obtain ⟨a1, a2, g1, g2, g3, a3, a4, a5, g4⟩ := hR
  obtain ⟨made, state, aKind, aRune, aFinal, aPrivate, aParams, aInter, aText, many, out⟩ := p
  obtain ⟨dmade, db⟩ := d
  obtain ⟨st, held, xpriv, xparams, xmany, xinter, xtext, xfin⟩ := x
  obtain ⟨i0, i1, i2, i3, i4, i5, i6, i7, i8, i9, i10, i11, i13⟩ := hI
  simp only at a1 a2 a3 a4 a5 g1 g2 g3 g4 hs i2 i3 i4 i6 i7 i8 i9 i13
  subst hs
  have hh : held = [] := i13 (by simp)
  subst hh
  simp only [ne_eq, Int.reduceEq, not_false_eq_true, forall_const, not_true_eq_false, false_implies, implies_true, or_true, true_or, or_false, false_or, or_self] at g4 i6 i7 i8 i9
  obtain ⟨k1, k2, k3, k4, k5, k6⟩ := g4
  subst a1 a2 a3 g1 g2 g3 k1 k2 k3 k4 k5 k6
  subst i8
  subst i9
  clear i0 i1 i5 i6 i7 i10 i11 i13
  unfold f35 step
  simp only [decide_eq_true_eq, decide_false, decide_true, Bool.not_false, Bool.not_true, Bool.false_eq_true, Bool.not_eq_true', decide_eq_false_iff_not, Int.reduceEq, Int.reduceLE, Int.reduceLT, if_true, if_false, f29_eq, f30_eq, f48_eq, f49_eq, f50, f51, f52, f53, f67, f68_eq, f69_eq, f70, f71, pair_eta, Bool.and_eq_true, Int.reduceSub, Int.reduceAdd, Bool.or_eq_true, dcut_full, List.take_length, toB_bD, bD_snocP _ b h0 h1]
  repeat' (first | refine RelQ.l ?_ ?_ | refine RelQ.r ?_ ?_ | (intro hc; first | (exfalso; omega) | skip))
  all_goals first
    | (subst b; rw [f84_59]; refine ⟨?_, ?_, ?_, ?_, ?_, ?_, ?_, ?_, fun ha hb => ?_⟩ <;> (first | rfl | exact absurd rfl ha | exact absurd rfl hb | exact (nxQ_b _ a4).1 | (have := (nxQ_b _ a4).2; simp only; omega) | simp [X0, exec, e0, bD, act, nxP_cap, nxM_cap _ a4]))
    | (rw [f84_dg _ _ _ (by omega) (by omega) (by omega)]; refine ⟨?_, ?_, ?_, ?_, ?_, ?_, ?_, ?_, fun ha hb => ?_⟩ <;> (first | rfl | exact absurd rfl ha | exact absurd rfl hb | exact (dgM_b _ a4).1 | (have := (dgM_b _ a4).2; simp only; omega) | simp [X0, exec, e0, bD, act, dgP_cap, dgM_cap _ a4]))
    | (refine ⟨?_, ?_, ?_, ?_, ?_, ?_, ?_, ?_, fun ha hb => ?_⟩ <;> (first | rfl | exact absurd rfl ha | exact absurd rfl hb | (simp only; omega) | (simp [X0, exec, e0, bD, act, rD]; done) | (simp [X0, exec, e0, bD, act, rD]; omega)))
theorem P_step11 {p : PS} {d : DS} {x : X} {o : List Dat} {M : Int} (hR : RelP p d x o M) (hI : Inv x) (b : Int) (h0 : 0 ≤ b) (h1 : b ≤ 255) (hs : x.st = 11) : RelQ (f35 p d b) o (step x b) (M + 2) := by
  obtain ⟨a1, a2, g1, g2, g3, a3, a4, a5, g4⟩ := hR
  obtain ⟨made, state, aKind, aRune, aFinal, aPrivate, aParams, aInter, aText, many, out⟩ := p
  obtain ⟨dmade, db⟩ := d
  obtain ⟨st, held, xpriv, xparams, xmany, xinter, xtext, xfin⟩ := x
  obtain ⟨i0, i1, i2, i3, i4, i5, i6, i7, i8, i9, i10, i11, i13⟩ := hI
  simp only at a1 a2 a3 a4 a5 g1 g2 g3 g4 hs i2 i3 i4 i6 i7 i8 i9 i13
  subst hs
  have hh : held = [] := i13 (by simp)
  subst hh
  simp only [ne_eq, Int.reduceEq, not_false_eq_true, forall_const, not_true_eq_false, false_implies, implies_true, or_true, true_or, or_false, false_or, or_self] at g4 i6 i7 i8 i9
  obtain ⟨k1, k2, k3, k4, k5, k6⟩ := g4
  subst a1 a2 a3 g1 g2 g3 k1 k2 k3 k4 k5 k6
  skip
  clear i0 i1 i5 i6 i7 i8 i9 i10 i11 i13
  unfold f35 step
  simp only [decide_eq_true_eq, decide_false, decide_true, Bool.not_false, Bool.not_true, Bool.false_eq_true, Bool.not_eq_true', decide_eq_false_iff_not, Int.reduceEq, Int.reduceLE, Int.reduceLT, if_true, if_false, f29_eq, f30_eq, f48_eq, f49_eq, f50, f51, f52, f53, f67, f68_eq, f69_eq, f70, f71, pair_eta, Bool.and_eq_true, Int.reduceSub, Int.reduceAdd, Bool.or_eq_true, dcut_full, List.take_length, toB_bD, bD_snocP _ b h0 h1]
  repeat' (first | refine RelQ.l ?_ ?_ | refine RelQ.r ?_ ?_ | (intro hc; first | (exfalso; omega) | skip))
  all_goals first
    | (subst b; rw [f84_59]; refine ⟨?_, ?_, ?_, ?_, ?_, ?_, ?_, ?_, fun ha hb => ?_⟩ <;> (first | rfl | exact absurd rfl ha | exact absurd rfl hb | exact (nxQ_b _ a4).1 | (have := (nxQ_b _ a4).2; simp only; omega) | simp [X0, exec, e0, bD, act, nxP_cap, nxM_cap _ a4]))
    | (rw [f84_dg _ _ _ (by omega) (by omega) (by omega)]; refine ⟨?_, ?_, ?_, ?_, ?_, ?_, ?_, ?_, fun ha hb => ?_⟩ <;> (first | rfl | exact absurd rfl ha | exact absurd rfl hb | exact (dgM_b _ a4).1 | (have := (dgM_b _ a4).2; simp only; omega) | simp [X0, exec, e0, bD, act, dgP_cap, dgM_cap _ a4]))
    | (refine ⟨?_, ?_, ?_, ?_, ?_, ?_, ?_, ?_, fun ha hb => ?_⟩ <;> (first | rfl | exact absurd rfl ha | exact absurd rfl hb | (simp only; omega) | (simp [X0, exec, e0, bD, act, rD]; done) | (simp [X0, exec, e0, bD, act, rD]; omega)))
theorem P_step12 {p : PS} {d : DS} {x : X} {o : List Dat} {M : Int} (hR : RelP p d x o M) (hI : Inv x) (b : Int) (h0 : 0 ≤ b) (h1 : b ≤ 255) (hs : x.st = 12) : RelQ (f35 p d b) o (step x b) (M + 2) := by
  obtain ⟨a1, a2, g1, g2, g3, a3, a4, a5, g4⟩ := hR
  obtain ⟨made, state, aKind, aRune, aFinal, aPrivate, aParams, aInter, aText, many, out⟩ := p
  obtain ⟨dmade, db⟩ := d
  obtain ⟨st, held, xpriv, xparams, xmany, xinter, xtext, xfin⟩ := x
  obtain ⟨i0, i1, i2, i3, i4, i5, i6, i7, i8, i9, i10, i11, i13⟩ := hI
  simp only at a1 a2 a3 a4 a5 g1 g2 g3 g4 hs i2 i3 i4 i6 i7 i8 i9 i13
  subst hs
  have hh : held = [] := i13 (by simp)
  subst hh
  simp only [ne_eq, Int.reduceEq, not_false_eq_true, forall_const, not_true_eq_false, false_implies, implies_true, or_true, true_or, or_false, false_or, or_self] at g4 i6 i7 i8 i9
  obtain ⟨k1, k2, k3, k4, k5, k6⟩ := g4
  subst a1 a2 a3 g1 g2 g3 k1 k2 k3 k4 k5 k6
  obtain ⟨rfl, rfl, z⟩ := i6
  subst i7
  subst i9
  clear i0 i1 i5 i8 i10 i11 i13
  unfold f35 step
  simp only [decide_eq_true_eq, decide_false, decide_true, Bool.not_false, Bool.not_true, Bool.false_eq_true, Bool.not_eq_true', decide_eq_false_iff_not, Int.reduceEq, Int.reduceLE, Int.reduceLT, if_true, if_false, f29_eq, f30_eq, f48_eq, f49_eq, f50, f51, f52, f53, f67, f68_eq, f69_eq, f70, f71, pair_eta, Bool.and_eq_true, Int.reduceSub, Int.reduceAdd, Bool.or_eq_true, dcut_full, List.take_length, toB_bD, bD_snocP _ b h0 h1]
  repeat' (first | refine RelQ.l ?_ ?_ | refine RelQ.r ?_ ?_ | (intro hc; first | (exfalso; omega) | skip))
  all_goals first
    | (subst b; rw [f84_59]; refine ⟨?_, ?_, ?_, ?_, ?_, ?_, ?_, ?_, fun ha hb => ?_⟩ <;> (first | rfl | exact absurd rfl ha | exact absurd rfl hb | exact (nxQ_b _ a4).1 | (have := (nxQ_b _ a4).2; simp only; omega) | simp [X0, exec, e0, bD, act, nxP_cap, nxM_cap _ a4]))
    | (rw [f84_dg _ _ _ (by omega) (by omega) (by omega)]; refine ⟨?_, ?_, ?_, ?_, ?_, ?_, ?_, ?_, fun ha hb => ?_⟩ <;> (first | rfl | exact absurd rfl ha | exact absurd rfl hb | exact (dgM_b _ a4).1 | (have := (dgM_b _ a4).2; simp only; omega) | simp [X0, exec, e0, bD, act, dgP_cap, dgM_cap _ a4]))
    | (refine ⟨?_, ?_, ?_, ?_, ?_, ?_, ?_, ?_, fun ha hb => ?_⟩ <;> (first | rfl | exact absurd rfl ha | exact absurd rfl hb | (simp only; omega) | (simp [X0, exec, e0, bD, act, rD]; done) | (simp [X0, exec, e0, bD, act, rD]; omega)))
theorem P_step13 {p : PS} {d : DS} {x : X} {o : List Dat} {M : Int} (hR : RelP p d x o M) (hI : Inv x) (b : Int) (h0 : 0 ≤ b) (h1 : b ≤ 255) (hs : x.st = 13) : RelQ (f35 p d b) o (step x b) (M + 2) := by
  obtain ⟨a1, a2, g1, g2, g3, a3, a4, a5, g4⟩ := hR
  obtain ⟨made, state, aKind, aRune, aFinal, aPrivate, aParams, aInter, aText, many, out⟩ := p
  obtain ⟨dmade, db⟩ := d
  obtain ⟨st, held, xpriv, xparams, xmany, xinter, xtext, xfin⟩ := x
  obtain ⟨i0, i1, i2, i3, i4, i5, i6, i7, i8, i9, i10, i11, i13⟩ := hI
  simp only at a1 a2 a3 a4 a5 g1 g2 g3 g4 hs i2 i3 i4 i6 i7 i8 i9 i13
  subst hs
  have hh : held = [] := i13 (by simp)
  subst hh
  simp only [ne_eq, Int.reduceEq, not_false_eq_true, forall_const, not_true_eq_false, false_implies, implies_true, or_true, true_or, or_false, false_or, or_self] at g4 i6 i7 i8 i9
  skip
  subst a1 a2 a3 g1 g2 g3 
  skip
  clear i0 i1 i5 i6 i7 i8 i9 i10 i11 i13
  unfold f35 step
  simp only [decide_eq_true_eq, decide_false, decide_true, Bool.not_false, Bool.not_true, Bool.false_eq_true, Bool.not_eq_true', decide_eq_false_iff_not, Int.reduceEq, Int.reduceLE, Int.reduceLT, if_true, if_false, f29_eq, f30_eq, f48_eq, f49_eq, f50, f51, f52, f53, f67, f68_eq, f69_eq, f70, f71, pair_eta, Bool.and_eq_true, Int.reduceSub, Int.reduceAdd, Bool.or_eq_true, dcut_full, List.take_length, toB_bD, bD_snocP _ b h0 h1]
  repeat' (first | refine RelQ.l ?_ ?_ | refine RelQ.r ?_ ?_ | (intro hc; first | (exfalso; omega) | skip))
  all_goals first
    | (subst b; rw [f84_59]; refine ⟨?_, ?_, ?_, ?_, ?_, ?_, ?_, ?_, fun ha hb => ?_⟩ <;> (first | rfl | exact absurd rfl ha | exact absurd rfl hb | exact (nxQ_b _ a4).1 | (have := (nxQ_b _ a4).2; simp only; omega) | simp [X0, exec, e0, bD, act, nxP_cap, nxM_cap _ a4]))
    | (rw [f84_dg _ _ _ (by omega) (by omega) (by omega)]; refine ⟨?_, ?_, ?_, ?_, ?_, ?_, ?_, ?_, fun ha hb => ?_⟩ <;> (first | rfl | exact absurd rfl ha | exact absurd rfl hb | exact (dgM_b _ a4).1 | (have := (dgM_b _ a4).2; simp only; omega) | simp [X0, exec, e0, bD, act, dgP_cap, dgM_cap _ a4]))
    | (refine ⟨?_, ?_, ?_, ?_, ?_, ?_, ?_, ?_, fun ha hb => ?_⟩ <;> (first | rfl | exact absurd rfl ha | exact absurd rfl hb | (simp only; omega) | (simp [X0, exec, e0, bD, act, rD]; done) | (simp [X0, exec, e0, bD, act, rD]; omega)))
theorem P_step {p : PS} {d : DS} {x : X} {o : List Dat} {M : Int} (hR : RelP p d x o M) (hI : Inv x) (b : Int) (h0 : 0 ≤ b) (h1 : b ≤ 255) : RelQ (f35 p d b) o (step x b) (M + 2) := by
  have a := hI.s0
  have c := hI.s1
  rcases (show x.st = 0 ∨ x.st = 1 ∨ x.st = 2 ∨ x.st = 3 ∨ x.st = 4 ∨ x.st = 5 ∨ x.st = 6 ∨ x.st = 7 ∨ x.st = 8 ∨ x.st = 9 ∨ x.st = 10 ∨ x.st = 11 ∨ x.st = 12 ∨ x.st = 13 by omega) with h | h | h | h | h | h | h | h | h | h | h | h | h | h
  · exact P_step0 hR hI b h0 h1 h
  · exact P_step1 hR hI b h0 h1 h
  · exact P_step2 hR hI b h0 h1 h
  · exact P_step3 hR hI b h0 h1 h
  · exact P_step4 hR hI b h0 h1 h
  · exact P_step5 hR hI b h0 h1 h
  · exact P_step6 hR hI b h0 h1 h
  · exact P_step7 hR hI b h0 h1 h
  · exact P_step8 hR hI b h0 h1 h
  · exact P_step9 hR hI b h0 h1 h
  · exact P_step10 hR hI b h0 h1 h
  · exact P_step11 hR hI b h0 h1 h
  · exact P_step12 hR hI b h0 h1 h
  · exact P_step13 hR hI b h0 h1 h
end Go.Proofs.YtojdmhfkgkfpaaaDoor
