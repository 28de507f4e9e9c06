/- Layer 05, the reference: its step is the machine's. -/
import Derived.Test.YtojdmhfkgkfpaaaDoorRg
set_option linter.unusedVariables false
set_option linter.unusedSimpArgs false
set_option maxRecDepth 100000
namespace Go.Proofs.YtojdmhfkgkfpaaaDoor
open Go.AM Go.LTxt Go.LMem Go.RowKit
set_option maxHeartbeats 0
theorem R_step0 {r : RS} {x : X} {o : List Dat} (hR : RelR r x o) (hI : Inv x) (b : Int) (h0 : 0 ≤ b) (h1 : b ≤ 255) (hs : x.st = 0) : RelS (f37 r b) o (step x b) := by
  obtain ⟨g1, g2, g3, g4⟩ := hR
  obtain ⟨state, db, priv, params, many, inter, text, final, out⟩ := r
  simp only at g1 g2 g3 g4
  rw [hs] at g1
  subst g1 g2 g3
  unfold f37 step
  simp only [hs, decide_eq_true_eq, if_true, f54, f31_eq, f32_eq, f46_eq, f56_eq, f59, toB_bD, bD_snoc _ b h0 h1, List.take_length]
  repeat' (first | refine RelS.l ?_ ?_ | refine RelS.r ?_ ?_ | (intro hc; first | (exfalso; omega) | skip))
  all_goals first
    | (exfalso; omega)
    | (refine ⟨?_, ?_, ?_, fun h => ?_⟩ <;> simp_all [X0, exec, e0, bD, rD, act, f58, f46_eq])
theorem R_step1 {r : RS} {x : X} {o : List Dat} (hR : RelR r x o) (hI : Inv x) (b : Int) (h0 : 0 ≤ b) (h1 : b ≤ 255) (hs : x.st = 1) : RelS (f37 r b) o (step x b) := by
  obtain ⟨g1, g2, g3, g4⟩ := hR
  obtain ⟨state, db, priv, params, many, inter, text, final, out⟩ := r
  obtain ⟨st, held, xpriv, xparams, xmany, xinter, xtext, xfin⟩ := x
  obtain ⟨i0, i1, i2, i3, i4, i5, i6, i7, i8, i9, i10, i11, i13⟩ := hI
  simp only at g1 g2 g3 g4 hs i2 i3 i4 i6 i7 i8 i9
  subst hs
  have hh : held = [] := i13 (by simp)
  subst hh
  clear i0 i1 i5 i6 i7 i8 i9 i10 i11 i13
  simp only [ne_eq, Int.reduceEq, not_false_eq_true, forall_const, not_true_eq_false, false_implies, implies_true] at g4
  obtain ⟨k1, k2, k3, k4, k5, k6⟩ := g4
  subst g1 g2 g3 k1 k2 k3 k4 k5 k6
  unfold f37 step
  simp only [decide_eq_true_eq, decide_false, decide_true, Bool.not_false, Bool.not_true, Bool.false_eq_true, Bool.not_eq_true', decide_eq_false_iff_not, Int.reduceEq, Int.reduceLE, Int.reduceLT, if_true, if_false, f56_eq, f46_eq, f57, f58, f59, f73, f75, f85, f72_eq, f74_eq, Bool.and_eq_true, Int.reduceSub, Int.reduceAdd, Bool.or_eq_true, dcut_full, List.take_length]
  repeat' (first | refine RelS.l ?_ ?_ | refine RelS.r ?_ ?_ | (intro hc; first | (exfalso; omega) | skip))
  all_goals first
    | (exfalso; omega)
    | (rw [f86_eq _ (by simpa using i3)]; refine ⟨?_, ?_, ?_, fun ha hb => ?_⟩ <;> (first | rfl | exact absurd rfl ha | exact absurd rfl hb | simp [X0, exec, e0, bD, act, f46_eq]))
    | (rw [f87_eq _ _ (by omega) (by omega) (by simpa using i2) (by simpa using i3) (by simpa using i4)]; refine ⟨?_, ?_, ?_, fun ha hb => ?_⟩ <;> (first | rfl | exact absurd rfl ha | exact absurd rfl hb | simp [X0, exec, e0, bD, act, f46_eq]))
    | (refine ⟨?_, ?_, ?_, fun ha hb => ?_⟩ <;> (first | rfl | exact absurd rfl ha | exact absurd rfl hb | simp [X0, exec, e0, bD, act, f46_eq]))
theorem R_step2 {r : RS} {x : X} {o : List Dat} (hR : RelR r x o) (hI : Inv x) (b : Int) (h0 : 0 ≤ b) (h1 : b ≤ 255) (hs : x.st = 2) : RelS (f37 r b) o (step x b) := by
  obtain ⟨g1, g2, g3, g4⟩ := hR
  obtain ⟨state, db, priv, params, many, inter, text, final, out⟩ := r
  obtain ⟨st, held, xpriv, xparams, xmany, xinter, xtext, xfin⟩ := x
  obtain ⟨i0, i1, i2, i3, i4, i5, i6, i7, i8, i9, i10, i11, i13⟩ := hI
  simp only at g1 g2 g3 g4 hs i2 i3 i4 i6 i7 i8 i9
  subst hs
  have hh : held = [] := i13 (by simp)
  subst hh
  clear i0 i1 i5 i6 i7 i8 i9 i10 i11 i13
  simp only [ne_eq, Int.reduceEq, not_false_eq_true, forall_const, not_true_eq_false, false_implies, implies_true] at g4
  obtain ⟨k1, k2, k3, k4, k5, k6⟩ := g4
  subst g1 g2 g3 k1 k2 k3 k4 k5 k6
  unfold f37 step
  simp only [decide_eq_true_eq, decide_false, decide_true, Bool.not_false, Bool.not_true, Bool.false_eq_true, Bool.not_eq_true', decide_eq_false_iff_not, Int.reduceEq, Int.reduceLE, Int.reduceLT, if_true, if_false, f56_eq, f46_eq, f57, f58, f59, f73, f75, f85, f72_eq, f74_eq, Bool.and_eq_true, Int.reduceSub, Int.reduceAdd, Bool.or_eq_true, dcut_full, List.take_length]
  repeat' (first | refine RelS.l ?_ ?_ | refine RelS.r ?_ ?_ | (intro hc; first | (exfalso; omega) | skip))
  all_goals first
    | (exfalso; omega)
    | (rw [f86_eq _ (by simpa using i3)]; refine ⟨?_, ?_, ?_, fun ha hb => ?_⟩ <;> (first | rfl | exact absurd rfl ha | exact absurd rfl hb | simp [X0, exec, e0, bD, act, f46_eq]))
    | (rw [f87_eq _ _ (by omega) (by omega) (by simpa using i2) (by simpa using i3) (by simpa using i4)]; refine ⟨?_, ?_, ?_, fun ha hb => ?_⟩ <;> (first | rfl | exact absurd rfl ha | exact absurd rfl hb | simp [X0, exec, e0, bD, act, f46_eq]))
    | (refine ⟨?_, ?_, ?_, fun ha hb => ?_⟩ <;> (first | rfl | exact absurd rfl ha | exact absurd rfl hb | simp [X0, exec, e0, bD, act, f46_eq]))
theorem R_step3 {r : RS} {x : X} {o : List Dat} (hR : RelR r x o) (hI : Inv x) (b : Int) (h0 : 0 ≤ b) (h1 : b ≤ 255) (hs : x.st = 3) : RelS (f37 r b) o (step x b) := by
  obtain ⟨g1, g2, g3, g4⟩ := hR
  obtain ⟨state, db, priv, params, many, inter, text, final, out⟩ := r
  obtain ⟨st, held, xpriv, xparams, xmany, xinter, xtext, xfin⟩ := x
  obtain ⟨i0, i1, i2, i3, i4, i5, i6, i7, i8, i9, i10, i11, i13⟩ := hI
  simp only at g1 g2 g3 g4 hs i2 i3 i4 i6 i7 i8 i9
  subst hs
  have hh : held = [] := i13 (by simp)
  subst hh
  clear i0 i1 i5 i6 i7 i8 i9 i10 i11 i13
  simp only [ne_eq, Int.reduceEq, not_false_eq_true, forall_const, not_true_eq_false, false_implies, implies_true] at g4
  obtain ⟨k1, k2, k3, k4, k5, k6⟩ := g4
  subst g1 g2 g3 k1 k2 k3 k4 k5 k6
  unfold f37 step
  simp only [decide_eq_true_eq, decide_false, decide_true, Bool.not_false, Bool.not_true, Bool.false_eq_true, Bool.not_eq_true', decide_eq_false_iff_not, Int.reduceEq, Int.reduceLE, Int.reduceLT, if_true, if_false, f56_eq, f46_eq, f57, f58, f59, f73, f75, f85, f72_eq, f74_eq, Bool.and_eq_true, Int.reduceSub, Int.reduceAdd, Bool.or_eq_true, dcut_full, List.take_length]
  repeat' (first | refine RelS.l ?_ ?_ | refine RelS.r ?_ ?_ | (intro hc; first | (exfalso; omega) | skip))
  all_goals first
    | (exfalso; omega)
    | (rw [f86_eq _ (by simpa using i3)]; refine ⟨?_, ?_, ?_, fun ha hb => ?_⟩ <;> (first | rfl | exact absurd rfl ha | exact absurd rfl hb | simp [X0, exec, e0, bD, act, f46_eq]))
    | (rw [f87_eq _ _ (by omega) (by omega) (by simpa using i2) (by simpa using i3) (by simpa using i4)]; refine ⟨?_, ?_, ?_, fun ha hb => ?_⟩ <;> (first | rfl | exact absurd rfl ha | exact absurd rfl hb | simp [X0, exec, e0, bD, act, f46_eq]))
    | (refine ⟨?_, ?_, ?_, fun ha hb => ?_⟩ <;> (first | rfl | exact absurd rfl ha | exact absurd rfl hb | simp [X0, exec, e0, bD, act, f46_eq]))
theorem R_step4 {r : RS} {x : X} {o : List Dat} (hR : RelR r x o) (hI : Inv x) (b : Int) (h0 : 0 ≤ b) (h1 : b ≤ 255) (hs : x.st = 4) : RelS (f37 r b) o (step x b) := by
  obtain ⟨g1, g2, g3, g4⟩ := hR
  obtain ⟨state, db, priv, params, many, inter, text, final, out⟩ := r
  obtain ⟨st, held, xpriv, xparams, xmany, xinter, xtext, xfin⟩ := x
  obtain ⟨i0, i1, i2, i3, i4, i5, i6, i7, i8, i9, i10, i11, i13⟩ := hI
  simp only at g1 g2 g3 g4 hs i2 i3 i4 i6 i7 i8 i9
  subst hs
  have hh : held = [] := i13 (by simp)
  subst hh
  clear i0 i1 i5 i6 i7 i8 i9 i10 i11 i13
  simp only [ne_eq, Int.reduceEq, not_false_eq_true, forall_const, not_true_eq_false, false_implies, implies_true] at g4
  obtain ⟨k1, k2, k3, k4, k5, k6⟩ := g4
  subst g1 g2 g3 k1 k2 k3 k4 k5 k6
  unfold f37 step
  simp only [decide_eq_true_eq, decide_false, decide_true, Bool.not_false, Bool.not_true, Bool.false_eq_true, Bool.not_eq_true', decide_eq_false_iff_not, Int.reduceEq, Int.reduceLE, Int.reduceLT, if_true, if_false, f56_eq, f46_eq, f57, f58, f59, f73, f75, f85, f72_eq, f74_eq, Bool.and_eq_true, Int.reduceSub, Int.reduceAdd, Bool.or_eq_true, dcut_full, List.take_length]
  repeat' (first | refine RelS.l ?_ ?_ | refine RelS.r ?_ ?_ | (intro hc; first | (exfalso; omega) | skip))
  all_goals first
    | (exfalso; omega)
    | (rw [f86_eq _ (by simpa using i3)]; refine ⟨?_, ?_, ?_, fun ha hb => ?_⟩ <;> (first | rfl | exact absurd rfl ha | exact absurd rfl hb | simp [X0, exec, e0, bD, act, f46_eq]))
    | (rw [f87_eq _ _ (by omega) (by omega) (by simpa using i2) (by simpa using i3) (by simpa using i4)]; refine ⟨?_, ?_, ?_, fun ha hb => ?_⟩ <;> (first | rfl | exact absurd rfl ha | exact absurd rfl hb | simp [X0, exec, e0, bD, act, f46_eq]))
    | (refine ⟨?_, ?_, ?_, fun ha hb => ?_⟩ <;> (first | rfl | exact absurd rfl ha | exact absurd rfl hb | simp [X0, exec, e0, bD, act, f46_eq]))
theorem R_step5 {r : RS} {x : X} {o : List Dat} (hR : RelR r x o) (hI : Inv x) (b : Int) (h0 : 0 ≤ b) (h1 : b ≤ 255) (hs : x.st = 5) : RelS (f37 r b) o (step x b) := by
  obtain ⟨g1, g2, g3, g4⟩ := hR
  obtain ⟨state, db, priv, params, many, inter, text, final, out⟩ := r
  obtain ⟨st, held, xpriv, xparams, xmany, xinter, xtext, xfin⟩ := x
  obtain ⟨i0, i1, i2, i3, i4, i5, i6, i7, i8, i9, i10, i11, i13⟩ := hI
  simp only at g1 g2 g3 g4 hs i2 i3 i4 i6 i7 i8 i9
  subst hs
  have hh : held = [] := i13 (by simp)
  subst hh
  clear i0 i1 i5 i6 i7 i8 i9 i10 i11 i13
  simp only [ne_eq, Int.reduceEq, not_false_eq_true, forall_const, not_true_eq_false, false_implies, implies_true] at g4
  obtain ⟨k1, k2, k3, k4, k5, k6⟩ := g4
  subst g1 g2 g3 k1 k2 k3 k4 k5 k6
  unfold f37 step
  simp only [decide_eq_true_eq, decide_false, decide_true, Bool.not_false, Bool.not_true, Bool.false_eq_true, Bool.not_eq_true', decide_eq_false_iff_not, Int.reduceEq, Int.reduceLE, Int.reduceLT, if_true, if_false, f56_eq, f46_eq, f57, f58, f59, f73, f75, f85, f72_eq, f74_eq, Bool.and_eq_true, Int.reduceSub, Int.reduceAdd, Bool.or_eq_true, dcut_full, List.take_length]
  repeat' (first | refine RelS.l ?_ ?_ | refine RelS.r ?_ ?_ | (intro hc; first | (exfalso; omega) | skip))
  all_goals first
    | (exfalso; omega)
    | (rw [f86_eq _ (by simpa using i3)]; refine ⟨?_, ?_, ?_, fun ha hb => ?_⟩ <;> (first | rfl | exact absurd rfl ha | exact absurd rfl hb | simp [X0, exec, e0, bD, act, f46_eq]))
    | (rw [f87_eq _ _ (by omega) (by omega) (by simpa using i2) (by simpa using i3) (by simpa using i4)]; refine ⟨?_, ?_, ?_, fun ha hb => ?_⟩ <;> (first | rfl | exact absurd rfl ha | exact absurd rfl hb | simp [X0, exec, e0, bD, act, f46_eq]))
    | (refine ⟨?_, ?_, ?_, fun ha hb => ?_⟩ <;> (first | rfl | exact absurd rfl ha | exact absurd rfl hb | simp [X0, exec, e0, bD, act, f46_eq]))
theorem R_step6 {r : RS} {x : X} {o : List Dat} (hR : RelR r x o) (hI : Inv x) (b : Int) (h0 : 0 ≤ b) (h1 : b ≤ 255) (hs : x.st = 6) : RelS (f37 r b) o (step x b) := by
  obtain ⟨g1, g2, g3, g4⟩ := hR
  obtain ⟨state, db, priv, params, many, inter, text, final, out⟩ := r
  obtain ⟨st, held, xpriv, xparams, xmany, xinter, xtext, xfin⟩ := x
  obtain ⟨i0, i1, i2, i3, i4, i5, i6, i7, i8, i9, i10, i11, i13⟩ := hI
  simp only at g1 g2 g3 g4 hs i2 i3 i4 i6 i7 i8 i9
  subst hs
  have hh : held = [] := i13 (by simp)
  subst hh
  clear i0 i1 i5 i6 i7 i8 i9 i10 i11 i13
  simp only [ne_eq, Int.reduceEq, not_false_eq_true, forall_const, not_true_eq_false, false_implies, implies_true] at g4
  obtain ⟨k1, k2, k3, k4, k5, k6⟩ := g4
  subst g1 g2 g3 k1 k2 k3 k4 k5 k6
  unfold f37 step
  simp only [decide_eq_true_eq, decide_false, decide_true, Bool.not_false, Bool.not_true, Bool.false_eq_true, Bool.not_eq_true', decide_eq_false_iff_not, Int.reduceEq, Int.reduceLE, Int.reduceLT, if_true, if_false, f56_eq, f46_eq, f57, f58, f59, f73, f75, f85, f72_eq, f74_eq, Bool.and_eq_true, Int.reduceSub, Int.reduceAdd, Bool.or_eq_true, dcut_full, List.take_length]
  repeat' (first | refine RelS.l ?_ ?_ | refine RelS.r ?_ ?_ | (intro hc; first | (exfalso; omega) | skip))
  all_goals first
    | (exfalso; omega)
    | (rw [f86_eq _ (by simpa using i3)]; refine ⟨?_, ?_, ?_, fun ha hb => ?_⟩ <;> (first | rfl | exact absurd rfl ha | exact absurd rfl hb | simp [X0, exec, e0, bD, act, f46_eq]))
    | (rw [f87_eq _ _ (by omega) (by omega) (by simpa using i2) (by simpa using i3) (by simpa using i4)]; refine ⟨?_, ?_, ?_, fun ha hb => ?_⟩ <;> (first | rfl | exact absurd rfl ha | exact absurd rfl hb | simp [X0, exec, e0, bD, act, f46_eq]))
    | (refine ⟨?_, ?_, ?_, fun ha hb => ?_⟩ <;> (first | rfl | exact absurd rfl ha | exact absurd rfl hb | simp [X0, exec, e0, bD, act, f46_eq]))
theorem R_step7 {r : RS} {x : X} {o : List Dat} (hR : RelR r x o) (hI : Inv x) (b : Int) (h0 : 0 ≤ b) (h1 : b ≤ 255) (hs : x.st = 7) : RelS (f37 r b) o (step x b) := by
  obtain ⟨g1, g2, g3, g4⟩ := hR
  obtain ⟨state, db, priv, params, many, inter, text, final, out⟩ := r
  obtain ⟨st, held, xpriv, xparams, xmany, xinter, xtext, xfin⟩ := x
  obtain ⟨i0, i1, i2, i3, i4, i5, i6, i7, i8, i9, i10, i11, i13⟩ := hI
  simp only at g1 g2 g3 g4 hs i2 i3 i4 i6 i7 i8 i9
  subst hs
  have hh : held = [] := i13 (by simp)
  subst hh
  clear i0 i1 i5 i6 i7 i8 i9 i10 i11 i13
  simp only [ne_eq, Int.reduceEq, not_false_eq_true, forall_const, not_true_eq_false, false_implies, implies_true] at g4
  obtain ⟨k1, k2, k3, k4, k5, k6⟩ := g4
  subst g1 g2 g3 k1 k2 k3 k4 k5 k6
  unfold f37 step
  simp only [decide_eq_true_eq, decide_false, decide_true, Bool.not_false, Bool.not_true, Bool.false_eq_true, Bool.not_eq_true', decide_eq_false_iff_not, Int.reduceEq, Int.reduceLE, Int.reduceLT, if_true, if_false, f56_eq, f46_eq, f57, f58, f59, f73, f75, f85, f72_eq, f74_eq, Bool.and_eq_true, Int.reduceSub, Int.reduceAdd, Bool.or_eq_true, dcut_full, List.take_length]
  repeat' (first | refine RelS.l ?_ ?_ | refine RelS.r ?_ ?_ | (intro hc; first | (exfalso; omega) | skip))
  all_goals first
    | (exfalso; omega)
    | (rw [f86_eq _ (by simpa using i3)]; refine ⟨?_, ?_, ?_, fun ha hb => ?_⟩ <;> (first | rfl | exact absurd rfl ha | exact absurd rfl hb | simp [X0, exec, e0, bD, act, f46_eq]))
    | (rw [f87_eq _ _ (by omega) (by omega) (by simpa using i2) (by simpa using i3) (by simpa using i4)]; refine ⟨?_, ?_, ?_, fun ha hb => ?_⟩ <;> (first | rfl | exact absurd rfl ha | exact absurd rfl hb | simp [X0, exec, e0, bD, act, f46_eq]))
    | (refine ⟨?_, ?_, ?_, fun ha hb => ?_⟩ <;> (first | rfl | exact absurd rfl ha | exact absurd rfl hb | simp [X0, exec, e0, bD, act, f46_eq]))
theorem R_step8 {r : RS} {x : X} {o : List Dat} (hR : RelR r x o) (hI : Inv x) (b : Int) (h0 : 0 ≤ b) (h1 : b ≤ 255) (hs : x.st = 8) : RelS (f37 r b) o (step x b) := by
  obtain ⟨g1, g2, g3, g4⟩ := hR
  obtain ⟨state, db, priv, params, many, inter, text, final, out⟩ := r
  obtain ⟨st, held, xpriv, xparams, xmany, xinter, xtext, xfin⟩ := x
  obtain ⟨i0, i1, i2, i3, i4, i5, i6, i7, i8, i9, i10, i11, i13⟩ := hI
  simp only at g1 g2 g3 g4 hs i2 i3 i4 i6 i7 i8 i9
  subst hs
  have hh : held = [] := i13 (by simp)
  subst hh
  clear i0 i1 i5 i6 i7 i8 i9 i10 i11 i13
  simp only [ne_eq, Int.reduceEq, not_false_eq_true, forall_const, not_true_eq_false, false_implies, implies_true] at g4
  obtain ⟨k1, k2, k3, k4, k5, k6⟩ := g4
  subst g1 g2 g3 k1 k2 k3 k4 k5 k6
  unfold f37 step
  simp only [decide_eq_true_eq, decide_false, decide_true, Bool.not_false, Bool.not_true, Bool.false_eq_true, Bool.not_eq_true', decide_eq_false_iff_not, Int.reduceEq, Int.reduceLE, Int.reduceLT, if_true, if_false, f56_eq, f46_eq, f57, f58, f59, f73, f75, f85, f72_eq, f74_eq, Bool.and_eq_true, Int.reduceSub, Int.reduceAdd, Bool.or_eq_true, dcut_full, List.take_length]
  repeat' (first | refine RelS.l ?_ ?_ | refine RelS.r ?_ ?_ | (intro hc; first | (exfalso; omega) | skip))
  all_goals first
    | (exfalso; omega)
    | (rw [f86_eq _ (by simpa using i3)]; refine ⟨?_, ?_, ?_, fun ha hb => ?_⟩ <;> (first | rfl | exact absurd rfl ha | exact absurd rfl hb | simp [X0, exec, e0, bD, act, f46_eq]))
    | (rw [f87_eq _ _ (by omega) (by omega) (by simpa using i2) (by simpa using i3) (by simpa using i4)]; refine ⟨?_, ?_, ?_, fun ha hb => ?_⟩ <;> (first | rfl | exact absurd rfl ha | exact absurd rfl hb | simp [X0, exec, e0, bD, act, f46_eq]))
    | (refine ⟨?_, ?_, ?_, fun ha hb => ?_⟩ <;> (first | rfl | exact absurd rfl ha | exact absurd rfl hb | simp [X0, exec, e0, bD, act, f46_eq]))
theorem R_step9 {r : RS} {x : X} {o : List Dat} (hR : RelR r x o) (hI : Inv x) (b : Int) (h0 : 0 ≤ b) (h1 : b ≤ 255) (hs : x.st = 9) : RelS (f37 r b) o (step x b) := by
  obtain ⟨g1, g2, g3, g4⟩ := hR
  obtain ⟨state, db, priv, params, many, inter, text, final, out⟩ := r
  obtain ⟨st, held, xpriv, xparams, xmany, xinter, xtext, xfin⟩ := x
  obtain ⟨i0, i1, i2, i3, i4, i5, i6, i7, i8, i9, i10, i11, i13⟩ := hI
  simp only at g1 g2 g3 g4 hs i2 i3 i4 i6 i7 i8 i9
  subst hs
  have hh : held = [] := i13 (by simp)
  subst hh
  clear i0 i1 i5 i6 i7 i8 i9 i10 i11 i13
  simp only [ne_eq, Int.reduceEq, not_false_eq_true, forall_const, not_true_eq_false, false_implies, implies_true] at g4
  obtain ⟨k1, k2, k3, k4, k5, k6⟩ := g4
  subst g1 g2 g3 k1 k2 k3 k4 k5 k6
  unfold f37 step
  simp only [decide_eq_true_eq, decide_false, decide_true, Bool.not_false, Bool.not_true, Bool.false_eq_true, Bool.not_eq_true', decide_eq_false_iff_not, Int.reduceEq, Int.reduceLE, Int.reduceLT, if_true, if_false, f56_eq, f46_eq, f57, f58, f59, f73, f75, f85, f72_eq, f74_eq, Bool.and_eq_true, Int.reduceSub, Int.reduceAdd, Bool.or_eq_true, dcut_full, List.take_length]
  repeat' (first | refine RelS.l ?_ ?_ | refine RelS.r ?_ ?_ | (intro hc; first | (exfalso; omega) | skip))
  all_goals first
    | (exfalso; omega)
    | (rw [f86_eq _ (by simpa using i3)]; refine ⟨?_, ?_, ?_, fun ha hb => ?_⟩ <;> (first | rfl | exact absurd rfl ha | exact absurd rfl hb | simp [X0, exec, e0, bD, act, f46_eq]))
    | (rw [f87_eq _ _ (by omega) (by omega) (by simpa using i2) (by simpa using i3) (by simpa using i4)]; refine ⟨?_, ?_, ?_, fun ha hb => ?_⟩ <;> (first | rfl | exact absurd rfl ha | exact absurd rfl hb | simp [X0, exec, e0, bD, act, f46_eq]))
    | (refine ⟨?_, ?_, ?_, fun ha hb => ?_⟩ <;> (first | rfl | exact absurd rfl ha | exact absurd rfl hb | simp [X0, exec, e0, bD, act, f46_eq]))
theorem R_step10 {r : RS} {x : X} {o : List Dat} (hR : RelR r x o) (hI : Inv x) (b : Int) (h0 : 0 ≤ b) (h1 : b ≤ 255) (hs : x.st = 10) : RelS (f37 r b) o (step x b) := by
  obtain ⟨g1, g2, g3, g4⟩ := hR
  obtain ⟨state, db, priv, params, many, inter, text, final, out⟩ := r
  obtain ⟨st, held, xpriv, xparams, xmany, xinter, xtext, xfin⟩ := x
  obtain ⟨i0, i1, i2, i3, i4, i5, i6, i7, i8, i9, i10, i11, i13⟩ := hI
  simp only at g1 g2 g3 g4 hs i2 i3 i4 i6 i7 i8 i9
  subst hs
  have hh : held = [] := i13 (by simp)
  subst hh
  clear i0 i1 i5 i6 i7 i8 i9 i10 i11 i13
  simp only [ne_eq, Int.reduceEq, not_false_eq_true, forall_const, not_true_eq_false, false_implies, implies_true] at g4
  obtain ⟨k1, k2, k3, k4, k5, k6⟩ := g4
  subst g1 g2 g3 k1 k2 k3 k4 k5 k6
  unfold f37 step
  simp only [decide_eq_true_eq, decide_false, decide_true, Bool.not_false, Bool.not_true, Bool.false_eq_true, Bool.not_eq_true', decide_eq_false_iff_not, Int.reduceEq, Int.reduceLE, Int.reduceLT, if_true, if_false, f56_eq, f46_eq, f57, f58, f59, f73, f75, f85, f72_eq, f74_eq, Bool.and_eq_true, Int.reduceSub, Int.reduceAdd, Bool.or_eq_true, dcut_full, List.take_length]
  repeat' (first | refine RelS.l ?_ ?_ | refine RelS.r ?_ ?_ | (intro hc; first | (exfalso; omega) | skip))
  all_goals first
    | (exfalso; omega)
    | (rw [f86_eq _ (by simpa using i3)]; refine ⟨?_, ?_, ?_, fun ha hb => ?_⟩ <;> (first | rfl | exact absurd rfl ha | exact absurd rfl hb | simp [X0, exec, e0, bD, act, f46_eq]))
    | (rw [f87_eq _ _ (by omega) (by omega) (by simpa using i2) (by simpa using i3) (by simpa using i4)]; refine ⟨?_, ?_, ?_, fun ha hb => ?_⟩ <;> (first | rfl | exact absurd rfl ha | exact absurd rfl hb | simp [X0, exec, e0, bD, act, f46_eq]))
    | (refine ⟨?_, ?_, ?_, fun ha hb => ?_⟩ <;> (first | rfl | exact absurd rfl ha | exact absurd rfl hb | simp [X0, exec, e0, bD, act, f46_eq]))
theorem R_step11 {r : RS} {x : X} {o : List Dat} (hR : RelR r x o) (hI : Inv x) (b : Int) (h0 : 0 ≤ b) (h1 : b ≤ 255) (hs : x.st = 11) : RelS (f37 r b) o (step x b) := by
  obtain ⟨g1, g2, g3, g4⟩ := hR
  obtain ⟨state, db, priv, params, many, inter, text, final, out⟩ := r
  obtain ⟨st, held, xpriv, xparams, xmany, xinter, xtext, xfin⟩ := x
  obtain ⟨i0, i1, i2, i3, i4, i5, i6, i7, i8, i9, i10, i11, i13⟩ := hI
  simp only at g1 g2 g3 g4 hs i2 i3 i4 i6 i7 i8 i9
  subst hs
  have hh : held = [] := i13 (by simp)
  subst hh
  clear i0 i1 i5 i6 i7 i8 i9 i10 i11 i13
  simp only [ne_eq, Int.reduceEq, not_false_eq_true, forall_const, not_true_eq_false, false_implies, implies_true] at g4
  obtain ⟨k1, k2, k3, k4, k5, k6⟩ := g4
  subst g1 g2 g3 k1 k2 k3 k4 k5 k6
  unfold f37 step
  simp only [decide_eq_true_eq, decide_false, decide_true, Bool.not_false, Bool.not_true, Bool.false_eq_true, Bool.not_eq_true', decide_eq_false_iff_not, Int.reduceEq, Int.reduceLE, Int.reduceLT, if_true, if_false, f56_eq, f46_eq, f57, f58, f59, f73, f75, f85, f72_eq, f74_eq, Bool.and_eq_true, Int.reduceSub, Int.reduceAdd, Bool.or_eq_true, dcut_full, List.take_length]
  repeat' (first | refine RelS.l ?_ ?_ | refine RelS.r ?_ ?_ | (intro hc; first | (exfalso; omega) | skip))
  all_goals first
    | (exfalso; omega)
    | (rw [f86_eq _ (by simpa using i3)]; refine ⟨?_, ?_, ?_, fun ha hb => ?_⟩ <;> (first | rfl | exact absurd rfl ha | exact absurd rfl hb | simp [X0, exec, e0, bD, act, f46_eq]))
    | (rw [f87_eq _ _ (by omega) (by omega) (by simpa using i2) (by simpa using i3) (by simpa using i4)]; refine ⟨?_, ?_, ?_, fun ha hb => ?_⟩ <;> (first | rfl | exact absurd rfl ha | exact absurd rfl hb | simp [X0, exec, e0, bD, act, f46_eq]))
    | (refine ⟨?_, ?_, ?_, fun ha hb => ?_⟩ <;> (first | rfl | exact absurd rfl ha | exact absurd rfl hb | simp [X0, exec, e0, bD, act, f46_eq]))
theorem R_step12 {r : RS} {x : X} {o : List Dat} (hR : RelR r x o) (hI : Inv x) (b : Int) (h0 : 0 ≤ b) (h1 : b ≤ 255) (hs : x.st = 12) : RelS (f37 r b) o (step x b) := by
  obtain ⟨g1, g2, g3, g4⟩ := hR
  obtain ⟨state, db, priv, params, many, inter, text, final, out⟩ := r
  obtain ⟨st, held, xpriv, xparams, xmany, xinter, xtext, xfin⟩ := x
  obtain ⟨i0, i1, i2, i3, i4, i5, i6, i7, i8, i9, i10, i11, i13⟩ := hI
  simp only at g1 g2 g3 g4 hs i2 i3 i4 i6 i7 i8 i9
  subst hs
  have hh : held = [] := i13 (by simp)
  subst hh
  clear i0 i1 i5 i6 i7 i8 i9 i10 i11 i13
  simp only [ne_eq, Int.reduceEq, not_false_eq_true, forall_const, not_true_eq_false, false_implies, implies_true] at g4
  obtain ⟨k1, k2, k3, k4, k5, k6⟩ := g4
  subst g1 g2 g3 k1 k2 k3 k4 k5 k6
  unfold f37 step
  simp only [decide_eq_true_eq, decide_false, decide_true, Bool.not_false, Bool.not_true, Bool.false_eq_true, Bool.not_eq_true', decide_eq_false_iff_not, Int.reduceEq, Int.reduceLE, Int.reduceLT, if_true, if_false, f56_eq, f46_eq, f57, f58, f59, f73, f75, f85, f72_eq, f74_eq, Bool.and_eq_true, Int.reduceSub, Int.reduceAdd, Bool.or_eq_true, dcut_full, List.take_length]
  repeat' (first | refine RelS.l ?_ ?_ | refine RelS.r ?_ ?_ | (intro hc; first | (exfalso; omega) | skip))
  all_goals first
    | (exfalso; omega)
    | (rw [f86_eq _ (by simpa using i3)]; refine ⟨?_, ?_, ?_, fun ha hb => ?_⟩ <;> (first | rfl | exact absurd rfl ha | exact absurd rfl hb | simp [X0, exec, e0, bD, act, f46_eq]))
    | (rw [f87_eq _ _ (by omega) (by omega) (by simpa using i2) (by simpa using i3) (by simpa using i4)]; refine ⟨?_, ?_, ?_, fun ha hb => ?_⟩ <;> (first | rfl | exact absurd rfl ha | exact absurd rfl hb | simp [X0, exec, e0, bD, act, f46_eq]))
    | (refine ⟨?_, ?_, ?_, fun ha hb => ?_⟩ <;> (first | rfl | exact absurd rfl ha | exact absurd rfl hb | simp [X0, exec, e0, bD, act, f46_eq]))
theorem R_step13 {r : RS} {x : X} {o : List Dat} (hR : RelR r x o) (hI : Inv x) (b : Int) (h0 : 0 ≤ b) (h1 : b ≤ 255) (hs : x.st = 13) : RelS (f37 r b) o (step x b) := by
  obtain ⟨g1, g2, g3, g4⟩ := hR
  obtain ⟨state, db, priv, params, many, inter, text, final, out⟩ := r
  obtain ⟨st, held, xpriv, xparams, xmany, xinter, xtext, xfin⟩ := x
  obtain ⟨i0, i1, i2, i3, i4, i5, i6, i7, i8, i9, i10, i11, i13⟩ := hI
  simp only at g1 g2 g3 g4 hs i2 i3 i4 i6 i7 i8 i9
  subst hs
  have hh : held = [] := i13 (by simp)
  subst hh
  clear i0 i1 i5 i6 i7 i8 i9 i10 i11 i13
  simp only [ne_eq, Int.reduceEq, not_false_eq_true, forall_const, not_true_eq_false, false_implies, implies_true] at g4
  skip
  subst g1 g2 g3 
  unfold f37 step
  simp only [decide_eq_true_eq, decide_false, decide_true, Bool.not_false, Bool.not_true, Bool.false_eq_true, Bool.not_eq_true', decide_eq_false_iff_not, Int.reduceEq, Int.reduceLE, Int.reduceLT, if_true, if_false, f56_eq, f46_eq, f57, f58, f59, f73, f75, f85, f72_eq, f74_eq, Bool.and_eq_true, Int.reduceSub, Int.reduceAdd, Bool.or_eq_true, dcut_full, List.take_length]
  repeat' (first | refine RelS.l ?_ ?_ | refine RelS.r ?_ ?_ | (intro hc; first | (exfalso; omega) | skip))
  all_goals first
    | (exfalso; omega)
    | (rw [f86_eq _ (by simpa using i3)]; refine ⟨?_, ?_, ?_, fun ha hb => ?_⟩ <;> (first | rfl | exact absurd rfl ha | exact absurd rfl hb | simp [X0, exec, e0, bD, act, f46_eq]))
    | (rw [f87_eq _ _ (by omega) (by omega) (by simpa using i2) (by simpa using i3) (by simpa using i4)]; refine ⟨?_, ?_, ?_, fun ha hb => ?_⟩ <;> (first | rfl | exact absurd rfl ha | exact absurd rfl hb | simp [X0, exec, e0, bD, act, f46_eq]))
    | (refine ⟨?_, ?_, ?_, fun ha hb => ?_⟩ <;> (first | rfl | exact absurd rfl ha | exact absurd rfl hb | simp [X0, exec, e0, bD, act, f46_eq]))
theorem R_step {r : RS} {x : X} {o : List Dat} (hR : RelR r x o) (hI : Inv x) (b : Int) (h0 : 0 ≤ b) (h1 : b ≤ 255) : RelS (f37 r b) o (step x b) := by
  have a := hI.s0
  have c := hI.s1
  rcases (show x.st = 0 ∨ x.st = 1 ∨ x.st = 2 ∨ x.st = 3 ∨ x.st = 4 ∨ x.st = 5 ∨ x.st = 6 ∨ x.st = 7 ∨ x.st = 8 ∨ x.st = 9 ∨ x.st = 10 ∨ x.st = 11 ∨ x.st = 12 ∨ x.st = 13 by omega) with h | h | h | h | h | h | h | h | h | h | h | h | h | h
  · exact R_step0 hR hI b h0 h1 h
  · exact R_step1 hR hI b h0 h1 h
  · exact R_step2 hR hI b h0 h1 h
  · exact R_step3 hR hI b h0 h1 h
  · exact R_step4 hR hI b h0 h1 h
  · exact R_step5 hR hI b h0 h1 h
  · exact R_step6 hR hI b h0 h1 h
  · exact R_step7 hR hI b h0 h1 h
  · exact R_step8 hR hI b h0 h1 h
  · exact R_step9 hR hI b h0 h1 h
  · exact R_step10 hR hI b h0 h1 h
  · exact R_step11 hR hI b h0 h1 h
  · exact R_step12 hR hI b h0 h1 h
  · exact R_step13 hR hI b h0 h1 h
end Go.Proofs.YtojdmhfkgkfpaaaDoor
