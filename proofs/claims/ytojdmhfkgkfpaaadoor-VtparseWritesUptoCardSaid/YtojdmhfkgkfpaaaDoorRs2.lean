/- Layer 05, the reference: nothing in a step goes wrong. -/
import Derived.Test.YtojdmhfkgkfpaaaDoorRs1
import Derived.Test.YtojdmhfkgkfpaaaDoorMi
set_option linter.unusedVariables false
set_option linter.unusedSimpArgs false
set_option maxRecDepth 100000
namespace Go.Proofs.YtojdmhfkgkfpaaaDoor
open Go.AM Go.LTxt Go.LMem Go.RowKit
set_option maxHeartbeats 0
theorem in_i64 (n : Int) (h0 : -1000000 ≤ n) (h1 : n ≤ 1000000) : inR .i64 n = true := by
  simp [inR, IntKind.min, IntKind.max, IntKind.bits, IntKind.signed]; omega
theorem in_i32 (n : Int) (h0 : -1000000 ≤ n) (h1 : n ≤ 1000000) : inR .i32 n = true := by
  simp [inR, IntKind.min, IntKind.max, IntKind.bits, IntKind.signed]; omega
theorem s74_of {r : RS} {b : Int} (h : r.inter.size ≤ 2) (h0 : 0 ≤ b) (h1 : b < 128) : s74 r b := by
  unfold s74
  refine s_ite (fun _ => ⟨in_i32 b (by omega) (by omega), ?_, trivial⟩) (fun _ => trivial)
  rw [enc_size b h0 h1]
  exact decide_eq_true (by omega)
theorem s72_of {r : RS} {b : Int} (h : r.text.size ≤ 1024) : s72 r b := by
  unfold s72
  refine s_ite (fun _ => ⟨?_, trivial⟩) (fun _ => trivial)
  have e : (strD [Dat.int b]).size = 1 := rfl
  rw [e]
  exact decide_eq_true (by omega)
theorem s86_of {r : RS} (h0 : 0 ≤ r.many) (h1 : r.many ≤ 17) (h : r.params.length ≤ 16) : s86 r := by
  unfold s86
  refine s_ite (fun _ => ⟨rfl, trivial⟩) (fun _ => s_ite (fun _ => ⟨in_i64 _ (by omega) (by omega), s_ite (fun _ => ⟨app_ok (by omega), trivial⟩) (fun _ => trivial)⟩) (fun _ => s_ite (fun _ => ⟨app_ok (by omega), trivial⟩) (fun _ => trivial)))
theorem getD_rng {ps : List Dat} (h : ∀ d ∈ ps, -1 ≤ d.toInt ∧ d.toInt ≤ 65535) (i : Nat) (hi : i < ps.length) : -1 ≤ (ps.getD i default).toInt ∧ (ps.getD i default).toInt ≤ 65535 := by
  rw [List.getD_eq_getElem?_getD, List.getElem?_eq_getElem hi]
  exact h _ (List.getElem_mem hi)
theorem s87_of {r : RS} {b : Int} (h0 : 48 ≤ b) (h1 : b ≤ 255) (hm : 0 ≤ r.many) (hm2 : r.many ≤ 17) (hl : (r.params.length : Int) = min r.many 16) (hr : ∀ d ∈ r.params, -1 ≤ d.toInt ∧ d.toInt ≤ 65535) : s87 r b := by
  unfold s87
  rw [wrap_u8 b h0 h1]
  refine s_ite (fun _ => ⟨in_i64 _ (by omega) (by omega), in_i64 _ ?_ ?_, trivial⟩) (fun hz => s_ite (fun _ => ⟨by simp, trivial⟩) (fun hg => ?_))
  · simp only [if_true]; omega
  · simp only [if_true]; omega
  · have hz' : ¬ r.many = 0 := by simpa using hz
    have hg' : r.many ≤ 16 := by simpa using hg
    have hlen : 1 ≤ r.params.length ∧ r.params.length ≤ 16 := by omega
    have hg2 := getD_rng hr ((r.params.length : Int) - 1).toNat (by omega)
    simp only [Nat.zero_add, if_true]
    refine ⟨in_i64 _ (by omega) (by omega), by simp; omega, by simp; omega, in_i64 _ (by omega) (by omega), in_i64 _ (by omega) (by omega), in_i64 _ (by omega) (by omega), ?_⟩
    simp
    omega
theorem R_ok0 {r : RS} {x : X} {o : List Dat} (hR : RelR r x o) (hI : Inv x) (b : Int) (h0 : 0 ≤ b) (h1 : b ≤ 255) (hN : o.length + x.held.length + 8 ≤ limB) (hs : x.st = 0) : s37 r b := by
  obtain ⟨g1, g2, g3, g4⟩ := hR
  obtain ⟨state, db, priv, params, many, inter, text, final, out⟩ := r
  obtain ⟨st, held, xpriv, xparams, xmany, xinter, xtext, xfin⟩ := x
  obtain ⟨i0, i1, i2, i3, i4, i5, i6, i7, i8, i9, i10, i11, i13⟩ := hI
  simp only at g1 g2 g3 g4 hs i2 i3 i4 i5 i10 i11 hN
  subst hs
  skip
  simp only [ne_eq, Int.reduceEq, not_false_eq_true, forall_const, not_true_eq_false, false_implies, implies_true] at g4
  skip
  subst g1 g2 g3 
  clear i0 i1 i6 i7 i8 i9 i13
  have q1 := prR_len held
  have q2 := prP_len (held ++ [UInt8.ofNat b.toNat])
  have q3 := runes_len held.length held (Nat.le_refl _)
  have q4 := putD_len (held ++ [UInt8.ofNat b.toNat]).length (held ++ [UInt8.ofNat b.toNat]) (Nat.le_refl _)
  simp only [List.length_append, List.length_cons, List.length_nil] at q2 q4
  have hlim : limB = 100000000 := rfl
  have hlim2 : lim = 1073741824 := rfl
  unfold s37
  simp only [decide_eq_true_eq, decide_false, decide_true, Bool.not_false, Bool.not_true, Bool.false_eq_true, Bool.not_eq_true', decide_eq_false_iff_not, Int.reduceEq, Int.reduceLE, Int.reduceLT, if_true, if_false, true_and, and_true, f54, f31_eq, f32_eq, f46_eq, f56_eq, s56, s57, s58, s59, s73, s75, s85, f57, f58, f59, f73, f75, f85, f72_eq, f74_eq, Bool.and_eq_true, Int.reduceSub, Int.reduceAdd, Bool.or_eq_true, dcut_full, List.take_length, toB_bD, bD_snoc _ b h0 h1, s54]
  repeat' (first | exact trivial | (with_reducible refine And.intro ?_ ?_) | (with_reducible refine s_ite ?_ ?_) | (intro hc; first | (exfalso; omega) | skip))
  all_goals first
    | omega
    | exact okB_bD _
    | (refine s46_of ?_; simp only [List.length_append, List.length_cons, List.length_nil]; omega)
    | (refine s31_of ?_ ?_ <;> simp only [rD, iD, List.length_map, List.length_append, List.length_cons, List.length_nil] <;> omega)
    | (refine s32_of (okB_bD _) ?_; simp only [bD_length]; omega)
    | exact s74_of i10 (by omega) (by omega)
    | exact s72_of i11
    | exact s86_of i2 i3 (by simp only; omega)
    | exact s87_of (by omega) (by omega) i2 i3 i4 i5
    | (refine in_i32 _ ?_ ?_ <;> omega)
    | (refine in_i64 _ ?_ ?_ <;> omega)
    | (simp only [bD_length, List.length_append, List.length_cons, List.length_nil]; omega)
    | (simp; done)
    | (simp; omega)
    | skip
theorem R_ok1 {r : RS} {x : X} {o : List Dat} (hR : RelR r x o) (hI : Inv x) (b : Int) (h0 : 0 ≤ b) (h1 : b ≤ 255) (hN : o.length + x.held.length + 8 ≤ limB) (hs : x.st = 1) : s37 r b := by
  obtain ⟨g1, g2, g3, g4⟩ := hR
  obtain ⟨state, db, priv, params, many, inter, text, final, out⟩ := r
  obtain ⟨st, held, xpriv, xparams, xmany, xinter, xtext, xfin⟩ := x
  obtain ⟨i0, i1, i2, i3, i4, i5, i6, i7, i8, i9, i10, i11, i13⟩ := hI
  simp only at g1 g2 g3 g4 hs i2 i3 i4 i5 i10 i11 hN
  subst hs
  have hh : held = [] := i13 (by simp)
  subst hh
  simp only [ne_eq, Int.reduceEq, not_false_eq_true, forall_const, not_true_eq_false, false_implies, implies_true] at g4
  obtain ⟨k1, k2, k3, k4, k5, k6⟩ := g4
  subst g1 g2 g3 k1 k2 k3 k4 k5 k6
  clear i0 i1 i6 i7 i8 i9 i13
  have q1 := prR_len ([] : List UInt8)
  have q2 := prP_len (([] : List UInt8) ++ [UInt8.ofNat b.toNat])
  have q3 := runes_len ([] : List UInt8).length ([] : List UInt8) (Nat.le_refl _)
  have q4 := putD_len (([] : List UInt8) ++ [UInt8.ofNat b.toNat]).length (([] : List UInt8) ++ [UInt8.ofNat b.toNat]) (Nat.le_refl _)
  simp only [List.length_append, List.length_cons, List.length_nil] at q2 q4
  have hlim : limB = 100000000 := rfl
  have hlim2 : lim = 1073741824 := rfl
  unfold s37
  simp only [decide_eq_true_eq, decide_false, decide_true, Bool.not_false, Bool.not_true, Bool.false_eq_true, Bool.not_eq_true', decide_eq_false_iff_not, Int.reduceEq, Int.reduceLE, Int.reduceLT, if_true, if_false, true_and, and_true, f54, f31_eq, f32_eq, f46_eq, f56_eq, s56, s57, s58, s59, s73, s75, s85, f57, f58, f59, f73, f75, f85, f72_eq, f74_eq, Bool.and_eq_true, Int.reduceSub, Int.reduceAdd, Bool.or_eq_true, dcut_full, List.take_length, toB_bD, bD_snoc _ b h0 h1, s54]
  repeat' (first | exact trivial | (with_reducible refine And.intro ?_ ?_) | (with_reducible refine s_ite ?_ ?_) | (intro hc; first | (exfalso; omega) | skip))
  all_goals first
    | omega
    | exact okB_bD _
    | (refine s46_of ?_; simp only [List.length_append, List.length_cons, List.length_nil]; omega)
    | (refine s31_of ?_ ?_ <;> simp only [rD, iD, List.length_map, List.length_append, List.length_cons, List.length_nil] <;> omega)
    | (refine s32_of (okB_bD _) ?_; simp only [bD_length]; omega)
    | exact s74_of i10 (by omega) (by omega)
    | exact s72_of i11
    | exact s86_of i2 i3 (by simp only; omega)
    | exact s87_of (by omega) (by omega) i2 i3 i4 i5
    | (refine in_i32 _ ?_ ?_ <;> omega)
    | (refine in_i64 _ ?_ ?_ <;> omega)
    | (simp only [bD_length, List.length_append, List.length_cons, List.length_nil]; omega)
    | (simp; done)
    | (simp; omega)
    | skip
theorem R_ok2 {r : RS} {x : X} {o : List Dat} (hR : RelR r x o) (hI : Inv x) (b : Int) (h0 : 0 ≤ b) (h1 : b ≤ 255) (hN : o.length + x.held.length + 8 ≤ limB) (hs : x.st = 2) : s37 r b := by
  obtain ⟨g1, g2, g3, g4⟩ := hR
  obtain ⟨state, db, priv, params, many, inter, text, final, out⟩ := r
  obtain ⟨st, held, xpriv, xparams, xmany, xinter, xtext, xfin⟩ := x
  obtain ⟨i0, i1, i2, i3, i4, i5, i6, i7, i8, i9, i10, i11, i13⟩ := hI
  simp only at g1 g2 g3 g4 hs i2 i3 i4 i5 i10 i11 hN
  subst hs
  have hh : held = [] := i13 (by simp)
  subst hh
  simp only [ne_eq, Int.reduceEq, not_false_eq_true, forall_const, not_true_eq_false, false_implies, implies_true] at g4
  obtain ⟨k1, k2, k3, k4, k5, k6⟩ := g4
  subst g1 g2 g3 k1 k2 k3 k4 k5 k6
  clear i0 i1 i6 i7 i8 i9 i13
  have q1 := prR_len ([] : List UInt8)
  have q2 := prP_len (([] : List UInt8) ++ [UInt8.ofNat b.toNat])
  have q3 := runes_len ([] : List UInt8).length ([] : List UInt8) (Nat.le_refl _)
  have q4 := putD_len (([] : List UInt8) ++ [UInt8.ofNat b.toNat]).length (([] : List UInt8) ++ [UInt8.ofNat b.toNat]) (Nat.le_refl _)
  simp only [List.length_append, List.length_cons, List.length_nil] at q2 q4
  have hlim : limB = 100000000 := rfl
  have hlim2 : lim = 1073741824 := rfl
  unfold s37
  simp only [decide_eq_true_eq, decide_false, decide_true, Bool.not_false, Bool.not_true, Bool.false_eq_true, Bool.not_eq_true', decide_eq_false_iff_not, Int.reduceEq, Int.reduceLE, Int.reduceLT, if_true, if_false, true_and, and_true, f54, f31_eq, f32_eq, f46_eq, f56_eq, s56, s57, s58, s59, s73, s75, s85, f57, f58, f59, f73, f75, f85, f72_eq, f74_eq, Bool.and_eq_true, Int.reduceSub, Int.reduceAdd, Bool.or_eq_true, dcut_full, List.take_length, toB_bD, bD_snoc _ b h0 h1, s54]
  repeat' (first | exact trivial | (with_reducible refine And.intro ?_ ?_) | (with_reducible refine s_ite ?_ ?_) | (intro hc; first | (exfalso; omega) | skip))
  all_goals first
    | omega
    | exact okB_bD _
    | (refine s46_of ?_; simp only [List.length_append, List.length_cons, List.length_nil]; omega)
    | (refine s31_of ?_ ?_ <;> simp only [rD, iD, List.length_map, List.length_append, List.length_cons, List.length_nil] <;> omega)
    | (refine s32_of (okB_bD _) ?_; simp only [bD_length]; omega)
    | exact s74_of i10 (by omega) (by omega)
    | exact s72_of i11
    | exact s86_of i2 i3 (by simp only; omega)
    | exact s87_of (by omega) (by omega) i2 i3 i4 i5
    | (refine in_i32 _ ?_ ?_ <;> omega)
    | (refine in_i64 _ ?_ ?_ <;> omega)
    | (simp only [bD_length, List.length_append, List.length_cons, List.length_nil]; omega)
    | (simp; done)
    | (simp; omega)
    | skip
theorem R_ok3 {r : RS} {x : X} {o : List Dat} (hR : RelR r x o) (hI : Inv x) (b : Int) (h0 : 0 ≤ b) (h1 : b ≤ 255) (hN : o.length + x.held.length + 8 ≤ limB) (hs : x.st = 3) : s37 r b := by
  obtain ⟨g1, g2, g3, g4⟩ := hR
  obtain ⟨state, db, priv, params, many, inter, text, final, out⟩ := r
  obtain ⟨st, held, xpriv, xparams, xmany, xinter, xtext, xfin⟩ := x
  obtain ⟨i0, i1, i2, i3, i4, i5, i6, i7, i8, i9, i10, i11, i13⟩ := hI
  simp only at g1 g2 g3 g4 hs i2 i3 i4 i5 i10 i11 hN
  subst hs
  have hh : held = [] := i13 (by simp)
  subst hh
  simp only [ne_eq, Int.reduceEq, not_false_eq_true, forall_const, not_true_eq_false, false_implies, implies_true] at g4
  obtain ⟨k1, k2, k3, k4, k5, k6⟩ := g4
  subst g1 g2 g3 k1 k2 k3 k4 k5 k6
  clear i0 i1 i6 i7 i8 i9 i13
  have q1 := prR_len ([] : List UInt8)
  have q2 := prP_len (([] : List UInt8) ++ [UInt8.ofNat b.toNat])
  have q3 := runes_len ([] : List UInt8).length ([] : List UInt8) (Nat.le_refl _)
  have q4 := putD_len (([] : List UInt8) ++ [UInt8.ofNat b.toNat]).length (([] : List UInt8) ++ [UInt8.ofNat b.toNat]) (Nat.le_refl _)
  simp only [List.length_append, List.length_cons, List.length_nil] at q2 q4
  have hlim : limB = 100000000 := rfl
  have hlim2 : lim = 1073741824 := rfl
  unfold s37
  simp only [decide_eq_true_eq, decide_false, decide_true, Bool.not_false, Bool.not_true, Bool.false_eq_true, Bool.not_eq_true', decide_eq_false_iff_not, Int.reduceEq, Int.reduceLE, Int.reduceLT, if_true, if_false, true_and, and_true, f54, f31_eq, f32_eq, f46_eq, f56_eq, s56, s57, s58, s59, s73, s75, s85, f57, f58, f59, f73, f75, f85, f72_eq, f74_eq, Bool.and_eq_true, Int.reduceSub, Int.reduceAdd, Bool.or_eq_true, dcut_full, List.take_length, toB_bD, bD_snoc _ b h0 h1, s54]
  repeat' (first | exact trivial | (with_reducible refine And.intro ?_ ?_) | (with_reducible refine s_ite ?_ ?_) | (intro hc; first | (exfalso; omega) | skip))
  all_goals first
    | omega
    | exact okB_bD _
    | (refine s46_of ?_; simp only [List.length_append, List.length_cons, List.length_nil]; omega)
    | (refine s31_of ?_ ?_ <;> simp only [rD, iD, List.length_map, List.length_append, List.length_cons, List.length_nil] <;> omega)
    | (refine s32_of (okB_bD _) ?_; simp only [bD_length]; omega)
    | exact s74_of i10 (by omega) (by omega)
    | exact s72_of i11
    | exact s86_of i2 i3 (by simp only; omega)
    | exact s87_of (by omega) (by omega) i2 i3 i4 i5
    | (refine in_i32 _ ?_ ?_ <;> omega)
    | (refine in_i64 _ ?_ ?_ <;> omega)
    | (simp only [bD_length, List.length_append, List.length_cons, List.length_nil]; omega)
    | (simp; done)
    | (simp; omega)
    | skip
theorem R_ok4 {r : RS} {x : X} {o : List Dat} (hR : RelR r x o) (hI : Inv x) (b : Int) (h0 : 0 ≤ b) (h1 : b ≤ 255) (hN : o.length + x.held.length + 8 ≤ limB) (hs : x.st = 4) : s37 r b := by
  obtain ⟨g1, g2, g3, g4⟩ := hR
  obtain ⟨state, db, priv, params, many, inter, text, final, out⟩ := r
  obtain ⟨st, held, xpriv, xparams, xmany, xinter, xtext, xfin⟩ := x
  obtain ⟨i0, i1, i2, i3, i4, i5, i6, i7, i8, i9, i10, i11, i13⟩ := hI
  simp only at g1 g2 g3 g4 hs i2 i3 i4 i5 i10 i11 hN
  subst hs
  have hh : held = [] := i13 (by simp)
  subst hh
  simp only [ne_eq, Int.reduceEq, not_false_eq_true, forall_const, not_true_eq_false, false_implies, implies_true] at g4
  obtain ⟨k1, k2, k3, k4, k5, k6⟩ := g4
  subst g1 g2 g3 k1 k2 k3 k4 k5 k6
  clear i0 i1 i6 i7 i8 i9 i13
  have q1 := prR_len ([] : List UInt8)
  have q2 := prP_len (([] : List UInt8) ++ [UInt8.ofNat b.toNat])
  have q3 := runes_len ([] : List UInt8).length ([] : List UInt8) (Nat.le_refl _)
  have q4 := putD_len (([] : List UInt8) ++ [UInt8.ofNat b.toNat]).length (([] : List UInt8) ++ [UInt8.ofNat b.toNat]) (Nat.le_refl _)
  simp only [List.length_append, List.length_cons, List.length_nil] at q2 q4
  have hlim : limB = 100000000 := rfl
  have hlim2 : lim = 1073741824 := rfl
  unfold s37
  simp only [decide_eq_true_eq, decide_false, decide_true, Bool.not_false, Bool.not_true, Bool.false_eq_true, Bool.not_eq_true', decide_eq_false_iff_not, Int.reduceEq, Int.reduceLE, Int.reduceLT, if_true, if_false, true_and, and_true, f54, f31_eq, f32_eq, f46_eq, f56_eq, s56, s57, s58, s59, s73, s75, s85, f57, f58, f59, f73, f75, f85, f72_eq, f74_eq, Bool.and_eq_true, Int.reduceSub, Int.reduceAdd, Bool.or_eq_true, dcut_full, List.take_length, toB_bD, bD_snoc _ b h0 h1, s54]
  repeat' (first | exact trivial | (with_reducible refine And.intro ?_ ?_) | (with_reducible refine s_ite ?_ ?_) | (intro hc; first | (exfalso; omega) | skip))
  all_goals first
    | omega
    | exact okB_bD _
    | (refine s46_of ?_; simp only [List.length_append, List.length_cons, List.length_nil]; omega)
    | (refine s31_of ?_ ?_ <;> simp only [rD, iD, List.length_map, List.length_append, List.length_cons, List.length_nil] <;> omega)
    | (refine s32_of (okB_bD _) ?_; simp only [bD_length]; omega)
    | exact s74_of i10 (by omega) (by omega)
    | exact s72_of i11
    | exact s86_of i2 i3 (by simp only; omega)
    | exact s87_of (by omega) (by omega) i2 i3 i4 i5
    | (refine in_i32 _ ?_ ?_ <;> omega)
    | (refine in_i64 _ ?_ ?_ <;> omega)
    | (simp only [bD_length, List.length_append, List.length_cons, List.length_nil]; omega)
    | (simp; done)
    | (simp; omega)
    | skip
theorem R_ok5 {r : RS} {x : X} {o : List Dat} (hR : RelR r x o) (hI : Inv x) (b : Int) (h0 : 0 ≤ b) (h1 : b ≤ 255) (hN : o.length + x.held.length + 8 ≤ limB) (hs : x.st = 5) : s37 r b := by
  obtain ⟨g1, g2, g3, g4⟩ := hR
  obtain ⟨state, db, priv, params, many, inter, text, final, out⟩ := r
  obtain ⟨st, held, xpriv, xparams, xmany, xinter, xtext, xfin⟩ := x
  obtain ⟨i0, i1, i2, i3, i4, i5, i6, i7, i8, i9, i10, i11, i13⟩ := hI
  simp only at g1 g2 g3 g4 hs i2 i3 i4 i5 i10 i11 hN
  subst hs
  have hh : held = [] := i13 (by simp)
  subst hh
  simp only [ne_eq, Int.reduceEq, not_false_eq_true, forall_const, not_true_eq_false, false_implies, implies_true] at g4
  obtain ⟨k1, k2, k3, k4, k5, k6⟩ := g4
  subst g1 g2 g3 k1 k2 k3 k4 k5 k6
  clear i0 i1 i6 i7 i8 i9 i13
  have q1 := prR_len ([] : List UInt8)
  have q2 := prP_len (([] : List UInt8) ++ [UInt8.ofNat b.toNat])
  have q3 := runes_len ([] : List UInt8).length ([] : List UInt8) (Nat.le_refl _)
  have q4 := putD_len (([] : List UInt8) ++ [UInt8.ofNat b.toNat]).length (([] : List UInt8) ++ [UInt8.ofNat b.toNat]) (Nat.le_refl _)
  simp only [List.length_append, List.length_cons, List.length_nil] at q2 q4
  have hlim : limB = 100000000 := rfl
  have hlim2 : lim = 1073741824 := rfl
  unfold s37
  simp only [decide_eq_true_eq, decide_false, decide_true, Bool.not_false, Bool.not_true, Bool.false_eq_true, Bool.not_eq_true', decide_eq_false_iff_not, Int.reduceEq, Int.reduceLE, Int.reduceLT, if_true, if_false, true_and, and_true, f54, f31_eq, f32_eq, f46_eq, f56_eq, s56, s57, s58, s59, s73, s75, s85, f57, f58, f59, f73, f75, f85, f72_eq, f74_eq, Bool.and_eq_true, Int.reduceSub, Int.reduceAdd, Bool.or_eq_true, dcut_full, List.take_length, toB_bD, bD_snoc _ b h0 h1, s54]
  repeat' (first | exact trivial | (with_reducible refine And.intro ?_ ?_) | (with_reducible refine s_ite ?_ ?_) | (intro hc; first | (exfalso; omega) | skip))
  all_goals first
    | omega
    | exact okB_bD _
    | (refine s46_of ?_; simp only [List.length_append, List.length_cons, List.length_nil]; omega)
    | (refine s31_of ?_ ?_ <;> simp only [rD, iD, List.length_map, List.length_append, List.length_cons, List.length_nil] <;> omega)
    | (refine s32_of (okB_bD _) ?_; simp only [bD_length]; omega)
    | exact s74_of i10 (by omega) (by omega)
    | exact s72_of i11
    | exact s86_of i2 i3 (by simp only; omega)
    | exact s87_of (by omega) (by omega) i2 i3 i4 i5
    | (refine in_i32 _ ?_ ?_ <;> omega)
    | (refine in_i64 _ ?_ ?_ <;> omega)
    | (simp only [bD_length, List.length_append, List.length_cons, List.length_nil]; omega)
    | (simp; done)
    | (simp; omega)
    | skip
theorem R_ok6 {r : RS} {x : X} {o : List Dat} (hR : RelR r x o) (hI : Inv x) (b : Int) (h0 : 0 ≤ b) (h1 : b ≤ 255) (hN : o.length + x.held.length + 8 ≤ limB) (hs : x.st = 6) : s37 r b := by
  obtain ⟨g1, g2, g3, g4⟩ := hR
  obtain ⟨state, db, priv, params, many, inter, text, final, out⟩ := r
  obtain ⟨st, held, xpriv, xparams, xmany, xinter, xtext, xfin⟩ := x
  obtain ⟨i0, i1, i2, i3, i4, i5, i6, i7, i8, i9, i10, i11, i13⟩ := hI
  simp only at g1 g2 g3 g4 hs i2 i3 i4 i5 i10 i11 hN
  subst hs
  have hh : held = [] := i13 (by simp)
  subst hh
  simp only [ne_eq, Int.reduceEq, not_false_eq_true, forall_const, not_true_eq_false, false_implies, implies_true] at g4
  obtain ⟨k1, k2, k3, k4, k5, k6⟩ := g4
  subst g1 g2 g3 k1 k2 k3 k4 k5 k6
  clear i0 i1 i6 i7 i8 i9 i13
  have q1 := prR_len ([] : List UInt8)
  have q2 := prP_len (([] : List UInt8) ++ [UInt8.ofNat b.toNat])
  have q3 := runes_len ([] : List UInt8).length ([] : List UInt8) (Nat.le_refl _)
  have q4 := putD_len (([] : List UInt8) ++ [UInt8.ofNat b.toNat]).length (([] : List UInt8) ++ [UInt8.ofNat b.toNat]) (Nat.le_refl _)
  simp only [List.length_append, List.length_cons, List.length_nil] at q2 q4
  have hlim : limB = 100000000 := rfl
  have hlim2 : lim = 1073741824 := rfl
  unfold s37
  simp only [decide_eq_true_eq, decide_false, decide_true, Bool.not_false, Bool.not_true, Bool.false_eq_true, Bool.not_eq_true', decide_eq_false_iff_not, Int.reduceEq, Int.reduceLE, Int.reduceLT, if_true, if_false, true_and, and_true, f54, f31_eq, f32_eq, f46_eq, f56_eq, s56, s57, s58, s59, s73, s75, s85, f57, f58, f59, f73, f75, f85, f72_eq, f74_eq, Bool.and_eq_true, Int.reduceSub, Int.reduceAdd, Bool.or_eq_true, dcut_full, List.take_length, toB_bD, bD_snoc _ b h0 h1, s54]
  repeat' (first | exact trivial | (with_reducible refine And.intro ?_ ?_) | (with_reducible refine s_ite ?_ ?_) | (intro hc; first | (exfalso; omega) | skip))
  all_goals first
    | omega
    | exact okB_bD _
    | (refine s46_of ?_; simp only [List.length_append, List.length_cons, List.length_nil]; omega)
    | (refine s31_of ?_ ?_ <;> simp only [rD, iD, List.length_map, List.length_append, List.length_cons, List.length_nil] <;> omega)
    | (refine s32_of (okB_bD _) ?_; simp only [bD_length]; omega)
    | exact s74_of i10 (by omega) (by omega)
    | exact s72_of i11
    | exact s86_of i2 i3 (by simp only; omega)
    | exact s87_of (by omega) (by omega) i2 i3 i4 i5
    | (refine in_i32 _ ?_ ?_ <;> omega)
    | (refine in_i64 _ ?_ ?_ <;> omega)
    | (simp only [bD_length, List.length_append, List.length_cons, List.length_nil]; omega)
    | (simp; done)
    | (simp; omega)
    | skip
theorem R_ok7 {r : RS} {x : X} {o : List Dat} (hR : RelR r x o) (hI : Inv x) (b : Int) (h0 : 0 ≤ b) (h1 : b ≤ 255) (hN : o.length + x.held.length + 8 ≤ limB) (hs : x.st = 7) : s37 r b := by
  obtain ⟨g1, g2, g3, g4⟩ := hR
  obtain ⟨state, db, priv, params, many, inter, text, final, out⟩ := r
  obtain ⟨st, held, xpriv, xparams, xmany, xinter, xtext, xfin⟩ := x
  obtain ⟨i0, i1, i2, i3, i4, i5, i6, i7, i8, i9, i10, i11, i13⟩ := hI
  simp only at g1 g2 g3 g4 hs i2 i3 i4 i5 i10 i11 hN
  subst hs
  have hh : held = [] := i13 (by simp)
  subst hh
  simp only [ne_eq, Int.reduceEq, not_false_eq_true, forall_const, not_true_eq_false, false_implies, implies_true] at g4
  obtain ⟨k1, k2, k3, k4, k5, k6⟩ := g4
  subst g1 g2 g3 k1 k2 k3 k4 k5 k6
  clear i0 i1 i6 i7 i8 i9 i13
  have q1 := prR_len ([] : List UInt8)
  have q2 := prP_len (([] : List UInt8) ++ [UInt8.ofNat b.toNat])
  have q3 := runes_len ([] : List UInt8).length ([] : List UInt8) (Nat.le_refl _)
  have q4 := putD_len (([] : List UInt8) ++ [UInt8.ofNat b.toNat]).length (([] : List UInt8) ++ [UInt8.ofNat b.toNat]) (Nat.le_refl _)
  simp only [List.length_append, List.length_cons, List.length_nil] at q2 q4
  have hlim : limB = 100000000 := rfl
  have hlim2 : lim = 1073741824 := rfl
  unfold s37
  simp only [decide_eq_true_eq, decide_false, decide_true, Bool.not_false, Bool.not_true, Bool.false_eq_true, Bool.not_eq_true', decide_eq_false_iff_not, Int.reduceEq, Int.reduceLE, Int.reduceLT, if_true, if_false, true_and, and_true, f54, f31_eq, f32_eq, f46_eq, f56_eq, s56, s57, s58, s59, s73, s75, s85, f57, f58, f59, f73, f75, f85, f72_eq, f74_eq, Bool.and_eq_true, Int.reduceSub, Int.reduceAdd, Bool.or_eq_true, dcut_full, List.take_length, toB_bD, bD_snoc _ b h0 h1, s54]
  repeat' (first | exact trivial | (with_reducible refine And.intro ?_ ?_) | (with_reducible refine s_ite ?_ ?_) | (intro hc; first | (exfalso; omega) | skip))
  all_goals first
    | omega
    | exact okB_bD _
    | (refine s46_of ?_; simp only [List.length_append, List.length_cons, List.length_nil]; omega)
    | (refine s31_of ?_ ?_ <;> simp only [rD, iD, List.length_map, List.length_append, List.length_cons, List.length_nil] <;> omega)
    | (refine s32_of (okB_bD _) ?_; simp only [bD_length]; omega)
    | exact s74_of i10 (by omega) (by omega)
    | exact s72_of i11
    | exact s86_of i2 i3 (by simp only; omega)
    | exact s87_of (by omega) (by omega) i2 i3 i4 i5
    | (refine in_i32 _ ?_ ?_ <;> omega)
    | (refine in_i64 _ ?_ ?_ <;> omega)
    | (simp only [bD_length, List.length_append, List.length_cons, List.length_nil]; omega)
    | (simp; done)
    | (simp; omega)
    | skip
theorem R_ok8 {r : RS} {x : X} {o : List Dat} (hR : RelR r x o) (hI : Inv x) (b : Int) (h0 : 0 ≤ b) (h1 : b ≤ 255) (hN : o.length + x.held.length + 8 ≤ limB) (hs : x.st = 8) : s37 r b := by
  obtain ⟨g1, g2, g3, g4⟩ := hR
  obtain ⟨state, db, priv, params, many, inter, text, final, out⟩ := r
  obtain ⟨st, held, xpriv, xparams, xmany, xinter, xtext, xfin⟩ := x
  obtain ⟨i0, i1, i2, i3, i4, i5, i6, i7, i8, i9, i10, i11, i13⟩ := hI
  simp only at g1 g2 g3 g4 hs i2 i3 i4 i5 i10 i11 hN
  subst hs
  have hh : held = [] := i13 (by simp)
  subst hh
  simp only [ne_eq, Int.reduceEq, not_false_eq_true, forall_const, not_true_eq_false, false_implies, implies_true] at g4
  obtain ⟨k1, k2, k3, k4, k5, k6⟩ := g4
  subst g1 g2 g3 k1 k2 k3 k4 k5 k6
  clear i0 i1 i6 i7 i8 i9 i13
  have q1 := prR_len ([] : List UInt8)
  have q2 := prP_len (([] : List UInt8) ++ [UInt8.ofNat b.toNat])
  have q3 := runes_len ([] : List UInt8).length ([] : List UInt8) (Nat.le_refl _)
  have q4 := putD_len (([] : List UInt8) ++ [UInt8.ofNat b.toNat]).length (([] : List UInt8) ++ [UInt8.ofNat b.toNat]) (Nat.le_refl _)
  simp only [List.length_append, List.length_cons, List.length_nil] at q2 q4
  have hlim : limB = 100000000 := rfl
  have hlim2 : lim = 1073741824 := rfl
  unfold s37
  simp only [decide_eq_true_eq, decide_false, decide_true, Bool.not_false, Bool.not_true, Bool.false_eq_true, Bool.not_eq_true', decide_eq_false_iff_not, Int.reduceEq, Int.reduceLE, Int.reduceLT, if_true, if_false, true_and, and_true, f54, f31_eq, f32_eq, f46_eq, f56_eq, s56, s57, s58, s59, s73, s75, s85, f57, f58, f59, f73, f75, f85, f72_eq, f74_eq, Bool.and_eq_true, Int.reduceSub, Int.reduceAdd, Bool.or_eq_true, dcut_full, List.take_length, toB_bD, bD_snoc _ b h0 h1, s54]
  repeat' (first | exact trivial | (with_reducible refine And.intro ?_ ?_) | (with_reducible refine s_ite ?_ ?_) | (intro hc; first | (exfalso; omega) | skip))
  all_goals first
    | omega
    | exact okB_bD _
    | (refine s46_of ?_; simp only [List.length_append, List.length_cons, List.length_nil]; omega)
    | (refine s31_of ?_ ?_ <;> simp only [rD, iD, List.length_map, List.length_append, List.length_cons, List.length_nil] <;> omega)
    | (refine s32_of (okB_bD _) ?_; simp only [bD_length]; omega)
    | exact s74_of i10 (by omega) (by omega)
    | exact s72_of i11
    | exact s86_of i2 i3 (by simp only; omega)
    | exact s87_of (by omega) (by omega) i2 i3 i4 i5
    | (refine in_i32 _ ?_ ?_ <;> omega)
    | (refine in_i64 _ ?_ ?_ <;> omega)
    | (simp only [bD_length, List.length_append, List.length_cons, List.length_nil]; omega)
    | (simp; done)
    | (simp; omega)
    | skip
theorem R_ok9 {r : RS} {x : X} {o : List Dat} (hR : RelR r x o) (hI : Inv x) (b : Int) (h0 : 0 ≤ b) (h1 : b ≤ 255) (hN : o.length + x.held.length + 8 ≤ limB) (hs : x.st = 9) : s37 r b := by
  obtain ⟨g1, g2, g3, g4⟩ := hR
  obtain ⟨state, db, priv, params, many, inter, text, final, out⟩ := r
  obtain ⟨st, held, xpriv, xparams, xmany, xinter, xtext, xfin⟩ := x
  obtain ⟨i0, i1, i2, i3, i4, i5, i6, i7, i8, i9, i10, i11, i13⟩ := hI
  simp only at g1 g2 g3 g4 hs i2 i3 i4 i5 i10 i11 hN
  subst hs
  have hh : held = [] := i13 (by simp)
  subst hh
  simp only [ne_eq, Int.reduceEq, not_false_eq_true, forall_const, not_true_eq_false, false_implies, implies_true] at g4
  obtain ⟨k1, k2, k3, k4, k5, k6⟩ := g4
  subst g1 g2 g3 k1 k2 k3 k4 k5 k6
  clear i0 i1 i6 i7 i8 i9 i13
  have q1 := prR_len ([] : List UInt8)
  have q2 := prP_len (([] : List UInt8) ++ [UInt8.ofNat b.toNat])
  have q3 := runes_len ([] : List UInt8).length ([] : List UInt8) (Nat.le_refl _)
  have q4 := putD_len (([] : List UInt8) ++ [UInt8.ofNat b.toNat]).length (([] : List UInt8) ++ [UInt8.ofNat b.toNat]) (Nat.le_refl _)
  simp only [List.length_append, List.length_cons, List.length_nil] at q2 q4
  have hlim : limB = 100000000 := rfl
  have hlim2 : lim = 1073741824 := rfl
  unfold s37
  simp only [decide_eq_true_eq, decide_false, decide_true, Bool.not_false, Bool.not_true, Bool.false_eq_true, Bool.not_eq_true', decide_eq_false_iff_not, Int.reduceEq, Int.reduceLE, Int.reduceLT, if_true, if_false, true_and, and_true, f54, f31_eq, f32_eq, f46_eq, f56_eq, s56, s57, s58, s59, s73, s75, s85, f57, f58, f59, f73, f75, f85, f72_eq, f74_eq, Bool.and_eq_true, Int.reduceSub, Int.reduceAdd, Bool.or_eq_true, dcut_full, List.take_length, toB_bD, bD_snoc _ b h0 h1, s54]
  repeat' (first | exact trivial | (with_reducible refine And.intro ?_ ?_) | (with_reducible refine s_ite ?_ ?_) | (intro hc; first | (exfalso; omega) | skip))
  all_goals first
    | omega
    | exact okB_bD _
    | (refine s46_of ?_; simp only [List.length_append, List.length_cons, List.length_nil]; omega)
    | (refine s31_of ?_ ?_ <;> simp only [rD, iD, List.length_map, List.length_append, List.length_cons, List.length_nil] <;> omega)
    | (refine s32_of (okB_bD _) ?_; simp only [bD_length]; omega)
    | exact s74_of i10 (by omega) (by omega)
    | exact s72_of i11
    | exact s86_of i2 i3 (by simp only; omega)
    | exact s87_of (by omega) (by omega) i2 i3 i4 i5
    | (refine in_i32 _ ?_ ?_ <;> omega)
    | (refine in_i64 _ ?_ ?_ <;> omega)
    | (simp only [bD_length, List.length_append, List.length_cons, List.length_nil]; omega)
    | (simp; done)
    | (simp; omega)
    | skip
theorem R_ok10 {r : RS} {x : X} {o : List Dat} (hR : RelR r x o) (hI : Inv x) (b : Int) (h0 : 0 ≤ b) (h1 : b ≤ 255) (hN : o.length + x.held.length + 8 ≤ limB) (hs : x.st = 10) : s37 r b := by
  obtain ⟨g1, g2, g3, g4⟩ := hR
  obtain ⟨state, db, priv, params, many, inter, text, final, out⟩ := r
  obtain ⟨st, held, xpriv, xparams, xmany, xinter, xtext, xfin⟩ := x
  obtain ⟨i0, i1, i2, i3, i4, i5, i6, i7, i8, i9, i10, i11, i13⟩ := hI
  simp only at g1 g2 g3 g4 hs i2 i3 i4 i5 i10 i11 hN
  subst hs
  have hh : held = [] := i13 (by simp)
  subst hh
  simp only [ne_eq, Int.reduceEq, not_false_eq_true, forall_const, not_true_eq_false, false_implies, implies_true] at g4
  obtain ⟨k1, k2, k3, k4, k5, k6⟩ := g4
  subst g1 g2 g3 k1 k2 k3 k4 k5 k6
  clear i0 i1 i6 i7 i8 i9 i13
  have q1 := prR_len ([] : List UInt8)
  have q2 := prP_len (([] : List UInt8) ++ [UInt8.ofNat b.toNat])
  have q3 := runes_len ([] : List UInt8).length ([] : List UInt8) (Nat.le_refl _)
  have q4 := putD_len (([] : List UInt8) ++ [UInt8.ofNat b.toNat]).length (([] : List UInt8) ++ [UInt8.ofNat b.toNat]) (Nat.le_refl _)
  simp only [List.length_append, List.length_cons, List.length_nil] at q2 q4
  have hlim : limB = 100000000 := rfl
  have hlim2 : lim = 1073741824 := rfl
  unfold s37
  simp only [decide_eq_true_eq, decide_false, decide_true, Bool.not_false, Bool.not_true, Bool.false_eq_true, Bool.not_eq_true', decide_eq_false_iff_not, Int.reduceEq, Int.reduceLE, Int.reduceLT, if_true, if_false, true_and, and_true, f54, f31_eq, f32_eq, f46_eq, f56_eq, s56, s57, s58, s59, s73, s75, s85, f57, f58, f59, f73, f75, f85, f72_eq, f74_eq, Bool.and_eq_true, Int.reduceSub, Int.reduceAdd, Bool.or_eq_true, dcut_full, List.take_length, toB_bD, bD_snoc _ b h0 h1, s54]
  repeat' (first | exact trivial | (with_reducible refine And.intro ?_ ?_) | (with_reducible refine s_ite ?_ ?_) | (intro hc; first | (exfalso; omega) | skip))
  all_goals first
    | omega
    | exact okB_bD _
    | (refine s46_of ?_; simp only [List.length_append, List.length_cons, List.length_nil]; omega)
    | (refine s31_of ?_ ?_ <;> simp only [rD, iD, List.length_map, List.length_append, List.length_cons, List.length_nil] <;> omega)
    | (refine s32_of (okB_bD _) ?_; simp only [bD_length]; omega)
    | exact s74_of i10 (by omega) (by omega)
    | exact s72_of i11
    | exact s86_of i2 i3 (by simp only; omega)
    | exact s87_of (by omega) (by omega) i2 i3 i4 i5
    | (refine in_i32 _ ?_ ?_ <;> omega)
    | (refine in_i64 _ ?_ ?_ <;> omega)
    | (simp only [bD_length, List.length_append, List.length_cons, List.length_nil]; omega)
    | (simp; done)
    | (simp; omega)
    | skip
theorem R_ok11 {r : RS} {x : X} {o : List Dat} (hR : RelR r x o) (hI : Inv x) (b : Int) (h0 : 0 ≤ b) (h1 : b ≤ 255) (hN : o.length + x.held.length + 8 ≤ limB) (hs : x.st = 11) : s37 r b := by
  obtain ⟨g1, g2, g3, g4⟩ := hR
  obtain ⟨state, db, priv, params, many, inter, text, final, out⟩ := r
  obtain ⟨st, held, xpriv, xparams, xmany, xinter, xtext, xfin⟩ := x
  obtain ⟨i0, i1, i2, i3, i4, i5, i6, i7, i8, i9, i10, i11, i13⟩ := hI
  simp only at g1 g2 g3 g4 hs i2 i3 i4 i5 i10 i11 hN
  subst hs
  have hh : held = [] := i13 (by simp)
  subst hh
  simp only [ne_eq, Int.reduceEq, not_false_eq_true, forall_const, not_true_eq_false, false_implies, implies_true] at g4
  obtain ⟨k1, k2, k3, k4, k5, k6⟩ := g4
  subst g1 g2 g3 k1 k2 k3 k4 k5 k6
  clear i0 i1 i6 i7 i8 i9 i13
  have q1 := prR_len ([] : List UInt8)
  have q2 := prP_len (([] : List UInt8) ++ [UInt8.ofNat b.toNat])
  have q3 := runes_len ([] : List UInt8).length ([] : List UInt8) (Nat.le_refl _)
  have q4 := putD_len (([] : List UInt8) ++ [UInt8.ofNat b.toNat]).length (([] : List UInt8) ++ [UInt8.ofNat b.toNat]) (Nat.le_refl _)
  simp only [List.length_append, List.length_cons, List.length_nil] at q2 q4
  have hlim : limB = 100000000 := rfl
  have hlim2 : lim = 1073741824 := rfl
  unfold s37
  simp only [decide_eq_true_eq, decide_false, decide_true, Bool.not_false, Bool.not_true, Bool.false_eq_true, Bool.not_eq_true', decide_eq_false_iff_not, Int.reduceEq, Int.reduceLE, Int.reduceLT, if_true, if_false, true_and, and_true, f54, f31_eq, f32_eq, f46_eq, f56_eq, s56, s57, s58, s59, s73, s75, s85, f57, f58, f59, f73, f75, f85, f72_eq, f74_eq, Bool.and_eq_true, Int.reduceSub, Int.reduceAdd, Bool.or_eq_true, dcut_full, List.take_length, toB_bD, bD_snoc _ b h0 h1, s54]
  repeat' (first | exact trivial | (with_reducible refine And.intro ?_ ?_) | (with_reducible refine s_ite ?_ ?_) | (intro hc; first | (exfalso; omega) | skip))
  all_goals first
    | omega
    | exact okB_bD _
    | (refine s46_of ?_; simp only [List.length_append, List.length_cons, List.length_nil]; omega)
    | (refine s31_of ?_ ?_ <;> simp only [rD, iD, List.length_map, List.length_append, List.length_cons, List.length_nil] <;> omega)
    | (refine s32_of (okB_bD _) ?_; simp only [bD_length]; omega)
    | exact s74_of i10 (by omega) (by omega)
    | exact s72_of i11
    | exact s86_of i2 i3 (by simp only; omega)
    | exact s87_of (by omega) (by omega) i2 i3 i4 i5
    | (refine in_i32 _ ?_ ?_ <;> omega)
    | (refine in_i64 _ ?_ ?_ <;> omega)
    | (simp only [bD_length, List.length_append, List.length_cons, List.length_nil]; omega)
    | (simp; done)
    | (simp; omega)
    | skip
theorem R_ok12 {r : RS} {x : X} {o : List Dat} (hR : RelR r x o) (hI : Inv x) (b : Int) (h0 : 0 ≤ b) (h1 : b ≤ 255) (hN : o.length + x.held.length + 8 ≤ limB) (hs : x.st = 12) : s37 r b := by
  obtain ⟨g1, g2, g3, g4⟩ := hR
  obtain ⟨state, db, priv, params, many, inter, text, final, out⟩ := r
  obtain ⟨st, held, xpriv, xparams, xmany, xinter, xtext, xfin⟩ := x
  obtain ⟨i0, i1, i2, i3, i4, i5, i6, i7, i8, i9, i10, i11, i13⟩ := hI
  simp only at g1 g2 g3 g4 hs i2 i3 i4 i5 i10 i11 hN
  subst hs
  have hh : held = [] := i13 (by simp)
  subst hh
  simp only [ne_eq, Int.reduceEq, not_false_eq_true, forall_const, not_true_eq_false, false_implies, implies_true] at g4
  obtain ⟨k1, k2, k3, k4, k5, k6⟩ := g4
  subst g1 g2 g3 k1 k2 k3 k4 k5 k6
  clear i0 i1 i6 i7 i8 i9 i13
  have q1 := prR_len ([] : List UInt8)
  have q2 := prP_len (([] : List UInt8) ++ [UInt8.ofNat b.toNat])
  have q3 := runes_len ([] : List UInt8).length ([] : List UInt8) (Nat.le_refl _)
  have q4 := putD_len (([] : List UInt8) ++ [UInt8.ofNat b.toNat]).length (([] : List UInt8) ++ [UInt8.ofNat b.toNat]) (Nat.le_refl _)
  simp only [List.length_append, List.length_cons, List.length_nil] at q2 q4
  have hlim : limB = 100000000 := rfl
  have hlim2 : lim = 1073741824 := rfl
  unfold s37
  simp only [decide_eq_true_eq, decide_false, decide_true, Bool.not_false, Bool.not_true, Bool.false_eq_true, Bool.not_eq_true', decide_eq_false_iff_not, Int.reduceEq, Int.reduceLE, Int.reduceLT, if_true, if_false, true_and, and_true, f54, f31_eq, f32_eq, f46_eq, f56_eq, s56, s57, s58, s59, s73, s75, s85, f57, f58, f59, f73, f75, f85, f72_eq, f74_eq, Bool.and_eq_true, Int.reduceSub, Int.reduceAdd, Bool.or_eq_true, dcut_full, List.take_length, toB_bD, bD_snoc _ b h0 h1, s54]
  repeat' (first | exact trivial | (with_reducible refine And.intro ?_ ?_) | (with_reducible refine s_ite ?_ ?_) | (intro hc; first | (exfalso; omega) | skip))
  all_goals first
    | omega
    | exact okB_bD _
    | (refine s46_of ?_; simp only [List.length_append, List.length_cons, List.length_nil]; omega)
    | (refine s31_of ?_ ?_ <;> simp only [rD, iD, List.length_map, List.length_append, List.length_cons, List.length_nil] <;> omega)
    | (refine s32_of (okB_bD _) ?_; simp only [bD_length]; omega)
    | exact s74_of i10 (by omega) (by omega)
    | exact s72_of i11
    | exact s86_of i2 i3 (by simp only; omega)
    | exact s87_of (by omega) (by omega) i2 i3 i4 i5
    | (refine in_i32 _ ?_ ?_ <;> omega)
    | (refine in_i64 _ ?_ ?_ <;> omega)
    | (simp only [bD_length, List.length_append, List.length_cons, List.length_nil]; omega)
    | (simp; done)
    | (simp; omega)
    | skip
theorem R_ok13 {r : RS} {x : X} {o : List Dat} (hR : RelR r x o) (hI : Inv x) (b : Int) (h0 : 0 ≤ b) (h1 : b ≤ 255) (hN : o.length + x.held.length + 8 ≤ limB) (hs : x.st = 13) : s37 r b := by
  obtain ⟨g1, g2, g3, g4⟩ := hR
  obtain ⟨state, db, priv, params, many, inter, text, final, out⟩ := r
  obtain ⟨st, held, xpriv, xparams, xmany, xinter, xtext, xfin⟩ := x
  obtain ⟨i0, i1, i2, i3, i4, i5, i6, i7, i8, i9, i10, i11, i13⟩ := hI
  simp only at g1 g2 g3 g4 hs i2 i3 i4 i5 i10 i11 hN
  subst hs
  have hh : held = [] := i13 (by simp)
  subst hh
  simp only [ne_eq, Int.reduceEq, not_false_eq_true, forall_const, not_true_eq_false, false_implies, implies_true] at g4
  skip
  subst g1 g2 g3 
  clear i0 i1 i6 i7 i8 i9 i13
  have q1 := prR_len ([] : List UInt8)
  have q2 := prP_len (([] : List UInt8) ++ [UInt8.ofNat b.toNat])
  have q3 := runes_len ([] : List UInt8).length ([] : List UInt8) (Nat.le_refl _)
  have q4 := putD_len (([] : List UInt8) ++ [UInt8.ofNat b.toNat]).length (([] : List UInt8) ++ [UInt8.ofNat b.toNat]) (Nat.le_refl _)
  simp only [List.length_append, List.length_cons, List.length_nil] at q2 q4
  have hlim : limB = 100000000 := rfl
  have hlim2 : lim = 1073741824 := rfl
  unfold s37
  simp only [decide_eq_true_eq, decide_false, decide_true, Bool.not_false, Bool.not_true, Bool.false_eq_true, Bool.not_eq_true', decide_eq_false_iff_not, Int.reduceEq, Int.reduceLE, Int.reduceLT, if_true, if_false, true_and, and_true, f54, f31_eq, f32_eq, f46_eq, f56_eq, s56, s57, s58, s59, s73, s75, s85, f57, f58, f59, f73, f75, f85, f72_eq, f74_eq, Bool.and_eq_true, Int.reduceSub, Int.reduceAdd, Bool.or_eq_true, dcut_full, List.take_length, toB_bD, bD_snoc _ b h0 h1, s54]
  repeat' (first | exact trivial | (with_reducible refine And.intro ?_ ?_) | (with_reducible refine s_ite ?_ ?_) | (intro hc; first | (exfalso; omega) | skip))
  all_goals first
    | omega
    | exact okB_bD _
    | (refine s46_of ?_; simp only [List.length_append, List.length_cons, List.length_nil]; omega)
    | (refine s31_of ?_ ?_ <;> simp only [rD, iD, List.length_map, List.length_append, List.length_cons, List.length_nil] <;> omega)
    | (refine s32_of (okB_bD _) ?_; simp only [bD_length]; omega)
    | exact s74_of i10 (by omega) (by omega)
    | exact s72_of i11
    | exact s86_of i2 i3 (by simp only; omega)
    | exact s87_of (by omega) (by omega) i2 i3 i4 i5
    | (refine in_i32 _ ?_ ?_ <;> omega)
    | (refine in_i64 _ ?_ ?_ <;> omega)
    | (simp only [bD_length, List.length_append, List.length_cons, List.length_nil]; omega)
    | (simp; done)
    | (simp; omega)
    | skip
theorem R_ok {r : RS} {x : X} {o : List Dat} (hR : RelR r x o) (hI : Inv x) (b : Int) (h0 : 0 ≤ b) (h1 : b ≤ 255) (hN : o.length + x.held.length + 8 ≤ limB) : s37 r b := by
  have a := hI.s0
  have c := hI.s1
  rcases (show x.st = 0 ∨ x.st = 1 ∨ x.st = 2 ∨ x.st = 3 ∨ x.st = 4 ∨ x.st = 5 ∨ x.st = 6 ∨ x.st = 7 ∨ x.st = 8 ∨ x.st = 9 ∨ x.st = 10 ∨ x.st = 11 ∨ x.st = 12 ∨ x.st = 13 by omega) with h | h | h | h | h | h | h | h | h | h | h | h | h | h
  · exact R_ok0 hR hI b h0 h1 hN h
  · exact R_ok1 hR hI b h0 h1 hN h
  · exact R_ok2 hR hI b h0 h1 hN h
  · exact R_ok3 hR hI b h0 h1 hN h
  · exact R_ok4 hR hI b h0 h1 hN h
  · exact R_ok5 hR hI b h0 h1 hN h
  · exact R_ok6 hR hI b h0 h1 hN h
  · exact R_ok7 hR hI b h0 h1 hN h
  · exact R_ok8 hR hI b h0 h1 hN h
  · exact R_ok9 hR hI b h0 h1 hN h
  · exact R_ok10 hR hI b h0 h1 hN h
  · exact R_ok11 hR hI b h0 h1 hN h
  · exact R_ok12 hR hI b h0 h1 hN h
  · exact R_ok13 hR hI b h0 h1 hN h
end Go.Proofs.YtojdmhfkgkfpaaaDoor
