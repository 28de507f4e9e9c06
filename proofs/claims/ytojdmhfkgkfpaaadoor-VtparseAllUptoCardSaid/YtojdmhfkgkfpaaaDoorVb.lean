/- VtparseAll answers true for every input of bulk at most 1048576: program and reference run as one machine; conditions: the second form's bound, the listed tables. -/
import Derived.Test.YtojdmhfkgkfpaaaDoorPs1
import Derived.Test.YtojdmhfkgkfpaaaDoorMi
import Derived.Test.YtojdmhfkgkfpaaaDoorRs2
import Derived.Test.YtojdmhfkgkfpaaaDoorRl
import Derived.Test.YtojdmhfkgkfpaaaDoorRows
import Derived.Lib.LaidU8
import Derived.Test.YtojdmhfkgkfpaaaDoorAmLaw
import Derived.Test.YtojdmhfkgkfpaaaDoorCards
import Derived.Test.YtojdmhfkgkfpaaaDoorTie
import Derived.WalkKit
import Derived.ProofKit
import Derived.OpenShut
import Derived.Deep.DeepHandedRow
import Derived.Lib.LaidTab
set_option linter.unusedVariables false
set_option linter.unusedSimpArgs false
set_option maxRecDepth 100000
namespace Go.Proofs.YtojdmhfkgkfpaaaDoor
open Go.AM Go.LTxt Go.LMem Go.RowKit
set_option maxHeartbeats 0
theorem in_i64P (n : Int) (h0 : -1000000000 ≤ n) (h1 : n ≤ 1000000000) : inR .i64 n = true := by
  simp [inR, IntKind.min, IntKind.max, IntKind.bits, IntKind.signed]; omega
theorem in_i32P (n : Int) (h0 : -1000000 ≤ n) (h1 : n ≤ 1000000) : inR .i32 n = true := by
  simp [inR, IntKind.min, IntKind.max, IntKind.bits, IntKind.signed]; omega
theorem s29_of {p : PS} {d : DS} {l : List Dat} (h : p.out.length ≤ limB) (h2 : l.length ≤ limB) : s29 p d l := by
  unfold s29 s29_1 limB lim at *
  simp
  omega
theorem s30_of {d : DS} (h : okB d.b) (h2 : d.b.length ≤ limB) : s30 d := by
  unfold s30 s45 s45_2 limB lim at *
  refine s_ite (fun _ => trivial) (fun _ => ?_)
  simp [h]
  omega
theorem s48_of {p : PS} {d : DS} {b : Int} (h : p.out.length ≤ limB) : s48 p d b := by
  unfold s48 limB at *
  exact ⟨app_ok (by omega), trivial⟩
theorem s49_of {p : PS} {d : DS} {k : Int} (h : p.out.length ≤ limB) (h2 : p.aParams.length ≤ 16) : s49 p d k := by
  unfold s49 limB at *
  have e : dapp [] 0 0 p.aParams = p.aParams := by simp [dapp]
  simp only [List.take_length, Nat.zero_add, e, Nat.le_refl, decide_true, true_and, and_true, dapp_full]
  have a1 : appOK (PS.out p) 0 (List.length (PS.out p)) 1 72 = true := app_ok (by omega)
  have a2 : appOK [] 0 0 (List.length (PS.aParams p)) 8 = true := by simp [appOK]; omega
  refine s_ite (fun hc => ⟨a1, ⟨a2, a1⟩, ?_⟩) (fun hc => ⟨a2, a1⟩)
  have : p.aParams = [] := List.eq_nil_of_length_eq_zero (by simpa using hc)
  rw [this]
theorem s69_of {p : PS} {d : DS} {b : Int} (h : p.aInter.size ≤ 2) (h0 : 0 ≤ b) (h1 : b < 128) : s69 p d b := by
  unfold s69
  refine s_ite (fun _ => ⟨in_i32P b (by omega) (by omega), ?_, trivial⟩) (fun _ => trivial)
  rw [enc_size b h0 h1]
  exact decide_eq_true (by omega)
theorem s68_of {p : PS} {d : DS} {b : Int} (h : p.aText.size ≤ 1024) : s68 p d b := by
  unfold s68
  refine s_ite (fun _ => ⟨?_, trivial⟩) (fun _ => trivial)
  have e : (strD [Dat.int b]).size = 1 := rfl
  rw [e]
  exact decide_eq_true (by omega)
theorem getD_rngP {ps : List Dat} (h : ∀ d ∈ ps, -1 ≤ d.toInt ∧ d.toInt ≤ 65535) (i : Nat) (hi : i < ps.length) : -1 ≤ (ps.getD i default).toInt ∧ (ps.getD i default).toInt ≤ 65535 := by
  rw [List.getD_eq_getElem?_getD, List.getElem?_eq_getElem hi]
  exact h _ (List.getElem_mem hi)
theorem s84_of {p : PS} {d : DS} {b : Int} (h0 : 48 ≤ b) (h1 : b ≤ 255) (hm : 0 ≤ p.many) (hm2 : p.many ≤ limB) (hl : (p.aParams.length : Int) = min p.many 16) (hr : ∀ d ∈ p.aParams, -1 ≤ d.toInt ∧ d.toInt ≤ 65535) : s84 p d b := by
  have hlim : limB = 16777216 := rfl
  unfold s84
  rw [wrap_u8P b h0 h1]
  simp only [decide_eq_true_eq]
  refine s_ite (fun hz => s_ite (fun _ => ⟨rfl, by simp [dapp], trivial⟩) (fun _ => ⟨in_i64P _ (by omega) (by omega), in_i64P _ ?_ ?_, trivial⟩)) (fun hz => s_ite (fun _ => ⟨in_i64P _ (by omega) (by omega), s_ite (fun _ => ⟨app_ok (by omega), by simp, trivial⟩) (fun _ => ⟨by simp, trivial⟩)⟩) (fun _ => s_ite (fun hg => ?_) (fun _ => ⟨by simp, trivial⟩)))
  · simp only [if_true]; omega
  · simp only [if_true]; omega
  · have hg2 := getD_rngP hr (p.many - 1).toNat (by omega)
    simp only [Nat.zero_add, if_true]
    refine ⟨in_i64P _ (by omega) (by omega), by simp; omega, by omega, in_i64P _ (by omega) (by omega), in_i64P _ (by omega) (by omega), in_i64P _ (by omega) (by omega), by omega, ?_⟩
    simp
theorem P_ok0 {p : PS} {d : DS} {x : X} {o : List Dat} {M : Int} (hR : RelP p d x o M) (hI : Inv x) (b : Int) (h0 : 0 ≤ b) (h1 : b ≤ 255) (hN : o.length + x.held.length + 8 ≤ limB) (hM : M ≤ limB) (hs : x.st = 0) : s35 p d b := by
  obtain ⟨a1, a2, g1, g2, g3, a3, a4, a5, g4⟩ := hR
  obtain ⟨made, state, aKind, aRune, aFinal, aPrivate, aParams, aInter, aText, many, out⟩ := p
  obtain ⟨dmade, db⟩ := d
  obtain ⟨st, held, xpriv, xparams, xmany, xinter, xtext, xfin⟩ := x
  obtain ⟨i0, i1, i2, i3, i4, i5, i6, i7, i8, i9, i10, i11, i13⟩ := hI
  simp only at a1 a2 a3 a4 a5 g1 g2 g3 g4 hs i2 i3 i4 i5 i10 i11 i13 hN
  subst hs
  skip
  simp only [ne_eq, Int.reduceEq, not_false_eq_true, forall_const, not_true_eq_false, false_implies, implies_true, or_true, true_or, or_false, false_or, or_self] at g4
  skip
  subst a1 a2 a3 g1 g2 g3 
  clear i0 i1 i6 i7 i8 i9 i13
  have q1 := prR_len held
  have q2 := prP_len (held ++ [UInt8.ofNat b.toNat])
  have q3 := runes_len held.length held (Nat.le_refl _)
  have q4 := putD_len (held ++ [UInt8.ofNat b.toNat]).length (held ++ [UInt8.ofNat b.toNat]) (Nat.le_refl _)
  simp only [List.length_append, List.length_cons, List.length_nil] at q2 q4
  have hlim : limB = 16777216 := rfl
  have hlim2 : lim = 1073741824 := rfl
  unfold s35
  simp only [decide_eq_true_eq, decide_false, decide_true, Bool.not_false, Bool.not_true, Bool.false_eq_true, Bool.not_eq_true', decide_eq_false_iff_not, Int.reduceEq, Int.reduceLE, Int.reduceLT, if_true, if_false, true_and, and_true, f29_eq, f30_eq, f48_eq, f49_eq, s50, s51, s52, s53, s67, s70, s71, f50, f51, f52, f53, f67, f68_eq, f69_eq, f70, f71, pair_eta, Bool.and_eq_true, Int.reduceSub, Int.reduceAdd, Bool.or_eq_true, dcut_full, List.take_length, toB_bD, bD_snocP _ b h0 h1]
  repeat' (first | exact trivial | (with_reducible refine And.intro ?_ ?_) | (with_reducible refine s_ite ?_ ?_) | (intro hc; first | (exfalso; omega) | skip))
  all_goals first
    | rfl
    | omega
    | exact okB_bD _
    | (refine s48_of ?_; simp only [List.length_append, List.length_cons, List.length_nil]; omega)
    | (refine s49_of ?_ ?_ <;> simp only [List.length_append, List.length_cons, List.length_nil] <;> omega)
    | (refine s29_of ?_ ?_ <;> simp only [rD, iD, List.length_map, List.length_append, List.length_cons, List.length_nil] <;> omega)
    | (refine s29_of ?_ ?_ <;> simp only [List.length_append, List.length_cons, List.length_nil] <;> omega)
    | (refine s30_of (okB_bD _) ?_; simp only [bD_length]; omega)
    | exact s69_of i10 (by omega) (by omega)
    | exact s68_of i11
    | exact s84_of (by omega) (by omega) a4 (by simp only; omega) (by simp only; omega) i5
    | (refine in_i32P _ ?_ ?_ <;> omega)
    | (refine in_i64P _ ?_ ?_ <;> omega)
    | (simp only [bD_length, List.length_append, List.length_cons, List.length_nil]; omega)
    | (simp; done)
    | (simp; omega)
    | skip
theorem P_ok1 {p : PS} {d : DS} {x : X} {o : List Dat} {M : Int} (hR : RelP p d x o M) (hI : Inv x) (b : Int) (h0 : 0 ≤ b) (h1 : b ≤ 255) (hN : o.length + x.held.length + 8 ≤ limB) (hM : M ≤ limB) (hs : x.st = 1) : s35 p d b := by
  obtain ⟨a1, a2, g1, g2, g3, a3, a4, a5, g4⟩ := hR
  obtain ⟨made, state, aKind, aRune, aFinal, aPrivate, aParams, aInter, aText, many, out⟩ := p
  obtain ⟨dmade, db⟩ := d
  obtain ⟨st, held, xpriv, xparams, xmany, xinter, xtext, xfin⟩ := x
  obtain ⟨i0, i1, i2, i3, i4, i5, i6, i7, i8, i9, i10, i11, i13⟩ := hI
  simp only at a1 a2 a3 a4 a5 g1 g2 g3 g4 hs i2 i3 i4 i5 i10 i11 i13 hN
  subst hs
  have hh : held = [] := i13 (by simp)
  subst hh
  simp only [ne_eq, Int.reduceEq, not_false_eq_true, forall_const, not_true_eq_false, false_implies, implies_true, or_true, true_or, or_false, false_or, or_self] at g4
  obtain ⟨k1, k2, k3, k4, k5, k6⟩ := g4
  subst a1 a2 a3 g1 g2 g3 k1 k2 k3 k4 k5 k6
  clear i0 i1 i6 i7 i8 i9 i13
  have q1 := prR_len ([] : List UInt8)
  have q2 := prP_len (([] : List UInt8) ++ [UInt8.ofNat b.toNat])
  have q3 := runes_len ([] : List UInt8).length ([] : List UInt8) (Nat.le_refl _)
  have q4 := putD_len (([] : List UInt8) ++ [UInt8.ofNat b.toNat]).length (([] : List UInt8) ++ [UInt8.ofNat b.toNat]) (Nat.le_refl _)
  simp only [List.length_append, List.length_cons, List.length_nil] at q2 q4
  have hlim : limB = 16777216 := rfl
  have hlim2 : lim = 1073741824 := rfl
  unfold s35
  simp only [decide_eq_true_eq, decide_false, decide_true, Bool.not_false, Bool.not_true, Bool.false_eq_true, Bool.not_eq_true', decide_eq_false_iff_not, Int.reduceEq, Int.reduceLE, Int.reduceLT, if_true, if_false, true_and, and_true, f29_eq, f30_eq, f48_eq, f49_eq, s50, s51, s52, s53, s67, s70, s71, f50, f51, f52, f53, f67, f68_eq, f69_eq, f70, f71, pair_eta, Bool.and_eq_true, Int.reduceSub, Int.reduceAdd, Bool.or_eq_true, dcut_full, List.take_length, toB_bD, bD_snocP _ b h0 h1]
  repeat' (first | exact trivial | (with_reducible refine And.intro ?_ ?_) | (with_reducible refine s_ite ?_ ?_) | (intro hc; first | (exfalso; omega) | skip))
  all_goals first
    | rfl
    | omega
    | exact okB_bD _
    | (refine s48_of ?_; simp only [List.length_append, List.length_cons, List.length_nil]; omega)
    | (refine s49_of ?_ ?_ <;> simp only [List.length_append, List.length_cons, List.length_nil] <;> omega)
    | (refine s29_of ?_ ?_ <;> simp only [rD, iD, List.length_map, List.length_append, List.length_cons, List.length_nil] <;> omega)
    | (refine s29_of ?_ ?_ <;> simp only [List.length_append, List.length_cons, List.length_nil] <;> omega)
    | (refine s30_of (okB_bD _) ?_; simp only [bD_length]; omega)
    | exact s69_of i10 (by omega) (by omega)
    | exact s68_of i11
    | exact s84_of (by omega) (by omega) a4 (by simp only; omega) (by simp only; omega) i5
    | (refine in_i32P _ ?_ ?_ <;> omega)
    | (refine in_i64P _ ?_ ?_ <;> omega)
    | (simp only [bD_length, List.length_append, List.length_cons, List.length_nil]; omega)
    | (simp; done)
    | (simp; omega)
    | skip
theorem P_ok2 {p : PS} {d : DS} {x : X} {o : List Dat} {M : Int} (hR : RelP p d x o M) (hI : Inv x) (b : Int) (h0 : 0 ≤ b) (h1 : b ≤ 255) (hN : o.length + x.held.length + 8 ≤ limB) (hM : M ≤ limB) (hs : x.st = 2) : s35 p d b := by
  obtain ⟨a1, a2, g1, g2, g3, a3, a4, a5, g4⟩ := hR
  obtain ⟨made, state, aKind, aRune, aFinal, aPrivate, aParams, aInter, aText, many, out⟩ := p
  obtain ⟨dmade, db⟩ := d
  obtain ⟨st, held, xpriv, xparams, xmany, xinter, xtext, xfin⟩ := x
  obtain ⟨i0, i1, i2, i3, i4, i5, i6, i7, i8, i9, i10, i11, i13⟩ := hI
  simp only at a1 a2 a3 a4 a5 g1 g2 g3 g4 hs i2 i3 i4 i5 i10 i11 i13 hN
  subst hs
  have hh : held = [] := i13 (by simp)
  subst hh
  simp only [ne_eq, Int.reduceEq, not_false_eq_true, forall_const, not_true_eq_false, false_implies, implies_true, or_true, true_or, or_false, false_or, or_self] at g4
  obtain ⟨k1, k2, k3, k4, k5, k6⟩ := g4
  subst a1 a2 a3 g1 g2 g3 k1 k2 k3 k4 k5 k6
  clear i0 i1 i6 i7 i8 i9 i13
  have q1 := prR_len ([] : List UInt8)
  have q2 := prP_len (([] : List UInt8) ++ [UInt8.ofNat b.toNat])
  have q3 := runes_len ([] : List UInt8).length ([] : List UInt8) (Nat.le_refl _)
  have q4 := putD_len (([] : List UInt8) ++ [UInt8.ofNat b.toNat]).length (([] : List UInt8) ++ [UInt8.ofNat b.toNat]) (Nat.le_refl _)
  simp only [List.length_append, List.length_cons, List.length_nil] at q2 q4
  have hlim : limB = 16777216 := rfl
  have hlim2 : lim = 1073741824 := rfl
  unfold s35
  simp only [decide_eq_true_eq, decide_false, decide_true, Bool.not_false, Bool.not_true, Bool.false_eq_true, Bool.not_eq_true', decide_eq_false_iff_not, Int.reduceEq, Int.reduceLE, Int.reduceLT, if_true, if_false, true_and, and_true, f29_eq, f30_eq, f48_eq, f49_eq, s50, s51, s52, s53, s67, s70, s71, f50, f51, f52, f53, f67, f68_eq, f69_eq, f70, f71, pair_eta, Bool.and_eq_true, Int.reduceSub, Int.reduceAdd, Bool.or_eq_true, dcut_full, List.take_length, toB_bD, bD_snocP _ b h0 h1]
  repeat' (first | exact trivial | (with_reducible refine And.intro ?_ ?_) | (with_reducible refine s_ite ?_ ?_) | (intro hc; first | (exfalso; omega) | skip))
  all_goals first
    | rfl
    | omega
    | exact okB_bD _
    | (refine s48_of ?_; simp only [List.length_append, List.length_cons, List.length_nil]; omega)
    | (refine s49_of ?_ ?_ <;> simp only [List.length_append, List.length_cons, List.length_nil] <;> omega)
    | (refine s29_of ?_ ?_ <;> simp only [rD, iD, List.length_map, List.length_append, List.length_cons, List.length_nil] <;> omega)
    | (refine s29_of ?_ ?_ <;> simp only [List.length_append, List.length_cons, List.length_nil] <;> omega)
    | (refine s30_of (okB_bD _) ?_; simp only [bD_length]; omega)
    | exact s69_of i10 (by omega) (by omega)
    | exact s68_of i11
    | exact s84_of (by omega) (by omega) a4 (by simp only; omega) (by simp only; omega) i5
    | (refine in_i32P _ ?_ ?_ <;> omega)
    | (refine in_i64P _ ?_ ?_ <;> omega)
    | (simp only [bD_length, List.length_append, List.length_cons, List.length_nil]; omega)
    | (simp; done)
    | (simp; omega)
    | skip
theorem P_ok3 {p : PS} {d : DS} {x : X} {o : List Dat} {M : Int} (hR : RelP p d x o M) (hI : Inv x) (b : Int) (h0 : 0 ≤ b) (h1 : b ≤ 255) (hN : o.length + x.held.length + 8 ≤ limB) (hM : M ≤ limB) (hs : x.st = 3) : s35 p d b := by
  obtain ⟨a1, a2, g1, g2, g3, a3, a4, a5, g4⟩ := hR
  obtain ⟨made, state, aKind, aRune, aFinal, aPrivate, aParams, aInter, aText, many, out⟩ := p
  obtain ⟨dmade, db⟩ := d
  obtain ⟨st, held, xpriv, xparams, xmany, xinter, xtext, xfin⟩ := x
  obtain ⟨i0, i1, i2, i3, i4, i5, i6, i7, i8, i9, i10, i11, i13⟩ := hI
  simp only at a1 a2 a3 a4 a5 g1 g2 g3 g4 hs i2 i3 i4 i5 i10 i11 i13 hN
  subst hs
  have hh : held = [] := i13 (by simp)
  subst hh
  simp only [ne_eq, Int.reduceEq, not_false_eq_true, forall_const, not_true_eq_false, false_implies, implies_true, or_true, true_or, or_false, false_or, or_self] at g4
  obtain ⟨k1, k2, k3, k4, k5, k6⟩ := g4
  subst a1 a2 a3 g1 g2 g3 k1 k2 k3 k4 k5 k6
  clear i0 i1 i6 i7 i8 i9 i13
  have q1 := prR_len ([] : List UInt8)
  have q2 := prP_len (([] : List UInt8) ++ [UInt8.ofNat b.toNat])
  have q3 := runes_len ([] : List UInt8).length ([] : List UInt8) (Nat.le_refl _)
  have q4 := putD_len (([] : List UInt8) ++ [UInt8.ofNat b.toNat]).length (([] : List UInt8) ++ [UInt8.ofNat b.toNat]) (Nat.le_refl _)
  simp only [List.length_append, List.length_cons, List.length_nil] at q2 q4
  have hlim : limB = 16777216 := rfl
  have hlim2 : lim = 1073741824 := rfl
  unfold s35
  simp only [decide_eq_true_eq, decide_false, decide_true, Bool.not_false, Bool.not_true, Bool.false_eq_true, Bool.not_eq_true', decide_eq_false_iff_not, Int.reduceEq, Int.reduceLE, Int.reduceLT, if_true, if_false, true_and, and_true, f29_eq, f30_eq, f48_eq, f49_eq, s50, s51, s52, s53, s67, s70, s71, f50, f51, f52, f53, f67, f68_eq, f69_eq, f70, f71, pair_eta, Bool.and_eq_true, Int.reduceSub, Int.reduceAdd, Bool.or_eq_true, dcut_full, List.take_length, toB_bD, bD_snocP _ b h0 h1]
  repeat' (first | exact trivial | (with_reducible refine And.intro ?_ ?_) | (with_reducible refine s_ite ?_ ?_) | (intro hc; first | (exfalso; omega) | skip))
  all_goals first
    | rfl
    | omega
    | exact okB_bD _
    | (refine s48_of ?_; simp only [List.length_append, List.length_cons, List.length_nil]; omega)
    | (refine s49_of ?_ ?_ <;> simp only [List.length_append, List.length_cons, List.length_nil] <;> omega)
    | (refine s29_of ?_ ?_ <;> simp only [rD, iD, List.length_map, List.length_append, List.length_cons, List.length_nil] <;> omega)
    | (refine s29_of ?_ ?_ <;> simp only [List.length_append, List.length_cons, List.length_nil] <;> omega)
    | (refine s30_of (okB_bD _) ?_; simp only [bD_length]; omega)
    | exact s69_of i10 (by omega) (by omega)
    | exact s68_of i11
    | exact s84_of (by omega) (by omega) a4 (by simp only; omega) (by simp only; omega) i5
    | (refine in_i32P _ ?_ ?_ <;> omega)
    | (refine in_i64P _ ?_ ?_ <;> omega)
    | (simp only [bD_length, List.length_append, List.length_cons, List.length_nil]; omega)
    | (simp; done)
    | (simp; omega)
    | skip
theorem P_ok4 {p : PS} {d : DS} {x : X} {o : List Dat} {M : Int} (hR : RelP p d x o M) (hI : Inv x) (b : Int) (h0 : 0 ≤ b) (h1 : b ≤ 255) (hN : o.length + x.held.length + 8 ≤ limB) (hM : M ≤ limB) (hs : x.st = 4) : s35 p d b := by
  obtain ⟨a1, a2, g1, g2, g3, a3, a4, a5, g4⟩ := hR
  obtain ⟨made, state, aKind, aRune, aFinal, aPrivate, aParams, aInter, aText, many, out⟩ := p
  obtain ⟨dmade, db⟩ := d
  obtain ⟨st, held, xpriv, xparams, xmany, xinter, xtext, xfin⟩ := x
  obtain ⟨i0, i1, i2, i3, i4, i5, i6, i7, i8, i9, i10, i11, i13⟩ := hI
  simp only at a1 a2 a3 a4 a5 g1 g2 g3 g4 hs i2 i3 i4 i5 i10 i11 i13 hN
  subst hs
  have hh : held = [] := i13 (by simp)
  subst hh
  simp only [ne_eq, Int.reduceEq, not_false_eq_true, forall_const, not_true_eq_false, false_implies, implies_true, or_true, true_or, or_false, false_or, or_self] at g4
  obtain ⟨k1, k2, k3, k4, k5, k6⟩ := g4
  subst a1 a2 a3 g1 g2 g3 k1 k2 k3 k4 k5 k6
  clear i0 i1 i6 i7 i8 i9 i13
  have q1 := prR_len ([] : List UInt8)
  have q2 := prP_len (([] : List UInt8) ++ [UInt8.ofNat b.toNat])
  have q3 := runes_len ([] : List UInt8).length ([] : List UInt8) (Nat.le_refl _)
  have q4 := putD_len (([] : List UInt8) ++ [UInt8.ofNat b.toNat]).length (([] : List UInt8) ++ [UInt8.ofNat b.toNat]) (Nat.le_refl _)
  simp only [List.length_append, List.length_cons, List.length_nil] at q2 q4
  have hlim : limB = 16777216 := rfl
  have hlim2 : lim = 1073741824 := rfl
  unfold s35
  simp only [decide_eq_true_eq, decide_false, decide_true, Bool.not_false, Bool.not_true, Bool.false_eq_true, Bool.not_eq_true', decide_eq_false_iff_not, Int.reduceEq, Int.reduceLE, Int.reduceLT, if_true, if_false, true_and, and_true, f29_eq, f30_eq, f48_eq, f49_eq, s50, s51, s52, s53, s67, s70, s71, f50, f51, f52, f53, f67, f68_eq, f69_eq, f70, f71, pair_eta, Bool.and_eq_true, Int.reduceSub, Int.reduceAdd, Bool.or_eq_true, dcut_full, List.take_length, toB_bD, bD_snocP _ b h0 h1]
  repeat' (first | exact trivial | (with_reducible refine And.intro ?_ ?_) | (with_reducible refine s_ite ?_ ?_) | (intro hc; first | (exfalso; omega) | skip))
  all_goals first
    | rfl
    | omega
    | exact okB_bD _
    | (refine s48_of ?_; simp only [List.length_append, List.length_cons, List.length_nil]; omega)
    | (refine s49_of ?_ ?_ <;> simp only [List.length_append, List.length_cons, List.length_nil] <;> omega)
    | (refine s29_of ?_ ?_ <;> simp only [rD, iD, List.length_map, List.length_append, List.length_cons, List.length_nil] <;> omega)
    | (refine s29_of ?_ ?_ <;> simp only [List.length_append, List.length_cons, List.length_nil] <;> omega)
    | (refine s30_of (okB_bD _) ?_; simp only [bD_length]; omega)
    | exact s69_of i10 (by omega) (by omega)
    | exact s68_of i11
    | exact s84_of (by omega) (by omega) a4 (by simp only; omega) (by simp only; omega) i5
    | (refine in_i32P _ ?_ ?_ <;> omega)
    | (refine in_i64P _ ?_ ?_ <;> omega)
    | (simp only [bD_length, List.length_append, List.length_cons, List.length_nil]; omega)
    | (simp; done)
    | (simp; omega)
    | skip
theorem P_ok5 {p : PS} {d : DS} {x : X} {o : List Dat} {M : Int} (hR : RelP p d x o M) (hI : Inv x) (b : Int) (h0 : 0 ≤ b) (h1 : b ≤ 255) (hN : o.length + x.held.length + 8 ≤ limB) (hM : M ≤ limB) (hs : x.st = 5) : s35 p d b := by
  obtain ⟨a1, a2, g1, g2, g3, a3, a4, a5, g4⟩ := hR
  obtain ⟨made, state, aKind, aRune, aFinal, aPrivate, aParams, aInter, aText, many, out⟩ := p
  obtain ⟨dmade, db⟩ := d
  obtain ⟨st, held, xpriv, xparams, xmany, xinter, xtext, xfin⟩ := x
  obtain ⟨i0, i1, i2, i3, i4, i5, i6, i7, i8, i9, i10, i11, i13⟩ := hI
  simp only at a1 a2 a3 a4 a5 g1 g2 g3 g4 hs i2 i3 i4 i5 i10 i11 i13 hN
  subst hs
  have hh : held = [] := i13 (by simp)
  subst hh
  simp only [ne_eq, Int.reduceEq, not_false_eq_true, forall_const, not_true_eq_false, false_implies, implies_true, or_true, true_or, or_false, false_or, or_self] at g4
  obtain ⟨k1, k2, k3, k4, k5, k6⟩ := g4
  subst a1 a2 a3 g1 g2 g3 k1 k2 k3 k4 k5 k6
  clear i0 i1 i6 i7 i8 i9 i13
  have q1 := prR_len ([] : List UInt8)
  have q2 := prP_len (([] : List UInt8) ++ [UInt8.ofNat b.toNat])
  have q3 := runes_len ([] : List UInt8).length ([] : List UInt8) (Nat.le_refl _)
  have q4 := putD_len (([] : List UInt8) ++ [UInt8.ofNat b.toNat]).length (([] : List UInt8) ++ [UInt8.ofNat b.toNat]) (Nat.le_refl _)
  simp only [List.length_append, List.length_cons, List.length_nil] at q2 q4
  have hlim : limB = 16777216 := rfl
  have hlim2 : lim = 1073741824 := rfl
  unfold s35
  simp only [decide_eq_true_eq, decide_false, decide_true, Bool.not_false, Bool.not_true, Bool.false_eq_true, Bool.not_eq_true', decide_eq_false_iff_not, Int.reduceEq, Int.reduceLE, Int.reduceLT, if_true, if_false, true_and, and_true, f29_eq, f30_eq, f48_eq, f49_eq, s50, s51, s52, s53, s67, s70, s71, f50, f51, f52, f53, f67, f68_eq, f69_eq, f70, f71, pair_eta, Bool.and_eq_true, Int.reduceSub, Int.reduceAdd, Bool.or_eq_true, dcut_full, List.take_length, toB_bD, bD_snocP _ b h0 h1]
  repeat' (first | exact trivial | (with_reducible refine And.intro ?_ ?_) | (with_reducible refine s_ite ?_ ?_) | (intro hc; first | (exfalso; omega) | skip))
  all_goals first
    | rfl
    | omega
    | exact okB_bD _
    | (refine s48_of ?_; simp only [List.length_append, List.length_cons, List.length_nil]; omega)
    | (refine s49_of ?_ ?_ <;> simp only [List.length_append, List.length_cons, List.length_nil] <;> omega)
    | (refine s29_of ?_ ?_ <;> simp only [rD, iD, List.length_map, List.length_append, List.length_cons, List.length_nil] <;> omega)
    | (refine s29_of ?_ ?_ <;> simp only [List.length_append, List.length_cons, List.length_nil] <;> omega)
    | (refine s30_of (okB_bD _) ?_; simp only [bD_length]; omega)
    | exact s69_of i10 (by omega) (by omega)
    | exact s68_of i11
    | exact s84_of (by omega) (by omega) a4 (by simp only; omega) (by simp only; omega) i5
    | (refine in_i32P _ ?_ ?_ <;> omega)
    | (refine in_i64P _ ?_ ?_ <;> omega)
    | (simp only [bD_length, List.length_append, List.length_cons, List.length_nil]; omega)
    | (simp; done)
    | (simp; omega)
    | skip
theorem P_ok6 {p : PS} {d : DS} {x : X} {o : List Dat} {M : Int} (hR : RelP p d x o M) (hI : Inv x) (b : Int) (h0 : 0 ≤ b) (h1 : b ≤ 255) (hN : o.length + x.held.length + 8 ≤ limB) (hM : M ≤ limB) (hs : x.st = 6) : s35 p d b := by
  obtain ⟨a1, a2, g1, g2, g3, a3, a4, a5, g4⟩ := hR
  obtain ⟨made, state, aKind, aRune, aFinal, aPrivate, aParams, aInter, aText, many, out⟩ := p
  obtain ⟨dmade, db⟩ := d
  obtain ⟨st, held, xpriv, xparams, xmany, xinter, xtext, xfin⟩ := x
  obtain ⟨i0, i1, i2, i3, i4, i5, i6, i7, i8, i9, i10, i11, i13⟩ := hI
  simp only at a1 a2 a3 a4 a5 g1 g2 g3 g4 hs i2 i3 i4 i5 i10 i11 i13 hN
  subst hs
  have hh : held = [] := i13 (by simp)
  subst hh
  simp only [ne_eq, Int.reduceEq, not_false_eq_true, forall_const, not_true_eq_false, false_implies, implies_true, or_true, true_or, or_false, false_or, or_self] at g4
  obtain ⟨k1, k2, k3, k4, k5, k6⟩ := g4
  subst a1 a2 a3 g1 g2 g3 k1 k2 k3 k4 k5 k6
  clear i0 i1 i6 i7 i8 i9 i13
  have q1 := prR_len ([] : List UInt8)
  have q2 := prP_len (([] : List UInt8) ++ [UInt8.ofNat b.toNat])
  have q3 := runes_len ([] : List UInt8).length ([] : List UInt8) (Nat.le_refl _)
  have q4 := putD_len (([] : List UInt8) ++ [UInt8.ofNat b.toNat]).length (([] : List UInt8) ++ [UInt8.ofNat b.toNat]) (Nat.le_refl _)
  simp only [List.length_append, List.length_cons, List.length_nil] at q2 q4
  have hlim : limB = 16777216 := rfl
  have hlim2 : lim = 1073741824 := rfl
  unfold s35
  simp only [decide_eq_true_eq, decide_false, decide_true, Bool.not_false, Bool.not_true, Bool.false_eq_true, Bool.not_eq_true', decide_eq_false_iff_not, Int.reduceEq, Int.reduceLE, Int.reduceLT, if_true, if_false, true_and, and_true, f29_eq, f30_eq, f48_eq, f49_eq, s50, s51, s52, s53, s67, s70, s71, f50, f51, f52, f53, f67, f68_eq, f69_eq, f70, f71, pair_eta, Bool.and_eq_true, Int.reduceSub, Int.reduceAdd, Bool.or_eq_true, dcut_full, List.take_length, toB_bD, bD_snocP _ b h0 h1]
  repeat' (first | exact trivial | (with_reducible refine And.intro ?_ ?_) | (with_reducible refine s_ite ?_ ?_) | (intro hc; first | (exfalso; omega) | skip))
  all_goals first
    | rfl
    | omega
    | exact okB_bD _
    | (refine s48_of ?_; simp only [List.length_append, List.length_cons, List.length_nil]; omega)
    | (refine s49_of ?_ ?_ <;> simp only [List.length_append, List.length_cons, List.length_nil] <;> omega)
    | (refine s29_of ?_ ?_ <;> simp only [rD, iD, List.length_map, List.length_append, List.length_cons, List.length_nil] <;> omega)
    | (refine s29_of ?_ ?_ <;> simp only [List.length_append, List.length_cons, List.length_nil] <;> omega)
    | (refine s30_of (okB_bD _) ?_; simp only [bD_length]; omega)
    | exact s69_of i10 (by omega) (by omega)
    | exact s68_of i11
    | exact s84_of (by omega) (by omega) a4 (by simp only; omega) (by simp only; omega) i5
    | (refine in_i32P _ ?_ ?_ <;> omega)
    | (refine in_i64P _ ?_ ?_ <;> omega)
    | (simp only [bD_length, List.length_append, List.length_cons, List.length_nil]; omega)
    | (simp; done)
    | (simp; omega)
    | skip
theorem P_ok7 {p : PS} {d : DS} {x : X} {o : List Dat} {M : Int} (hR : RelP p d x o M) (hI : Inv x) (b : Int) (h0 : 0 ≤ b) (h1 : b ≤ 255) (hN : o.length + x.held.length + 8 ≤ limB) (hM : M ≤ limB) (hs : x.st = 7) : s35 p d b := by
  obtain ⟨a1, a2, g1, g2, g3, a3, a4, a5, g4⟩ := hR
  obtain ⟨made, state, aKind, aRune, aFinal, aPrivate, aParams, aInter, aText, many, out⟩ := p
  obtain ⟨dmade, db⟩ := d
  obtain ⟨st, held, xpriv, xparams, xmany, xinter, xtext, xfin⟩ := x
  obtain ⟨i0, i1, i2, i3, i4, i5, i6, i7, i8, i9, i10, i11, i13⟩ := hI
  simp only at a1 a2 a3 a4 a5 g1 g2 g3 g4 hs i2 i3 i4 i5 i10 i11 i13 hN
  subst hs
  have hh : held = [] := i13 (by simp)
  subst hh
  simp only [ne_eq, Int.reduceEq, not_false_eq_true, forall_const, not_true_eq_false, false_implies, implies_true, or_true, true_or, or_false, false_or, or_self] at g4
  obtain ⟨k1, k2, k3, k4, k5, k6⟩ := g4
  subst a1 a2 a3 g1 g2 g3 k1 k2 k3 k4 k5 k6
  clear i0 i1 i6 i7 i8 i9 i13
  have q1 := prR_len ([] : List UInt8)
  have q2 := prP_len (([] : List UInt8) ++ [UInt8.ofNat b.toNat])
  have q3 := runes_len ([] : List UInt8).length ([] : List UInt8) (Nat.le_refl _)
  have q4 := putD_len (([] : List UInt8) ++ [UInt8.ofNat b.toNat]).length (([] : List UInt8) ++ [UInt8.ofNat b.toNat]) (Nat.le_refl _)
  simp only [List.length_append, List.length_cons, List.length_nil] at q2 q4
  have hlim : limB = 16777216 := rfl
  have hlim2 : lim = 1073741824 := rfl
  unfold s35
  simp only [decide_eq_true_eq, decide_false, decide_true, Bool.not_false, Bool.not_true, Bool.false_eq_true, Bool.not_eq_true', decide_eq_false_iff_not, Int.reduceEq, Int.reduceLE, Int.reduceLT, if_true, if_false, true_and, and_true, f29_eq, f30_eq, f48_eq, f49_eq, s50, s51, s52, s53, s67, s70, s71, f50, f51, f52, f53, f67, f68_eq, f69_eq, f70, f71, pair_eta, Bool.and_eq_true, Int.reduceSub, Int.reduceAdd, Bool.or_eq_true, dcut_full, List.take_length, toB_bD, bD_snocP _ b h0 h1]
  repeat' (first | exact trivial | (with_reducible refine And.intro ?_ ?_) | (with_reducible refine s_ite ?_ ?_) | (intro hc; first | (exfalso; omega) | skip))
  all_goals first
    | rfl
    | omega
    | exact okB_bD _
    | (refine s48_of ?_; simp only [List.length_append, List.length_cons, List.length_nil]; omega)
    | (refine s49_of ?_ ?_ <;> simp only [List.length_append, List.length_cons, List.length_nil] <;> omega)
    | (refine s29_of ?_ ?_ <;> simp only [rD, iD, List.length_map, List.length_append, List.length_cons, List.length_nil] <;> omega)
    | (refine s29_of ?_ ?_ <;> simp only [List.length_append, List.length_cons, List.length_nil] <;> omega)
    | (refine s30_of (okB_bD _) ?_; simp only [bD_length]; omega)
    | exact s69_of i10 (by omega) (by omega)
    | exact s68_of i11
    | exact s84_of (by omega) (by omega) a4 (by simp only; omega) (by simp only; omega) i5
    | (refine in_i32P _ ?_ ?_ <;> omega)
    | (refine in_i64P _ ?_ ?_ <;> omega)
    | (simp only [bD_length, List.length_append, List.length_cons, List.length_nil]; omega)
    | (simp; done)
    | (simp; omega)
    | skip
theorem P_ok8 {p : PS} {d : DS} {x : X} {o : List Dat} {M : Int} (hR : RelP p d x o M) (hI : Inv x) (b : Int) (h0 : 0 ≤ b) (h1 : b ≤ 255) (hN : o.length + x.held.length + 8 ≤ limB) (hM : M ≤ limB) (hs : x.st = 8) : s35 p d b := by
  obtain ⟨a1, a2, g1, g2, g3, a3, a4, a5, g4⟩ := hR
  obtain ⟨made, state, aKind, aRune, aFinal, aPrivate, aParams, aInter, aText, many, out⟩ := p
  obtain ⟨dmade, db⟩ := d
  obtain ⟨st, held, xpriv, xparams, xmany, xinter, xtext, xfin⟩ := x
  obtain ⟨i0, i1, i2, i3, i4, i5, i6, i7, i8, i9, i10, i11, i13⟩ := hI
  simp only at a1 a2 a3 a4 a5 g1 g2 g3 g4 hs i2 i3 i4 i5 i10 i11 i13 hN
  subst hs
  have hh : held = [] := i13 (by simp)
  subst hh
  simp only [ne_eq, Int.reduceEq, not_false_eq_true, forall_const, not_true_eq_false, false_implies, implies_true, or_true, true_or, or_false, false_or, or_self] at g4
  obtain ⟨k1, k2, k3, k4, k5, k6⟩ := g4
  subst a1 a2 a3 g1 g2 g3 k1 k2 k3 k4 k5 k6
  clear i0 i1 i6 i7 i8 i9 i13
  have q1 := prR_len ([] : List UInt8)
  have q2 := prP_len (([] : List UInt8) ++ [UInt8.ofNat b.toNat])
  have q3 := runes_len ([] : List UInt8).length ([] : List UInt8) (Nat.le_refl _)
  have q4 := putD_len (([] : List UInt8) ++ [UInt8.ofNat b.toNat]).length (([] : List UInt8) ++ [UInt8.ofNat b.toNat]) (Nat.le_refl _)
  simp only [List.length_append, List.length_cons, List.length_nil] at q2 q4
  have hlim : limB = 16777216 := rfl
  have hlim2 : lim = 1073741824 := rfl
  unfold s35
  simp only [decide_eq_true_eq, decide_false, decide_true, Bool.not_false, Bool.not_true, Bool.false_eq_true, Bool.not_eq_true', decide_eq_false_iff_not, Int.reduceEq, Int.reduceLE, Int.reduceLT, if_true, if_false, true_and, and_true, f29_eq, f30_eq, f48_eq, f49_eq, s50, s51, s52, s53, s67, s70, s71, f50, f51, f52, f53, f67, f68_eq, f69_eq, f70, f71, pair_eta, Bool.and_eq_true, Int.reduceSub, Int.reduceAdd, Bool.or_eq_true, dcut_full, List.take_length, toB_bD, bD_snocP _ b h0 h1]
  repeat' (first | exact trivial | (with_reducible refine And.intro ?_ ?_) | (with_reducible refine s_ite ?_ ?_) | (intro hc; first | (exfalso; omega) | skip))
  all_goals first
    | rfl
    | omega
    | exact okB_bD _
    | (refine s48_of ?_; simp only [List.length_append, List.length_cons, List.length_nil]; omega)
    | (refine s49_of ?_ ?_ <;> simp only [List.length_append, List.length_cons, List.length_nil] <;> omega)
    | (refine s29_of ?_ ?_ <;> simp only [rD, iD, List.length_map, List.length_append, List.length_cons, List.length_nil] <;> omega)
    | (refine s29_of ?_ ?_ <;> simp only [List.length_append, List.length_cons, List.length_nil] <;> omega)
    | (refine s30_of (okB_bD _) ?_; simp only [bD_length]; omega)
    | exact s69_of i10 (by omega) (by omega)
    | exact s68_of i11
    | exact s84_of (by omega) (by omega) a4 (by simp only; omega) (by simp only; omega) i5
    | (refine in_i32P _ ?_ ?_ <;> omega)
    | (refine in_i64P _ ?_ ?_ <;> omega)
    | (simp only [bD_length, List.length_append, List.length_cons, List.length_nil]; omega)
    | (simp; done)
    | (simp; omega)
    | skip
theorem P_ok9 {p : PS} {d : DS} {x : X} {o : List Dat} {M : Int} (hR : RelP p d x o M) (hI : Inv x) (b : Int) (h0 : 0 ≤ b) (h1 : b ≤ 255) (hN : o.length + x.held.length + 8 ≤ limB) (hM : M ≤ limB) (hs : x.st = 9) : s35 p d b := by
  obtain ⟨a1, a2, g1, g2, g3, a3, a4, a5, g4⟩ := hR
  obtain ⟨made, state, aKind, aRune, aFinal, aPrivate, aParams, aInter, aText, many, out⟩ := p
  obtain ⟨dmade, db⟩ := d
  obtain ⟨st, held, xpriv, xparams, xmany, xinter, xtext, xfin⟩ := x
  obtain ⟨i0, i1, i2, i3, i4, i5, i6, i7, i8, i9, i10, i11, i13⟩ := hI
  simp only at a1 a2 a3 a4 a5 g1 g2 g3 g4 hs i2 i3 i4 i5 i10 i11 i13 hN
  subst hs
  have hh : held = [] := i13 (by simp)
  subst hh
  simp only [ne_eq, Int.reduceEq, not_false_eq_true, forall_const, not_true_eq_false, false_implies, implies_true, or_true, true_or, or_false, false_or, or_self] at g4
  obtain ⟨k1, k2, k3, k4, k5, k6⟩ := g4
  subst a1 a2 a3 g1 g2 g3 k1 k2 k3 k4 k5 k6
  clear i0 i1 i6 i7 i8 i9 i13
  have q1 := prR_len ([] : List UInt8)
  have q2 := prP_len (([] : List UInt8) ++ [UInt8.ofNat b.toNat])
  have q3 := runes_len ([] : List UInt8).length ([] : List UInt8) (Nat.le_refl _)
  have q4 := putD_len (([] : List UInt8) ++ [UInt8.ofNat b.toNat]).length (([] : List UInt8) ++ [UInt8.ofNat b.toNat]) (Nat.le_refl _)
  simp only [List.length_append, List.length_cons, List.length_nil] at q2 q4
  have hlim : limB = 16777216 := rfl
  have hlim2 : lim = 1073741824 := rfl
  unfold s35
  simp only [decide_eq_true_eq, decide_false, decide_true, Bool.not_false, Bool.not_true, Bool.false_eq_true, Bool.not_eq_true', decide_eq_false_iff_not, Int.reduceEq, Int.reduceLE, Int.reduceLT, if_true, if_false, true_and, and_true, f29_eq, f30_eq, f48_eq, f49_eq, s50, s51, s52, s53, s67, s70, s71, f50, f51, f52, f53, f67, f68_eq, f69_eq, f70, f71, pair_eta, Bool.and_eq_true, Int.reduceSub, Int.reduceAdd, Bool.or_eq_true, dcut_full, List.take_length, toB_bD, bD_snocP _ b h0 h1]
  repeat' (first | exact trivial | (with_reducible refine And.intro ?_ ?_) | (with_reducible refine s_ite ?_ ?_) | (intro hc; first | (exfalso; omega) | skip))
  all_goals first
    | rfl
    | omega
    | exact okB_bD _
    | (refine s48_of ?_; simp only [List.length_append, List.length_cons, List.length_nil]; omega)
    | (refine s49_of ?_ ?_ <;> simp only [List.length_append, List.length_cons, List.length_nil] <;> omega)
    | (refine s29_of ?_ ?_ <;> simp only [rD, iD, List.length_map, List.length_append, List.length_cons, List.length_nil] <;> omega)
    | (refine s29_of ?_ ?_ <;> simp only [List.length_append, List.length_cons, List.length_nil] <;> omega)
    | (refine s30_of (okB_bD _) ?_; simp only [bD_length]; omega)
    | exact s69_of i10 (by omega) (by omega)
    | exact s68_of i11
    | exact s84_of (by omega) (by omega) a4 (by simp only; omega) (by simp only; omega) i5
    | (refine in_i32P _ ?_ ?_ <;> omega)
    | (refine in_i64P _ ?_ ?_ <;> omega)
    | (simp only [bD_length, List.length_append, List.length_cons, List.length_nil]; omega)
    | (simp; done)
    | (simp; omega)
    | skip
theorem P_ok10 {p : PS} {d : DS} {x : X} {o : List Dat} {M : Int} (hR : RelP p d x o M) (hI : Inv x) (b : Int) (h0 : 0 ≤ b) (h1 : b ≤ 255) (hN : o.length + x.held.length + 8 ≤ limB) (hM : M ≤ limB) (hs : x.st = 10) : s35 p d b := by
  obtain ⟨a1, a2, g1, g2, g3, a3, a4, a5, g4⟩ := hR
  obtain ⟨made, state, aKind, aRune, aFinal, aPrivate, aParams, aInter, aText, many, out⟩ := p
  obtain ⟨dmade, db⟩ := d
  obtain ⟨st, held, xpriv, xparams, xmany, xinter, xtext, xfin⟩ := x
  obtain ⟨i0, i1, i2, i3, i4, i5, i6, i7, i8, i9, i10, i11, i13⟩ := hI
  simp only at a1 a2 a3 a4 a5 g1 g2 g3 g4 hs i2 i3 i4 i5 i10 i11 i13 hN
  subst hs
  have hh : held = [] := i13 (by simp)
  subst hh
  simp only [ne_eq, Int.reduceEq, not_false_eq_true, forall_const, not_true_eq_false, false_implies, implies_true, or_true, true_or, or_false, false_or, or_self] at g4
  obtain ⟨k1, k2, k3, k4, k5, k6⟩ := g4
  subst a1 a2 a3 g1 g2 g3 k1 k2 k3 k4 k5 k6
  clear i0 i1 i6 i7 i8 i9 i13
  have q1 := prR_len ([] : List UInt8)
  have q2 := prP_len (([] : List UInt8) ++ [UInt8.ofNat b.toNat])
  have q3 := runes_len ([] : List UInt8).length ([] : List UInt8) (Nat.le_refl _)
  have q4 := putD_len (([] : List UInt8) ++ [UInt8.ofNat b.toNat]).length (([] : List UInt8) ++ [UInt8.ofNat b.toNat]) (Nat.le_refl _)
  simp only [List.length_append, List.length_cons, List.length_nil] at q2 q4
  have hlim : limB = 16777216 := rfl
  have hlim2 : lim = 1073741824 := rfl
  unfold s35
  simp only [decide_eq_true_eq, decide_false, decide_true, Bool.not_false, Bool.not_true, Bool.false_eq_true, Bool.not_eq_true', decide_eq_false_iff_not, Int.reduceEq, Int.reduceLE, Int.reduceLT, if_true, if_false, true_and, and_true, f29_eq, f30_eq, f48_eq, f49_eq, s50, s51, s52, s53, s67, s70, s71, f50, f51, f52, f53, f67, f68_eq, f69_eq, f70, f71, pair_eta, Bool.and_eq_true, Int.reduceSub, Int.reduceAdd, Bool.or_eq_true, dcut_full, List.take_length, toB_bD, bD_snocP _ b h0 h1]
  repeat' (first | exact trivial | (with_reducible refine And.intro ?_ ?_) | (with_reducible refine s_ite ?_ ?_) | (intro hc; first | (exfalso; omega) | skip))
  all_goals first
    | rfl
    | omega
    | exact okB_bD _
    | (refine s48_of ?_; simp only [List.length_append, List.length_cons, List.length_nil]; omega)
    | (refine s49_of ?_ ?_ <;> simp only [List.length_append, List.length_cons, List.length_nil] <;> omega)
    | (refine s29_of ?_ ?_ <;> simp only [rD, iD, List.length_map, List.length_append, List.length_cons, List.length_nil] <;> omega)
    | (refine s29_of ?_ ?_ <;> simp only [List.length_append, List.length_cons, List.length_nil] <;> omega)
    | (refine s30_of (okB_bD _) ?_; simp only [bD_length]; omega)
    | exact s69_of i10 (by omega) (by omega)
    | exact s68_of i11
    | exact s84_of (by omega) (by omega) a4 (by simp only; omega) (by simp only; omega) i5
    | (refine in_i32P _ ?_ ?_ <;> omega)
    | (refine in_i64P _ ?_ ?_ <;> omega)
    | (simp only [bD_length, List.length_append, List.length_cons, List.length_nil]; omega)
    | (simp; done)
    | (simp; omega)
    | skip
theorem P_ok11 {p : PS} {d : DS} {x : X} {o : List Dat} {M : Int} (hR : RelP p d x o M) (hI : Inv x) (b : Int) (h0 : 0 ≤ b) (h1 : b ≤ 255) (hN : o.length + x.held.length + 8 ≤ limB) (hM : M ≤ limB) (hs : x.st = 11) : s35 p d b := by
  obtain ⟨a1, a2, g1, g2, g3, a3, a4, a5, g4⟩ := hR
  obtain ⟨made, state, aKind, aRune, aFinal, aPrivate, aParams, aInter, aText, many, out⟩ := p
  obtain ⟨dmade, db⟩ := d
  obtain ⟨st, held, xpriv, xparams, xmany, xinter, xtext, xfin⟩ := x
  obtain ⟨i0, i1, i2, i3, i4, i5, i6, i7, i8, i9, i10, i11, i13⟩ := hI
  simp only at a1 a2 a3 a4 a5 g1 g2 g3 g4 hs i2 i3 i4 i5 i10 i11 i13 hN
  subst hs
  have hh : held = [] := i13 (by simp)
  subst hh
  simp only [ne_eq, Int.reduceEq, not_false_eq_true, forall_const, not_true_eq_false, false_implies, implies_true, or_true, true_or, or_false, false_or, or_self] at g4
  obtain ⟨k1, k2, k3, k4, k5, k6⟩ := g4
  subst a1 a2 a3 g1 g2 g3 k1 k2 k3 k4 k5 k6
  clear i0 i1 i6 i7 i8 i9 i13
  have q1 := prR_len ([] : List UInt8)
  have q2 := prP_len (([] : List UInt8) ++ [UInt8.ofNat b.toNat])
  have q3 := runes_len ([] : List UInt8).length ([] : List UInt8) (Nat.le_refl _)
  have q4 := putD_len (([] : List UInt8) ++ [UInt8.ofNat b.toNat]).length (([] : List UInt8) ++ [UInt8.ofNat b.toNat]) (Nat.le_refl _)
  simp only [List.length_append, List.length_cons, List.length_nil] at q2 q4
  have hlim : limB = 16777216 := rfl
  have hlim2 : lim = 1073741824 := rfl
  unfold s35
  simp only [decide_eq_true_eq, decide_false, decide_true, Bool.not_false, Bool.not_true, Bool.false_eq_true, Bool.not_eq_true', decide_eq_false_iff_not, Int.reduceEq, Int.reduceLE, Int.reduceLT, if_true, if_false, true_and, and_true, f29_eq, f30_eq, f48_eq, f49_eq, s50, s51, s52, s53, s67, s70, s71, f50, f51, f52, f53, f67, f68_eq, f69_eq, f70, f71, pair_eta, Bool.and_eq_true, Int.reduceSub, Int.reduceAdd, Bool.or_eq_true, dcut_full, List.take_length, toB_bD, bD_snocP _ b h0 h1]
  repeat' (first | exact trivial | (with_reducible refine And.intro ?_ ?_) | (with_reducible refine s_ite ?_ ?_) | (intro hc; first | (exfalso; omega) | skip))
  all_goals first
    | rfl
    | omega
    | exact okB_bD _
    | (refine s48_of ?_; simp only [List.length_append, List.length_cons, List.length_nil]; omega)
    | (refine s49_of ?_ ?_ <;> simp only [List.length_append, List.length_cons, List.length_nil] <;> omega)
    | (refine s29_of ?_ ?_ <;> simp only [rD, iD, List.length_map, List.length_append, List.length_cons, List.length_nil] <;> omega)
    | (refine s29_of ?_ ?_ <;> simp only [List.length_append, List.length_cons, List.length_nil] <;> omega)
    | (refine s30_of (okB_bD _) ?_; simp only [bD_length]; omega)
    | exact s69_of i10 (by omega) (by omega)
    | exact s68_of i11
    | exact s84_of (by omega) (by omega) a4 (by simp only; omega) (by simp only; omega) i5
    | (refine in_i32P _ ?_ ?_ <;> omega)
    | (refine in_i64P _ ?_ ?_ <;> omega)
    | (simp only [bD_length, List.length_append, List.length_cons, List.length_nil]; omega)
    | (simp; done)
    | (simp; omega)
    | skip
theorem P_ok12 {p : PS} {d : DS} {x : X} {o : List Dat} {M : Int} (hR : RelP p d x o M) (hI : Inv x) (b : Int) (h0 : 0 ≤ b) (h1 : b ≤ 255) (hN : o.length + x.held.length + 8 ≤ limB) (hM : M ≤ limB) (hs : x.st = 12) : s35 p d b := by
  obtain ⟨a1, a2, g1, g2, g3, a3, a4, a5, g4⟩ := hR
  obtain ⟨made, state, aKind, aRune, aFinal, aPrivate, aParams, aInter, aText, many, out⟩ := p
  obtain ⟨dmade, db⟩ := d
  obtain ⟨st, held, xpriv, xparams, xmany, xinter, xtext, xfin⟩ := x
  obtain ⟨i0, i1, i2, i3, i4, i5, i6, i7, i8, i9, i10, i11, i13⟩ := hI
  simp only at a1 a2 a3 a4 a5 g1 g2 g3 g4 hs i2 i3 i4 i5 i10 i11 i13 hN
  subst hs
  have hh : held = [] := i13 (by simp)
  subst hh
  simp only [ne_eq, Int.reduceEq, not_false_eq_true, forall_const, not_true_eq_false, false_implies, implies_true, or_true, true_or, or_false, false_or, or_self] at g4
  obtain ⟨k1, k2, k3, k4, k5, k6⟩ := g4
  subst a1 a2 a3 g1 g2 g3 k1 k2 k3 k4 k5 k6
  clear i0 i1 i6 i7 i8 i9 i13
  have q1 := prR_len ([] : List UInt8)
  have q2 := prP_len (([] : List UInt8) ++ [UInt8.ofNat b.toNat])
  have q3 := runes_len ([] : List UInt8).length ([] : List UInt8) (Nat.le_refl _)
  have q4 := putD_len (([] : List UInt8) ++ [UInt8.ofNat b.toNat]).length (([] : List UInt8) ++ [UInt8.ofNat b.toNat]) (Nat.le_refl _)
  simp only [List.length_append, List.length_cons, List.length_nil] at q2 q4
  have hlim : limB = 16777216 := rfl
  have hlim2 : lim = 1073741824 := rfl
  unfold s35
  simp only [decide_eq_true_eq, decide_false, decide_true, Bool.not_false, Bool.not_true, Bool.false_eq_true, Bool.not_eq_true', decide_eq_false_iff_not, Int.reduceEq, Int.reduceLE, Int.reduceLT, if_true, if_false, true_and, and_true, f29_eq, f30_eq, f48_eq, f49_eq, s50, s51, s52, s53, s67, s70, s71, f50, f51, f52, f53, f67, f68_eq, f69_eq, f70, f71, pair_eta, Bool.and_eq_true, Int.reduceSub, Int.reduceAdd, Bool.or_eq_true, dcut_full, List.take_length, toB_bD, bD_snocP _ b h0 h1]
  repeat' (first | exact trivial | (with_reducible refine And.intro ?_ ?_) | (with_reducible refine s_ite ?_ ?_) | (intro hc; first | (exfalso; omega) | skip))
  all_goals first
    | rfl
    | omega
    | exact okB_bD _
    | (refine s48_of ?_; simp only [List.length_append, List.length_cons, List.length_nil]; omega)
    | (refine s49_of ?_ ?_ <;> simp only [List.length_append, List.length_cons, List.length_nil] <;> omega)
    | (refine s29_of ?_ ?_ <;> simp only [rD, iD, List.length_map, List.length_append, List.length_cons, List.length_nil] <;> omega)
    | (refine s29_of ?_ ?_ <;> simp only [List.length_append, List.length_cons, List.length_nil] <;> omega)
    | (refine s30_of (okB_bD _) ?_; simp only [bD_length]; omega)
    | exact s69_of i10 (by omega) (by omega)
    | exact s68_of i11
    | exact s84_of (by omega) (by omega) a4 (by simp only; omega) (by simp only; omega) i5
    | (refine in_i32P _ ?_ ?_ <;> omega)
    | (refine in_i64P _ ?_ ?_ <;> omega)
    | (simp only [bD_length, List.length_append, List.length_cons, List.length_nil]; omega)
    | (simp; done)
    | (simp; omega)
    | skip
theorem P_ok13 {p : PS} {d : DS} {x : X} {o : List Dat} {M : Int} (hR : RelP p d x o M) (hI : Inv x) (b : Int) (h0 : 0 ≤ b) (h1 : b ≤ 255) (hN : o.length + x.held.length + 8 ≤ limB) (hM : M ≤ limB) (hs : x.st = 13) : s35 p d b := by
  obtain ⟨a1, a2, g1, g2, g3, a3, a4, a5, g4⟩ := hR
  obtain ⟨made, state, aKind, aRune, aFinal, aPrivate, aParams, aInter, aText, many, out⟩ := p
  obtain ⟨dmade, db⟩ := d
  obtain ⟨st, held, xpriv, xparams, xmany, xinter, xtext, xfin⟩ := x
  obtain ⟨i0, i1, i2, i3, i4, i5, i6, i7, i8, i9, i10, i11, i13⟩ := hI
  simp only at a1 a2 a3 a4 a5 g1 g2 g3 g4 hs i2 i3 i4 i5 i10 i11 i13 hN
  subst hs
  have hh : held = [] := i13 (by simp)
  subst hh
  simp only [ne_eq, Int.reduceEq, not_false_eq_true, forall_const, not_true_eq_false, false_implies, implies_true, or_true, true_or, or_false, false_or, or_self] at g4
  skip
  subst a1 a2 a3 g1 g2 g3 
  clear i0 i1 i6 i7 i8 i9 i13
  have q1 := prR_len ([] : List UInt8)
  have q2 := prP_len (([] : List UInt8) ++ [UInt8.ofNat b.toNat])
  have q3 := runes_len ([] : List UInt8).length ([] : List UInt8) (Nat.le_refl _)
  have q4 := putD_len (([] : List UInt8) ++ [UInt8.ofNat b.toNat]).length (([] : List UInt8) ++ [UInt8.ofNat b.toNat]) (Nat.le_refl _)
  simp only [List.length_append, List.length_cons, List.length_nil] at q2 q4
  have hlim : limB = 16777216 := rfl
  have hlim2 : lim = 1073741824 := rfl
  unfold s35
  simp only [decide_eq_true_eq, decide_false, decide_true, Bool.not_false, Bool.not_true, Bool.false_eq_true, Bool.not_eq_true', decide_eq_false_iff_not, Int.reduceEq, Int.reduceLE, Int.reduceLT, if_true, if_false, true_and, and_true, f29_eq, f30_eq, f48_eq, f49_eq, s50, s51, s52, s53, s67, s70, s71, f50, f51, f52, f53, f67, f68_eq, f69_eq, f70, f71, pair_eta, Bool.and_eq_true, Int.reduceSub, Int.reduceAdd, Bool.or_eq_true, dcut_full, List.take_length, toB_bD, bD_snocP _ b h0 h1]
  repeat' (first | exact trivial | (with_reducible refine And.intro ?_ ?_) | (with_reducible refine s_ite ?_ ?_) | (intro hc; first | (exfalso; omega) | skip))
  all_goals first
    | rfl
    | omega
    | exact okB_bD _
    | (refine s48_of ?_; simp only [List.length_append, List.length_cons, List.length_nil]; omega)
    | (refine s49_of ?_ ?_ <;> simp only [List.length_append, List.length_cons, List.length_nil] <;> omega)
    | (refine s29_of ?_ ?_ <;> simp only [rD, iD, List.length_map, List.length_append, List.length_cons, List.length_nil] <;> omega)
    | (refine s29_of ?_ ?_ <;> simp only [List.length_append, List.length_cons, List.length_nil] <;> omega)
    | (refine s30_of (okB_bD _) ?_; simp only [bD_length]; omega)
    | exact s69_of i10 (by omega) (by omega)
    | exact s68_of i11
    | exact s84_of (by omega) (by omega) a4 (by simp only; omega) (by simp only; omega) i5
    | (refine in_i32P _ ?_ ?_ <;> omega)
    | (refine in_i64P _ ?_ ?_ <;> omega)
    | (simp only [bD_length, List.length_append, List.length_cons, List.length_nil]; omega)
    | (simp; done)
    | (simp; omega)
    | skip
theorem P_ok {p : PS} {d : DS} {x : X} {o : List Dat} {M : Int} (hR : RelP p d x o M) (hI : Inv x) (b : Int) (h0 : 0 ≤ b) (h1 : b ≤ 255) (hN : o.length + x.held.length + 8 ≤ limB) (hM : M ≤ limB) : s35 p d b := by
  have a := hI.s0
  have c := hI.s1
  rcases (show x.st = 0 ∨ x.st = 1 ∨ x.st = 2 ∨ x.st = 3 ∨ x.st = 4 ∨ x.st = 5 ∨ x.st = 6 ∨ x.st = 7 ∨ x.st = 8 ∨ x.st = 9 ∨ x.st = 10 ∨ x.st = 11 ∨ x.st = 12 ∨ x.st = 13 by omega) with h | h | h | h | h | h | h | h | h | h | h | h | h | h
  · exact P_ok0 hR hI b h0 h1 hN hM h
  · exact P_ok1 hR hI b h0 h1 hN hM h
  · exact P_ok2 hR hI b h0 h1 hN hM h
  · exact P_ok3 hR hI b h0 h1 hN hM h
  · exact P_ok4 hR hI b h0 h1 hN hM h
  · exact P_ok5 hR hI b h0 h1 hN hM h
  · exact P_ok6 hR hI b h0 h1 hN hM h
  · exact P_ok7 hR hI b h0 h1 hN hM h
  · exact P_ok8 hR hI b h0 h1 hN hM h
  · exact P_ok9 hR hI b h0 h1 hN hM h
  · exact P_ok10 hR hI b h0 h1 hN hM h
  · exact P_ok11 hR hI b h0 h1 hN hM h
  · exact P_ok12 hR hI b h0 h1 hN hM h
  · exact P_ok13 hR hI b h0 h1 hN hM h
end Go.Proofs.YtojdmhfkgkfpaaaDoor

set_option linter.unusedVariables false
set_option linter.unusedSimpArgs false
set_option maxRecDepth 100000
namespace Go.Proofs.YtojdmhfkgkfpaaaDoor
open Go.AM Go.LTxt Go.LMem Go.RowKit
def steps : X → List Dat → X × List Dat
  | x, [] => (x, [])
  | x, b :: l => ((steps (step x b.toInt).1 l).1, (step x b.toInt).2 ++ (steps (step x b.toInt).1 l).2)
theorem steps_inv : ∀ {x : X} {l : List Dat}, Inv x → okB l → Inv (steps x l).1
  | x, [], h, _ => h
  | x, b :: l, h, hok => by
    have hb := okB_int hok b (List.mem_cons_self ..)
    simp only [steps]
    exact steps_inv (Inv_step h _ hb.1 hb.2) (by have := okB_drop hok 1; simpa using this)
theorem steps_cnt : ∀ {x : X} {l : List Dat}, Inv x → okB l → (steps x l).2.length + cnt (steps x l).1 ≤ cnt x + l.length
  | x, [], h, _ => by simp [steps]
  | x, b :: l, h, hok => by
    have hb := okB_int hok b (List.mem_cons_self ..)
    have h1 := cnt_step h b.toInt
    have h2 := steps_cnt (x := (step x b.toInt).1) (l := l) (Inv_step h _ hb.1 hb.2) (by have := okB_drop hok 1; simpa using this)
    simp only [steps, List.length_append, List.length_cons]
    omega
theorem steps_app : ∀ (x : X) (l m : List Dat), steps x (l ++ m) = ((steps (steps x l).1 m).1, (steps x l).2 ++ (steps (steps x l).1 m).2)
  | x, [], m => by simp [steps]
  | x, b :: l, m => by
    simp only [List.cons_append, steps, steps_app _ l m, List.append_assoc]
theorem in64 (k : Nat) (h : k ≤ 100000000) : inR .i64 ((k : Int) + 1) = true := in_i64P ((k : Int) + 1) (by omega) (by omega)
theorem r20_3 (b : List Dat) (hb : okB b) (E : RS → Prop) : ∀ (n : Nat) (r : RS) (x : X) (o : List Dat) (k : Nat), b.length - k < n → k ≤ b.length → RelR r x o → Inv x → o.length + cnt x + (b.length - k) + 8 ≤ limB → b.length ≤ limB →
    (∀ r', RelR r' (steps x (b.drop k)).1 (o ++ (steps x (b.drop k)).2) → E r') → l20_3 n r b k E
  | 0, r, x, o, k, hn, _, _, _, _, _, _ => by omega
  | n + 1, r, x, o, k, hn, hk, hR, hI, hN, hB, hE => by
    have hlim : limB = 16777216 := rfl
    unfold l20_3
    simp only [true_and, Int.toNat_natCast]
    refine br_mk (fun h2 => ?_) (fun h2 => ?_)
    · have hkl : k < b.length := by simpa using h2
      have hd := okB_int hb (b.getD k default) (by rw [List.getD_eq_getElem?_getD, List.getElem?_eq_getElem hkl]; exact List.getElem_mem hkl)
      refine req_mk (by simp; omega) (req_mk (by simpa using hkl) ?_)
      have hcx : x.held.length ≤ cnt x := by unfold cnt; omega
      refine v37 _ _ _ (R_ok hR hI _ hd.1 hd.2 (by omega)) ?_
      rw [in64 k (by omega), req_t]
      have hs := R_step hR hI _ hd.1 hd.2
      have hc := cnt_step hI (b.getD k default).toInt
      rw [show (k : Int) + 1 = ((k + 1 : Nat) : Int) by omega]
      refine r20_3 b hb E n _ (step x (b.getD k default).toInt).1 _ (k + 1) (by omega) (by omega) hs (Inv_step hI _ hd.1 hd.2) ?_ hB fun r' hr' => hE r' ?_
      · rw [List.length_append]; omega
      · rw [drop_cons hkl]
        simpa only [steps, List.append_assoc] using hr'
    · have hkl : b.length ≤ k := by have := of_decide_eq_false h2; omega
      refine hE r ?_
      rw [List.drop_of_length_le hkl]
      simpa [steps] using hR
theorem v20 {r : RS} {x : X} {o b : List Dat} {K : RS → Prop} (hR : RelR r x o) (hI : Inv x) (hb : okB b) (hN : cnt x + b.length + 8 ≤ limB) (hK : ∀ r', RelR r' (steps x b).1 (steps x b).2 → K r') : m20 r b K := by
  unfold m20
  simp only [true_and]
  refine ⟨b.length + 1, r20_3 b hb K _ _ x [] 0 (by omega) (by omega) ⟨hR.st, hR.db, rfl, hR.lv⟩ hI (by simp; omega) (by omega) fun r' hr' => hK r' (by simpa using hr')⟩
theorem r17_5 (b : List Dat) (hb : okB b) (E : PS → DS → Prop) : ∀ (n : Nat) (p : PS) (d : DS) (x : X) (o : List Dat) (M : Int) (k : Nat), b.length - k < n → k ≤ b.length → RelP p d x o M → Inv x → o.length + cnt x + (b.length - k) + 8 ≤ limB → M + 2 * (b.length - k : Nat) ≤ limB →
    (∀ p' d', RelP p' d' (steps x (b.drop k)).1 (o ++ (steps x (b.drop k)).2) (M + 2 * (b.length - k : Nat)) → E p' d') → b.length ≤ limB → l17_5 n p d b b.length k E
  | 0, p, d, x, o, M, k, hn, _, _, _, _, _, _, _ => by omega
  | n + 1, p, d, x, o, M, k, hn, hk, hR, hI, hN, hM, hE, hB => by
    have hlim : limB = 16777216 := rfl
    unfold l17_5
    simp only [true_and, Int.toNat_natCast]
    refine br_mk (fun h2 => ?_) (fun h2 => ?_)
    · have hkl : k < b.length := by simpa using h2
      have hd := okB_int hb (b.getD k default) (by rw [List.getD_eq_getElem?_getD, List.getElem?_eq_getElem hkl]; exact List.getElem_mem hkl)
      refine req_mk (by simp; omega) (req_mk (by simpa using hkl) ?_)
      have hcx : x.held.length ≤ cnt x := by unfold cnt; omega
      refine v35 _ _ _ _ (P_ok hR hI _ hd.1 hd.2 (by omega) (by omega)) ?_
      rw [in64 k (by omega), req_t]
      have hs := P_step hR hI _ hd.1 hd.2
      have hc := cnt_step hI (b.getD k default).toInt
      rw [show (k : Int) + 1 = ((k + 1 : Nat) : Int) by omega]
      refine r17_5 b hb E n _ _ (step x (b.getD k default).toInt).1 _ (M + 2) (k + 1) (by omega) (by omega) hs (Inv_step hI _ hd.1 hd.2) ?_ (by omega) (fun p' d' hr' => hE p' d' ?_) hB
      · rw [List.length_append]; omega
      · rw [drop_cons hkl]
        have e : M + 2 + 2 * ((b.length - (k + 1) : Nat) : Int) = M + 2 * ((b.length - k : Nat) : Int) := by omega
        rw [e] at hr'
        simpa only [steps, List.append_assoc] using hr'
    · have hkl : b.length ≤ k := by have := of_decide_eq_false h2; omega
      refine hE p d ?_
      rw [List.drop_of_length_le hkl, show b.length - k = 0 by omega]
      simpa [steps] using hR
theorem RelP.mono {p : PS} {d : DS} {x : X} {o : List Dat} {M M' : Int} (h : RelP p d x o M) (hM : M ≤ M') : RelP p d x o M' :=
  ⟨h.mp, h.md, h.st, h.b, h.out, h.ru, h.m0, by have := h.m1; omega, h.lv⟩
theorem RelP.out' {p : PS} {d : DS} {x : X} {o : List Dat} {M : Int} (h : RelP p d x o M) (o' : List Dat) : RelP { p with out := o' } d x o' M :=
  ⟨h.mp, h.md, h.st, h.b, rfl, h.ru, h.m0, h.m1, h.lv⟩
theorem v17 {p : PS} {d : DS} {x : X} {o b : List Dat} {M : Int} {K : PS → DS → List Dat → Prop} (hR : RelP p d x o M) (hI : Inv x) (hb : okB b) (hN : cnt x + b.length + 8 ≤ limB) (hM : M + 2 * b.length ≤ limB)
    (hK : ∀ p' d', RelP p' d' (steps x b).1 [] (M + 2 * b.length) → K p' d' (steps x b).2) : m17 p d b K := by
  unfold m17
  simp only [true_and, hR.mp, Bool.not_true, br_f]
  refine ⟨b.length + 1, r17_5 b hb _ _ _ _ x [] M 0 (by omega) (by omega) ?_ hI (by simp; omega) (by simpa using hM) (fun p' d' hr' => ?_) (by omega)⟩
  · have := hR.out' []
    rw [hR.mp] at this
    exact this
  · have h1 := hr'.out
    simp only [List.nil_append, List.drop_zero] at h1
    rw [h1]
    refine hK _ _ ?_
    have := hr'.out' []
    simpa using this
def isG (x : X) : Bool := decide (x.st = 0) && decide (x.held.length = 0)
theorem v21 {r : RS} {x : X} {o : List Dat} {K : RS → Bool → Prop} (hR : RelR r x o) (hK : K r (isG x)) : m21 r K := by
  unfold m21
  rw [hR.st, hR.db, bD_length]
  refine br_mk (fun h => ?_) (fun h => ?_)
  · have h' := of_decide_eq_true h
    have e : isG x = decide ((x.held.length : Int) = 0) := by simp [isG, h']
    rw [← e]; exact hK
  · have h' := of_decide_eq_false h
    have e : isG x = false := by simp [isG, h']
    rw [← e]; exact hK
theorem v18 {p : PS} {d : DS} {x : X} {o : List Dat} {M : Int} {K : PS → DS → Bool → Prop} (hR : RelP p d x o M) (hK : K p d (isG x)) : m18 p d K := by
  unfold m18
  rw [hR.st, hR.b, hR.mp, hR.md, bD_length]
  simp only [Bool.not_true, Bool.not_false, br_t, br_f]
  refine br_mk (fun h => ?_) (fun h => ?_)
  · have h' := of_decide_eq_true h
    have e : isG x = decide ((x.held.length : Int) = 0) := by simp [isG, h']
    rw [← e]; exact hK
  · have h' := of_decide_eq_false h
    have e : isG x = false := by simp [isG, h']
    rw [← e]; exact hK
def newP : PS := { made := true, state := 0, aKind := 0, aRune := 0, aFinal := 0, aPrivate := 0, aParams := [], aInter := e0, aText := e0, many := 0, out := [] }
def newD : DS := { made := true, b := [] }
def newR : RS := { state := 0, db := [], private_ := 0, params := [], many := 0, inter := e0, text := e0, final := 0, out := [] }
theorem newP_rel : RelP newP newD X0 [] 0 := ⟨rfl, rfl, rfl, rfl, rfl, rfl, Int.le_refl 0, Int.le_refl 0, fun h => absurd rfl h⟩
theorem newR_rel : RelR newR X0 [] := ⟨rfl, rfl, rfl, fun h => absurd rfl h⟩
theorem v16 {K : PS → DS → Prop} (hK : K newP newD) : m16 K := hK
theorem v19 {K : RS → Prop} (hK : K newR) : m19 K := hK
/-- all that bytes say -/
def allD (b : List Dat) : List Dat := (steps X0 b).2 ++ (if (steps X0 b).1.st = 0 then prD (rD (steps X0 b).1.held) else [])
theorem allD_len {b : List Dat} (hb : okB b) : (allD b).length ≤ b.length := by
  have h := steps_cnt Inv0 hb
  have e : cnt X0 = 0 := rfl
  unfold allD
  have := prR_len (steps X0 b).1.held
  unfold cnt at h
  split
  · rw [List.length_append]; simp [cnt, pend, X0] at *; omega
  · simp [cnt, pend, X0] at *; omega
theorem v14 {b : List Dat} {K : List Dat → Prop} (hb : okB b) (hN : b.length ≤ 4194304) (hK : K (allD b)) : m14 b K := by
  have hlim : limB = 16777216 := rfl
  have hcnt := steps_cnt Inv0 hb
  have e : cnt X0 = 0 := rfl
  have hal := allD_len hb
  unfold m14
  refine v16 ?_
  simp only [true_and]
  refine v17 newP_rel Inv0 hb (by rw [e]; omega) (by omega) fun p' d' hr' => ?_
  have hc2 : (steps X0 b).1.held.length ≤ cnt (steps X0 b).1 := by unfold cnt; omega
  unfold allD at hK hal
  refine br_mk (fun h => ?_) (fun h => ?_)
  · have h' := of_decide_eq_true h
    rw [hr'.st] at h'
    rw [if_pos h'] at hK hal
    refine v30 _ _ (s30_of (by rw [hr'.b]; exact okB_bD _) (by rw [hr'.b, bD_length]; omega)) ?_
    rw [f30_eq _ hr'.md]
    simp only [Nat.zero_add, Nat.le_refl, decide_true, req_t, List.take_length]
    have hp := prR_len (steps X0 b).1.held
    have hq := runes_len (steps X0 b).1.held.length (steps X0 b).1.held (Nat.le_refl _)
    refine v29 _ _ _ _ (s29_of (by rw [hr'.out]; simp) (by rw [hr'.b, toB_bD]; simp [rD]; omega)) ?_
    rw [f29_eq]
    simp only [Nat.zero_add, Nat.le_refl, decide_true, req_t, List.take_length, hr'.out, List.nil_append, dapp_full, hr'.b, toB_bD]
    refine req_mk (app_ok ?_) hK
    rw [List.length_append] at hal
    omega
  · have h' := of_decide_eq_false h
    rw [hr'.st] at h'
    rw [if_neg h', List.append_nil] at hK hal
    simp only [hr'.out, List.length_nil, List.take_nil, dapp_full, List.append_nil, Nat.zero_add, Nat.le_refl, decide_true, req_t]
    exact req_mk (app_ok (by simp; omega)) hK
theorem v15 {b : List Dat} {K : List Dat → Prop} (hb : okB b) (hN : b.length ≤ 4194304) (hK : K (allD b)) : m15 b K := by
  have hlim : limB = 16777216 := rfl
  have hcnt := steps_cnt Inv0 hb
  have e : cnt X0 = 0 := rfl
  have hal := allD_len hb
  unfold m15
  refine v19 ?_
  simp only [true_and]
  refine v20 newR_rel Inv0 hb (by rw [e]; omega) fun r' hr' => ?_
  have hc2 : (steps X0 b).1.held.length ≤ cnt (steps X0 b).1 := by unfold cnt; omega
  unfold allD at hK hal
  refine br_mk (fun h => ?_) (fun h => ?_)
  · have h' := of_decide_eq_true h
    rw [hr'.st] at h'
    rw [if_pos h'] at hK hal
    refine v32 _ _ (s32_of (by simp only [hr'.db]; exact okB_bD _) (by simp only [hr'.db, bD_length]; omega)) ?_
    rw [f32_eq]
    simp only [Nat.zero_add, Nat.le_refl, decide_true, req_t, List.take_length]
    have hp := prR_len (steps X0 b).1.held
    have hq := runes_len (steps X0 b).1.held.length (steps X0 b).1.held (Nat.le_refl _)
    refine v31 _ _ _ (s31_of (by simp) (by simp only [hr'.db, toB_bD]; simp [rD]; omega)) ?_
    rw [f31_eq]
    simp only [Nat.zero_add, Nat.le_refl, decide_true, req_t, List.take_length, hr'.out, List.nil_append, dapp_full, hr'.db, toB_bD]
    refine req_mk (app_ok ?_) hK
    rw [List.length_append] at hal
    omega
  · have h' := of_decide_eq_false h
    rw [hr'.st] at h'
    rw [if_neg h', List.append_nil] at hK
    rw [hr'.out]
    exact hK
end Go.Proofs.YtojdmhfkgkfpaaaDoor

set_option linter.unusedVariables false
set_option linter.unusedSimpArgs false
set_option maxRecDepth 100000
namespace Go.Proofs.YtojdmhfkgkfpaaaDoor
open Go.AM Go.LTxt Go.LMem Go.RowKit
set_option maxHeartbeats 0
def aKind (d : Dat) : Int := d.fst.toInt
def aParams (d : Dat) : List Dat := d.snd.snd.snd.snd.fst.toList
def aInter (d : Dat) : ByteArray := d.snd.snd.snd.snd.snd.fst.toStr
def aText (d : Dat) : ByteArray := d.snd.snd.snd.snd.snd.snd.fst.toStr
structure okAct (d : Dat) : Prop where
  k0 : 1 ≤ aKind d
  k1 : aKind d ≤ 6
  pl : (aParams d).length ≤ 16
  pr : ∀ n ∈ aParams d, -1 ≤ n.toInt ∧ n.toInt ≤ 65535
  it : (aInter d).size ≤ 2
  tx : (aText d).size ≤ 1024
theorem okAct_mk {k r f p : Int} {ps : List Dat} {i t : ByteArray} (h0 : 1 ≤ k) (h1 : k ≤ 6) (h2 : ps.length ≤ 16) (h3 : ∀ n ∈ ps, -1 ≤ n.toInt ∧ n.toInt ≤ 65535) (h4 : i.size ≤ 2) (h5 : t.size ≤ 1024) : okAct (act k r f p ps i t) := ⟨h0, h1, h2, h3, h4, h5⟩
theorem okAct_nil {k r f p : Int} {i t : ByteArray} (h0 : 1 ≤ k) (h1 : k ≤ 6) (h4 : i.size ≤ 2) (h5 : t.size ≤ 1024) : okAct (act k r f p [] i t) := okAct_mk h0 h1 (by simp) (fun n hn => by simp at hn) h4 h5
theorem e0_size : e0.size = 0 := rfl
theorem prD_ok (l : List Dat) : ∀ d ∈ prD l, okAct d := by
  intro d hd
  unfold prD at hd
  rw [List.mem_map] at hd
  obtain ⟨r, _, rfl⟩ := hd
  exact okAct_nil (by decide) (by decide) (by decide) (by decide)
structure AllOk (l : List Dat) : Prop where
  all : ∀ d ∈ l, okAct d
theorem AllOk.nil : AllOk [] := ⟨fun d hd => by simp at hd⟩
theorem AllOk.one {d : Dat} (h : okAct d) : AllOk [d] := ⟨fun x hx => by rw [List.mem_singleton] at hx; subst hx; exact h⟩
theorem AllOk.app {l m : List Dat} (h : AllOk l) (h2 : AllOk m) : AllOk (l ++ m) := ⟨fun d hd => (List.mem_append.1 hd).elim (h.all d) (h2.all d)⟩
theorem step_ok {x : X} (hI : Inv x) (b : Int) : AllOk (step x b).2 := by
  obtain ⟨i0, i1, i2, i3, i4, i5, i6, i7, i8, i9, i10, i11, i13⟩ := hI
  have e1 : AllOk [exec b] := .one (okAct_nil (by decide) (by decide) (by decide) (by decide))
  have e2 : AllOk (prD (rD x.held)) := ⟨prD_ok _⟩
  have e3 : ∀ f : Int, AllOk [act 3 0 f 0 [] x.inter e0] := fun f => .one (okAct_nil (by decide) (by decide) i10 (by decide))
  have e4 : ∀ f : Int, AllOk [act 4 0 f x.priv x.params x.inter e0] := fun f => .one (okAct_mk (by decide) (by decide) (by omega) i5 i10 (by decide))
  have e5 : AllOk [act 5 0 0 0 [] e0 x.text] := .one (okAct_nil (by decide) (by decide) (by decide) i11)
  have e6 : AllOk [act 6 0 x.fin x.priv x.params x.inter x.text] := .one (okAct_mk (by decide) (by decide) (by omega) i5 i10 i11)
  have e7 : ∀ f : Int, AllOk [act 3 0 f 0 [] e0 e0] := fun f => .one (okAct_nil (by decide) (by decide) (by decide) (by decide))
  have e8 : AllOk [act 1 b 0 0 [] e0 e0] := .one (okAct_nil (by decide) (by decide) (by decide) (by decide))
  unfold step
  repeat' (first | (with_reducible refine ite_p (P := fun z : X × List Dat => AllOk z.2) ?_ ?_) | (with_reducible refine ite_p (P := AllOk) ?_ ?_) | intro _)
  all_goals first
    | exact .nil
    | exact e1
    | exact e2
    | exact e2.app e1
    | exact e2.app e8
    | exact e3 b
    | exact e4 b
    | exact e5
    | exact e6
    | exact e7 b
    | exact ⟨prD_ok _⟩
    | (try simp only; repeat' (first | (with_reducible refine ite_p (P := AllOk) ?_ ?_) | intro _); all_goals first | exact e5 | exact e6 | exact .nil | exact e1)
theorem steps_ok : ∀ {x : X} {l : List Dat}, Inv x → okB l → AllOk (steps x l).2
  | x, [], h, _ => .nil
  | x, b :: l, h, hok => by
    have hb := okB_int hok b (List.mem_cons_self ..)
    simp only [steps]
    exact (step_ok h _).app (steps_ok (Inv_step h _ hb.1 hb.2) (by have := okB_drop hok 1; simpa using this))
theorem allD_ok {b : List Dat} (hb : okB b) : AllOk (allD b) := by
  unfold allD
  refine (steps_ok Inv0 hb).app ?_
  split
  · exact ⟨prD_ok _⟩
  · exact .nil
end Go.Proofs.YtojdmhfkgkfpaaaDoor

set_option linter.unusedVariables false
set_option maxRecDepth 100000
namespace Go.Proofs.YtojdmhfkgkfpaaaDoor
open Go.AM Go.LTxt Go.LMem Go.RowKit
noncomputable def callsA : List (FuncId × CallT) := cs14 ++ cs15
theorem callsA_ok : CallsOK Tryd.prog callsA := .append cs14_ok cs15_ok
noncomputable def loopsA : List (FuncId × Nat × LoopT) := ls17_5 ++ ls20_3
theorem loopsA_ok : LoopsOK Tryd.prog loopsA := .append ls17_5_ok ls20_3_ok
def F12 : AM.Form := ⟨[], []⟩
noncomputable def mm12 (ds : List Dat) (K : AV → AH → Prop) : Prop := K (.c (.bool true)) ⟨[], []⟩
theorem t12 (ds : List Dat) (K : AV → AH → Prop) : callA Tryd.prog tys noRules 1000 12 (F12.fr ds) (F12.hp ds) (fun v h' => endK Tryd.prog [] .keep (F12.hp ds) (F12.fr ds) v h' K) = mm12 ds K := by kernel_rfl
noncomputable def R12 : CallT := ruleF Tryd.prog [] [] F12 mm12
theorem ok12 : CallOK Tryd.prog 12 R12 := ruleF_ok sound0 t12
noncomputable def cs12 : List (FuncId × CallT) := (12, R12) :: callsA
theorem cs12_ok : CallsOK Tryd.prog cs12 := .cons ok12 callsA_ok
noncomputable def GG12 : Rules := mkG [] cs12 loopsA
theorem sGG12 : Sound Tryd.prog tys GG12 := mk_sound mixed tysOK names (by kernel_rfl) cs12_ok loopsA_ok
structure AS where
  kind : Int
  rune : Int
  final : Int
  private_ : Int
  params : List Dat
  inter : ByteArray
  text : ByteArray
noncomputable def p13_r6 (a : List Dat) (b : List Dat) (i : Int) (E0 : AS → AS → List Dat → List Dat → Int → Prop) : Prop :=
    req (decide ((0 : Int) ≤ i) && decide (i < (↑(List.length a) : Int))) (
    req (decide ((0 : Int) ≤ i) && decide (i < (↑(List.length b) : Int))) (
    ((
     req (decide (Int.toNat i < List.length a)) (
     ((
      req (decide (Int.toNat i < List.length b)) (
      ((E0 ({ kind := Dat.toInt (Dat.fst (List.getD a (Int.toNat i) default)), rune := Dat.toInt (Dat.fst (Dat.snd (List.getD a (Int.toNat i) default))), final := Dat.toInt (Dat.fst (Dat.snd (Dat.snd (List.getD a (Int.toNat i) default)))), private_ := Dat.toInt (Dat.fst (Dat.snd (Dat.snd (Dat.snd (List.getD a (Int.toNat i) default))))), params := Dat.toList (Dat.fst (Dat.snd (Dat.snd (Dat.snd (Dat.snd (List.getD a (Int.toNat i) default)))))), inter := Dat.toStr (Dat.fst (Dat.snd (Dat.snd (Dat.snd (Dat.snd (Dat.snd (List.getD a (Int.toNat i) default))))))), text := Dat.toStr (Dat.fst (Dat.snd (Dat.snd (Dat.snd (Dat.snd (Dat.snd (Dat.snd (List.getD a (Int.toNat i) default)))))))) } : AS) ({ kind := Dat.toInt (Dat.fst (List.getD b (Int.toNat i) default)), rune := Dat.toInt (Dat.fst (Dat.snd (List.getD b (Int.toNat i) default))), final := Dat.toInt (Dat.fst (Dat.snd (Dat.snd (List.getD b (Int.toNat i) default)))), private_ := Dat.toInt (Dat.fst (Dat.snd (Dat.snd (Dat.snd (List.getD b (Int.toNat i) default))))), params := Dat.toList (Dat.fst (Dat.snd (Dat.snd (Dat.snd (Dat.snd (List.getD b (Int.toNat i) default)))))), inter := Dat.toStr (Dat.fst (Dat.snd (Dat.snd (Dat.snd (Dat.snd (Dat.snd (List.getD b (Int.toNat i) default))))))), text := Dat.toStr (Dat.fst (Dat.snd (Dat.snd (Dat.snd (Dat.snd (Dat.snd (Dat.snd (List.getD b (Int.toNat i) default)))))))) } : AS) a b i) ∧ (
       ((E0 ({ kind := Dat.toInt (Dat.fst (List.getD a (Int.toNat i) default)), rune := Dat.toInt (Dat.fst (Dat.snd (List.getD a (Int.toNat i) default))), final := Dat.toInt (Dat.fst (Dat.snd (Dat.snd (List.getD a (Int.toNat i) default)))), private_ := Dat.toInt (Dat.fst (Dat.snd (Dat.snd (Dat.snd (List.getD a (Int.toNat i) default))))), params := Dat.toList (Dat.fst (Dat.snd (Dat.snd (Dat.snd (Dat.snd (List.getD a (Int.toNat i) default)))))), inter := Dat.toStr (Dat.fst (Dat.snd (Dat.snd (Dat.snd (Dat.snd (Dat.snd (List.getD a (Int.toNat i) default))))))), text := Dat.toStr (Dat.fst (Dat.snd (Dat.snd (Dat.snd (Dat.snd (Dat.snd (Dat.snd (List.getD a (Int.toNat i) default)))))))) } : AS) ({ kind := Dat.toInt (Dat.fst (List.getD b (Int.toNat i) default)), rune := Dat.toInt (Dat.fst (Dat.snd (List.getD b (Int.toNat i) default))), final := Dat.toInt (Dat.fst (Dat.snd (Dat.snd (List.getD b (Int.toNat i) default)))), private_ := Dat.toInt (Dat.fst (Dat.snd (Dat.snd (Dat.snd (List.getD b (Int.toNat i) default))))), params := Dat.toList (Dat.fst (Dat.snd (Dat.snd (Dat.snd (Dat.snd (List.getD b (Int.toNat i) default)))))), inter := Dat.toStr (Dat.fst (Dat.snd (Dat.snd (Dat.snd (Dat.snd (Dat.snd (List.getD b (Int.toNat i) default))))))), text := Dat.toStr (Dat.fst (Dat.snd (Dat.snd (Dat.snd (Dat.snd (Dat.snd (Dat.snd (List.getD b (Int.toNat i) default)))))))) } : AS) a b i) ∧ (True)))))) ∧ (
      ((
       ((
        req (decide (Int.toNat i < List.length b)) (E0 ({ kind := Dat.toInt (Dat.fst (List.getD a (Int.toNat i) default)), rune := Dat.toInt (Dat.fst (Dat.snd (List.getD a (Int.toNat i) default))), final := Dat.toInt (Dat.fst (Dat.snd (Dat.snd (List.getD a (Int.toNat i) default)))), private_ := Dat.toInt (Dat.fst (Dat.snd (Dat.snd (Dat.snd (List.getD a (Int.toNat i) default))))), params := Dat.toList (Dat.fst (Dat.snd (Dat.snd (Dat.snd (Dat.snd (List.getD a (Int.toNat i) default)))))), inter := Dat.toStr (Dat.fst (Dat.snd (Dat.snd (Dat.snd (Dat.snd (Dat.snd (List.getD a (Int.toNat i) default))))))), text := Dat.toStr (Dat.fst (Dat.snd (Dat.snd (Dat.snd (Dat.snd (Dat.snd (Dat.snd (List.getD a (Int.toNat i) default)))))))) } : AS) ({ kind := Dat.toInt (Dat.fst (List.getD b (Int.toNat i) default)), rune := Dat.toInt (Dat.fst (Dat.snd (List.getD b (Int.toNat i) default))), final := Dat.toInt (Dat.fst (Dat.snd (Dat.snd (List.getD b (Int.toNat i) default)))), private_ := Dat.toInt (Dat.fst (Dat.snd (Dat.snd (Dat.snd (List.getD b (Int.toNat i) default))))), params := Dat.toList (Dat.fst (Dat.snd (Dat.snd (Dat.snd (Dat.snd (List.getD b (Int.toNat i) default)))))), inter := Dat.toStr (Dat.fst (Dat.snd (Dat.snd (Dat.snd (Dat.snd (Dat.snd (List.getD b (Int.toNat i) default))))))), text := Dat.toStr (Dat.fst (Dat.snd (Dat.snd (Dat.snd (Dat.snd (Dat.snd (Dat.snd (List.getD b (Int.toNat i) default)))))))) } : AS) a b i)) ∧ (
        ((
         ((
          req (decide (Int.toNat i < List.length b)) (E0 ({ kind := Dat.toInt (Dat.fst (List.getD a (Int.toNat i) default)), rune := Dat.toInt (Dat.fst (Dat.snd (List.getD a (Int.toNat i) default))), final := Dat.toInt (Dat.fst (Dat.snd (Dat.snd (List.getD a (Int.toNat i) default)))), private_ := Dat.toInt (Dat.fst (Dat.snd (Dat.snd (Dat.snd (List.getD a (Int.toNat i) default))))), params := Dat.toList (Dat.fst (Dat.snd (Dat.snd (Dat.snd (Dat.snd (List.getD a (Int.toNat i) default)))))), inter := Dat.toStr (Dat.fst (Dat.snd (Dat.snd (Dat.snd (Dat.snd (Dat.snd (List.getD a (Int.toNat i) default))))))), text := Dat.toStr (Dat.fst (Dat.snd (Dat.snd (Dat.snd (Dat.snd (Dat.snd (Dat.snd (List.getD a (Int.toNat i) default)))))))) } : AS) ({ kind := Dat.toInt (Dat.fst (List.getD b (Int.toNat i) default)), rune := Dat.toInt (Dat.fst (Dat.snd (List.getD b (Int.toNat i) default))), final := Dat.toInt (Dat.fst (Dat.snd (Dat.snd (List.getD b (Int.toNat i) default)))), private_ := Dat.toInt (Dat.fst (Dat.snd (Dat.snd (Dat.snd (List.getD b (Int.toNat i) default))))), params := Dat.toList (Dat.fst (Dat.snd (Dat.snd (Dat.snd (Dat.snd (List.getD b (Int.toNat i) default)))))), inter := Dat.toStr (Dat.fst (Dat.snd (Dat.snd (Dat.snd (Dat.snd (Dat.snd (List.getD b (Int.toNat i) default))))))), text := Dat.toStr (Dat.fst (Dat.snd (Dat.snd (Dat.snd (Dat.snd (Dat.snd (Dat.snd (List.getD b (Int.toNat i) default)))))))) } : AS) a b i)) ∧ (
          ((
           req (decide (Int.toNat i < List.length b)) (E0 ({ kind := Dat.toInt (Dat.fst (List.getD a (Int.toNat i) default)), rune := Dat.toInt (Dat.fst (Dat.snd (List.getD a (Int.toNat i) default))), final := Dat.toInt (Dat.fst (Dat.snd (Dat.snd (List.getD a (Int.toNat i) default)))), private_ := Dat.toInt (Dat.fst (Dat.snd (Dat.snd (Dat.snd (List.getD a (Int.toNat i) default))))), params := Dat.toList (Dat.fst (Dat.snd (Dat.snd (Dat.snd (Dat.snd (List.getD a (Int.toNat i) default)))))), inter := Dat.toStr (Dat.fst (Dat.snd (Dat.snd (Dat.snd (Dat.snd (Dat.snd (List.getD a (Int.toNat i) default))))))), text := Dat.toStr (Dat.fst (Dat.snd (Dat.snd (Dat.snd (Dat.snd (Dat.snd (Dat.snd (List.getD a (Int.toNat i) default)))))))) } : AS) ({ kind := Dat.toInt (Dat.fst (List.getD b (Int.toNat i) default)), rune := Dat.toInt (Dat.fst (Dat.snd (List.getD b (Int.toNat i) default))), final := Dat.toInt (Dat.fst (Dat.snd (Dat.snd (List.getD b (Int.toNat i) default)))), private_ := Dat.toInt (Dat.fst (Dat.snd (Dat.snd (Dat.snd (List.getD b (Int.toNat i) default))))), params := Dat.toList (Dat.fst (Dat.snd (Dat.snd (Dat.snd (Dat.snd (List.getD b (Int.toNat i) default)))))), inter := Dat.toStr (Dat.fst (Dat.snd (Dat.snd (Dat.snd (Dat.snd (Dat.snd (List.getD b (Int.toNat i) default))))))), text := Dat.toStr (Dat.fst (Dat.snd (Dat.snd (Dat.snd (Dat.snd (Dat.snd (Dat.snd (List.getD b (Int.toNat i) default)))))))) } : AS) a b i)) ∧ (True))))) ∧ (True))))) ∧ (
       ((
        ((
         req (decide (Int.toNat i < List.length b)) (E0 ({ kind := Dat.toInt (Dat.fst (List.getD a (Int.toNat i) default)), rune := Dat.toInt (Dat.fst (Dat.snd (List.getD a (Int.toNat i) default))), final := Dat.toInt (Dat.fst (Dat.snd (Dat.snd (List.getD a (Int.toNat i) default)))), private_ := Dat.toInt (Dat.fst (Dat.snd (Dat.snd (Dat.snd (List.getD a (Int.toNat i) default))))), params := Dat.toList (Dat.fst (Dat.snd (Dat.snd (Dat.snd (Dat.snd (List.getD a (Int.toNat i) default)))))), inter := Dat.toStr (Dat.fst (Dat.snd (Dat.snd (Dat.snd (Dat.snd (Dat.snd (List.getD a (Int.toNat i) default))))))), text := Dat.toStr (Dat.fst (Dat.snd (Dat.snd (Dat.snd (Dat.snd (Dat.snd (Dat.snd (List.getD a (Int.toNat i) default)))))))) } : AS) ({ kind := Dat.toInt (Dat.fst (List.getD b (Int.toNat i) default)), rune := Dat.toInt (Dat.fst (Dat.snd (List.getD b (Int.toNat i) default))), final := Dat.toInt (Dat.fst (Dat.snd (Dat.snd (List.getD b (Int.toNat i) default)))), private_ := Dat.toInt (Dat.fst (Dat.snd (Dat.snd (Dat.snd (List.getD b (Int.toNat i) default))))), params := Dat.toList (Dat.fst (Dat.snd (Dat.snd (Dat.snd (Dat.snd (List.getD b (Int.toNat i) default)))))), inter := Dat.toStr (Dat.fst (Dat.snd (Dat.snd (Dat.snd (Dat.snd (Dat.snd (List.getD b (Int.toNat i) default))))))), text := Dat.toStr (Dat.fst (Dat.snd (Dat.snd (Dat.snd (Dat.snd (Dat.snd (Dat.snd (List.getD b (Int.toNat i) default)))))))) } : AS) a b i)) ∧ (
         ((
          ((
           req (decide (Int.toNat i < List.length b)) (E0 ({ kind := Dat.toInt (Dat.fst (List.getD a (Int.toNat i) default)), rune := Dat.toInt (Dat.fst (Dat.snd (List.getD a (Int.toNat i) default))), final := Dat.toInt (Dat.fst (Dat.snd (Dat.snd (List.getD a (Int.toNat i) default)))), private_ := Dat.toInt (Dat.fst (Dat.snd (Dat.snd (Dat.snd (List.getD a (Int.toNat i) default))))), params := Dat.toList (Dat.fst (Dat.snd (Dat.snd (Dat.snd (Dat.snd (List.getD a (Int.toNat i) default)))))), inter := Dat.toStr (Dat.fst (Dat.snd (Dat.snd (Dat.snd (Dat.snd (Dat.snd (List.getD a (Int.toNat i) default))))))), text := Dat.toStr (Dat.fst (Dat.snd (Dat.snd (Dat.snd (Dat.snd (Dat.snd (Dat.snd (List.getD a (Int.toNat i) default)))))))) } : AS) ({ kind := Dat.toInt (Dat.fst (List.getD b (Int.toNat i) default)), rune := Dat.toInt (Dat.fst (Dat.snd (List.getD b (Int.toNat i) default))), final := Dat.toInt (Dat.fst (Dat.snd (Dat.snd (List.getD b (Int.toNat i) default)))), private_ := Dat.toInt (Dat.fst (Dat.snd (Dat.snd (Dat.snd (List.getD b (Int.toNat i) default))))), params := Dat.toList (Dat.fst (Dat.snd (Dat.snd (Dat.snd (Dat.snd (List.getD b (Int.toNat i) default)))))), inter := Dat.toStr (Dat.fst (Dat.snd (Dat.snd (Dat.snd (Dat.snd (Dat.snd (List.getD b (Int.toNat i) default))))))), text := Dat.toStr (Dat.fst (Dat.snd (Dat.snd (Dat.snd (Dat.snd (Dat.snd (Dat.snd (List.getD b (Int.toNat i) default)))))))) } : AS) a b i)) ∧ (
           ((
            req (decide (Int.toNat i < List.length b)) (E0 ({ kind := Dat.toInt (Dat.fst (List.getD a (Int.toNat i) default)), rune := Dat.toInt (Dat.fst (Dat.snd (List.getD a (Int.toNat i) default))), final := Dat.toInt (Dat.fst (Dat.snd (Dat.snd (List.getD a (Int.toNat i) default)))), private_ := Dat.toInt (Dat.fst (Dat.snd (Dat.snd (Dat.snd (List.getD a (Int.toNat i) default))))), params := Dat.toList (Dat.fst (Dat.snd (Dat.snd (Dat.snd (Dat.snd (List.getD a (Int.toNat i) default)))))), inter := Dat.toStr (Dat.fst (Dat.snd (Dat.snd (Dat.snd (Dat.snd (Dat.snd (List.getD a (Int.toNat i) default))))))), text := Dat.toStr (Dat.fst (Dat.snd (Dat.snd (Dat.snd (Dat.snd (Dat.snd (Dat.snd (List.getD a (Int.toNat i) default)))))))) } : AS) ({ kind := Dat.toInt (Dat.fst (List.getD b (Int.toNat i) default)), rune := Dat.toInt (Dat.fst (Dat.snd (List.getD b (Int.toNat i) default))), final := Dat.toInt (Dat.fst (Dat.snd (Dat.snd (List.getD b (Int.toNat i) default)))), private_ := Dat.toInt (Dat.fst (Dat.snd (Dat.snd (Dat.snd (List.getD b (Int.toNat i) default))))), params := Dat.toList (Dat.fst (Dat.snd (Dat.snd (Dat.snd (Dat.snd (List.getD b (Int.toNat i) default)))))), inter := Dat.toStr (Dat.fst (Dat.snd (Dat.snd (Dat.snd (Dat.snd (Dat.snd (List.getD b (Int.toNat i) default))))))), text := Dat.toStr (Dat.fst (Dat.snd (Dat.snd (Dat.snd (Dat.snd (Dat.snd (Dat.snd (List.getD b (Int.toNat i) default)))))))) } : AS) a b i)) ∧ (True))))) ∧ (True))))) ∧ (True)))))))) ∧ (
     ((
      req (decide (Int.toNat i < List.length b)) (
      ((
       req (decide (Int.toNat i < List.length a)) (
       ((E0 ({ kind := Dat.toInt (Dat.fst (List.getD a (Int.toNat i) default)), rune := Dat.toInt (Dat.fst (Dat.snd (List.getD a (Int.toNat i) default))), final := Dat.toInt (Dat.fst (Dat.snd (Dat.snd (List.getD a (Int.toNat i) default)))), private_ := Dat.toInt (Dat.fst (Dat.snd (Dat.snd (Dat.snd (List.getD a (Int.toNat i) default))))), params := Dat.toList (Dat.fst (Dat.snd (Dat.snd (Dat.snd (Dat.snd (List.getD a (Int.toNat i) default)))))), inter := Dat.toStr (Dat.fst (Dat.snd (Dat.snd (Dat.snd (Dat.snd (Dat.snd (List.getD a (Int.toNat i) default))))))), text := Dat.toStr (Dat.fst (Dat.snd (Dat.snd (Dat.snd (Dat.snd (Dat.snd (Dat.snd (List.getD a (Int.toNat i) default)))))))) } : AS) ({ kind := Dat.toInt (Dat.fst (List.getD b (Int.toNat i) default)), rune := Dat.toInt (Dat.fst (Dat.snd (List.getD b (Int.toNat i) default))), final := Dat.toInt (Dat.fst (Dat.snd (Dat.snd (List.getD b (Int.toNat i) default)))), private_ := Dat.toInt (Dat.fst (Dat.snd (Dat.snd (Dat.snd (List.getD b (Int.toNat i) default))))), params := Dat.toList (Dat.fst (Dat.snd (Dat.snd (Dat.snd (Dat.snd (List.getD b (Int.toNat i) default)))))), inter := Dat.toStr (Dat.fst (Dat.snd (Dat.snd (Dat.snd (Dat.snd (Dat.snd (List.getD b (Int.toNat i) default))))))), text := Dat.toStr (Dat.fst (Dat.snd (Dat.snd (Dat.snd (Dat.snd (Dat.snd (Dat.snd (List.getD b (Int.toNat i) default)))))))) } : AS) a b i) ∧ (
        ((E0 ({ kind := Dat.toInt (Dat.fst (List.getD a (Int.toNat i) default)), rune := Dat.toInt (Dat.fst (Dat.snd (List.getD a (Int.toNat i) default))), final := Dat.toInt (Dat.fst (Dat.snd (Dat.snd (List.getD a (Int.toNat i) default)))), private_ := Dat.toInt (Dat.fst (Dat.snd (Dat.snd (Dat.snd (List.getD a (Int.toNat i) default))))), params := Dat.toList (Dat.fst (Dat.snd (Dat.snd (Dat.snd (Dat.snd (List.getD a (Int.toNat i) default)))))), inter := Dat.toStr (Dat.fst (Dat.snd (Dat.snd (Dat.snd (Dat.snd (Dat.snd (List.getD a (Int.toNat i) default))))))), text := Dat.toStr (Dat.fst (Dat.snd (Dat.snd (Dat.snd (Dat.snd (Dat.snd (Dat.snd (List.getD a (Int.toNat i) default)))))))) } : AS) ({ kind := Dat.toInt (Dat.fst (List.getD b (Int.toNat i) default)), rune := Dat.toInt (Dat.fst (Dat.snd (List.getD b (Int.toNat i) default))), final := Dat.toInt (Dat.fst (Dat.snd (Dat.snd (List.getD b (Int.toNat i) default)))), private_ := Dat.toInt (Dat.fst (Dat.snd (Dat.snd (Dat.snd (List.getD b (Int.toNat i) default))))), params := Dat.toList (Dat.fst (Dat.snd (Dat.snd (Dat.snd (Dat.snd (List.getD b (Int.toNat i) default)))))), inter := Dat.toStr (Dat.fst (Dat.snd (Dat.snd (Dat.snd (Dat.snd (Dat.snd (List.getD b (Int.toNat i) default))))))), text := Dat.toStr (Dat.fst (Dat.snd (Dat.snd (Dat.snd (Dat.snd (Dat.snd (Dat.snd (List.getD b (Int.toNat i) default)))))))) } : AS) a b i) ∧ (True)))))) ∧ (
       ((
        ((
         req (decide (Int.toNat i < List.length a)) (E0 ({ kind := Dat.toInt (Dat.fst (List.getD a (Int.toNat i) default)), rune := Dat.toInt (Dat.fst (Dat.snd (List.getD a (Int.toNat i) default))), final := Dat.toInt (Dat.fst (Dat.snd (Dat.snd (List.getD a (Int.toNat i) default)))), private_ := Dat.toInt (Dat.fst (Dat.snd (Dat.snd (Dat.snd (List.getD a (Int.toNat i) default))))), params := Dat.toList (Dat.fst (Dat.snd (Dat.snd (Dat.snd (Dat.snd (List.getD a (Int.toNat i) default)))))), inter := Dat.toStr (Dat.fst (Dat.snd (Dat.snd (Dat.snd (Dat.snd (Dat.snd (List.getD a (Int.toNat i) default))))))), text := Dat.toStr (Dat.fst (Dat.snd (Dat.snd (Dat.snd (Dat.snd (Dat.snd (Dat.snd (List.getD a (Int.toNat i) default)))))))) } : AS) ({ kind := Dat.toInt (Dat.fst (List.getD b (Int.toNat i) default)), rune := Dat.toInt (Dat.fst (Dat.snd (List.getD b (Int.toNat i) default))), final := Dat.toInt (Dat.fst (Dat.snd (Dat.snd (List.getD b (Int.toNat i) default)))), private_ := Dat.toInt (Dat.fst (Dat.snd (Dat.snd (Dat.snd (List.getD b (Int.toNat i) default))))), params := Dat.toList (Dat.fst (Dat.snd (Dat.snd (Dat.snd (Dat.snd (List.getD b (Int.toNat i) default)))))), inter := Dat.toStr (Dat.fst (Dat.snd (Dat.snd (Dat.snd (Dat.snd (Dat.snd (List.getD b (Int.toNat i) default))))))), text := Dat.toStr (Dat.fst (Dat.snd (Dat.snd (Dat.snd (Dat.snd (Dat.snd (Dat.snd (List.getD b (Int.toNat i) default)))))))) } : AS) a b i)) ∧ (
         ((
          req (decide (Int.toNat i < List.length a)) (E0 ({ kind := Dat.toInt (Dat.fst (List.getD a (Int.toNat i) default)), rune := Dat.toInt (Dat.fst (Dat.snd (List.getD a (Int.toNat i) default))), final := Dat.toInt (Dat.fst (Dat.snd (Dat.snd (List.getD a (Int.toNat i) default)))), private_ := Dat.toInt (Dat.fst (Dat.snd (Dat.snd (Dat.snd (List.getD a (Int.toNat i) default))))), params := Dat.toList (Dat.fst (Dat.snd (Dat.snd (Dat.snd (Dat.snd (List.getD a (Int.toNat i) default)))))), inter := Dat.toStr (Dat.fst (Dat.snd (Dat.snd (Dat.snd (Dat.snd (Dat.snd (List.getD a (Int.toNat i) default))))))), text := Dat.toStr (Dat.fst (Dat.snd (Dat.snd (Dat.snd (Dat.snd (Dat.snd (Dat.snd (List.getD a (Int.toNat i) default)))))))) } : AS) ({ kind := Dat.toInt (Dat.fst (List.getD b (Int.toNat i) default)), rune := Dat.toInt (Dat.fst (Dat.snd (List.getD b (Int.toNat i) default))), final := Dat.toInt (Dat.fst (Dat.snd (Dat.snd (List.getD b (Int.toNat i) default)))), private_ := Dat.toInt (Dat.fst (Dat.snd (Dat.snd (Dat.snd (List.getD b (Int.toNat i) default))))), params := Dat.toList (Dat.fst (Dat.snd (Dat.snd (Dat.snd (Dat.snd (List.getD b (Int.toNat i) default)))))), inter := Dat.toStr (Dat.fst (Dat.snd (Dat.snd (Dat.snd (Dat.snd (Dat.snd (List.getD b (Int.toNat i) default))))))), text := Dat.toStr (Dat.fst (Dat.snd (Dat.snd (Dat.snd (Dat.snd (Dat.snd (Dat.snd (List.getD b (Int.toNat i) default)))))))) } : AS) a b i)) ∧ (True))))) ∧ (
        ((
         ((
          req (decide (Int.toNat i < List.length a)) (E0 ({ kind := Dat.toInt (Dat.fst (List.getD a (Int.toNat i) default)), rune := Dat.toInt (Dat.fst (Dat.snd (List.getD a (Int.toNat i) default))), final := Dat.toInt (Dat.fst (Dat.snd (Dat.snd (List.getD a (Int.toNat i) default)))), private_ := Dat.toInt (Dat.fst (Dat.snd (Dat.snd (Dat.snd (List.getD a (Int.toNat i) default))))), params := Dat.toList (Dat.fst (Dat.snd (Dat.snd (Dat.snd (Dat.snd (List.getD a (Int.toNat i) default)))))), inter := Dat.toStr (Dat.fst (Dat.snd (Dat.snd (Dat.snd (Dat.snd (Dat.snd (List.getD a (Int.toNat i) default))))))), text := Dat.toStr (Dat.fst (Dat.snd (Dat.snd (Dat.snd (Dat.snd (Dat.snd (Dat.snd (List.getD a (Int.toNat i) default)))))))) } : AS) ({ kind := Dat.toInt (Dat.fst (List.getD b (Int.toNat i) default)), rune := Dat.toInt (Dat.fst (Dat.snd (List.getD b (Int.toNat i) default))), final := Dat.toInt (Dat.fst (Dat.snd (Dat.snd (List.getD b (Int.toNat i) default)))), private_ := Dat.toInt (Dat.fst (Dat.snd (Dat.snd (Dat.snd (List.getD b (Int.toNat i) default))))), params := Dat.toList (Dat.fst (Dat.snd (Dat.snd (Dat.snd (Dat.snd (List.getD b (Int.toNat i) default)))))), inter := Dat.toStr (Dat.fst (Dat.snd (Dat.snd (Dat.snd (Dat.snd (Dat.snd (List.getD b (Int.toNat i) default))))))), text := Dat.toStr (Dat.fst (Dat.snd (Dat.snd (Dat.snd (Dat.snd (Dat.snd (Dat.snd (List.getD b (Int.toNat i) default)))))))) } : AS) a b i)) ∧ (
          ((
           req (decide (Int.toNat i < List.length a)) (E0 ({ kind := Dat.toInt (Dat.fst (List.getD a (Int.toNat i) default)), rune := Dat.toInt (Dat.fst (Dat.snd (List.getD a (Int.toNat i) default))), final := Dat.toInt (Dat.fst (Dat.snd (Dat.snd (List.getD a (Int.toNat i) default)))), private_ := Dat.toInt (Dat.fst (Dat.snd (Dat.snd (Dat.snd (List.getD a (Int.toNat i) default))))), params := Dat.toList (Dat.fst (Dat.snd (Dat.snd (Dat.snd (Dat.snd (List.getD a (Int.toNat i) default)))))), inter := Dat.toStr (Dat.fst (Dat.snd (Dat.snd (Dat.snd (Dat.snd (Dat.snd (List.getD a (Int.toNat i) default))))))), text := Dat.toStr (Dat.fst (Dat.snd (Dat.snd (Dat.snd (Dat.snd (Dat.snd (Dat.snd (List.getD a (Int.toNat i) default)))))))) } : AS) ({ kind := Dat.toInt (Dat.fst (List.getD b (Int.toNat i) default)), rune := Dat.toInt (Dat.fst (Dat.snd (List.getD b (Int.toNat i) default))), final := Dat.toInt (Dat.fst (Dat.snd (Dat.snd (List.getD b (Int.toNat i) default)))), private_ := Dat.toInt (Dat.fst (Dat.snd (Dat.snd (Dat.snd (List.getD b (Int.toNat i) default))))), params := Dat.toList (Dat.fst (Dat.snd (Dat.snd (Dat.snd (Dat.snd (List.getD b (Int.toNat i) default)))))), inter := Dat.toStr (Dat.fst (Dat.snd (Dat.snd (Dat.snd (Dat.snd (Dat.snd (List.getD b (Int.toNat i) default))))))), text := Dat.toStr (Dat.fst (Dat.snd (Dat.snd (Dat.snd (Dat.snd (Dat.snd (Dat.snd (List.getD b (Int.toNat i) default)))))))) } : AS) a b i)) ∧ (True))))) ∧ (True)))))))) ∧ (
      ((
       ((
        req (decide (Int.toNat i < List.length a)) (
        ((
         req (decide (Int.toNat i < List.length b)) (E0 ({ kind := Dat.toInt (Dat.fst (List.getD a (Int.toNat i) default)), rune := Dat.toInt (Dat.fst (Dat.snd (List.getD a (Int.toNat i) default))), final := Dat.toInt (Dat.fst (Dat.snd (Dat.snd (List.getD a (Int.toNat i) default)))), private_ := Dat.toInt (Dat.fst (Dat.snd (Dat.snd (Dat.snd (List.getD a (Int.toNat i) default))))), params := Dat.toList (Dat.fst (Dat.snd (Dat.snd (Dat.snd (Dat.snd (List.getD a (Int.toNat i) default)))))), inter := Dat.toStr (Dat.fst (Dat.snd (Dat.snd (Dat.snd (Dat.snd (Dat.snd (List.getD a (Int.toNat i) default))))))), text := Dat.toStr (Dat.fst (Dat.snd (Dat.snd (Dat.snd (Dat.snd (Dat.snd (Dat.snd (List.getD a (Int.toNat i) default)))))))) } : AS) ({ kind := Dat.toInt (Dat.fst (List.getD b (Int.toNat i) default)), rune := Dat.toInt (Dat.fst (Dat.snd (List.getD b (Int.toNat i) default))), final := Dat.toInt (Dat.fst (Dat.snd (Dat.snd (List.getD b (Int.toNat i) default)))), private_ := Dat.toInt (Dat.fst (Dat.snd (Dat.snd (Dat.snd (List.getD b (Int.toNat i) default))))), params := Dat.toList (Dat.fst (Dat.snd (Dat.snd (Dat.snd (Dat.snd (List.getD b (Int.toNat i) default)))))), inter := Dat.toStr (Dat.fst (Dat.snd (Dat.snd (Dat.snd (Dat.snd (Dat.snd (List.getD b (Int.toNat i) default))))))), text := Dat.toStr (Dat.fst (Dat.snd (Dat.snd (Dat.snd (Dat.snd (Dat.snd (Dat.snd (List.getD b (Int.toNat i) default)))))))) } : AS) a b i)) ∧ (
         ((
          ((
           req (decide (Int.toNat i < List.length b)) (E0 ({ kind := Dat.toInt (Dat.fst (List.getD a (Int.toNat i) default)), rune := Dat.toInt (Dat.fst (Dat.snd (List.getD a (Int.toNat i) default))), final := Dat.toInt (Dat.fst (Dat.snd (Dat.snd (List.getD a (Int.toNat i) default)))), private_ := Dat.toInt (Dat.fst (Dat.snd (Dat.snd (Dat.snd (List.getD a (Int.toNat i) default))))), params := Dat.toList (Dat.fst (Dat.snd (Dat.snd (Dat.snd (Dat.snd (List.getD a (Int.toNat i) default)))))), inter := Dat.toStr (Dat.fst (Dat.snd (Dat.snd (Dat.snd (Dat.snd (Dat.snd (List.getD a (Int.toNat i) default))))))), text := Dat.toStr (Dat.fst (Dat.snd (Dat.snd (Dat.snd (Dat.snd (Dat.snd (Dat.snd (List.getD a (Int.toNat i) default)))))))) } : AS) ({ kind := Dat.toInt (Dat.fst (List.getD b (Int.toNat i) default)), rune := Dat.toInt (Dat.fst (Dat.snd (List.getD b (Int.toNat i) default))), final := Dat.toInt (Dat.fst (Dat.snd (Dat.snd (List.getD b (Int.toNat i) default)))), private_ := Dat.toInt (Dat.fst (Dat.snd (Dat.snd (Dat.snd (List.getD b (Int.toNat i) default))))), params := Dat.toList (Dat.fst (Dat.snd (Dat.snd (Dat.snd (Dat.snd (List.getD b (Int.toNat i) default)))))), inter := Dat.toStr (Dat.fst (Dat.snd (Dat.snd (Dat.snd (Dat.snd (Dat.snd (List.getD b (Int.toNat i) default))))))), text := Dat.toStr (Dat.fst (Dat.snd (Dat.snd (Dat.snd (Dat.snd (Dat.snd (Dat.snd (List.getD b (Int.toNat i) default)))))))) } : AS) a b i)) ∧ (
           ((
            req (decide (Int.toNat i < List.length b)) (E0 ({ kind := Dat.toInt (Dat.fst (List.getD a (Int.toNat i) default)), rune := Dat.toInt (Dat.fst (Dat.snd (List.getD a (Int.toNat i) default))), final := Dat.toInt (Dat.fst (Dat.snd (Dat.snd (List.getD a (Int.toNat i) default)))), private_ := Dat.toInt (Dat.fst (Dat.snd (Dat.snd (Dat.snd (List.getD a (Int.toNat i) default))))), params := Dat.toList (Dat.fst (Dat.snd (Dat.snd (Dat.snd (Dat.snd (List.getD a (Int.toNat i) default)))))), inter := Dat.toStr (Dat.fst (Dat.snd (Dat.snd (Dat.snd (Dat.snd (Dat.snd (List.getD a (Int.toNat i) default))))))), text := Dat.toStr (Dat.fst (Dat.snd (Dat.snd (Dat.snd (Dat.snd (Dat.snd (Dat.snd (List.getD a (Int.toNat i) default)))))))) } : AS) ({ kind := Dat.toInt (Dat.fst (List.getD b (Int.toNat i) default)), rune := Dat.toInt (Dat.fst (Dat.snd (List.getD b (Int.toNat i) default))), final := Dat.toInt (Dat.fst (Dat.snd (Dat.snd (List.getD b (Int.toNat i) default)))), private_ := Dat.toInt (Dat.fst (Dat.snd (Dat.snd (Dat.snd (List.getD b (Int.toNat i) default))))), params := Dat.toList (Dat.fst (Dat.snd (Dat.snd (Dat.snd (Dat.snd (List.getD b (Int.toNat i) default)))))), inter := Dat.toStr (Dat.fst (Dat.snd (Dat.snd (Dat.snd (Dat.snd (Dat.snd (List.getD b (Int.toNat i) default))))))), text := Dat.toStr (Dat.fst (Dat.snd (Dat.snd (Dat.snd (Dat.snd (Dat.snd (Dat.snd (List.getD b (Int.toNat i) default)))))))) } : AS) a b i)) ∧ (True))))) ∧ (True)))))) ∧ (
        ((
         req (decide (Int.toNat i < List.length b)) (
         ((
          req (decide (Int.toNat i < List.length a)) (E0 ({ kind := Dat.toInt (Dat.fst (List.getD a (Int.toNat i) default)), rune := Dat.toInt (Dat.fst (Dat.snd (List.getD a (Int.toNat i) default))), final := Dat.toInt (Dat.fst (Dat.snd (Dat.snd (List.getD a (Int.toNat i) default)))), private_ := Dat.toInt (Dat.fst (Dat.snd (Dat.snd (Dat.snd (List.getD a (Int.toNat i) default))))), params := Dat.toList (Dat.fst (Dat.snd (Dat.snd (Dat.snd (Dat.snd (List.getD a (Int.toNat i) default)))))), inter := Dat.toStr (Dat.fst (Dat.snd (Dat.snd (Dat.snd (Dat.snd (Dat.snd (List.getD a (Int.toNat i) default))))))), text := Dat.toStr (Dat.fst (Dat.snd (Dat.snd (Dat.snd (Dat.snd (Dat.snd (Dat.snd (List.getD a (Int.toNat i) default)))))))) } : AS) ({ kind := Dat.toInt (Dat.fst (List.getD b (Int.toNat i) default)), rune := Dat.toInt (Dat.fst (Dat.snd (List.getD b (Int.toNat i) default))), final := Dat.toInt (Dat.fst (Dat.snd (Dat.snd (List.getD b (Int.toNat i) default)))), private_ := Dat.toInt (Dat.fst (Dat.snd (Dat.snd (Dat.snd (List.getD b (Int.toNat i) default))))), params := Dat.toList (Dat.fst (Dat.snd (Dat.snd (Dat.snd (Dat.snd (List.getD b (Int.toNat i) default)))))), inter := Dat.toStr (Dat.fst (Dat.snd (Dat.snd (Dat.snd (Dat.snd (Dat.snd (List.getD b (Int.toNat i) default))))))), text := Dat.toStr (Dat.fst (Dat.snd (Dat.snd (Dat.snd (Dat.snd (Dat.snd (Dat.snd (List.getD b (Int.toNat i) default)))))))) } : AS) a b i)) ∧ (
          ((
           req (decide (Int.toNat i < List.length a)) (E0 ({ kind := Dat.toInt (Dat.fst (List.getD a (Int.toNat i) default)), rune := Dat.toInt (Dat.fst (Dat.snd (List.getD a (Int.toNat i) default))), final := Dat.toInt (Dat.fst (Dat.snd (Dat.snd (List.getD a (Int.toNat i) default)))), private_ := Dat.toInt (Dat.fst (Dat.snd (Dat.snd (Dat.snd (List.getD a (Int.toNat i) default))))), params := Dat.toList (Dat.fst (Dat.snd (Dat.snd (Dat.snd (Dat.snd (List.getD a (Int.toNat i) default)))))), inter := Dat.toStr (Dat.fst (Dat.snd (Dat.snd (Dat.snd (Dat.snd (Dat.snd (List.getD a (Int.toNat i) default))))))), text := Dat.toStr (Dat.fst (Dat.snd (Dat.snd (Dat.snd (Dat.snd (Dat.snd (Dat.snd (List.getD a (Int.toNat i) default)))))))) } : AS) ({ kind := Dat.toInt (Dat.fst (List.getD b (Int.toNat i) default)), rune := Dat.toInt (Dat.fst (Dat.snd (List.getD b (Int.toNat i) default))), final := Dat.toInt (Dat.fst (Dat.snd (Dat.snd (List.getD b (Int.toNat i) default)))), private_ := Dat.toInt (Dat.fst (Dat.snd (Dat.snd (Dat.snd (List.getD b (Int.toNat i) default))))), params := Dat.toList (Dat.fst (Dat.snd (Dat.snd (Dat.snd (Dat.snd (List.getD b (Int.toNat i) default)))))), inter := Dat.toStr (Dat.fst (Dat.snd (Dat.snd (Dat.snd (Dat.snd (Dat.snd (List.getD b (Int.toNat i) default))))))), text := Dat.toStr (Dat.fst (Dat.snd (Dat.snd (Dat.snd (Dat.snd (Dat.snd (Dat.snd (List.getD b (Int.toNat i) default)))))))) } : AS) a b i)) ∧ (True)))))) ∧ (
         ((
          req (decide (Int.toNat i < List.length a)) (
          ((
           req (decide (Int.toNat i < List.length b)) (E0 ({ kind := Dat.toInt (Dat.fst (List.getD a (Int.toNat i) default)), rune := Dat.toInt (Dat.fst (Dat.snd (List.getD a (Int.toNat i) default))), final := Dat.toInt (Dat.fst (Dat.snd (Dat.snd (List.getD a (Int.toNat i) default)))), private_ := Dat.toInt (Dat.fst (Dat.snd (Dat.snd (Dat.snd (List.getD a (Int.toNat i) default))))), params := Dat.toList (Dat.fst (Dat.snd (Dat.snd (Dat.snd (Dat.snd (List.getD a (Int.toNat i) default)))))), inter := Dat.toStr (Dat.fst (Dat.snd (Dat.snd (Dat.snd (Dat.snd (Dat.snd (List.getD a (Int.toNat i) default))))))), text := Dat.toStr (Dat.fst (Dat.snd (Dat.snd (Dat.snd (Dat.snd (Dat.snd (Dat.snd (List.getD a (Int.toNat i) default)))))))) } : AS) ({ kind := Dat.toInt (Dat.fst (List.getD b (Int.toNat i) default)), rune := Dat.toInt (Dat.fst (Dat.snd (List.getD b (Int.toNat i) default))), final := Dat.toInt (Dat.fst (Dat.snd (Dat.snd (List.getD b (Int.toNat i) default)))), private_ := Dat.toInt (Dat.fst (Dat.snd (Dat.snd (Dat.snd (List.getD b (Int.toNat i) default))))), params := Dat.toList (Dat.fst (Dat.snd (Dat.snd (Dat.snd (Dat.snd (List.getD b (Int.toNat i) default)))))), inter := Dat.toStr (Dat.fst (Dat.snd (Dat.snd (Dat.snd (Dat.snd (Dat.snd (List.getD b (Int.toNat i) default))))))), text := Dat.toStr (Dat.fst (Dat.snd (Dat.snd (Dat.snd (Dat.snd (Dat.snd (Dat.snd (List.getD b (Int.toNat i) default)))))))) } : AS) a b i)) ∧ (
           ((
            req (decide (Int.toNat i < List.length b)) (E0 ({ kind := Dat.toInt (Dat.fst (List.getD a (Int.toNat i) default)), rune := Dat.toInt (Dat.fst (Dat.snd (List.getD a (Int.toNat i) default))), final := Dat.toInt (Dat.fst (Dat.snd (Dat.snd (List.getD a (Int.toNat i) default)))), private_ := Dat.toInt (Dat.fst (Dat.snd (Dat.snd (Dat.snd (List.getD a (Int.toNat i) default))))), params := Dat.toList (Dat.fst (Dat.snd (Dat.snd (Dat.snd (Dat.snd (List.getD a (Int.toNat i) default)))))), inter := Dat.toStr (Dat.fst (Dat.snd (Dat.snd (Dat.snd (Dat.snd (Dat.snd (List.getD a (Int.toNat i) default))))))), text := Dat.toStr (Dat.fst (Dat.snd (Dat.snd (Dat.snd (Dat.snd (Dat.snd (Dat.snd (List.getD a (Int.toNat i) default)))))))) } : AS) ({ kind := Dat.toInt (Dat.fst (List.getD b (Int.toNat i) default)), rune := Dat.toInt (Dat.fst (Dat.snd (List.getD b (Int.toNat i) default))), final := Dat.toInt (Dat.fst (Dat.snd (Dat.snd (List.getD b (Int.toNat i) default)))), private_ := Dat.toInt (Dat.fst (Dat.snd (Dat.snd (Dat.snd (List.getD b (Int.toNat i) default))))), params := Dat.toList (Dat.fst (Dat.snd (Dat.snd (Dat.snd (Dat.snd (List.getD b (Int.toNat i) default)))))), inter := Dat.toStr (Dat.fst (Dat.snd (Dat.snd (Dat.snd (Dat.snd (Dat.snd (List.getD b (Int.toNat i) default))))))), text := Dat.toStr (Dat.fst (Dat.snd (Dat.snd (Dat.snd (Dat.snd (Dat.snd (Dat.snd (List.getD b (Int.toNat i) default)))))))) } : AS) a b i)) ∧ (True)))))) ∧ (True))))))) ∧ (
       ((
        ((
         req (decide (Int.toNat i < List.length a)) (
         ((
          req (decide (Int.toNat i < List.length b)) (E0 ({ kind := Dat.toInt (Dat.fst (List.getD a (Int.toNat i) default)), rune := Dat.toInt (Dat.fst (Dat.snd (List.getD a (Int.toNat i) default))), final := Dat.toInt (Dat.fst (Dat.snd (Dat.snd (List.getD a (Int.toNat i) default)))), private_ := Dat.toInt (Dat.fst (Dat.snd (Dat.snd (Dat.snd (List.getD a (Int.toNat i) default))))), params := Dat.toList (Dat.fst (Dat.snd (Dat.snd (Dat.snd (Dat.snd (List.getD a (Int.toNat i) default)))))), inter := Dat.toStr (Dat.fst (Dat.snd (Dat.snd (Dat.snd (Dat.snd (Dat.snd (List.getD a (Int.toNat i) default))))))), text := Dat.toStr (Dat.fst (Dat.snd (Dat.snd (Dat.snd (Dat.snd (Dat.snd (Dat.snd (List.getD a (Int.toNat i) default)))))))) } : AS) ({ kind := Dat.toInt (Dat.fst (List.getD b (Int.toNat i) default)), rune := Dat.toInt (Dat.fst (Dat.snd (List.getD b (Int.toNat i) default))), final := Dat.toInt (Dat.fst (Dat.snd (Dat.snd (List.getD b (Int.toNat i) default)))), private_ := Dat.toInt (Dat.fst (Dat.snd (Dat.snd (Dat.snd (List.getD b (Int.toNat i) default))))), params := Dat.toList (Dat.fst (Dat.snd (Dat.snd (Dat.snd (Dat.snd (List.getD b (Int.toNat i) default)))))), inter := Dat.toStr (Dat.fst (Dat.snd (Dat.snd (Dat.snd (Dat.snd (Dat.snd (List.getD b (Int.toNat i) default))))))), text := Dat.toStr (Dat.fst (Dat.snd (Dat.snd (Dat.snd (Dat.snd (Dat.snd (Dat.snd (List.getD b (Int.toNat i) default)))))))) } : AS) a b i)) ∧ (
          ((
           ((
            req (decide (Int.toNat i < List.length b)) (E0 ({ kind := Dat.toInt (Dat.fst (List.getD a (Int.toNat i) default)), rune := Dat.toInt (Dat.fst (Dat.snd (List.getD a (Int.toNat i) default))), final := Dat.toInt (Dat.fst (Dat.snd (Dat.snd (List.getD a (Int.toNat i) default)))), private_ := Dat.toInt (Dat.fst (Dat.snd (Dat.snd (Dat.snd (List.getD a (Int.toNat i) default))))), params := Dat.toList (Dat.fst (Dat.snd (Dat.snd (Dat.snd (Dat.snd (List.getD a (Int.toNat i) default)))))), inter := Dat.toStr (Dat.fst (Dat.snd (Dat.snd (Dat.snd (Dat.snd (Dat.snd (List.getD a (Int.toNat i) default))))))), text := Dat.toStr (Dat.fst (Dat.snd (Dat.snd (Dat.snd (Dat.snd (Dat.snd (Dat.snd (List.getD a (Int.toNat i) default)))))))) } : AS) ({ kind := Dat.toInt (Dat.fst (List.getD b (Int.toNat i) default)), rune := Dat.toInt (Dat.fst (Dat.snd (List.getD b (Int.toNat i) default))), final := Dat.toInt (Dat.fst (Dat.snd (Dat.snd (List.getD b (Int.toNat i) default)))), private_ := Dat.toInt (Dat.fst (Dat.snd (Dat.snd (Dat.snd (List.getD b (Int.toNat i) default))))), params := Dat.toList (Dat.fst (Dat.snd (Dat.snd (Dat.snd (Dat.snd (List.getD b (Int.toNat i) default)))))), inter := Dat.toStr (Dat.fst (Dat.snd (Dat.snd (Dat.snd (Dat.snd (Dat.snd (List.getD b (Int.toNat i) default))))))), text := Dat.toStr (Dat.fst (Dat.snd (Dat.snd (Dat.snd (Dat.snd (Dat.snd (Dat.snd (List.getD b (Int.toNat i) default)))))))) } : AS) a b i)) ∧ (
            ((
             req (decide (Int.toNat i < List.length b)) (E0 ({ kind := Dat.toInt (Dat.fst (List.getD a (Int.toNat i) default)), rune := Dat.toInt (Dat.fst (Dat.snd (List.getD a (Int.toNat i) default))), final := Dat.toInt (Dat.fst (Dat.snd (Dat.snd (List.getD a (Int.toNat i) default)))), private_ := Dat.toInt (Dat.fst (Dat.snd (Dat.snd (Dat.snd (List.getD a (Int.toNat i) default))))), params := Dat.toList (Dat.fst (Dat.snd (Dat.snd (Dat.snd (Dat.snd (List.getD a (Int.toNat i) default)))))), inter := Dat.toStr (Dat.fst (Dat.snd (Dat.snd (Dat.snd (Dat.snd (Dat.snd (List.getD a (Int.toNat i) default))))))), text := Dat.toStr (Dat.fst (Dat.snd (Dat.snd (Dat.snd (Dat.snd (Dat.snd (Dat.snd (List.getD a (Int.toNat i) default)))))))) } : AS) ({ kind := Dat.toInt (Dat.fst (List.getD b (Int.toNat i) default)), rune := Dat.toInt (Dat.fst (Dat.snd (List.getD b (Int.toNat i) default))), final := Dat.toInt (Dat.fst (Dat.snd (Dat.snd (List.getD b (Int.toNat i) default)))), private_ := Dat.toInt (Dat.fst (Dat.snd (Dat.snd (Dat.snd (List.getD b (Int.toNat i) default))))), params := Dat.toList (Dat.fst (Dat.snd (Dat.snd (Dat.snd (Dat.snd (List.getD b (Int.toNat i) default)))))), inter := Dat.toStr (Dat.fst (Dat.snd (Dat.snd (Dat.snd (Dat.snd (Dat.snd (List.getD b (Int.toNat i) default))))))), text := Dat.toStr (Dat.fst (Dat.snd (Dat.snd (Dat.snd (Dat.snd (Dat.snd (Dat.snd (List.getD b (Int.toNat i) default)))))))) } : AS) a b i)) ∧ (True))))) ∧ (True)))))) ∧ (
         ((
          req (decide (Int.toNat i < List.length b)) (
          ((
           req (decide (Int.toNat i < List.length a)) (E0 ({ kind := Dat.toInt (Dat.fst (List.getD a (Int.toNat i) default)), rune := Dat.toInt (Dat.fst (Dat.snd (List.getD a (Int.toNat i) default))), final := Dat.toInt (Dat.fst (Dat.snd (Dat.snd (List.getD a (Int.toNat i) default)))), private_ := Dat.toInt (Dat.fst (Dat.snd (Dat.snd (Dat.snd (List.getD a (Int.toNat i) default))))), params := Dat.toList (Dat.fst (Dat.snd (Dat.snd (Dat.snd (Dat.snd (List.getD a (Int.toNat i) default)))))), inter := Dat.toStr (Dat.fst (Dat.snd (Dat.snd (Dat.snd (Dat.snd (Dat.snd (List.getD a (Int.toNat i) default))))))), text := Dat.toStr (Dat.fst (Dat.snd (Dat.snd (Dat.snd (Dat.snd (Dat.snd (Dat.snd (List.getD a (Int.toNat i) default)))))))) } : AS) ({ kind := Dat.toInt (Dat.fst (List.getD b (Int.toNat i) default)), rune := Dat.toInt (Dat.fst (Dat.snd (List.getD b (Int.toNat i) default))), final := Dat.toInt (Dat.fst (Dat.snd (Dat.snd (List.getD b (Int.toNat i) default)))), private_ := Dat.toInt (Dat.fst (Dat.snd (Dat.snd (Dat.snd (List.getD b (Int.toNat i) default))))), params := Dat.toList (Dat.fst (Dat.snd (Dat.snd (Dat.snd (Dat.snd (List.getD b (Int.toNat i) default)))))), inter := Dat.toStr (Dat.fst (Dat.snd (Dat.snd (Dat.snd (Dat.snd (Dat.snd (List.getD b (Int.toNat i) default))))))), text := Dat.toStr (Dat.fst (Dat.snd (Dat.snd (Dat.snd (Dat.snd (Dat.snd (Dat.snd (List.getD b (Int.toNat i) default)))))))) } : AS) a b i)) ∧ (
           ((
            req (decide (Int.toNat i < List.length a)) (E0 ({ kind := Dat.toInt (Dat.fst (List.getD a (Int.toNat i) default)), rune := Dat.toInt (Dat.fst (Dat.snd (List.getD a (Int.toNat i) default))), final := Dat.toInt (Dat.fst (Dat.snd (Dat.snd (List.getD a (Int.toNat i) default)))), private_ := Dat.toInt (Dat.fst (Dat.snd (Dat.snd (Dat.snd (List.getD a (Int.toNat i) default))))), params := Dat.toList (Dat.fst (Dat.snd (Dat.snd (Dat.snd (Dat.snd (List.getD a (Int.toNat i) default)))))), inter := Dat.toStr (Dat.fst (Dat.snd (Dat.snd (Dat.snd (Dat.snd (Dat.snd (List.getD a (Int.toNat i) default))))))), text := Dat.toStr (Dat.fst (Dat.snd (Dat.snd (Dat.snd (Dat.snd (Dat.snd (Dat.snd (List.getD a (Int.toNat i) default)))))))) } : AS) ({ kind := Dat.toInt (Dat.fst (List.getD b (Int.toNat i) default)), rune := Dat.toInt (Dat.fst (Dat.snd (List.getD b (Int.toNat i) default))), final := Dat.toInt (Dat.fst (Dat.snd (Dat.snd (List.getD b (Int.toNat i) default)))), private_ := Dat.toInt (Dat.fst (Dat.snd (Dat.snd (Dat.snd (List.getD b (Int.toNat i) default))))), params := Dat.toList (Dat.fst (Dat.snd (Dat.snd (Dat.snd (Dat.snd (List.getD b (Int.toNat i) default)))))), inter := Dat.toStr (Dat.fst (Dat.snd (Dat.snd (Dat.snd (Dat.snd (Dat.snd (List.getD b (Int.toNat i) default))))))), text := Dat.toStr (Dat.fst (Dat.snd (Dat.snd (Dat.snd (Dat.snd (Dat.snd (Dat.snd (List.getD b (Int.toNat i) default)))))))) } : AS) a b i)) ∧ (True)))))) ∧ (
          ((
           req (decide (Int.toNat i < List.length a)) (
           ((
            req (decide (Int.toNat i < List.length b)) (E0 ({ kind := Dat.toInt (Dat.fst (List.getD a (Int.toNat i) default)), rune := Dat.toInt (Dat.fst (Dat.snd (List.getD a (Int.toNat i) default))), final := Dat.toInt (Dat.fst (Dat.snd (Dat.snd (List.getD a (Int.toNat i) default)))), private_ := Dat.toInt (Dat.fst (Dat.snd (Dat.snd (Dat.snd (List.getD a (Int.toNat i) default))))), params := Dat.toList (Dat.fst (Dat.snd (Dat.snd (Dat.snd (Dat.snd (List.getD a (Int.toNat i) default)))))), inter := Dat.toStr (Dat.fst (Dat.snd (Dat.snd (Dat.snd (Dat.snd (Dat.snd (List.getD a (Int.toNat i) default))))))), text := Dat.toStr (Dat.fst (Dat.snd (Dat.snd (Dat.snd (Dat.snd (Dat.snd (Dat.snd (List.getD a (Int.toNat i) default)))))))) } : AS) ({ kind := Dat.toInt (Dat.fst (List.getD b (Int.toNat i) default)), rune := Dat.toInt (Dat.fst (Dat.snd (List.getD b (Int.toNat i) default))), final := Dat.toInt (Dat.fst (Dat.snd (Dat.snd (List.getD b (Int.toNat i) default)))), private_ := Dat.toInt (Dat.fst (Dat.snd (Dat.snd (Dat.snd (List.getD b (Int.toNat i) default))))), params := Dat.toList (Dat.fst (Dat.snd (Dat.snd (Dat.snd (Dat.snd (List.getD b (Int.toNat i) default)))))), inter := Dat.toStr (Dat.fst (Dat.snd (Dat.snd (Dat.snd (Dat.snd (Dat.snd (List.getD b (Int.toNat i) default))))))), text := Dat.toStr (Dat.fst (Dat.snd (Dat.snd (Dat.snd (Dat.snd (Dat.snd (Dat.snd (List.getD b (Int.toNat i) default)))))))) } : AS) a b i)) ∧ (
            ((
             req (decide (Int.toNat i < List.length b)) (E0 ({ kind := Dat.toInt (Dat.fst (List.getD a (Int.toNat i) default)), rune := Dat.toInt (Dat.fst (Dat.snd (List.getD a (Int.toNat i) default))), final := Dat.toInt (Dat.fst (Dat.snd (Dat.snd (List.getD a (Int.toNat i) default)))), private_ := Dat.toInt (Dat.fst (Dat.snd (Dat.snd (Dat.snd (List.getD a (Int.toNat i) default))))), params := Dat.toList (Dat.fst (Dat.snd (Dat.snd (Dat.snd (Dat.snd (List.getD a (Int.toNat i) default)))))), inter := Dat.toStr (Dat.fst (Dat.snd (Dat.snd (Dat.snd (Dat.snd (Dat.snd (List.getD a (Int.toNat i) default))))))), text := Dat.toStr (Dat.fst (Dat.snd (Dat.snd (Dat.snd (Dat.snd (Dat.snd (Dat.snd (List.getD a (Int.toNat i) default)))))))) } : AS) ({ kind := Dat.toInt (Dat.fst (List.getD b (Int.toNat i) default)), rune := Dat.toInt (Dat.fst (Dat.snd (List.getD b (Int.toNat i) default))), final := Dat.toInt (Dat.fst (Dat.snd (Dat.snd (List.getD b (Int.toNat i) default)))), private_ := Dat.toInt (Dat.fst (Dat.snd (Dat.snd (Dat.snd (List.getD b (Int.toNat i) default))))), params := Dat.toList (Dat.fst (Dat.snd (Dat.snd (Dat.snd (Dat.snd (List.getD b (Int.toNat i) default)))))), inter := Dat.toStr (Dat.fst (Dat.snd (Dat.snd (Dat.snd (Dat.snd (Dat.snd (List.getD b (Int.toNat i) default))))))), text := Dat.toStr (Dat.fst (Dat.snd (Dat.snd (Dat.snd (Dat.snd (Dat.snd (Dat.snd (List.getD b (Int.toNat i) default)))))))) } : AS) a b i)) ∧ (True)))))) ∧ (True))))))) ∧ (True))))))))))
def F13_r6 : AM.Form := ⟨mkF 95 [(0, .ro (.pair (.int .i64) (.pair (.int .i32) (.pair (.int .u8) (.pair (.int .u8) (.pair (.slice (.int .i64)) (.pair .str (.pair .str .unit)))))))), (1, .ro (.pair (.int .i64) (.pair (.int .i32) (.pair (.int .u8) (.pair (.int .u8) (.pair (.slice (.int .i64)) (.pair .str (.pair .str .unit)))))))), (5, .int .i64)], []⟩
noncomputable def mm13_r6 (ds : List Dat) (Q : AExit → List AV → AH → Prop) : Prop := p13_r6 ((dat ds 0).toList) ((dat ds 1).toList) ((dat ds 2).toInt) (fun ra ra2 rxs rxs2 rn => Q .normal (mkAV 95 [(0, .ro (.pair (.int .i64) (.pair (.int .i32) (.pair (.int .u8) (.pair (.int .u8) (.pair (.slice (.int .i64)) (.pair .str (.pair .str .unit))))))) rxs), (1, .ro (.pair (.int .i64) (.pair (.int .i32) (.pair (.int .u8) (.pair (.int .u8) (.pair (.slice (.int .i64)) (.pair .str (.pair .str .unit))))))) rxs2), (5, .c (.int .i64 rn)), (6, .p 0 0), (7, .p 1 0)]) ⟨[.cells 35 [.c (.int .i64 ra.kind), .c (.int .i32 ra.rune), .c (.int .u8 ra.final), .c (.int .u8 ra.private_), .ro (.int .i64) ra.params, .c (.string ra.inter), .c (.string ra.text)], .cells 35 [.c (.int .i64 ra2.kind), .c (.int .i32 ra2.rune), .c (.int .u8 ra2.final), .c (.int .u8 ra2.private_), .ro (.int .i64) ra2.params, .c (.string ra2.inter), .c (.string ra2.text)]], []⟩)
theorem t13_r6 (ds : List Dat) (Q : AExit → List AV → AH → Prop) : wpA Tryd.prog tys GG12 1000 13 (theReg Tryd.prog 13 6) (fun e f' h' => endF Tryd.prog ((fun _ => []) e) ((fun _ => ⟨[0, 1, 5, 6, 7], []⟩) e) ((fun _ => []) e) (F13_r6.hp ds) f' h' fun f2 h2 => Q e f2 h2) (F13_r6.fr ds) (F13_r6.hp ds) = mm13_r6 ds Q := by kernel_rfl
noncomputable def R13_r6 : LoopT := headF Tryd.prog [] ⟨[0, 1, 5], []⟩ [] (locL F13_r6 mm13_r6)
theorem ok13_r6 : RegOK Tryd.prog (theReg Tryd.prog 13 6) R13_r6 := ruleP_ok sGG12 (by kernel_rfl) mm13_r6 t13_r6
noncomputable def rs13_r6 : List (FuncId × Nat × LoopT) := (13, 6, R13_r6) :: []
theorem rs13_r6_ok : RegsOK Tryd.prog rs13_r6 := .cons (by kernel_rfl) ok13_r6 .nil
noncomputable def GG13_r6 : Rules := mkG [] cs12 loopsA rs13_r6
theorem sGG13_r6 : Sound Tryd.prog tys GG13_r6 := mk_sound mixed tysOK names (by kernel_rfl) cs12_ok loopsA_ok rs13_r6_ok
noncomputable def l13_10 : Nat → AS → AS → List Dat → List Dat → Int → Int → (AS → AS → List Dat → List Dat → Int → Prop) → (AS → AS → Bool → Prop) → Prop
  | 0, _, _, _, _, _, _, _, _ => False
  | fu + 1, a, a2, a3, b, i, k, E2, R_ =>
    br (decide (k < (↑(List.length (AS.params a)) : Int))) (
     req (decide ((0 : Int) ≤ k) && decide (k < (↑(List.length (AS.params a)) : Int))) (
     req (decide (Int.toNat k < List.length (AS.params a))) (
     req (decide ((0 : Int) ≤ k) && decide (k < (↑(List.length (AS.params a2)) : Int))) (
     req (decide (Int.toNat k < List.length (AS.params a2))) (
     br (!decide (Dat.toInt (List.getD (AS.params a) (Int.toNat k) default) = Dat.toInt (List.getD (AS.params a2) (Int.toNat k) default))) (R_ a a2 false) (
      req (inR IntKind.i64 (k + (1 : Int))) (l13_10 fu a a2 a3 b i (k + (1 : Int)) E2 R_))))))) (E2 a a2 a3 b i)
def F13_10 : AM.Form := ⟨mkF 95 [(0, .ro (.pair (.int .i64) (.pair (.int .i32) (.pair (.int .u8) (.pair (.int .u8) (.pair (.slice (.int .i64)) (.pair .str (.pair .str .unit)))))))), (1, .ro (.pair (.int .i64) (.pair (.int .i32) (.pair (.int .u8) (.pair (.int .u8) (.pair (.slice (.int .i64)) (.pair .str (.pair .str .unit)))))))), (5, .int .i64), (6, .p 0 0), (7, .p 1 0), (8, .int .i64)], [.cells 35 [.int .i64, .int .i32, .int .u8, .int .u8, .ro (.int .i64), .str, .str], .cells 35 [.int .i64, .int .i32, .int .u8, .int .u8, .ro (.int .i64), .str, .str]]⟩
noncomputable def mm13_10 (n : Nat) (ds : List Dat) (Q : AExit → List AV → AH → Prop) : Prop := l13_10 n ⟨(dat ds 4).toInt, (dat ds 5).toInt, (dat ds 6).toInt, (dat ds 7).toInt, (dat ds 8).toList, (dat ds 9).toStr, (dat ds 10).toStr⟩ ⟨(dat ds 11).toInt, (dat ds 12).toInt, (dat ds 13).toInt, (dat ds 14).toInt, (dat ds 15).toList, (dat ds 16).toStr, (dat ds 17).toStr⟩ ((dat ds 0).toList) ((dat ds 1).toList) ((dat ds 2).toInt) ((dat ds 3).toInt) (fun ra ra2 rxs rxs2 rn => Q (AExit.exit 2) (mkAV 95 [(0, .ro (.pair (.int .i64) (.pair (.int .i32) (.pair (.int .u8) (.pair (.int .u8) (.pair (.slice (.int .i64)) (.pair .str (.pair .str .unit))))))) rxs), (1, .ro (.pair (.int .i64) (.pair (.int .i32) (.pair (.int .u8) (.pair (.int .u8) (.pair (.slice (.int .i64)) (.pair .str (.pair .str .unit))))))) rxs2), (5, .c (.int .i64 rn)), (6, .p 0 0), (7, .p 1 0)]) ⟨[.cells 35 [.c (.int .i64 ra.kind), .c (.int .i32 ra.rune), .c (.int .u8 ra.final), .c (.int .u8 ra.private_), .ro (.int .i64) ra.params, .c (.string ra.inter), .c (.string ra.text)], .cells 35 [.c (.int .i64 ra2.kind), .c (.int .i32 ra2.rune), .c (.int .u8 ra2.final), .c (.int .u8 ra2.private_), .ro (.int .i64) ra2.params, .c (.string ra2.inter), .c (.string ra2.text)]], []⟩) (fun ra ra2 rb => Q AExit.ret (mkAV 95 [(4, .c (.bool rb)), (6, .p 0 0), (7, .p 1 0)]) ⟨[.cells 35 [.c (.int .i64 ra.kind), .c (.int .i32 ra.rune), .c (.int .u8 ra.final), .c (.int .u8 ra.private_), .ro (.int .i64) ra.params, .c (.string ra.inter), .c (.string ra.text)], .cells 35 [.c (.int .i64 ra2.kind), .c (.int .i32 ra2.rune), .c (.int .u8 ra2.final), .c (.int .u8 ra2.private_), .ro (.int .i64) ra2.params, .c (.string ra2.inter), .c (.string ra2.text)]], []⟩)
theorem t13_10 (n : Nat) (ds : List Dat) (Q : AExit → List AV → AH → Prop) : wpA Tryd.prog tys GG13_r6 1000 13 (theLoop Tryd.prog 13 10) (fun e f' h' => endF Tryd.prog ((fun _ => []) e) ((fun e => match e with | .normal => ⟨[0, 1, 5, 6, 7, 8], []⟩ | .exit 2 => ⟨[0, 1, 5, 6, 7], []⟩ | .ret => ⟨[4, 6, 7], []⟩ | _ => ⟨[], []⟩) e) ((fun e => match e with | .normal => [] | .exit 2 => [] | .ret => [] | _ => []) e) (F13_10.hp ds) f' h' fun f2 h2 => match e with
      | .normal => locL F13_10 (mm13_10 n) f2 h2 Q
      | e => Q e f2 h2) (F13_10.fr ds) (F13_10.hp ds) = mm13_10 (n + 1) ds Q := by kernel_rfl
noncomputable def R13_10 : LoopT := headF Tryd.prog [] ⟨[0, 1, 5, 6, 7, 8], []⟩ [] fun f h Q => ∃ n, locL F13_10 (mm13_10 n) f h Q
theorem ok13_10 : LoopOK Tryd.prog (theLoop Tryd.prog 13 10) R13_10 := ruleL_ok sGG13_r6 (by kernel_rfl) mm13_10 (fun _ _ => rfl) t13_10
noncomputable def ls13_10 : List (FuncId × Nat × LoopT) := (13, 10, R13_10) :: loopsA
theorem ls13_10_ok : LoopsOK Tryd.prog ls13_10 := .cons (by kernel_rfl) ok13_10 loopsA_ok
noncomputable def GG13_10 : Rules := mkG [] cs12 ls13_10 rs13_r6
theorem sGG13_10 : Sound Tryd.prog tys GG13_10 := mk_sound mixed tysOK names (by kernel_rfl) cs12_ok ls13_10_ok rs13_r6_ok
noncomputable def l13_4 : Nat → List Dat → List Dat → Int → (Prop) → (Bool → Prop) → Prop
  | 0, _, _, _, _, _ => False
  | fu + 1, a, b, i, E0, R_ =>
    br (decide (i < (↑(List.length a) : Int))) (
     p13_r6 a b i (fun y0 y1 y2 y3 y4 => 
      br (!decide (AS.kind y0 = AS.kind y1)) (R_ false) (
       br (!decide (AS.rune y0 = AS.rune y1)) (R_ false) (
        br (!decide (AS.final y0 = AS.final y1)) (R_ false) (
         br (!decide (AS.private_ y0 = AS.private_ y1)) (R_ false) (
          br (!strEq (AS.inter y0) (AS.inter y1)) (R_ false) (
           br (!strEq (AS.text y0) (AS.text y1)) (R_ false) (
            br (!decide ((↑(List.length (AS.params y0)) : Int) = (↑(List.length (AS.params y1)) : Int))) (R_ false) (
             (∃ y5, 
             l13_10 y5 { kind := AS.kind y0, rune := AS.rune y0, final := AS.final y0, private_ := AS.private_ y0, params := AS.params y0, inter := AS.inter y0, text := AS.text y0 } { kind := AS.kind y1, rune := AS.rune y1, final := AS.final y1, private_ := AS.private_ y1, params := AS.params y1, inter := AS.inter y1, text := AS.text y1 } y2 y3 y4 (0 : Int) (fun y6 y7 y8 y9 y10 => 
              req (inR IntKind.i64 (y10 + (1 : Int))) (l13_4 fu y8 y9 (y10 + (1 : Int)) E0 R_)) (fun y11 y12 y13 => R_ y13))))))))))) (E0)
def F13_4 : AM.Form := ⟨mkF 95 [(0, .ro (.pair (.int .i64) (.pair (.int .i32) (.pair (.int .u8) (.pair (.int .u8) (.pair (.slice (.int .i64)) (.pair .str (.pair .str .unit)))))))), (1, .ro (.pair (.int .i64) (.pair (.int .i32) (.pair (.int .u8) (.pair (.int .u8) (.pair (.slice (.int .i64)) (.pair .str (.pair .str .unit)))))))), (5, .int .i64)], []⟩
noncomputable def mm13_4 (n : Nat) (ds : List Dat) (Q : AExit → List AV → AH → Prop) : Prop := l13_4 n ((dat ds 0).toList) ((dat ds 1).toList) ((dat ds 2).toInt) (Q (AExit.exit 0) (mkAV 95 []) ⟨[], []⟩) (fun rb => Q AExit.ret (mkAV 95 [(4, .c (.bool rb))]) ⟨[], []⟩)
theorem t13_4 (n : Nat) (ds : List Dat) (Q : AExit → List AV → AH → Prop) : wpA Tryd.prog tys GG13_10 1000 13 (theLoop Tryd.prog 13 4) (fun e f' h' => endF Tryd.prog ((fun _ => []) e) ((fun e => match e with | .normal => ⟨[0, 1, 5], []⟩ | .exit 0 => ⟨[], []⟩ | .ret => ⟨[4], []⟩ | _ => ⟨[], []⟩) e) ((fun e => match e with | .normal => [] | .exit 0 => [] | .ret => [] | _ => []) e) (F13_4.hp ds) f' h' fun f2 h2 => match e with
      | .normal => locL F13_4 (mm13_4 n) f2 h2 Q
      | e => Q e f2 h2) (F13_4.fr ds) (F13_4.hp ds) = mm13_4 (n + 1) ds Q := by kernel_rfl
noncomputable def R13_4 : LoopT := headF Tryd.prog [] ⟨[0, 1, 5], []⟩ [] fun f h Q => ∃ n, locL F13_4 (mm13_4 n) f h Q
theorem ok13_4 : LoopOK Tryd.prog (theLoop Tryd.prog 13 4) R13_4 := ruleL_ok sGG13_10 (by kernel_rfl) mm13_4 (fun _ _ => rfl) t13_4
noncomputable def ls13_4 : List (FuncId × Nat × LoopT) := (13, 4, R13_4) :: ls13_10
theorem ls13_4_ok : LoopsOK Tryd.prog ls13_4 := .cons (by kernel_rfl) ok13_4 ls13_10_ok
noncomputable def GG13_4 : Rules := mkG [] cs12 ls13_4 rs13_r6
theorem sGG13_4 : Sound Tryd.prog tys GG13_4 := mk_sound mixed tysOK names (by kernel_rfl) cs12_ok ls13_4_ok rs13_r6_ok
noncomputable def m13 (a : List Dat) (b : List Dat) (K : Bool → Prop) : Prop :=
    br (!decide ((↑(List.length a) : Int) = (↑(List.length b) : Int))) (K false) (
     (∃ y0, 
     l13_4 y0 a b (0 : Int) (K true) (fun y1 => K y1)))
def F13 : AM.Form := ⟨[.ro (.pair (.int .i64) (.pair (.int .i32) (.pair (.int .u8) (.pair (.int .u8) (.pair (.slice (.int .i64)) (.pair .str (.pair .str .unit))))))), .ro (.pair (.int .i64) (.pair (.int .i32) (.pair (.int .u8) (.pair (.int .u8) (.pair (.slice (.int .i64)) (.pair .str (.pair .str .unit)))))))], []⟩
noncomputable def mm13 (ds : List Dat) (K : AV → AH → Prop) : Prop := m13 ((dat ds 0).toList) ((dat ds 1).toList) (fun rb => K (.c (.bool rb)) ⟨[], []⟩)
theorem t13 (ds : List Dat) (K : AV → AH → Prop) : callA Tryd.prog tys GG13_4 1000 13 (F13.fr ds) (F13.hp ds) (fun v h' => endK Tryd.prog [] .keep (F13.hp ds) (F13.fr ds) v h' K) = mm13 ds K := by kernel_rfl
noncomputable def R13 : CallT := ruleF Tryd.prog [(.ro (.pair (.int .i64) (.pair (.int .i32) (.pair (.int .u8) (.pair (.int .u8) (.pair (.slice (.int .i64)) (.pair .str (.pair .str .unit)))))))), (.ro (.pair (.int .i64) (.pair (.int .i32) (.pair (.int .u8) (.pair (.int .u8) (.pair (.slice (.int .i64)) (.pair .str (.pair .str .unit))))))))] [] F13 mm13
theorem ok13 : CallOK Tryd.prog 13 R13 := ruleF_ok sGG13_4 t13
noncomputable def cs13 : List (FuncId × CallT) := (13, R13) :: cs12
theorem cs13_ok : CallsOK Tryd.prog cs13 := .cons ok13 cs12_ok
noncomputable def GG13 : Rules := mkG [] cs13 ls13_4 rs13_r6
theorem sGG13 : Sound Tryd.prog tys GG13 := mk_sound mixed tysOK names (by kernel_rfl) cs13_ok ls13_4_ok rs13_r6_ok
noncomputable def m3 (b : List Dat) (K : Bool → Prop) : Prop :=
    m14 b (fun y0 => 
     m15 b (fun y1 => 
      req (decide ((0 : Nat) + List.length y0 ≤ List.length y0)) (
      req (decide ((0 : Nat) + List.length y1 ≤ List.length y1)) (
      m13 (List.take (List.length y0) y0) (List.take (List.length y1) y1) (fun y2 => K y2)))))
def F3 : AM.Form := ⟨[.ro (.int .u8)], []⟩
noncomputable def mm3 (ds : List Dat) (K : AV → AH → Prop) : Prop := m3 ((dat ds 0).toList) (fun rb => K (.c (.bool rb)) ⟨[], []⟩)
theorem t3 (ds : List Dat) (K : AV → AH → Prop) : callA Tryd.prog tys GG13 1000 3 (F3.fr ds) (F3.hp ds) (fun v h' => endK Tryd.prog [] .keep (F3.hp ds) (F3.fr ds) v h' K) = mm3 ds K := by kernel_rfl
noncomputable def R3 : CallT := ruleF Tryd.prog [(.ro (.int .u8))] [] F3 mm3
theorem ok3 : CallOK Tryd.prog 3 R3 := ruleF_ok sGG13 t3
noncomputable def cs3 : List (FuncId × CallT) := (3, R3) :: cs13
theorem cs3_ok : CallsOK Tryd.prog cs3 := .cons ok3 cs13_ok
noncomputable def GG3 : Rules := mkG [] cs3 ls13_4 rs13_r6
theorem sGG3 : Sound Tryd.prog tys GG3 := mk_sound mixed tysOK names (by kernel_rfl) cs3_ok ls13_4_ok rs13_r6_ok
end Go.Proofs.YtojdmhfkgkfpaaaDoor

set_option linter.unusedVariables false
set_option linter.unusedSimpArgs false
set_option maxRecDepth 100000
namespace Go.Proofs.YtojdmhfkgkfpaaaDoor
open Go.AM Go.LTxt Go.LMem Go.RowKit
set_option maxHeartbeats 0
def mkAS (d : Dat) : AS := ⟨d.fst.toInt, d.snd.fst.toInt, d.snd.snd.fst.toInt, d.snd.snd.snd.fst.toInt, d.snd.snd.snd.snd.fst.toList, d.snd.snd.snd.snd.snd.fst.toStr, d.snd.snd.snd.snd.snd.snd.fst.toStr⟩
theorem vp13 {a b : List Dat} {k : Nat} {E : AS → AS → List Dat → List Dat → Int → Prop} (ha : k < a.length) (hb : k < b.length) (hE : E (mkAS (a.getD k default)) (mkAS (b.getD k default)) a b k) : p13_r6 a b k E := by
  have h1 : (decide ((0 : Int) ≤ (k : Int)) && decide ((k : Int) < (a.length : Int))) = true := by simp; omega
  have h2 : (decide ((0 : Int) ≤ (k : Int)) && decide ((k : Int) < (b.length : Int))) = true := by simp; omega
  have h3 : decide (k < a.length) = true := by simpa using ha
  have h4 : decide (k < b.length) = true := by simpa using hb
  unfold p13_r6
  simp only [Int.toNat_natCast, h1, h2, h3, h4, req_t, and_true, and_self]
  exact hE
theorem r13_10 (a : AS) (a3 b : List Dat) (i : Int) (E2 : AS → AS → List Dat → List Dat → Int → Prop) (R_ : AS → AS → Bool → Prop) (hE : E2 a a a3 b i) (hl : a.params.length ≤ limB) (n : Nat) : ∀ (k : Nat), a.params.length - k < n → l13_10 n a a a3 b i k E2 R_ := by
  have hlim : limB = 16777216 := rfl
  induction n with
  | zero => intro k h; omega
  | succ n ih =>
    intro k h
    have hin : k ≤ a.params.length → inR .i64 ((k : Int) + 1) = true := fun hk => in64 k (by omega)
    clear hlim hl
    unfold l13_10
    rw [Int.toNat_natCast]
    refine br_mk (fun h2 => ?_) (fun h2 => hE)
    have hk : k < a.params.length := by simpa using h2
    have h3 : (decide ((0 : Int) ≤ (k : Int)) && decide ((k : Int) < (a.params.length : Int))) = true := by simp; omega
    have h4 : decide (k < a.params.length) = true := by simpa using hk
    refine req_mk h3 (req_mk h4 (req_mk h3 (req_mk h4 (br_mk (fun hc => by simp at hc) (fun _ => ?_)))))
    have := ih (k + 1) (by omega)
    rw [show ((k + 1 : Nat) : Int) = (k : Int) + 1 by omega] at this
    have e := hin (Nat.le_of_lt hk)
    clear h3 h4 h2 hin
    rw [e]
    exact this
theorem strEq_self (s : ByteArray) : strEq s s = true := by unfold strEq; simp
theorem r13_4 (a : List Dat) (E0 : Prop) (R_ : Bool → Prop) (hE : E0) (hok : AllOk a) (hl : a.length ≤ limB) : ∀ (n k : Nat), a.length - k < n → l13_4 n a a k E0 R_
  | 0, k, h => by omega
  | n + 1, k, h => by
    have hlim : limB = 16777216 := rfl
    unfold l13_4
    refine br_mk (fun h2 => ?_) (fun h2 => hE)
    have hk : k < a.length := by simpa using h2
    have hm : okAct (a.getD k default) := hok.all _ (by rw [List.getD_eq_getElem?_getD, List.getElem?_eq_getElem hk]; exact List.getElem_mem hk)
    refine vp13 hk hk ?_
    simp only [decide_true, Bool.not_true, br_f, strEq_self]
    refine ⟨(mkAS (a.getD k default)).params.length + 1, r13_10 _ a a k _ _ ?_ (by have := hm.pl; unfold aParams at this; simp only [mkAS]; have hlim : limB = 16777216 := rfl; omega) _ 0 (by omega)⟩
    rw [in64 k (by omega), req_t, show (k : Int) + 1 = ((k + 1 : Nat) : Int) by omega]
    exact r13_4 a E0 R_ hE hok hl n (k + 1) (by omega)
theorem v13 {a : List Dat} {K : Bool → Prop} (hK : K true) (hok : AllOk a) (hl : a.length ≤ limB) : m13 a a K := by
  unfold m13
  simp only [decide_true, Bool.not_true, br_f]
  exact ⟨a.length + 1, r13_4 a _ _ hK hok hl _ 0 (by omega)⟩
end Go.Proofs.YtojdmhfkgkfpaaaDoor

set_option linter.unusedVariables false
set_option maxRecDepth 100000
namespace Go.Proofs.YtojdmhfkgkfpaaaDoor
open Go.AM Go.LTxt Go.LMem Go.RowKit Go.Lib
def laid2 : List (String × DataW Unit) := [("unicode/utf8.acceptRanges", Rows.laid_unicode_utf8_acceptRanges), ("unicode/utf8.first", Rows.laid_unicode_utf8_first)]
def fs_ : Array Field := #[{ name := "lo", type := 5, offset := 0, embedded := false, tag := "", pkgPath := "unicode/utf8", byteOffset := 0 }, { name := "hi", type := 5, offset := 1, embedded := false, tag := "", pkgPath := "unicode/utf8", byteOffset := 1 }]
theorem acc_eq : (Rows.laid_unicode_utf8_acceptRanges : DataW Unit) = acceptData := by kernel_rfl
theorem fst_eq : (Rows.laid_unicode_utf8_first : DataW Unit) = firstData := by kernel_rfl
theorem plainH (W : World) : laidMetH Tryd.prog laid2 W = laidMet Tryd.prog laid2 W := by kernel_rfl
theorem tabs_laid {W : World} (h : laidMetH Tryd.prog laid2 W) : ∀ g o u, T0 g o u → W.cell? ⟨g, o, none⟩ = some u := by
  rw [plainH] at h
  have h4 := laidMet.reads h (n := "unicode/utf8.acceptRanges") (d := Rows.laid_unicode_utf8_acceptRanges) (by simp [laid2])
  have h3 := laidMet.reads h (n := "unicode/utf8.first") (d := Rows.laid_unicode_utf8_first) (by simp [laid2])
  rw [acc_eq] at h4
  rw [fst_eq] at h3
  rintro g o u (⟨rfl, ho, rfl⟩ | ⟨rfl, i, hi, ho⟩)
  · obtain ⟨g, t, cs, fuel, p, hg, hty, hvar, hd⟩ := h3
    obtain rfl := Option.some.inj ((show Tryd.prog.globalNamed "unicode/utf8.first" = some 0 by kernel_rfl).symm.trans hg)
    obtain rfl := Option.some.inj ((show (Tryd.prog.globals[0]?).map (·.type) = some 107 by kernel_rfl).symm.trans hty)
    have hcs := cells_of_tab (e := 5) (n := 256) (by kernel_rfl) (by kernel_rfl) (by kernel_rfl) (by kernel_rfl) hd
    have := World.var?_cell hg hvar o
    rw [this, ← Array.getElem?_toList, hcs]
    simp [firstTab, ho]
  · obtain ⟨g, t, cs, fuel, p, hg, hty, hvar, hd⟩ := h4
    obtain rfl := Option.some.inj ((show Tryd.prog.globalNamed "unicode/utf8.acceptRanges" = some 1 by kernel_rfl).symm.trans hg)
    obtain rfl := Option.some.inj ((show (Tryd.prog.globals[1]?).map (·.type) = some 110 by kernel_rfl).symm.trans hty)
    obtain ⟨fuel', d, q, hdi, he⟩ := array_elem (n := 16) (e := 109) (by kernel_rfl) hd i hi
    simp only [List.getElem?_map, List.getElem?_range hi, Option.map_some, Option.some.injEq] at hdi
    subst hdi
    rw [show Tryd.prog.cellsOf 109 = 2 by kernel_rfl] at he
    have hcs := ints_of_struct (t := 109) (fs := fs_) (by kernel_rfl) (fun j f hj => by
      match j, hj with
      | 0, hj => simp [fs_] at hj; subst hj; exact ⟨by kernel_rfl, rfl, by kernel_rfl⟩
      | 1, hj => simp [fs_] at hj; subst hj; exact ⟨by kernel_rfl, rfl, by kernel_rfl⟩
      | j + 2, hj => simp [fs_] at hj) (by kernel_rfl) he
    have e0 := congrArg (·[0]?) hcs
    have e1 := congrArg (·[1]?) hcs
    simp only [List.getElem?_take, List.getElem?_drop] at e0 e1
    rcases ho with ⟨rfl, rfl⟩ | ⟨rfl, rfl⟩
    · rw [World.var?_cell hg hvar (i * 2), ← Array.getElem?_toList]
      simpa using e0
    · rw [World.var?_cell hg hvar (i * 2 + 1), ← Array.getElem?_toList]
      simpa using e1
end Go.Proofs.YtojdmhfkgkfpaaaDoor

set_option linter.unusedVariables false
namespace Go.Proofs.YtojdmhfkgkfpaaaDoor
open Go.AM Go.LTxt Go.LMem Go.RowKit
theorem toDat_int {H : Type} (k : IntKind) (d : DataW H) : ∃ n, toDat (.int k) d = .int n := by
  cases d <;> try exact ⟨_, rfl⟩
  rename_i l
  cases l <;> exact ⟨_, rfl⟩
theorem okB_of {xs : List Dat} (h : ∀ d ∈ xs, ∃ n : Int, d = .int n ∧ 0 ≤ n ∧ n ≤ 255) : okB xs := by
  unfold okB bD toB
  rw [List.map_map]
  conv => lhs; rw [← List.map_id xs]
  refine List.map_congr_left fun d hd => ?_
  obtain ⟨n, rfl, h0, h1⟩ := h d hd
  simp only [id, Function.comp, Dat.toInt]
  rw [ofNat_toNat h0 h1]
theorem bytes_ok {H : Type} (d : DataW H) (hF : Fits (.slice (.int .u8)) (toDat (.slice (.int .u8)) d)) : okB (toDat (.slice (.int .u8)) d).toList := by
  refine okB_of fun x hx => ?_
  have h1 := hF.2 x hx
  have h2 : ∃ n, x = .int n := by
    cases d with
    | slice elems spare =>
      simp only [toDat, Dat.toList, List.mem_map] at hx
      obtain ⟨y, _, rfl⟩ := hx
      exact toDat_int _ y
    | _ => simp only [toDat, Dat.toList] at hx; exact absurd hx (by simp)
  obtain ⟨n, rfl⟩ := h2
  have a : IntKind.min .u8 = 0 := rfl
  have b : IntKind.max .u8 = 255 := rfl
  simp only [Fits, Dat.toInt, a, b] at h1
  exact ⟨n, rfl, h1.1, h1.2⟩
theorem bulk_one {H : Type} (d : DataW H) : 1 ≤ Rows.uptoBulk d := by
  cases d with
  | lit l => cases l <;> simp [Rows.uptoBulk]
  | _ => simp [Rows.uptoBulk]
theorem bulk_len {H : Type} : ∀ (l : List (DataW H)), l.length ≤ Rows.uptoBulkAll l
  | [] => by simp [Rows.uptoBulkAll]
  | x :: r => by have h1 := bulk_one x; have h2 := bulk_len r; simp only [Rows.uptoBulkAll, List.length_cons]; omega
theorem bulk_mem {H : Type} {d : DataW H} : ∀ {l : List (DataW H)}, d ∈ l → Rows.uptoBulk d ≤ Rows.uptoBulkAll l
  | x :: r, h => by
    simp only [Rows.uptoBulkAll]
    rcases List.mem_cons.1 h with rfl | h
    · omega
    · have := bulk_mem h; omega
theorem slice_len {H : Type} (s : Sh) (d : DataW H) : (toDat (.slice s) d).toList.length ≤ Rows.uptoBulk d := by
  cases d with
  | slice elems spare =>
    simp only [toDat, Dat.toList, List.length_map, Rows.uptoBulk]
    have := bulk_len elems
    omega
  | _ => simp only [toDat, Dat.toList, List.length_nil]; omega
theorem bound {H : Type} {l : List (DataW H)} (hk : Rows.uptoSmall H l = true) : Rows.uptoBulkAll l ≤ 1048576 := by
  unfold Rows.uptoSmall at hk
  exact of_decide_eq_true hk
end Go.Proofs.YtojdmhfkgkfpaaaDoor

set_option linter.unusedVariables false
set_option maxRecDepth 100000
namespace Go.Proofs.YtojdmhfkgkfpaaaDoor.vtparseAll
open Go.ChangeShapes Go.WideShapes Go.ChangeAt Go.RowKit Go.AM
theorem true3 {x : List Dat} (hb : okB x) (hN : x.length ≤ 4194304) : m3 x tb := by
  unfold m3
  refine v14 hb hN (v15 hb hN ?_)
  simp only [Nat.zero_add, Nat.le_refl, decide_true, req_t, List.take_length]
  have hlim : limB = 16777216 := rfl
  have := allD_len hb
  exact v13 trivial (allD_ok hb) (by omega)
theorem rule3 (x : List Dat) : R3 [.ro (.int .u8) x] h0 isTrue = m3 x tb := by kernel_rfl
theorem own : ownKnob Tryd.prog.godebug = none := by kernel_rfl
theorem contract (H : Type) (enc : TypeId × Value → H) (W : World) (base : Nat) (args : Array Value) (ds gs : List (DataW H)) (before : List MemPlace)
    (hval : ∀ (j : Nat) t v, Tryd.f3.params[j]? = some t → args[j]? = some v → Value.okWide Tryd.prog W .any base t v)
    (hW : DataW.Whole enc Tryd.prog Tryd.f3.params.toList Rows.vtparseAllSpec.vars false W args.toList ds gs before) (hL : laidMetH Tryd.prog Rows.vtparseAllUptoRow.laid W) (hk : Rows.uptoSmall H (ds ++ gs) = true) :
    Calls Tryd.prog 3 args W fun e W' => ∃ v, e = .returned v ∧ Rows.vtparseAllSpec.post enc Tryd.prog Tryd.f3 false true false false W args v W' := by
  have one : ∃ d, ds = [d] := by
    obtain ⟨p, q, hA, hV, _⟩ := hW
    rw [Tryd.params3] at hA
    obtain ⟨v0, vs0, d0, ds0, p0, q0, hargs, rfl, rfl, h0, r0⟩ := trodAll_cons hA
    obtain ⟨rfl, rfl, rfl⟩ := trodAll_nil r0
    exact ⟨d0, rfl⟩
  obtain ⟨d, rfl⟩ := one
  have hgs : gs = [] := by
    obtain ⟨p, q, hA, hV, _⟩ := hW
    obtain ⟨rfl, _⟩ := trodVars_none hV
    rfl
  subst hgs
  refine law_contractR ok3 (tb := 4) (ss := [.slice (.int .u8)]) (tabs_laid hL) hval hW rfl (by kernel_rfl) (by kernel_rfl) (fun hl => rfl) (by kernel_rfl) (by kernel_rfl) (by kernel_rfl) (fun hF => ?_)
  refine ⟨[.ro (.int .u8) (toDat (.slice (.int .u8)) d).toList], by kernel_rfl, ?_⟩
  rw [rule3]
  have hf := hF (.slice (.int .u8), d) (by simp)
  have hb := bound hk
  have h2 := slice_len (.int .u8) d
  have h3 := bulk_mem (d := d) (l := [d] ++ []) (by simp)
  exact true3 (bytes_ok d hf) (by omega)
theorem laid_met (os : Os) : laidMet Tryd.prog Rows.vtparseAllUptoRow.laid ((laidWorld Rows.vtparseAllUptoRow.laid os).forCall (fun _ _ => 0) ⟨#[], #[.slice none 0 0], []⟩).memory :=
  laidMet_of_run' 8 (by kernel_rfl) (by kernel_rfl)
theorem reads (os : Os) {H : Type} (enc : TypeId × Value → H) : ∃ places, DataW.whole enc Tryd.prog ((laidWorld Rows.vtparseAllUptoRow.laid os).forCall (fun _ _ => 0) ⟨#[], #[.slice none 0 0], []⟩).memory Tryd.f3.params.toList Rows.vtparseAllSpec.vars false #[Value.slice none 0 0].toList 8 = some ([.nil], [], places) :=
  ⟨[], by kernel_rfl⟩
theorem lifted (os : Os) (started : os.Started) (H : Type) (enc : TypeId × Value → H) (F : Stop.Interp) :
    ReturnsInHanded {} Tryd.checked os 3 .any ((Rows.OpenSpec.upto Rows.vtparseAllSpec).preRow enc Tryd.prog Tryd.f3 Rows.vtparseAllUptoRow.domain false Rows.vtparseAllUptoRow.laid) (((Rows.OpenSpec.upto Rows.vtparseAllSpec).at F).post enc Tryd.prog Tryd.f3 false true false false) := by
  obtain ⟨places, hx⟩ := reads os enc
  refine returnsInHanded_of_row (C := Tryd.checked) (s := Rows.OpenSpec.upto Rows.vtparseAllSpec) own started (by kernel_rfl) Tryd.func3
    (witness_row_at (enc := enc) (C := Tryd.checked) false (laidWorld Rows.vtparseAllUptoRow.laid os) #[.slice none 0 0] rfl (by kernel_rfl) (by kernel_rfl) (by kernel_rfl)
      (OpenSpec.preRow_of_cond 8 hx (by kernel_rfl) (fun k hk => by cases hk; kernel_rfl) (by kernel_rfl) (laid_met os))) ?_
  intro W base args ds gs before hval hW hc1 hc2 hc3 hL _ _
  first
    | exact contract H enc W base args ds gs before hval hW hL (hc1 _ rfl)
    | exact contract H enc W base args ds gs before hval hW hL (hc2 _ rfl)
    | exact contract H enc W base args ds gs before hval hW hL (hc3 _ rfl)
theorem said : Rows.VtparseAllUptoSaid :=
  OpenClaim.holds_of_cond 3 Tryd.f3 rfl rfl rfl rfl rfl rfl rfl ⟨rfl, rfl, rfl, rfl, rfl⟩ rfl rfl rfl rfl rfl (by kernel_rfl) Tryd.func3 (by kernel_rfl)
    (of_decide_eq_true (by kernel_rfl)) (by unfold Func.isWrapper; first | (rw [if_pos (by decide +kernel)]; kernel_rfl) | (rw [if_neg (by decide +kernel)]; exact ⟨rfl, rfl⟩))
    (fun os started H enc _ F => by rw [OpenClaim.pre_eq_preRow]; exact lifted os started H enc F)
/-- No parameter wants a stand-in; the program's own looks are off. -/
theorem plain (f : FuncId) (fn : Func) (hf : Tryd.pinned.checked.prog.funcNamed "lanyard/lanyardlaw05.VtparseAll" = some f) (hfn : Tryd.pinned.checked.prog.funcs[f]? = some fn) :
    false = Tryd.pinned.checked.prog.looks [] ∧ ∀ (j : Nat) t, fn.params[j]? = some t → Tryd.pinned.checked.prog.wantsStandIn t = false := by
  obtain rfl : f = 3 := Option.some.inj ((show Tryd.prog.funcNamed "lanyard/lanyardlaw05.VtparseAll" = some 3 by kernel_rfl).symm.trans hf) |>.symm
  obtain rfl : fn = Tryd.f3 := (Option.some.inj (Tryd.func3.symm.trans hfn)).symm
  refine ⟨by kernel_rfl, fun j t ht => ?_⟩
  have h1 : (Tryd.f3.params.toList.all fun t => !Tryd.pinned.checked.prog.wantsStandIn t) = true := by kernel_rfl
  have h2 := List.all_eq_true.1 h1 t (Array.mem_toList_iff.2 (Array.mem_of_getElem? ht))
  simpa using h2
theorem card : Rows.VtparseAllUptoCardSaid :=
  Claim7.holds_tied_plain_at .later [] _ _ _ _ said (fun _ h => by cases h) (by kernel_rfl) (fun _ h => by cases h) vtparseAllUpto_row_tie rfl ⟨rfl, rfl⟩ (by kernel_rfl) rfl plain (by kernel_rfl)
end Go.Proofs.YtojdmhfkgkfpaaaDoor.vtparseAll

