/- Layer 05, the program: pure functions. Printed by tools/fgen.py. -/
import Derived.Test.YtojdmhfkgkfpaaaDoorLop
set_option linter.unusedVariables false
set_option linter.unusedSimpArgs false
set_option maxRecDepth 100000
namespace Go.Proofs.YtojdmhfkgkfpaaaDoor
open Go.AM Go.LTxt Go.LMem Go.RowKit
theorem nf_Pf1 {b : Bool} (h : b = false) : ¬ b = true := by rw [h]; decide
noncomputable def f45 (b : List Dat) : (List Dat) :=
  (fun y1 => (y1)) (f45_2 [] b)
def s45 (b : List Dat) : Prop :=
  (s45_2 [] b ∧ (fun y1 => True) (f45_2 [] b))
theorem v45 (b : List Dat) (K : List Dat → Prop) (h : s45 b) (k : K (f45 b)) : m45 b K := by
  unfold m45
  unfold s45 at h
  unfold f45 at k
  obtain ⟨h1, h⟩ := h
  refine (vl45_2 _ _ _ h1 ?_).elim fun n hn => ⟨n, rfl, hn⟩
  (try dsimp only at h); (try dsimp only at k); (try dsimp only)
  exact k
noncomputable def f30 (d : DS) : DS × (List Dat) :=
  (if (!DS.made d) = true then (d, []) else (fun y0 => ({ d with b := [] }, y0)) (f45 (List.take (List.length (DS.b d)) (DS.b d))))
def s30 (d : DS) : Prop :=
  (if (!DS.made d) = true then True else ((decide ((0 : Nat) + List.length (DS.b d) ≤ List.length (DS.b d))) = true ∧ (s45 (List.take (List.length (DS.b d)) (DS.b d)) ∧ (fun y0 => True) (f45 (List.take (List.length (DS.b d)) (DS.b d))))))
theorem v30 (d : DS) (K : DS → List Dat → Prop) (h : s30 d) (k : K ((f30 d).1) ((f30 d).2)) : m30 d K := by
  unfold m30
  unfold s30 at h
  unfold f30 at k
  refine br_mk (fun hc => ?_) (fun hc => ?_)
  · rw [if_pos hc] at h k
    exact k
  · rw [if_neg (nf_Pf1 hc)] at h k
    obtain ⟨h1, h⟩ := h; refine req_mk h1 ?_; clear h1
    obtain ⟨h1, h⟩ := h
    refine v45 _ _ h1 ?_
    (try dsimp only at h); (try dsimp only at k); (try dsimp only)
    exact k
noncomputable def f29 (p : PS) (d : DS) (l : List Dat) : PS × DS :=
  (fun y1 y2 => (y1, y2)) ((f29_1 { p with made := PS.made p } { d with made := DS.made d } l (↑(List.length l) : Int) (0 : Int)).1) ((f29_1 { p with made := PS.made p } { d with made := DS.made d } l (↑(List.length l) : Int) (0 : Int)).2)
def s29 (p : PS) (d : DS) (l : List Dat) : Prop :=
  (s29_1 { p with made := PS.made p } { d with made := DS.made d } l (↑(List.length l) : Int) (0 : Int) ∧ (fun y1 y2 => True) ((f29_1 { p with made := PS.made p } { d with made := DS.made d } l (↑(List.length l) : Int) (0 : Int)).1) ((f29_1 { p with made := PS.made p } { d with made := DS.made d } l (↑(List.length l) : Int) (0 : Int)).2))
theorem v29 (p : PS) (d : DS) (l : List Dat) (K : PS → DS → Prop) (h : s29 p d l) (k : K ((f29 p d l).1) ((f29 p d l).2)) : m29 p d l K := by
  unfold m29
  unfold s29 at h
  unfold f29 at k
  obtain ⟨h1, h⟩ := h
  refine (vl29_1 _ _ _ _ _ _ h1 ?_).elim fun n hn => ⟨n, rfl, rfl, rfl, hn⟩
  (try dsimp only at h); (try dsimp only at k); (try dsimp only)
  exact k
noncomputable def f48 (p : PS) (d : DS) (b : Int) : PS × DS :=
  ({ p with out := dapp (PS.out p) (0 : Nat) (List.length (PS.out p)) [Dat.pair (Dat.int (2 : Int)) (Dat.pair (Dat.int (0 : Int)) (Dat.pair (Dat.int b) (Dat.pair (Dat.int (0 : Int)) (Dat.pair (Dat.list []) (Dat.pair (Dat.str { data := #[] }) (Dat.pair (Dat.str { data := #[] }) (Dat.int (0 : Int))))))))] }, d)
def s48 (p : PS) (d : DS) (b : Int) : Prop :=
  ((appOK (PS.out p) (0 : Nat) (List.length (PS.out p)) (1 : Nat) (72 : Nat)) = true ∧ True)
theorem v48 (p : PS) (d : DS) (b : Int) (K : PS → DS → Prop) (h : s48 p d b) (k : K ((f48 p d b).1) ((f48 p d b).2)) : m48 p d b K := by
  unfold m48
  unfold s48 at h
  unfold f48 at k
  obtain ⟨h1, h⟩ := h; refine req_mk h1 ?_; clear h1
  exact k
noncomputable def f49 (p : PS) (d : DS) (kind : Int) : PS × DS :=
  (if (decide (List.length (PS.aParams p) = (0 : Nat))) = true then ({ p with out := dapp (PS.out p) (0 : Nat) (List.length (PS.out p)) [Dat.pair (Dat.int kind) (Dat.pair (Dat.int (PS.aRune p)) (Dat.pair (Dat.int (PS.aFinal p)) (Dat.pair (Dat.int (PS.aPrivate p)) (Dat.pair (Dat.list []) (Dat.pair (Dat.str (PS.aInter p)) (Dat.pair (Dat.str (PS.aText p)) (Dat.int (0 : Int))))))))] }, d) else ({ p with out := dapp (PS.out p) (0 : Nat) (List.length (PS.out p)) [Dat.pair (Dat.int kind) (Dat.pair (Dat.int (PS.aRune p)) (Dat.pair (Dat.int (PS.aFinal p)) (Dat.pair (Dat.int (PS.aPrivate p)) (Dat.pair (Dat.list (List.take (List.length (dapp [] (0 : Nat) (0 : Nat) (List.take (List.length (PS.aParams p)) (PS.aParams p)))) (dapp [] (0 : Nat) (0 : Nat) (List.take (List.length (PS.aParams p)) (PS.aParams p))))) (Dat.pair (Dat.str (PS.aInter p)) (Dat.pair (Dat.str (PS.aText p)) (Dat.int (0 : Int))))))))] }, d))
def s49 (p : PS) (d : DS) (kind : Int) : Prop :=
  (if (decide (List.length (PS.aParams p) = (0 : Nat))) = true then (((appOK (PS.out p) (0 : Nat) (List.length (PS.out p)) (1 : Nat) (72 : Nat)) = true ∧ True) ∧ ((decide ((0 : Nat) + List.length (PS.aParams p) ≤ List.length (PS.aParams p))) = true ∧ ((appOK [] (0 : Nat) (0 : Nat) (List.length (List.take (List.length (PS.aParams p)) (PS.aParams p))) (8 : Nat)) = true ∧ ((decide ((0 : Nat) + List.length (dapp [] (0 : Nat) (0 : Nat) (List.take (List.length (PS.aParams p)) (PS.aParams p))) ≤ List.length (dapp [] (0 : Nat) (0 : Nat) (List.take (List.length (PS.aParams p)) (PS.aParams p))))) = true ∧ ((appOK (PS.out p) (0 : Nat) (List.length (PS.out p)) (1 : Nat) (72 : Nat)) = true ∧ True)))) ∧ ({ p with out := dapp (PS.out p) (0 : Nat) (List.length (PS.out p)) [Dat.pair (Dat.int kind) (Dat.pair (Dat.int (PS.aRune p)) (Dat.pair (Dat.int (PS.aFinal p)) (Dat.pair (Dat.int (PS.aPrivate p)) (Dat.pair (Dat.list []) (Dat.pair (Dat.str (PS.aInter p)) (Dat.pair (Dat.str (PS.aText p)) (Dat.int (0 : Int))))))))] }, d) = ({ p with out := dapp (PS.out p) (0 : Nat) (List.length (PS.out p)) [Dat.pair (Dat.int kind) (Dat.pair (Dat.int (PS.aRune p)) (Dat.pair (Dat.int (PS.aFinal p)) (Dat.pair (Dat.int (PS.aPrivate p)) (Dat.pair (Dat.list (List.take (List.length (dapp [] (0 : Nat) (0 : Nat) (List.take (List.length (PS.aParams p)) (PS.aParams p)))) (dapp [] (0 : Nat) (0 : Nat) (List.take (List.length (PS.aParams p)) (PS.aParams p))))) (Dat.pair (Dat.str (PS.aInter p)) (Dat.pair (Dat.str (PS.aText p)) (Dat.int (0 : Int))))))))] }, d)) else ((decide ((0 : Nat) + List.length (PS.aParams p) ≤ List.length (PS.aParams p))) = true ∧ ((appOK [] (0 : Nat) (0 : Nat) (List.length (List.take (List.length (PS.aParams p)) (PS.aParams p))) (8 : Nat)) = true ∧ ((decide ((0 : Nat) + List.length (dapp [] (0 : Nat) (0 : Nat) (List.take (List.length (PS.aParams p)) (PS.aParams p))) ≤ List.length (dapp [] (0 : Nat) (0 : Nat) (List.take (List.length (PS.aParams p)) (PS.aParams p))))) = true ∧ ((appOK (PS.out p) (0 : Nat) (List.length (PS.out p)) (1 : Nat) (72 : Nat)) = true ∧ True)))))
theorem v49 (p : PS) (d : DS) (kind : Int) (K : PS → DS → Prop) (h : s49 p d kind) (k : K ((f49 p d kind).1) ((f49 p d kind).2)) : m49 p d kind K := by
  unfold m49
  unfold s49 at h
  unfold f49 at k
  refine br_mk (fun hc => ?_) (fun hc => ?_)
  · rw [if_pos hc] at h k
    obtain ⟨h, h2, he⟩ := h; refine ⟨?_, ?_⟩
    · clear h2 he
      obtain ⟨h1, h⟩ := h; refine req_mk h1 ?_; clear h1
      exact k
    · have h := h2; clear h2; rw [he] at k; clear he
      obtain ⟨h1, h⟩ := h; refine req_mk h1 ?_; clear h1
      obtain ⟨h1, h⟩ := h; refine req_mk h1 ?_; clear h1
      obtain ⟨h1, h⟩ := h; refine req_mk h1 ?_; clear h1
      obtain ⟨h1, h⟩ := h; refine req_mk h1 ?_; clear h1
      exact k
  · rw [if_neg (nf_Pf1 hc)] at h k
    obtain ⟨h1, h⟩ := h; refine req_mk h1 ?_; clear h1
    obtain ⟨h1, h⟩ := h; refine req_mk h1 ?_; clear h1
    obtain ⟨h1, h⟩ := h; refine req_mk h1 ?_; clear h1
    obtain ⟨h1, h⟩ := h; refine req_mk h1 ?_; clear h1
    exact k
noncomputable def f69 (p : PS) (d : DS) (b : Int) : PS × DS :=
  (if (decide ((↑(ByteArray.size (PS.aInter p)) : Int) < (2 : Int))) = true then ({ p with aInter := PS.aInter p ++ Utf8.encode b }, d) else (p, d))
def s69 (p : PS) (d : DS) (b : Int) : Prop :=
  (if (decide ((↑(ByteArray.size (PS.aInter p)) : Int) < (2 : Int))) = true then ((inR IntKind.i32 b) = true ∧ ((decide (ByteArray.size (PS.aInter p) + ByteArray.size (Utf8.encode b) ≤ (9223372036854775807 : Nat))) = true ∧ True)) else True)
theorem v69 (p : PS) (d : DS) (b : Int) (K : PS → DS → Prop) (h : s69 p d b) (k : K ((f69 p d b).1) ((f69 p d b).2)) : m69 p d b K := by
  unfold m69
  unfold s69 at h
  unfold f69 at k
  refine br_mk (fun hc => ?_) (fun hc => ?_)
  · rw [if_pos hc] at h k
    obtain ⟨h1, h⟩ := h; refine req_mk h1 ?_; clear h1
    obtain ⟨h1, h⟩ := h; refine req_mk h1 ?_; clear h1
    exact k
  · rw [if_neg (nf_Pf1 hc)] at h k
    exact k
noncomputable def f68 (p : PS) (d : DS) (b : Int) : PS × DS :=
  (if (decide ((↑(ByteArray.size (PS.aText p)) : Int) < (1024 : Int))) = true then ({ p with aText := PS.aText p ++ strD [Dat.int b] }, d) else (p, d))
def s68 (p : PS) (d : DS) (b : Int) : Prop :=
  (if (decide ((↑(ByteArray.size (PS.aText p)) : Int) < (1024 : Int))) = true then ((decide (ByteArray.size (PS.aText p) + ByteArray.size (strD [Dat.int b]) ≤ (9223372036854775807 : Nat))) = true ∧ True) else True)
theorem v68 (p : PS) (d : DS) (b : Int) (K : PS → DS → Prop) (h : s68 p d b) (k : K ((f68 p d b).1) ((f68 p d b).2)) : m68 p d b K := by
  unfold m68
  unfold s68 at h
  unfold f68 at k
  refine br_mk (fun hc => ?_) (fun hc => ?_)
  · rw [if_pos hc] at h k
    obtain ⟨h1, h⟩ := h; refine req_mk h1 ?_; clear h1
    exact k
  · rw [if_neg (nf_Pf1 hc)] at h k
    exact k
noncomputable def f84 (p : PS) (d : DS) (b : Int) : PS × DS :=
  (if (decide (PS.many p = (0 : Int))) = true then (if (decide (b = (59 : Int))) = true then ({ p with aParams := dcut (dapp [Dat.int (-1 : Int)] (0 : Nat) (1 : Nat) [Dat.int (-1 : Int)]) (0 : Nat) (List.length (dapp [Dat.int (-1 : Int)] (0 : Nat) (1 : Nat) [Dat.int (-1 : Int)])), many := (1 : Int) + (1 : Int) }, d) else ({ p with aParams := [Dat.int (if false = true then max ((if true = true then max (-1 : Int) (0 : Int) else min (-1 : Int) (0 : Int)) * (10 : Int) + IntKind.wrap IntKind.u8 (b - (48 : Int))) (65535 : Int) else min ((if true = true then max (-1 : Int) (0 : Int) else min (-1 : Int) (0 : Int)) * (10 : Int) + IntKind.wrap IntKind.u8 (b - (48 : Int))) (65535 : Int))], many := (1 : Int) }, d)) else (if (decide (b = (59 : Int))) = true then (if (decide (PS.many p + (1 : Int) ≤ (16 : Int))) = true then ({ p with aParams := dcut (dapp (PS.aParams p) (0 : Nat) (List.length (PS.aParams p)) [Dat.int (-1 : Int)]) (0 : Nat) (List.length (dapp (PS.aParams p) (0 : Nat) (List.length (PS.aParams p)) [Dat.int (-1 : Int)])), many := PS.many p + (1 : Int) }, d) else ({ p with aParams := dcut (PS.aParams p) (0 : Nat) (List.length (PS.aParams p)), many := PS.many p + (1 : Int) }, d)) else (if (decide (PS.many p ≤ (16 : Int))) = true then ({ p with aParams := dcut (List.set (PS.aParams p) ((0 : Nat) + Int.toNat (PS.many p - (1 : Int))) (Dat.int (if false = true then max ((if true = true then max (Dat.toInt (List.getD (PS.aParams p) ((0 : Nat) + Int.toNat (PS.many p - (1 : Int))) default)) (0 : Int) else min (Dat.toInt (List.getD (PS.aParams p) ((0 : Nat) + Int.toNat (PS.many p - (1 : Int))) default)) (0 : Int)) * (10 : Int) + IntKind.wrap IntKind.u8 (b - (48 : Int))) (65535 : Int) else min ((if true = true then max (Dat.toInt (List.getD (PS.aParams p) ((0 : Nat) + Int.toNat (PS.many p - (1 : Int))) default)) (0 : Int) else min (Dat.toInt (List.getD (PS.aParams p) ((0 : Nat) + Int.toNat (PS.many p - (1 : Int))) default)) (0 : Int)) * (10 : Int) + IntKind.wrap IntKind.u8 (b - (48 : Int))) (65535 : Int)))) (0 : Nat) (List.length (PS.aParams p)) }, d) else ({ p with aParams := dcut (PS.aParams p) (0 : Nat) (List.length (PS.aParams p)) }, d))))
def s84 (p : PS) (d : DS) (b : Int) : Prop :=
  (if (decide (PS.many p = (0 : Int))) = true then (if (decide (b = (59 : Int))) = true then ((appOK [Dat.int (-1 : Int)] (0 : Nat) (1 : Nat) (1 : Nat) (8 : Nat)) = true ∧ ((decide ((0 : Nat) + List.length (dapp [Dat.int (-1 : Int)] (0 : Nat) (1 : Nat) [Dat.int (-1 : Int)]) ≤ List.length (dapp [Dat.int (-1 : Int)] (0 : Nat) (1 : Nat) [Dat.int (-1 : Int)]))) = true ∧ True)) else ((inR IntKind.i64 (IntKind.wrap IntKind.u8 (b - (48 : Int)))) = true ∧ ((inR IntKind.i64 ((if true = true then max (-1 : Int) (0 : Int) else min (-1 : Int) (0 : Int)) * (10 : Int) + IntKind.wrap IntKind.u8 (b - (48 : Int)))) = true ∧ True))) else (if (decide (b = (59 : Int))) = true then ((inR IntKind.i64 (PS.many p + (1 : Int))) = true ∧ (if (decide (PS.many p + (1 : Int) ≤ (16 : Int))) = true then ((appOK (PS.aParams p) (0 : Nat) (List.length (PS.aParams p)) (1 : Nat) (8 : Nat)) = true ∧ ((decide ((0 : Nat) + List.length (dapp (PS.aParams p) (0 : Nat) (List.length (PS.aParams p)) [Dat.int (-1 : Int)]) ≤ List.length (dapp (PS.aParams p) (0 : Nat) (List.length (PS.aParams p)) [Dat.int (-1 : Int)]))) = true ∧ True)) else ((decide ((0 : Nat) + List.length (PS.aParams p) ≤ List.length (PS.aParams p))) = true ∧ True))) else (if (decide (PS.many p ≤ (16 : Int))) = true then ((inR IntKind.i64 (PS.many p - (1 : Int))) = true ∧ ((decide ((0 : Int) ≤ PS.many p - (1 : Int)) && decide (PS.many p - (1 : Int) < (↑(List.length (PS.aParams p)) : Int))) = true ∧ ((decide ((0 : Nat) + Int.toNat (PS.many p - (1 : Int)) < List.length (PS.aParams p))) = true ∧ ((inR IntKind.i64 ((if true = true then max (Dat.toInt (List.getD (PS.aParams p) ((0 : Nat) + Int.toNat (PS.many p - (1 : Int))) default)) (0 : Int) else min (Dat.toInt (List.getD (PS.aParams p) ((0 : Nat) + Int.toNat (PS.many p - (1 : Int))) default)) (0 : Int)) * (10 : Int))) = true ∧ ((inR IntKind.i64 (IntKind.wrap IntKind.u8 (b - (48 : Int)))) = true ∧ ((inR IntKind.i64 ((if true = true then max (Dat.toInt (List.getD (PS.aParams p) ((0 : Nat) + Int.toNat (PS.many p - (1 : Int))) default)) (0 : Int) else min (Dat.toInt (List.getD (PS.aParams p) ((0 : Nat) + Int.toNat (PS.many p - (1 : Int))) default)) (0 : Int)) * (10 : Int) + IntKind.wrap IntKind.u8 (b - (48 : Int)))) = true ∧ ((decide ((0 : Nat) + Int.toNat (PS.many p - (1 : Int)) < List.length (PS.aParams p))) = true ∧ ((decide ((0 : Nat) + List.length (PS.aParams p) ≤ List.length (List.set (PS.aParams p) ((0 : Nat) + Int.toNat (PS.many p - (1 : Int))) (Dat.int (if false = true then max ((if true = true then max (Dat.toInt (List.getD (PS.aParams p) ((0 : Nat) + Int.toNat (PS.many p - (1 : Int))) default)) (0 : Int) else min (Dat.toInt (List.getD (PS.aParams p) ((0 : Nat) + Int.toNat (PS.many p - (1 : Int))) default)) (0 : Int)) * (10 : Int) + IntKind.wrap IntKind.u8 (b - (48 : Int))) (65535 : Int) else min ((if true = true then max (Dat.toInt (List.getD (PS.aParams p) ((0 : Nat) + Int.toNat (PS.many p - (1 : Int))) default)) (0 : Int) else min (Dat.toInt (List.getD (PS.aParams p) ((0 : Nat) + Int.toNat (PS.many p - (1 : Int))) default)) (0 : Int)) * (10 : Int) + IntKind.wrap IntKind.u8 (b - (48 : Int))) (65535 : Int)))))) = true ∧ True)))))))) else ((decide ((0 : Nat) + List.length (PS.aParams p) ≤ List.length (PS.aParams p))) = true ∧ True))))
theorem v84 (p : PS) (d : DS) (b : Int) (K : PS → DS → Prop) (h : s84 p d b) (k : K ((f84 p d b).1) ((f84 p d b).2)) : m84 p d b K := by
  unfold m84
  unfold s84 at h
  unfold f84 at k
  refine br_mk (fun hc => ?_) (fun hc => ?_)
  · rw [if_pos hc] at h k
    refine br_mk (fun hc => ?_) (fun hc => ?_)
    · rw [if_pos hc] at h k
      obtain ⟨h1, h⟩ := h; refine req_mk h1 ?_; clear h1
      obtain ⟨h1, h⟩ := h; refine req_mk h1 ?_; clear h1
      exact k
    · rw [if_neg (nf_Pf1 hc)] at h k
      obtain ⟨h1, h⟩ := h; refine req_mk h1 ?_; clear h1
      obtain ⟨h1, h⟩ := h; refine req_mk h1 ?_; clear h1
      exact k
  · rw [if_neg (nf_Pf1 hc)] at h k
    refine br_mk (fun hc => ?_) (fun hc => ?_)
    · rw [if_pos hc] at h k
      obtain ⟨h1, h⟩ := h; refine req_mk h1 ?_; clear h1
      refine br_mk (fun hc => ?_) (fun hc => ?_)
      · rw [if_pos hc] at h k
        obtain ⟨h1, h⟩ := h; refine req_mk h1 ?_; clear h1
        obtain ⟨h1, h⟩ := h; refine req_mk h1 ?_; clear h1
        exact k
      · rw [if_neg (nf_Pf1 hc)] at h k
        obtain ⟨h1, h⟩ := h; refine req_mk h1 ?_; clear h1
        exact k
    · rw [if_neg (nf_Pf1 hc)] at h k
      refine br_mk (fun hc => ?_) (fun hc => ?_)
      · rw [if_pos hc] at h k
        obtain ⟨h1, h⟩ := h; refine req_mk h1 ?_; clear h1
        obtain ⟨h1, h⟩ := h; refine req_mk h1 ?_; clear h1
        obtain ⟨h1, h⟩ := h; refine req_mk h1 ?_; clear h1
        obtain ⟨h1, h⟩ := h; refine req_mk h1 ?_; clear h1
        obtain ⟨h1, h⟩ := h; refine req_mk h1 ?_; clear h1
        obtain ⟨h1, h⟩ := h; refine req_mk h1 ?_; clear h1
        obtain ⟨h1, h⟩ := h; refine req_mk h1 ?_; clear h1
        obtain ⟨h1, h⟩ := h; refine req_mk h1 ?_; clear h1
        exact k
      · rw [if_neg (nf_Pf1 hc)] at h k
        obtain ⟨h1, h⟩ := h; refine req_mk h1 ?_; clear h1
        exact k
noncomputable def f70 (p : PS) (d : DS) (b : Int) (kind : Int) : PS × DS :=
  (fun y0 y1 => ({ y0 with state := (0 : Int) }, y1)) ((f49 { p with aFinal := b } { d with made := DS.made d } kind).1) ((f49 { p with aFinal := b } { d with made := DS.made d } kind).2)
def s70 (p : PS) (d : DS) (b : Int) (kind : Int) : Prop :=
  ((List.length (PS.aParams p) = List.length (PS.aParams p)) ∧ ((List.length (PS.out p) = List.length (PS.out p)) ∧ ((List.length (DS.b d) = List.length (DS.b d)) ∧ (s49 { p with aFinal := b } { d with made := DS.made d } kind ∧ (fun y0 y1 => True) ((f49 { p with aFinal := b } { d with made := DS.made d } kind).1) ((f49 { p with aFinal := b } { d with made := DS.made d } kind).2)))))
theorem v70 (p : PS) (d : DS) (b : Int) (kind : Int) (K : PS → DS → Prop) (h : s70 p d b kind) (k : K ((f70 p d b kind).1) ((f70 p d b kind).2)) : m70 p d b kind K := by
  unfold m70
  unfold s70 at h
  unfold f70 at k
  obtain ⟨h1, h⟩ := h; refine ⟨h1, ?_⟩; clear h1
  obtain ⟨h1, h⟩ := h; refine ⟨h1, ?_⟩; clear h1
  obtain ⟨h1, h⟩ := h; refine ⟨h1, ?_⟩; clear h1
  obtain ⟨h1, h⟩ := h
  refine v49 _ _ _ _ h1 ?_
  (try dsimp only at h); (try dsimp only at k); (try dsimp only)
  exact k
noncomputable def f71 (p : PS) (d : DS) (b : Int) (first : Int) (at' : Int) : PS × DS :=
  (if (decide (at' = (0 : Int))) = true then (if (decide ((60 : Int) ≤ b)) = true then ({ p with state := first + (1 : Int), aPrivate := b }, d) else (if (decide (b ≤ (57 : Int))) = true then (fun y0 y1 => ({ y0 with state := first + (1 : Int) }, y1)) ((f84 { p with made := PS.made p } { d with made := DS.made d } b).1) ((f84 { p with made := PS.made p } { d with made := DS.made d } b).2) else (if (decide (b = (59 : Int))) = true then (fun y2 y3 => ({ y2 with state := first + (1 : Int) }, y3)) ((f84 { p with made := PS.made p } { d with made := DS.made d } b).1) ((f84 { p with made := PS.made p } { d with made := DS.made d } b).2) else ({ p with state := first + (3 : Int) }, d)))) else (if (decide (at' = (1 : Int))) = true then (if (decide (b ≤ (57 : Int))) = true then (fun y4 y5 => ({ y4 with state := first + (1 : Int) }, y5)) ((f84 { p with made := PS.made p } { d with made := DS.made d } b).1) ((f84 { p with made := PS.made p } { d with made := DS.made d } b).2) else (if (decide (b = (59 : Int))) = true then (fun y6 y7 => ({ y6 with state := first + (1 : Int) }, y7)) ((f84 { p with made := PS.made p } { d with made := DS.made d } b).1) ((f84 { p with made := PS.made p } { d with made := DS.made d } b).2) else ({ p with state := first + (3 : Int) }, d))) else ({ p with state := first + (3 : Int) }, d)))
def s71 (p : PS) (d : DS) (b : Int) (first : Int) (at' : Int) : Prop :=
  (if (decide (at' = (0 : Int))) = true then (if (decide ((60 : Int) ≤ b)) = true then ((inR IntKind.i64 (first + (1 : Int))) = true ∧ True) else (if (decide (b ≤ (57 : Int))) = true then ((List.length (PS.aParams p) = List.length (PS.aParams p)) ∧ ((List.length (PS.out p) = List.length (PS.out p)) ∧ ((List.length (DS.b d) = List.length (DS.b d)) ∧ (s84 { p with made := PS.made p } { d with made := DS.made d } b ∧ (fun y0 y1 => ((inR IntKind.i64 (first + (1 : Int))) = true ∧ True)) ((f84 { p with made := PS.made p } { d with made := DS.made d } b).1) ((f84 { p with made := PS.made p } { d with made := DS.made d } b).2))))) else (if (decide (b = (59 : Int))) = true then ((List.length (PS.aParams p) = List.length (PS.aParams p)) ∧ ((List.length (PS.out p) = List.length (PS.out p)) ∧ ((List.length (DS.b d) = List.length (DS.b d)) ∧ (s84 { p with made := PS.made p } { d with made := DS.made d } b ∧ (fun y2 y3 => ((inR IntKind.i64 (first + (1 : Int))) = true ∧ True)) ((f84 { p with made := PS.made p } { d with made := DS.made d } b).1) ((f84 { p with made := PS.made p } { d with made := DS.made d } b).2))))) else ((inR IntKind.i64 (first + (3 : Int))) = true ∧ True)))) else (if (decide (at' = (1 : Int))) = true then (if (decide (b ≤ (57 : Int))) = true then ((List.length (PS.aParams p) = List.length (PS.aParams p)) ∧ ((List.length (PS.out p) = List.length (PS.out p)) ∧ ((List.length (DS.b d) = List.length (DS.b d)) ∧ (s84 { p with made := PS.made p } { d with made := DS.made d } b ∧ (fun y4 y5 => ((inR IntKind.i64 (first + (1 : Int))) = true ∧ True)) ((f84 { p with made := PS.made p } { d with made := DS.made d } b).1) ((f84 { p with made := PS.made p } { d with made := DS.made d } b).2))))) else (if (decide (b = (59 : Int))) = true then ((List.length (PS.aParams p) = List.length (PS.aParams p)) ∧ ((List.length (PS.out p) = List.length (PS.out p)) ∧ ((List.length (DS.b d) = List.length (DS.b d)) ∧ (s84 { p with made := PS.made p } { d with made := DS.made d } b ∧ (fun y6 y7 => ((inR IntKind.i64 (first + (1 : Int))) = true ∧ True)) ((f84 { p with made := PS.made p } { d with made := DS.made d } b).1) ((f84 { p with made := PS.made p } { d with made := DS.made d } b).2))))) else ((inR IntKind.i64 (first + (3 : Int))) = true ∧ True))) else ((inR IntKind.i64 (first + (3 : Int))) = true ∧ True)))
theorem v71 (p : PS) (d : DS) (b : Int) (first : Int) (at' : Int) (K : PS → DS → Prop) (h : s71 p d b first at') (k : K ((f71 p d b first at').1) ((f71 p d b first at').2)) : m71 p d b first at' K := by
  unfold m71
  unfold s71 at h
  unfold f71 at k
  refine br_mk (fun hc => ?_) (fun hc => ?_)
  · rw [if_pos hc] at h k
    refine br_mk (fun hc => ?_) (fun hc => ?_)
    · rw [if_pos hc] at h k
      obtain ⟨h1, h⟩ := h; refine req_mk h1 ?_; clear h1
      exact k
    · rw [if_neg (nf_Pf1 hc)] at h k
      refine br_mk (fun hc => ?_) (fun hc => ?_)
      · rw [if_pos hc] at h k
        obtain ⟨h1, h⟩ := h; refine ⟨h1, ?_⟩; clear h1
        obtain ⟨h1, h⟩ := h; refine ⟨h1, ?_⟩; clear h1
        obtain ⟨h1, h⟩ := h; refine ⟨h1, ?_⟩; clear h1
        obtain ⟨h1, h⟩ := h
        refine v84 _ _ _ _ h1 ?_
        (try dsimp only at h); (try dsimp only at k); (try dsimp only)
        obtain ⟨h1, h⟩ := h; refine req_mk h1 ?_; clear h1
        exact k
      · rw [if_neg (nf_Pf1 hc)] at h k
        refine br_mk (fun hc => ?_) (fun hc => ?_)
        · rw [if_pos hc] at h k
          obtain ⟨h1, h⟩ := h; refine ⟨h1, ?_⟩; clear h1
          obtain ⟨h1, h⟩ := h; refine ⟨h1, ?_⟩; clear h1
          obtain ⟨h1, h⟩ := h; refine ⟨h1, ?_⟩; clear h1
          obtain ⟨h1, h⟩ := h
          refine v84 _ _ _ _ h1 ?_
          (try dsimp only at h); (try dsimp only at k); (try dsimp only)
          obtain ⟨h1, h⟩ := h; refine req_mk h1 ?_; clear h1
          exact k
        · rw [if_neg (nf_Pf1 hc)] at h k
          obtain ⟨h1, h⟩ := h; refine req_mk h1 ?_; clear h1
          exact k
  · rw [if_neg (nf_Pf1 hc)] at h k
    refine br_mk (fun hc => ?_) (fun hc => ?_)
    · rw [if_pos hc] at h k
      refine br_mk (fun hc => ?_) (fun hc => ?_)
      · rw [if_pos hc] at h k
        obtain ⟨h1, h⟩ := h; refine ⟨h1, ?_⟩; clear h1
        obtain ⟨h1, h⟩ := h; refine ⟨h1, ?_⟩; clear h1
        obtain ⟨h1, h⟩ := h; refine ⟨h1, ?_⟩; clear h1
        obtain ⟨h1, h⟩ := h
        refine v84 _ _ _ _ h1 ?_
        (try dsimp only at h); (try dsimp only at k); (try dsimp only)
        obtain ⟨h1, h⟩ := h; refine req_mk h1 ?_; clear h1
        exact k
      · rw [if_neg (nf_Pf1 hc)] at h k
        refine br_mk (fun hc => ?_) (fun hc => ?_)
        · rw [if_pos hc] at h k
          obtain ⟨h1, h⟩ := h; refine ⟨h1, ?_⟩; clear h1
          obtain ⟨h1, h⟩ := h; refine ⟨h1, ?_⟩; clear h1
          obtain ⟨h1, h⟩ := h; refine ⟨h1, ?_⟩; clear h1
          obtain ⟨h1, h⟩ := h
          refine v84 _ _ _ _ h1 ?_
          (try dsimp only at h); (try dsimp only at k); (try dsimp only)
          obtain ⟨h1, h⟩ := h; refine req_mk h1 ?_; clear h1
          exact k
        · rw [if_neg (nf_Pf1 hc)] at h k
          obtain ⟨h1, h⟩ := h; refine req_mk h1 ?_; clear h1
          exact k
    · rw [if_neg (nf_Pf1 hc)] at h k
      obtain ⟨h1, h⟩ := h; refine req_mk h1 ?_; clear h1
      exact k
noncomputable def f51 (p : PS) (d : DS) (b : Int) : PS × DS :=
  (if (decide (PS.state p = (13 : Int))) = true then (p, d) else (if (decide (b = (127 : Int))) = true then (if (decide (PS.state p = (11 : Int))) = true then (p, d) else (if (decide (PS.state p = (11 : Int))) = true then (fun y0 y1 => (y0, y1)) ((f68 { p with made := PS.made p } { d with made := DS.made d } b).1) ((f68 { p with made := PS.made p } { d with made := DS.made d } b).2) else (if (decide (b = (7 : Int))) = true then (fun y2 y3 => ({ y2 with state := (0 : Int) }, y3)) ((f49 { p with made := PS.made p } { d with made := DS.made d } (5 : Int)).1) ((f49 { p with made := PS.made p } { d with made := DS.made d } (5 : Int)).2) else (if (decide ((32 : Int) ≤ b)) = true then (fun y4 y5 => (y4, y5)) ((f68 { p with made := PS.made p } { d with made := DS.made d } b).1) ((f68 { p with made := PS.made p } { d with made := DS.made d } b).2) else (p, d))))) else (if (decide (PS.state p = (11 : Int))) = true then (fun y6 y7 => (y6, y7)) ((f68 { p with made := PS.made p } { d with made := DS.made d } b).1) ((f68 { p with made := PS.made p } { d with made := DS.made d } b).2) else (if (decide (b = (7 : Int))) = true then (fun y8 y9 => ({ y8 with state := (0 : Int) }, y9)) ((f49 { p with made := PS.made p } { d with made := DS.made d } (5 : Int)).1) ((f49 { p with made := PS.made p } { d with made := DS.made d } (5 : Int)).2) else (if (decide ((32 : Int) ≤ b)) = true then (fun y10 y11 => (y10, y11)) ((f68 { p with made := PS.made p } { d with made := DS.made d } b).1) ((f68 { p with made := PS.made p } { d with made := DS.made d } b).2) else (p, d))))))
def s51 (p : PS) (d : DS) (b : Int) : Prop :=
  (if (decide (PS.state p = (13 : Int))) = true then True else (if (decide (b = (127 : Int))) = true then (if (decide (PS.state p = (11 : Int))) = true then True else (if (decide (PS.state p = (11 : Int))) = true then ((List.length (PS.aParams p) = List.length (PS.aParams p)) ∧ ((List.length (PS.out p) = List.length (PS.out p)) ∧ ((List.length (DS.b d) = List.length (DS.b d)) ∧ (s68 { p with made := PS.made p } { d with made := DS.made d } b ∧ (fun y0 y1 => True) ((f68 { p with made := PS.made p } { d with made := DS.made d } b).1) ((f68 { p with made := PS.made p } { d with made := DS.made d } b).2))))) else (if (decide (b = (7 : Int))) = true then ((List.length (PS.aParams p) = List.length (PS.aParams p)) ∧ ((List.length (PS.out p) = List.length (PS.out p)) ∧ ((List.length (DS.b d) = List.length (DS.b d)) ∧ (s49 { p with made := PS.made p } { d with made := DS.made d } (5 : Int) ∧ (fun y2 y3 => True) ((f49 { p with made := PS.made p } { d with made := DS.made d } (5 : Int)).1) ((f49 { p with made := PS.made p } { d with made := DS.made d } (5 : Int)).2))))) else (if (decide ((32 : Int) ≤ b)) = true then ((List.length (PS.aParams p) = List.length (PS.aParams p)) ∧ ((List.length (PS.out p) = List.length (PS.out p)) ∧ ((List.length (DS.b d) = List.length (DS.b d)) ∧ (s68 { p with made := PS.made p } { d with made := DS.made d } b ∧ (fun y4 y5 => True) ((f68 { p with made := PS.made p } { d with made := DS.made d } b).1) ((f68 { p with made := PS.made p } { d with made := DS.made d } b).2))))) else True)))) else (if (decide (PS.state p = (11 : Int))) = true then ((List.length (PS.aParams p) = List.length (PS.aParams p)) ∧ ((List.length (PS.out p) = List.length (PS.out p)) ∧ ((List.length (DS.b d) = List.length (DS.b d)) ∧ (s68 { p with made := PS.made p } { d with made := DS.made d } b ∧ (fun y6 y7 => True) ((f68 { p with made := PS.made p } { d with made := DS.made d } b).1) ((f68 { p with made := PS.made p } { d with made := DS.made d } b).2))))) else (if (decide (b = (7 : Int))) = true then ((List.length (PS.aParams p) = List.length (PS.aParams p)) ∧ ((List.length (PS.out p) = List.length (PS.out p)) ∧ ((List.length (DS.b d) = List.length (DS.b d)) ∧ (s49 { p with made := PS.made p } { d with made := DS.made d } (5 : Int) ∧ (fun y8 y9 => True) ((f49 { p with made := PS.made p } { d with made := DS.made d } (5 : Int)).1) ((f49 { p with made := PS.made p } { d with made := DS.made d } (5 : Int)).2))))) else (if (decide ((32 : Int) ≤ b)) = true then ((List.length (PS.aParams p) = List.length (PS.aParams p)) ∧ ((List.length (PS.out p) = List.length (PS.out p)) ∧ ((List.length (DS.b d) = List.length (DS.b d)) ∧ (s68 { p with made := PS.made p } { d with made := DS.made d } b ∧ (fun y10 y11 => True) ((f68 { p with made := PS.made p } { d with made := DS.made d } b).1) ((f68 { p with made := PS.made p } { d with made := DS.made d } b).2))))) else True)))))
theorem v51 (p : PS) (d : DS) (b : Int) (K : PS → DS → Prop) (h : s51 p d b) (k : K ((f51 p d b).1) ((f51 p d b).2)) : m51 p d b K := by
  unfold m51
  unfold s51 at h
  unfold f51 at k
  refine br_mk (fun hc => ?_) (fun hc => ?_)
  · rw [if_pos hc] at h k
    exact k
  · rw [if_neg (nf_Pf1 hc)] at h k
    refine br_mk (fun hc => ?_) (fun hc => ?_)
    · rw [if_pos hc] at h k
      refine br_mk (fun hc => ?_) (fun hc => ?_)
      · rw [if_pos hc] at h k
        exact k
      · rw [if_neg (nf_Pf1 hc)] at h k
        refine br_mk (fun hc => ?_) (fun hc => ?_)
        · rw [if_pos hc] at h k
          obtain ⟨h1, h⟩ := h; refine ⟨h1, ?_⟩; clear h1
          obtain ⟨h1, h⟩ := h; refine ⟨h1, ?_⟩; clear h1
          obtain ⟨h1, h⟩ := h; refine ⟨h1, ?_⟩; clear h1
          obtain ⟨h1, h⟩ := h
          refine v68 _ _ _ _ h1 ?_
          (try dsimp only at h); (try dsimp only at k); (try dsimp only)
          exact k
        · rw [if_neg (nf_Pf1 hc)] at h k
          refine br_mk (fun hc => ?_) (fun hc => ?_)
          · rw [if_pos hc] at h k
            obtain ⟨h1, h⟩ := h; refine ⟨h1, ?_⟩; clear h1
            obtain ⟨h1, h⟩ := h; refine ⟨h1, ?_⟩; clear h1
            obtain ⟨h1, h⟩ := h; refine ⟨h1, ?_⟩; clear h1
            obtain ⟨h1, h⟩ := h
            refine v49 _ _ _ _ h1 ?_
            (try dsimp only at h); (try dsimp only at k); (try dsimp only)
            exact k
          · rw [if_neg (nf_Pf1 hc)] at h k
            refine br_mk (fun hc => ?_) (fun hc => ?_)
            · rw [if_pos hc] at h k
              obtain ⟨h1, h⟩ := h; refine ⟨h1, ?_⟩; clear h1
              obtain ⟨h1, h⟩ := h; refine ⟨h1, ?_⟩; clear h1
              obtain ⟨h1, h⟩ := h; refine ⟨h1, ?_⟩; clear h1
              obtain ⟨h1, h⟩ := h
              refine v68 _ _ _ _ h1 ?_
              (try dsimp only at h); (try dsimp only at k); (try dsimp only)
              exact k
            · rw [if_neg (nf_Pf1 hc)] at h k
              exact k
    · rw [if_neg (nf_Pf1 hc)] at h k
      refine br_mk (fun hc => ?_) (fun hc => ?_)
      · rw [if_pos hc] at h k
        obtain ⟨h1, h⟩ := h; refine ⟨h1, ?_⟩; clear h1
        obtain ⟨h1, h⟩ := h; refine ⟨h1, ?_⟩; clear h1
        obtain ⟨h1, h⟩ := h; refine ⟨h1, ?_⟩; clear h1
        obtain ⟨h1, h⟩ := h
        refine v68 _ _ _ _ h1 ?_
        (try dsimp only at h); (try dsimp only at k); (try dsimp only)
        exact k
      · rw [if_neg (nf_Pf1 hc)] at h k
        refine br_mk (fun hc => ?_) (fun hc => ?_)
        · rw [if_pos hc] at h k
          obtain ⟨h1, h⟩ := h; refine ⟨h1, ?_⟩; clear h1
          obtain ⟨h1, h⟩ := h; refine ⟨h1, ?_⟩; clear h1
          obtain ⟨h1, h⟩ := h; refine ⟨h1, ?_⟩; clear h1
          obtain ⟨h1, h⟩ := h
          refine v49 _ _ _ _ h1 ?_
          (try dsimp only at h); (try dsimp only at k); (try dsimp only)
          exact k
        · rw [if_neg (nf_Pf1 hc)] at h k
          refine br_mk (fun hc => ?_) (fun hc => ?_)
          · rw [if_pos hc] at h k
            obtain ⟨h1, h⟩ := h; refine ⟨h1, ?_⟩; clear h1
            obtain ⟨h1, h⟩ := h; refine ⟨h1, ?_⟩; clear h1
            obtain ⟨h1, h⟩ := h; refine ⟨h1, ?_⟩; clear h1
            obtain ⟨h1, h⟩ := h
            refine v68 _ _ _ _ h1 ?_
            (try dsimp only at h); (try dsimp only at k); (try dsimp only)
            exact k
          · rw [if_neg (nf_Pf1 hc)] at h k
            exact k
noncomputable def f50 (p : PS) (d : DS) (b : Int) : PS × DS :=
  (if (decide ((128 : Int) ≤ b)) = true then (fun y0 y1 => (fun y2 y3 => (y2, y3)) ((f29 { p with made := PS.made p } { y0 with made := DS.made y0 } (List.take (List.length y1) y1)).1) ((f29 { p with made := PS.made p } { y0 with made := DS.made y0 } (List.take (List.length y1) y1)).2)) ((f67 { d with made := DS.made d } [Dat.int b]).1) ((f67 { d with made := DS.made d } [Dat.int b]).2) else (if (decide (b < (32 : Int))) = true then (fun y4 y5 => (y4, y5)) ((f48 { p with made := PS.made p } { d with made := DS.made d } b).1) ((f48 { p with made := PS.made p } { d with made := DS.made d } b).2) else (if (decide (b < (127 : Int))) = true then (fun y6 y7 => (y6, y7)) ((f29 { p with made := PS.made p } { d with made := DS.made d } [Dat.int b]).1) ((f29 { p with made := PS.made p } { d with made := DS.made d } [Dat.int b]).2) else (p, d))))
def s50 (p : PS) (d : DS) (b : Int) : Prop :=
  (if (decide ((128 : Int) ≤ b)) = true then ((List.length (DS.b d) = List.length (DS.b d)) ∧ (s67 { d with made := DS.made d } [Dat.int b] ∧ (fun y0 y1 => ((decide ((0 : Nat) + List.length y1 ≤ List.length y1)) = true ∧ ((List.length (PS.aParams p) = List.length (PS.aParams p)) ∧ ((List.length (PS.out p) = List.length (PS.out p)) ∧ ((List.length (DS.b y0) = List.length (DS.b y0)) ∧ (s29 { p with made := PS.made p } { y0 with made := DS.made y0 } (List.take (List.length y1) y1) ∧ (fun y2 y3 => True) ((f29 { p with made := PS.made p } { y0 with made := DS.made y0 } (List.take (List.length y1) y1)).1) ((f29 { p with made := PS.made p } { y0 with made := DS.made y0 } (List.take (List.length y1) y1)).2))))))) ((f67 { d with made := DS.made d } [Dat.int b]).1) ((f67 { d with made := DS.made d } [Dat.int b]).2))) else (if (decide (b < (32 : Int))) = true then ((List.length (PS.aParams p) = List.length (PS.aParams p)) ∧ ((List.length (PS.out p) = List.length (PS.out p)) ∧ ((List.length (DS.b d) = List.length (DS.b d)) ∧ (s48 { p with made := PS.made p } { d with made := DS.made d } b ∧ (fun y4 y5 => True) ((f48 { p with made := PS.made p } { d with made := DS.made d } b).1) ((f48 { p with made := PS.made p } { d with made := DS.made d } b).2))))) else (if (decide (b < (127 : Int))) = true then ((inR IntKind.i32 b) = true ∧ ((List.length (PS.aParams p) = List.length (PS.aParams p)) ∧ ((List.length (PS.out p) = List.length (PS.out p)) ∧ ((List.length (DS.b d) = List.length (DS.b d)) ∧ (s29 { p with made := PS.made p } { d with made := DS.made d } [Dat.int b] ∧ (fun y6 y7 => True) ((f29 { p with made := PS.made p } { d with made := DS.made d } [Dat.int b]).1) ((f29 { p with made := PS.made p } { d with made := DS.made d } [Dat.int b]).2)))))) else True)))
theorem v50 (p : PS) (d : DS) (b : Int) (K : PS → DS → Prop) (h : s50 p d b) (k : K ((f50 p d b).1) ((f50 p d b).2)) : m50 p d b K := by
  unfold m50
  unfold s50 at h
  unfold f50 at k
  refine br_mk (fun hc => ?_) (fun hc => ?_)
  · rw [if_pos hc] at h k
    obtain ⟨h1, h⟩ := h; refine ⟨h1, ?_⟩; clear h1
    obtain ⟨h1, h⟩ := h
    refine v67 _ _ _ h1 ?_
    (try dsimp only at h); (try dsimp only at k); (try dsimp only)
    obtain ⟨h1, h⟩ := h; refine req_mk h1 ?_; clear h1
    obtain ⟨h1, h⟩ := h; refine ⟨h1, ?_⟩; clear h1
    obtain ⟨h1, h⟩ := h; refine ⟨h1, ?_⟩; clear h1
    obtain ⟨h1, h⟩ := h; refine ⟨h1, ?_⟩; clear h1
    obtain ⟨h1, h⟩ := h
    refine v29 _ _ _ _ h1 ?_
    (try dsimp only at h); (try dsimp only at k); (try dsimp only)
    exact k
  · rw [if_neg (nf_Pf1 hc)] at h k
    refine br_mk (fun hc => ?_) (fun hc => ?_)
    · rw [if_pos hc] at h k
      obtain ⟨h1, h⟩ := h; refine ⟨h1, ?_⟩; clear h1
      obtain ⟨h1, h⟩ := h; refine ⟨h1, ?_⟩; clear h1
      obtain ⟨h1, h⟩ := h; refine ⟨h1, ?_⟩; clear h1
      obtain ⟨h1, h⟩ := h
      refine v48 _ _ _ _ h1 ?_
      (try dsimp only at h); (try dsimp only at k); (try dsimp only)
      exact k
    · rw [if_neg (nf_Pf1 hc)] at h k
      refine br_mk (fun hc => ?_) (fun hc => ?_)
      · rw [if_pos hc] at h k
        obtain ⟨h1, h⟩ := h; refine req_mk h1 ?_; clear h1
        obtain ⟨h1, h⟩ := h; refine ⟨h1, ?_⟩; clear h1
        obtain ⟨h1, h⟩ := h; refine ⟨h1, ?_⟩; clear h1
        obtain ⟨h1, h⟩ := h; refine ⟨h1, ?_⟩; clear h1
        obtain ⟨h1, h⟩ := h
        refine v29 _ _ _ _ h1 ?_
        (try dsimp only at h); (try dsimp only at k); (try dsimp only)
        exact k
      · rw [if_neg (nf_Pf1 hc)] at h k
        exact k
noncomputable def f52 (p : PS) (d : DS) (b : Int) : PS × DS :=
  (if (decide (b = (127 : Int))) = true then (p, d) else (if (decide (b < (48 : Int))) = true then (fun y0 y1 => ({ y0 with state := (2 : Int) }, y1)) ((f69 { p with made := PS.made p } { d with made := DS.made d } b).1) ((f69 { p with made := PS.made p } { d with made := DS.made d } b).2) else (if (decide (PS.state p = (2 : Int))) = true then (fun y2 y3 => (y2, y3)) ((f70 { p with made := PS.made p } { d with made := DS.made d } b (3 : Int)).1) ((f70 { p with made := PS.made p } { d with made := DS.made d } b (3 : Int)).2) else (if (decide (b = (91 : Int))) = true then ({ p with state := (3 : Int) }, d) else (if (decide (b = (93 : Int))) = true then ({ p with state := (12 : Int) }, d) else (if (decide (b = (80 : Int))) = true then ({ p with state := (7 : Int) }, d) else (if (decide (b = (88 : Int))) = true then ({ p with state := (13 : Int) }, d) else (if (decide (b = (94 : Int))) = true then ({ p with state := (13 : Int) }, d) else (if (decide (b = (95 : Int))) = true then ({ p with state := (13 : Int) }, d) else (if (decide (b = (92 : Int))) = true then ({ p with state := (0 : Int) }, d) else (fun y4 y5 => (y4, y5)) ((f70 { p with made := PS.made p } { d with made := DS.made d } b (3 : Int)).1) ((f70 { p with made := PS.made p } { d with made := DS.made d } b (3 : Int)).2)))))))))))
def s52 (p : PS) (d : DS) (b : Int) : Prop :=
  (if (decide (b = (127 : Int))) = true then True else (if (decide (b < (48 : Int))) = true then ((List.length (PS.aParams p) = List.length (PS.aParams p)) ∧ ((List.length (PS.out p) = List.length (PS.out p)) ∧ ((List.length (DS.b d) = List.length (DS.b d)) ∧ (s69 { p with made := PS.made p } { d with made := DS.made d } b ∧ (fun y0 y1 => True) ((f69 { p with made := PS.made p } { d with made := DS.made d } b).1) ((f69 { p with made := PS.made p } { d with made := DS.made d } b).2))))) else (if (decide (PS.state p = (2 : Int))) = true then ((List.length (PS.aParams p) = List.length (PS.aParams p)) ∧ ((List.length (PS.out p) = List.length (PS.out p)) ∧ ((List.length (DS.b d) = List.length (DS.b d)) ∧ (s70 { p with made := PS.made p } { d with made := DS.made d } b (3 : Int) ∧ (fun y2 y3 => True) ((f70 { p with made := PS.made p } { d with made := DS.made d } b (3 : Int)).1) ((f70 { p with made := PS.made p } { d with made := DS.made d } b (3 : Int)).2))))) else (if (decide (b = (91 : Int))) = true then True else (if (decide (b = (93 : Int))) = true then True else (if (decide (b = (80 : Int))) = true then True else (if (decide (b = (88 : Int))) = true then True else (if (decide (b = (94 : Int))) = true then True else (if (decide (b = (95 : Int))) = true then True else (if (decide (b = (92 : Int))) = true then True else ((List.length (PS.aParams p) = List.length (PS.aParams p)) ∧ ((List.length (PS.out p) = List.length (PS.out p)) ∧ ((List.length (DS.b d) = List.length (DS.b d)) ∧ (s70 { p with made := PS.made p } { d with made := DS.made d } b (3 : Int) ∧ (fun y4 y5 => True) ((f70 { p with made := PS.made p } { d with made := DS.made d } b (3 : Int)).1) ((f70 { p with made := PS.made p } { d with made := DS.made d } b (3 : Int)).2)))))))))))))))
theorem v52 (p : PS) (d : DS) (b : Int) (K : PS → DS → Prop) (h : s52 p d b) (k : K ((f52 p d b).1) ((f52 p d b).2)) : m52 p d b K := by
  unfold m52
  unfold s52 at h
  unfold f52 at k
  refine br_mk (fun hc => ?_) (fun hc => ?_)
  · rw [if_pos hc] at h k
    exact k
  · rw [if_neg (nf_Pf1 hc)] at h k
    refine br_mk (fun hc => ?_) (fun hc => ?_)
    · rw [if_pos hc] at h k
      obtain ⟨h1, h⟩ := h; refine ⟨h1, ?_⟩; clear h1
      obtain ⟨h1, h⟩ := h; refine ⟨h1, ?_⟩; clear h1
      obtain ⟨h1, h⟩ := h; refine ⟨h1, ?_⟩; clear h1
      obtain ⟨h1, h⟩ := h
      refine v69 _ _ _ _ h1 ?_
      (try dsimp only at h); (try dsimp only at k); (try dsimp only)
      exact k
    · rw [if_neg (nf_Pf1 hc)] at h k
      refine br_mk (fun hc => ?_) (fun hc => ?_)
      · rw [if_pos hc] at h k
        obtain ⟨h1, h⟩ := h; refine ⟨h1, ?_⟩; clear h1
        obtain ⟨h1, h⟩ := h; refine ⟨h1, ?_⟩; clear h1
        obtain ⟨h1, h⟩ := h; refine ⟨h1, ?_⟩; clear h1
        obtain ⟨h1, h⟩ := h
        refine v70 _ _ _ _ _ h1 ?_
        (try dsimp only at h); (try dsimp only at k); (try dsimp only)
        exact k
      · rw [if_neg (nf_Pf1 hc)] at h k
        refine br_mk (fun hc => ?_) (fun hc => ?_)
        · rw [if_pos hc] at h k
          exact k
        · rw [if_neg (nf_Pf1 hc)] at h k
          refine br_mk (fun hc => ?_) (fun hc => ?_)
          · rw [if_pos hc] at h k
            exact k
          · rw [if_neg (nf_Pf1 hc)] at h k
            refine br_mk (fun hc => ?_) (fun hc => ?_)
            · rw [if_pos hc] at h k
              exact k
            · rw [if_neg (nf_Pf1 hc)] at h k
              refine br_mk (fun hc => ?_) (fun hc => ?_)
              · rw [if_pos hc] at h k
                exact k
              · rw [if_neg (nf_Pf1 hc)] at h k
                refine br_mk (fun hc => ?_) (fun hc => ?_)
                · rw [if_pos hc] at h k
                  exact k
                · rw [if_neg (nf_Pf1 hc)] at h k
                  refine br_mk (fun hc => ?_) (fun hc => ?_)
                  · rw [if_pos hc] at h k
                    exact k
                  · rw [if_neg (nf_Pf1 hc)] at h k
                    refine br_mk (fun hc => ?_) (fun hc => ?_)
                    · rw [if_pos hc] at h k
                      exact k
                    · rw [if_neg (nf_Pf1 hc)] at h k
                      obtain ⟨h1, h⟩ := h; refine ⟨h1, ?_⟩; clear h1
                      obtain ⟨h1, h⟩ := h; refine ⟨h1, ?_⟩; clear h1
                      obtain ⟨h1, h⟩ := h; refine ⟨h1, ?_⟩; clear h1
                      obtain ⟨h1, h⟩ := h
                      refine v70 _ _ _ _ _ h1 ?_
                      (try dsimp only at h); (try dsimp only at k); (try dsimp only)
                      exact k
noncomputable def f53 (p : PS) (d : DS) (b : Int) : PS × DS :=
  (if (decide ((7 : Int) ≤ PS.state p)) = true then (if (decide (b = (127 : Int))) = true then (p, d) else (if (decide ((64 : Int) ≤ b)) = true then (if (decide (PS.state p - (7 : Int) = (3 : Int))) = true then ({ p with state := (13 : Int) }, d) else (if (decide ((64 : Int) ≤ b)) = true then (if (decide ((64 : Int) ≤ b)) = true then ({ p with state := (11 : Int), aFinal := b }, d) else (if (decide (PS.state p - (7 : Int) = (3 : Int))) = true then (p, d) else (if (decide (b < (48 : Int))) = true then (fun y0 y1 => ({ y0 with state := (7 : Int) + (2 : Int) }, y1)) ((f69 { p with made := PS.made p } { d with made := DS.made d } b).1) ((f69 { p with made := PS.made p } { d with made := DS.made d } b).2) else (fun y2 y3 => (y2, y3)) ((f71 { p with made := PS.made p } { d with made := DS.made d } b (7 : Int) (PS.state p - (7 : Int))).1) ((f71 { p with made := PS.made p } { d with made := DS.made d } b (7 : Int) (PS.state p - (7 : Int))).2)))) else (if (decide ((64 : Int) ≤ b)) = true then ({ p with state := (11 : Int), aFinal := b }, d) else (if (decide (PS.state p - (7 : Int) = (3 : Int))) = true then (p, d) else (if (decide (b < (48 : Int))) = true then (fun y4 y5 => ({ y4 with state := (7 : Int) + (2 : Int) }, y5)) ((f69 { p with made := PS.made p } { d with made := DS.made d } b).1) ((f69 { p with made := PS.made p } { d with made := DS.made d } b).2) else (fun y6 y7 => (y6, y7)) ((f71 { p with made := PS.made p } { d with made := DS.made d } b (7 : Int) (PS.state p - (7 : Int))).1) ((f71 { p with made := PS.made p } { d with made := DS.made d } b (7 : Int) (PS.state p - (7 : Int))).2)))))) else (if (decide ((64 : Int) ≤ b)) = true then (if (decide ((64 : Int) ≤ b)) = true then ({ p with state := (11 : Int), aFinal := b }, d) else (if (decide (PS.state p - (7 : Int) = (3 : Int))) = true then (p, d) else (if (decide (b < (48 : Int))) = true then (fun y8 y9 => ({ y8 with state := (7 : Int) + (2 : Int) }, y9)) ((f69 { p with made := PS.made p } { d with made := DS.made d } b).1) ((f69 { p with made := PS.made p } { d with made := DS.made d } b).2) else (fun y10 y11 => (y10, y11)) ((f71 { p with made := PS.made p } { d with made := DS.made d } b (7 : Int) (PS.state p - (7 : Int))).1) ((f71 { p with made := PS.made p } { d with made := DS.made d } b (7 : Int) (PS.state p - (7 : Int))).2)))) else (if (decide ((64 : Int) ≤ b)) = true then ({ p with state := (11 : Int), aFinal := b }, d) else (if (decide (PS.state p - (7 : Int) = (3 : Int))) = true then (p, d) else (if (decide (b < (48 : Int))) = true then (fun y12 y13 => ({ y12 with state := (7 : Int) + (2 : Int) }, y13)) ((f69 { p with made := PS.made p } { d with made := DS.made d } b).1) ((f69 { p with made := PS.made p } { d with made := DS.made d } b).2) else (fun y14 y15 => (y14, y15)) ((f71 { p with made := PS.made p } { d with made := DS.made d } b (7 : Int) (PS.state p - (7 : Int))).1) ((f71 { p with made := PS.made p } { d with made := DS.made d } b (7 : Int) (PS.state p - (7 : Int))).2))))))) else (if (decide (b = (127 : Int))) = true then (p, d) else (if (decide ((64 : Int) ≤ b)) = true then (if (decide (PS.state p - (3 : Int) = (3 : Int))) = true then ({ p with state := (0 : Int) }, d) else (if (decide ((64 : Int) ≤ b)) = true then (fun y16 y17 => (y16, y17)) ((f70 { p with made := PS.made p } { d with made := DS.made d } b (4 : Int)).1) ((f70 { p with made := PS.made p } { d with made := DS.made d } b (4 : Int)).2) else (if (decide ((64 : Int) ≤ b)) = true then ({ p with state := (11 : Int), aFinal := b }, d) else (if (decide (PS.state p - (3 : Int) = (3 : Int))) = true then (p, d) else (if (decide (b < (48 : Int))) = true then (fun y18 y19 => ({ y18 with state := (3 : Int) + (2 : Int) }, y19)) ((f69 { p with made := PS.made p } { d with made := DS.made d } b).1) ((f69 { p with made := PS.made p } { d with made := DS.made d } b).2) else (fun y20 y21 => (y20, y21)) ((f71 { p with made := PS.made p } { d with made := DS.made d } b (3 : Int) (PS.state p - (3 : Int))).1) ((f71 { p with made := PS.made p } { d with made := DS.made d } b (3 : Int) (PS.state p - (3 : Int))).2)))))) else (if (decide ((64 : Int) ≤ b)) = true then (fun y22 y23 => (y22, y23)) ((f70 { p with made := PS.made p } { d with made := DS.made d } b (4 : Int)).1) ((f70 { p with made := PS.made p } { d with made := DS.made d } b (4 : Int)).2) else (if (decide ((64 : Int) ≤ b)) = true then ({ p with state := (11 : Int), aFinal := b }, d) else (if (decide (PS.state p - (3 : Int) = (3 : Int))) = true then (p, d) else (if (decide (b < (48 : Int))) = true then (fun y24 y25 => ({ y24 with state := (3 : Int) + (2 : Int) }, y25)) ((f69 { p with made := PS.made p } { d with made := DS.made d } b).1) ((f69 { p with made := PS.made p } { d with made := DS.made d } b).2) else (fun y26 y27 => (y26, y27)) ((f71 { p with made := PS.made p } { d with made := DS.made d } b (3 : Int) (PS.state p - (3 : Int))).1) ((f71 { p with made := PS.made p } { d with made := DS.made d } b (3 : Int) (PS.state p - (3 : Int))).2))))))))
def s53 (p : PS) (d : DS) (b : Int) : Prop :=
  (if (decide ((7 : Int) ≤ PS.state p)) = true then ((inR IntKind.i64 (PS.state p - (7 : Int))) = true ∧ (if (decide (b = (127 : Int))) = true then True else (if (decide ((64 : Int) ≤ b)) = true then (if (decide (PS.state p - (7 : Int) = (3 : Int))) = true then True else (if (decide ((64 : Int) ≤ b)) = true then (if (decide ((64 : Int) ≤ b)) = true then True else (if (decide (PS.state p - (7 : Int) = (3 : Int))) = true then True else (if (decide (b < (48 : Int))) = true then ((List.length (PS.aParams p) = List.length (PS.aParams p)) ∧ ((List.length (PS.out p) = List.length (PS.out p)) ∧ ((List.length (DS.b d) = List.length (DS.b d)) ∧ (s69 { p with made := PS.made p } { d with made := DS.made d } b ∧ (fun y0 y1 => True) ((f69 { p with made := PS.made p } { d with made := DS.made d } b).1) ((f69 { p with made := PS.made p } { d with made := DS.made d } b).2))))) else ((List.length (PS.aParams p) = List.length (PS.aParams p)) ∧ ((List.length (PS.out p) = List.length (PS.out p)) ∧ ((List.length (DS.b d) = List.length (DS.b d)) ∧ (s71 { p with made := PS.made p } { d with made := DS.made d } b (7 : Int) (PS.state p - (7 : Int)) ∧ (fun y2 y3 => True) ((f71 { p with made := PS.made p } { d with made := DS.made d } b (7 : Int) (PS.state p - (7 : Int))).1) ((f71 { p with made := PS.made p } { d with made := DS.made d } b (7 : Int) (PS.state p - (7 : Int))).2)))))))) else (if (decide ((64 : Int) ≤ b)) = true then True else (if (decide (PS.state p - (7 : Int) = (3 : Int))) = true then True else (if (decide (b < (48 : Int))) = true then ((List.length (PS.aParams p) = List.length (PS.aParams p)) ∧ ((List.length (PS.out p) = List.length (PS.out p)) ∧ ((List.length (DS.b d) = List.length (DS.b d)) ∧ (s69 { p with made := PS.made p } { d with made := DS.made d } b ∧ (fun y4 y5 => True) ((f69 { p with made := PS.made p } { d with made := DS.made d } b).1) ((f69 { p with made := PS.made p } { d with made := DS.made d } b).2))))) else ((List.length (PS.aParams p) = List.length (PS.aParams p)) ∧ ((List.length (PS.out p) = List.length (PS.out p)) ∧ ((List.length (DS.b d) = List.length (DS.b d)) ∧ (s71 { p with made := PS.made p } { d with made := DS.made d } b (7 : Int) (PS.state p - (7 : Int)) ∧ (fun y6 y7 => True) ((f71 { p with made := PS.made p } { d with made := DS.made d } b (7 : Int) (PS.state p - (7 : Int))).1) ((f71 { p with made := PS.made p } { d with made := DS.made d } b (7 : Int) (PS.state p - (7 : Int))).2)))))))))) else (if (decide ((64 : Int) ≤ b)) = true then (if (decide ((64 : Int) ≤ b)) = true then True else (if (decide (PS.state p - (7 : Int) = (3 : Int))) = true then True else (if (decide (b < (48 : Int))) = true then ((List.length (PS.aParams p) = List.length (PS.aParams p)) ∧ ((List.length (PS.out p) = List.length (PS.out p)) ∧ ((List.length (DS.b d) = List.length (DS.b d)) ∧ (s69 { p with made := PS.made p } { d with made := DS.made d } b ∧ (fun y8 y9 => True) ((f69 { p with made := PS.made p } { d with made := DS.made d } b).1) ((f69 { p with made := PS.made p } { d with made := DS.made d } b).2))))) else ((List.length (PS.aParams p) = List.length (PS.aParams p)) ∧ ((List.length (PS.out p) = List.length (PS.out p)) ∧ ((List.length (DS.b d) = List.length (DS.b d)) ∧ (s71 { p with made := PS.made p } { d with made := DS.made d } b (7 : Int) (PS.state p - (7 : Int)) ∧ (fun y10 y11 => True) ((f71 { p with made := PS.made p } { d with made := DS.made d } b (7 : Int) (PS.state p - (7 : Int))).1) ((f71 { p with made := PS.made p } { d with made := DS.made d } b (7 : Int) (PS.state p - (7 : Int))).2)))))))) else (if (decide ((64 : Int) ≤ b)) = true then True else (if (decide (PS.state p - (7 : Int) = (3 : Int))) = true then True else (if (decide (b < (48 : Int))) = true then ((List.length (PS.aParams p) = List.length (PS.aParams p)) ∧ ((List.length (PS.out p) = List.length (PS.out p)) ∧ ((List.length (DS.b d) = List.length (DS.b d)) ∧ (s69 { p with made := PS.made p } { d with made := DS.made d } b ∧ (fun y12 y13 => True) ((f69 { p with made := PS.made p } { d with made := DS.made d } b).1) ((f69 { p with made := PS.made p } { d with made := DS.made d } b).2))))) else ((List.length (PS.aParams p) = List.length (PS.aParams p)) ∧ ((List.length (PS.out p) = List.length (PS.out p)) ∧ ((List.length (DS.b d) = List.length (DS.b d)) ∧ (s71 { p with made := PS.made p } { d with made := DS.made d } b (7 : Int) (PS.state p - (7 : Int)) ∧ (fun y14 y15 => True) ((f71 { p with made := PS.made p } { d with made := DS.made d } b (7 : Int) (PS.state p - (7 : Int))).1) ((f71 { p with made := PS.made p } { d with made := DS.made d } b (7 : Int) (PS.state p - (7 : Int))).2)))))))))))) else ((inR IntKind.i64 (PS.state p - (3 : Int))) = true ∧ (if (decide (b = (127 : Int))) = true then True else (if (decide ((64 : Int) ≤ b)) = true then (if (decide (PS.state p - (3 : Int) = (3 : Int))) = true then True else (if (decide ((64 : Int) ≤ b)) = true then ((List.length (PS.aParams p) = List.length (PS.aParams p)) ∧ ((List.length (PS.out p) = List.length (PS.out p)) ∧ ((List.length (DS.b d) = List.length (DS.b d)) ∧ (s70 { p with made := PS.made p } { d with made := DS.made d } b (4 : Int) ∧ (fun y16 y17 => True) ((f70 { p with made := PS.made p } { d with made := DS.made d } b (4 : Int)).1) ((f70 { p with made := PS.made p } { d with made := DS.made d } b (4 : Int)).2))))) else (if (decide ((64 : Int) ≤ b)) = true then True else (if (decide (PS.state p - (3 : Int) = (3 : Int))) = true then True else (if (decide (b < (48 : Int))) = true then ((List.length (PS.aParams p) = List.length (PS.aParams p)) ∧ ((List.length (PS.out p) = List.length (PS.out p)) ∧ ((List.length (DS.b d) = List.length (DS.b d)) ∧ (s69 { p with made := PS.made p } { d with made := DS.made d } b ∧ (fun y18 y19 => True) ((f69 { p with made := PS.made p } { d with made := DS.made d } b).1) ((f69 { p with made := PS.made p } { d with made := DS.made d } b).2))))) else ((List.length (PS.aParams p) = List.length (PS.aParams p)) ∧ ((List.length (PS.out p) = List.length (PS.out p)) ∧ ((List.length (DS.b d) = List.length (DS.b d)) ∧ (s71 { p with made := PS.made p } { d with made := DS.made d } b (3 : Int) (PS.state p - (3 : Int)) ∧ (fun y20 y21 => True) ((f71 { p with made := PS.made p } { d with made := DS.made d } b (3 : Int) (PS.state p - (3 : Int))).1) ((f71 { p with made := PS.made p } { d with made := DS.made d } b (3 : Int) (PS.state p - (3 : Int))).2)))))))))) else (if (decide ((64 : Int) ≤ b)) = true then ((List.length (PS.aParams p) = List.length (PS.aParams p)) ∧ ((List.length (PS.out p) = List.length (PS.out p)) ∧ ((List.length (DS.b d) = List.length (DS.b d)) ∧ (s70 { p with made := PS.made p } { d with made := DS.made d } b (4 : Int) ∧ (fun y22 y23 => True) ((f70 { p with made := PS.made p } { d with made := DS.made d } b (4 : Int)).1) ((f70 { p with made := PS.made p } { d with made := DS.made d } b (4 : Int)).2))))) else (if (decide ((64 : Int) ≤ b)) = true then True else (if (decide (PS.state p - (3 : Int) = (3 : Int))) = true then True else (if (decide (b < (48 : Int))) = true then ((List.length (PS.aParams p) = List.length (PS.aParams p)) ∧ ((List.length (PS.out p) = List.length (PS.out p)) ∧ ((List.length (DS.b d) = List.length (DS.b d)) ∧ (s69 { p with made := PS.made p } { d with made := DS.made d } b ∧ (fun y24 y25 => True) ((f69 { p with made := PS.made p } { d with made := DS.made d } b).1) ((f69 { p with made := PS.made p } { d with made := DS.made d } b).2))))) else ((List.length (PS.aParams p) = List.length (PS.aParams p)) ∧ ((List.length (PS.out p) = List.length (PS.out p)) ∧ ((List.length (DS.b d) = List.length (DS.b d)) ∧ (s71 { p with made := PS.made p } { d with made := DS.made d } b (3 : Int) (PS.state p - (3 : Int)) ∧ (fun y26 y27 => True) ((f71 { p with made := PS.made p } { d with made := DS.made d } b (3 : Int) (PS.state p - (3 : Int))).1) ((f71 { p with made := PS.made p } { d with made := DS.made d } b (3 : Int) (PS.state p - (3 : Int))).2)))))))))))))
theorem v53 (p : PS) (d : DS) (b : Int) (K : PS → DS → Prop) (h : s53 p d b) (k : K ((f53 p d b).1) ((f53 p d b).2)) : m53 p d b K := by
  unfold m53
  unfold s53 at h
  unfold f53 at k
  refine br_mk (fun hc => ?_) (fun hc => ?_)
  · rw [if_pos hc] at h k
    obtain ⟨h1, h⟩ := h; refine req_mk h1 ?_; clear h1
    refine br_mk (fun hc => ?_) (fun hc => ?_)
    · rw [if_pos hc] at h k
      exact k
    · rw [if_neg (nf_Pf1 hc)] at h k
      refine br_mk (fun hc => ?_) (fun hc => ?_)
      · rw [if_pos hc] at h k
        refine br_mk (fun hc => ?_) (fun hc => ?_)
        · rw [if_pos hc] at h k
          exact k
        · rw [if_neg (nf_Pf1 hc)] at h k
          refine br_mk (fun hc => ?_) (fun hc => ?_)
          · rw [if_pos hc] at h k
            refine br_mk (fun hc => ?_) (fun hc => ?_)
            · rw [if_pos hc] at h k
              exact k
            · rw [if_neg (nf_Pf1 hc)] at h k
              refine br_mk (fun hc => ?_) (fun hc => ?_)
              · rw [if_pos hc] at h k
                exact k
              · rw [if_neg (nf_Pf1 hc)] at h k
                refine br_mk (fun hc => ?_) (fun hc => ?_)
                · rw [if_pos hc] at h k
                  obtain ⟨h1, h⟩ := h; refine ⟨h1, ?_⟩; clear h1
                  obtain ⟨h1, h⟩ := h; refine ⟨h1, ?_⟩; clear h1
                  obtain ⟨h1, h⟩ := h; refine ⟨h1, ?_⟩; clear h1
                  obtain ⟨h1, h⟩ := h
                  refine v69 _ _ _ _ h1 ?_
                  (try dsimp only at h); (try dsimp only at k); (try dsimp only)
                  exact k
                · rw [if_neg (nf_Pf1 hc)] at h k
                  obtain ⟨h1, h⟩ := h; refine ⟨h1, ?_⟩; clear h1
                  obtain ⟨h1, h⟩ := h; refine ⟨h1, ?_⟩; clear h1
                  obtain ⟨h1, h⟩ := h; refine ⟨h1, ?_⟩; clear h1
                  obtain ⟨h1, h⟩ := h
                  refine v71 _ _ _ _ _ _ h1 ?_
                  (try dsimp only at h); (try dsimp only at k); (try dsimp only)
                  exact k
          · rw [if_neg (nf_Pf1 hc)] at h k
            refine br_mk (fun hc => ?_) (fun hc => ?_)
            · rw [if_pos hc] at h k
              exact k
            · rw [if_neg (nf_Pf1 hc)] at h k
              refine br_mk (fun hc => ?_) (fun hc => ?_)
              · rw [if_pos hc] at h k
                exact k
              · rw [if_neg (nf_Pf1 hc)] at h k
                refine br_mk (fun hc => ?_) (fun hc => ?_)
                · rw [if_pos hc] at h k
                  obtain ⟨h1, h⟩ := h; refine ⟨h1, ?_⟩; clear h1
                  obtain ⟨h1, h⟩ := h; refine ⟨h1, ?_⟩; clear h1
                  obtain ⟨h1, h⟩ := h; refine ⟨h1, ?_⟩; clear h1
                  obtain ⟨h1, h⟩ := h
                  refine v69 _ _ _ _ h1 ?_
                  (try dsimp only at h); (try dsimp only at k); (try dsimp only)
                  exact k
                · rw [if_neg (nf_Pf1 hc)] at h k
                  obtain ⟨h1, h⟩ := h; refine ⟨h1, ?_⟩; clear h1
                  obtain ⟨h1, h⟩ := h; refine ⟨h1, ?_⟩; clear h1
                  obtain ⟨h1, h⟩ := h; refine ⟨h1, ?_⟩; clear h1
                  obtain ⟨h1, h⟩ := h
                  refine v71 _ _ _ _ _ _ h1 ?_
                  (try dsimp only at h); (try dsimp only at k); (try dsimp only)
                  exact k
      · rw [if_neg (nf_Pf1 hc)] at h k
        refine br_mk (fun hc => ?_) (fun hc => ?_)
        · rw [if_pos hc] at h k
          refine br_mk (fun hc => ?_) (fun hc => ?_)
          · rw [if_pos hc] at h k
            exact k
          · rw [if_neg (nf_Pf1 hc)] at h k
            refine br_mk (fun hc => ?_) (fun hc => ?_)
            · rw [if_pos hc] at h k
              exact k
            · rw [if_neg (nf_Pf1 hc)] at h k
              refine br_mk (fun hc => ?_) (fun hc => ?_)
              · rw [if_pos hc] at h k
                obtain ⟨h1, h⟩ := h; refine ⟨h1, ?_⟩; clear h1
                obtain ⟨h1, h⟩ := h; refine ⟨h1, ?_⟩; clear h1
                obtain ⟨h1, h⟩ := h; refine ⟨h1, ?_⟩; clear h1
                obtain ⟨h1, h⟩ := h
                refine v69 _ _ _ _ h1 ?_
                (try dsimp only at h); (try dsimp only at k); (try dsimp only)
                exact k
              · rw [if_neg (nf_Pf1 hc)] at h k
                obtain ⟨h1, h⟩ := h; refine ⟨h1, ?_⟩; clear h1
                obtain ⟨h1, h⟩ := h; refine ⟨h1, ?_⟩; clear h1
                obtain ⟨h1, h⟩ := h; refine ⟨h1, ?_⟩; clear h1
                obtain ⟨h1, h⟩ := h
                refine v71 _ _ _ _ _ _ h1 ?_
                (try dsimp only at h); (try dsimp only at k); (try dsimp only)
                exact k
        · rw [if_neg (nf_Pf1 hc)] at h k
          refine br_mk (fun hc => ?_) (fun hc => ?_)
          · rw [if_pos hc] at h k
            exact k
          · rw [if_neg (nf_Pf1 hc)] at h k
            refine br_mk (fun hc => ?_) (fun hc => ?_)
            · rw [if_pos hc] at h k
              exact k
            · rw [if_neg (nf_Pf1 hc)] at h k
              refine br_mk (fun hc => ?_) (fun hc => ?_)
              · rw [if_pos hc] at h k
                obtain ⟨h1, h⟩ := h; refine ⟨h1, ?_⟩; clear h1
                obtain ⟨h1, h⟩ := h; refine ⟨h1, ?_⟩; clear h1
                obtain ⟨h1, h⟩ := h; refine ⟨h1, ?_⟩; clear h1
                obtain ⟨h1, h⟩ := h
                refine v69 _ _ _ _ h1 ?_
                (try dsimp only at h); (try dsimp only at k); (try dsimp only)
                exact k
              · rw [if_neg (nf_Pf1 hc)] at h k
                obtain ⟨h1, h⟩ := h; refine ⟨h1, ?_⟩; clear h1
                obtain ⟨h1, h⟩ := h; refine ⟨h1, ?_⟩; clear h1
                obtain ⟨h1, h⟩ := h; refine ⟨h1, ?_⟩; clear h1
                obtain ⟨h1, h⟩ := h
                refine v71 _ _ _ _ _ _ h1 ?_
                (try dsimp only at h); (try dsimp only at k); (try dsimp only)
                exact k
  · rw [if_neg (nf_Pf1 hc)] at h k
    obtain ⟨h1, h⟩ := h; refine req_mk h1 ?_; clear h1
    refine br_mk (fun hc => ?_) (fun hc => ?_)
    · rw [if_pos hc] at h k
      exact k
    · rw [if_neg (nf_Pf1 hc)] at h k
      refine br_mk (fun hc => ?_) (fun hc => ?_)
      · rw [if_pos hc] at h k
        refine br_mk (fun hc => ?_) (fun hc => ?_)
        · rw [if_pos hc] at h k
          exact k
        · rw [if_neg (nf_Pf1 hc)] at h k
          refine br_mk (fun hc => ?_) (fun hc => ?_)
          · rw [if_pos hc] at h k
            obtain ⟨h1, h⟩ := h; refine ⟨h1, ?_⟩; clear h1
            obtain ⟨h1, h⟩ := h; refine ⟨h1, ?_⟩; clear h1
            obtain ⟨h1, h⟩ := h; refine ⟨h1, ?_⟩; clear h1
            obtain ⟨h1, h⟩ := h
            refine v70 _ _ _ _ _ h1 ?_
            (try dsimp only at h); (try dsimp only at k); (try dsimp only)
            exact k
          · rw [if_neg (nf_Pf1 hc)] at h k
            refine br_mk (fun hc => ?_) (fun hc => ?_)
            · rw [if_pos hc] at h k
              exact k
            · rw [if_neg (nf_Pf1 hc)] at h k
              refine br_mk (fun hc => ?_) (fun hc => ?_)
              · rw [if_pos hc] at h k
                exact k
              · rw [if_neg (nf_Pf1 hc)] at h k
                refine br_mk (fun hc => ?_) (fun hc => ?_)
                · rw [if_pos hc] at h k
                  obtain ⟨h1, h⟩ := h; refine ⟨h1, ?_⟩; clear h1
                  obtain ⟨h1, h⟩ := h; refine ⟨h1, ?_⟩; clear h1
                  obtain ⟨h1, h⟩ := h; refine ⟨h1, ?_⟩; clear h1
                  obtain ⟨h1, h⟩ := h
                  refine v69 _ _ _ _ h1 ?_
                  (try dsimp only at h); (try dsimp only at k); (try dsimp only)
                  exact k
                · rw [if_neg (nf_Pf1 hc)] at h k
                  obtain ⟨h1, h⟩ := h; refine ⟨h1, ?_⟩; clear h1
                  obtain ⟨h1, h⟩ := h; refine ⟨h1, ?_⟩; clear h1
                  obtain ⟨h1, h⟩ := h; refine ⟨h1, ?_⟩; clear h1
                  obtain ⟨h1, h⟩ := h
                  refine v71 _ _ _ _ _ _ h1 ?_
                  (try dsimp only at h); (try dsimp only at k); (try dsimp only)
                  exact k
      · rw [if_neg (nf_Pf1 hc)] at h k
        refine br_mk (fun hc => ?_) (fun hc => ?_)
        · rw [if_pos hc] at h k
          obtain ⟨h1, h⟩ := h; refine ⟨h1, ?_⟩; clear h1
          obtain ⟨h1, h⟩ := h; refine ⟨h1, ?_⟩; clear h1
          obtain ⟨h1, h⟩ := h; refine ⟨h1, ?_⟩; clear h1
          obtain ⟨h1, h⟩ := h
          refine v70 _ _ _ _ _ h1 ?_
          (try dsimp only at h); (try dsimp only at k); (try dsimp only)
          exact k
        · rw [if_neg (nf_Pf1 hc)] at h k
          refine br_mk (fun hc => ?_) (fun hc => ?_)
          · rw [if_pos hc] at h k
            exact k
          · rw [if_neg (nf_Pf1 hc)] at h k
            refine br_mk (fun hc => ?_) (fun hc => ?_)
            · rw [if_pos hc] at h k
              exact k
            · rw [if_neg (nf_Pf1 hc)] at h k
              refine br_mk (fun hc => ?_) (fun hc => ?_)
              · rw [if_pos hc] at h k
                obtain ⟨h1, h⟩ := h; refine ⟨h1, ?_⟩; clear h1
                obtain ⟨h1, h⟩ := h; refine ⟨h1, ?_⟩; clear h1
                obtain ⟨h1, h⟩ := h; refine ⟨h1, ?_⟩; clear h1
                obtain ⟨h1, h⟩ := h
                refine v69 _ _ _ _ h1 ?_
                (try dsimp only at h); (try dsimp only at k); (try dsimp only)
                exact k
              · rw [if_neg (nf_Pf1 hc)] at h k
                obtain ⟨h1, h⟩ := h; refine ⟨h1, ?_⟩; clear h1
                obtain ⟨h1, h⟩ := h; refine ⟨h1, ?_⟩; clear h1
                obtain ⟨h1, h⟩ := h; refine ⟨h1, ?_⟩; clear h1
                obtain ⟨h1, h⟩ := h
                refine v71 _ _ _ _ _ _ h1 ?_
                (try dsimp only at h); (try dsimp only at k); (try dsimp only)
                exact k
noncomputable def f35 (p : PS) (d : DS) (b : Int) : PS × DS :=
  (if (decide (PS.state p = (0 : Int))) = true then (if (decide (b < (128 : Int))) = true then (fun y0 y1 => (fun y2 y3 => (if (decide (b = (24 : Int))) = true then (fun y4 y5 => (y4, y5)) ((f48 { y2 with state := (0 : Int) } { y3 with made := DS.made y3 } b).1) ((f48 { y2 with state := (0 : Int) } { y3 with made := DS.made y3 } b).2) else (if (decide (b = (26 : Int))) = true then (fun y6 y7 => (y6, y7)) ((f48 { y2 with state := (0 : Int) } { y3 with made := DS.made y3 } b).1) ((f48 { y2 with state := (0 : Int) } { y3 with made := DS.made y3 } b).2) else (if (decide (b = (27 : Int))) = true then (if (decide (PS.state y2 = (12 : Int))) = true then (fun y8 y9 => ({ y8 with state := (1 : Int), aKind := (0 : Int), aRune := (0 : Int), aFinal := (0 : Int), aPrivate := (0 : Int), aParams := [], aInter := { data := #[] }, aText := { data := #[] }, many := (0 : Int) }, y9)) ((f49 { y2 with made := PS.made y2 } { y3 with made := DS.made y3 } (5 : Int)).1) ((f49 { y2 with made := PS.made y2 } { y3 with made := DS.made y3 } (5 : Int)).2) else (if (decide (PS.state y2 = (11 : Int))) = true then (fun y10 y11 => ({ y10 with state := (1 : Int), aKind := (0 : Int), aRune := (0 : Int), aFinal := (0 : Int), aPrivate := (0 : Int), aParams := [], aInter := { data := #[] }, aText := { data := #[] }, many := (0 : Int) }, y11)) ((f49 { y2 with made := PS.made y2 } { y3 with made := DS.made y3 } (6 : Int)).1) ((f49 { y2 with made := PS.made y2 } { y3 with made := DS.made y3 } (6 : Int)).2) else ({ y2 with state := (1 : Int), aKind := (0 : Int), aRune := (0 : Int), aFinal := (0 : Int), aPrivate := (0 : Int), aParams := [], aInter := { data := #[] }, aText := { data := #[] }, many := (0 : Int) }, y3))) else (if (decide (PS.state y2 = (0 : Int))) = true then (fun y12 y13 => (y12, y13)) ((f50 { y2 with made := PS.made y2 } { y3 with made := DS.made y3 } b).1) ((f50 { y2 with made := PS.made y2 } { y3 with made := DS.made y3 } b).2) else (if (decide (PS.state y2 = (12 : Int))) = true then (fun y14 y15 => (y14, y15)) ((f51 { y2 with made := PS.made y2 } { y3 with made := DS.made y3 } b).1) ((f51 { y2 with made := PS.made y2 } { y3 with made := DS.made y3 } b).2) else (if (decide (PS.state y2 = (11 : Int))) = true then (fun y16 y17 => (y16, y17)) ((f51 { y2 with made := PS.made y2 } { y3 with made := DS.made y3 } b).1) ((f51 { y2 with made := PS.made y2 } { y3 with made := DS.made y3 } b).2) else (if (decide (PS.state y2 = (13 : Int))) = true then (fun y18 y19 => (y18, y19)) ((f51 { y2 with made := PS.made y2 } { y3 with made := DS.made y3 } b).1) ((f51 { y2 with made := PS.made y2 } { y3 with made := DS.made y3 } b).2) else (if (decide ((128 : Int) ≤ b)) = true then (y2, y3) else (if (decide (b < (32 : Int))) = true then (if (decide (PS.state y2 < (7 : Int))) = true then (fun y20 y21 => (y20, y21)) ((f48 { y2 with made := PS.made y2 } { y3 with made := DS.made y3 } b).1) ((f48 { y2 with made := PS.made y2 } { y3 with made := DS.made y3 } b).2) else (y2, y3)) else (if (decide (PS.state y2 = (1 : Int))) = true then (fun y22 y23 => (y22, y23)) ((f52 { y2 with made := PS.made y2 } { y3 with made := DS.made y3 } b).1) ((f52 { y2 with made := PS.made y2 } { y3 with made := DS.made y3 } b).2) else (if (decide (PS.state y2 = (2 : Int))) = true then (fun y24 y25 => (y24, y25)) ((f52 { y2 with made := PS.made y2 } { y3 with made := DS.made y3 } b).1) ((f52 { y2 with made := PS.made y2 } { y3 with made := DS.made y3 } b).2) else (fun y26 y27 => (y26, y27)) ((f53 { y2 with made := PS.made y2 } { y3 with made := DS.made y3 } b).1) ((f53 { y2 with made := PS.made y2 } { y3 with made := DS.made y3 } b).2))))))))))))) ((f29 { p with made := PS.made p } { y0 with made := DS.made y0 } (List.take (List.length y1) y1)).1) ((f29 { p with made := PS.made p } { y0 with made := DS.made y0 } (List.take (List.length y1) y1)).2)) ((f30 { d with made := DS.made d }).1) ((f30 { d with made := DS.made d }).2) else (if (decide (b = (24 : Int))) = true then (fun y28 y29 => (y28, y29)) ((f48 { p with state := (0 : Int) } { d with made := DS.made d } b).1) ((f48 { p with state := (0 : Int) } { d with made := DS.made d } b).2) else (if (decide (b = (26 : Int))) = true then (fun y30 y31 => (y30, y31)) ((f48 { p with state := (0 : Int) } { d with made := DS.made d } b).1) ((f48 { p with state := (0 : Int) } { d with made := DS.made d } b).2) else (if (decide (b = (27 : Int))) = true then (if (decide (PS.state p = (12 : Int))) = true then (fun y32 y33 => ({ y32 with state := (1 : Int), aKind := (0 : Int), aRune := (0 : Int), aFinal := (0 : Int), aPrivate := (0 : Int), aParams := [], aInter := { data := #[] }, aText := { data := #[] }, many := (0 : Int) }, y33)) ((f49 { p with made := PS.made p } { d with made := DS.made d } (5 : Int)).1) ((f49 { p with made := PS.made p } { d with made := DS.made d } (5 : Int)).2) else (if (decide (PS.state p = (11 : Int))) = true then (fun y34 y35 => ({ y34 with state := (1 : Int), aKind := (0 : Int), aRune := (0 : Int), aFinal := (0 : Int), aPrivate := (0 : Int), aParams := [], aInter := { data := #[] }, aText := { data := #[] }, many := (0 : Int) }, y35)) ((f49 { p with made := PS.made p } { d with made := DS.made d } (6 : Int)).1) ((f49 { p with made := PS.made p } { d with made := DS.made d } (6 : Int)).2) else ({ p with state := (1 : Int), aKind := (0 : Int), aRune := (0 : Int), aFinal := (0 : Int), aPrivate := (0 : Int), aParams := [], aInter := { data := #[] }, aText := { data := #[] }, many := (0 : Int) }, d))) else (if (decide (PS.state p = (0 : Int))) = true then (fun y36 y37 => (y36, y37)) ((f50 { p with made := PS.made p } { d with made := DS.made d } b).1) ((f50 { p with made := PS.made p } { d with made := DS.made d } b).2) else (if (decide (PS.state p = (12 : Int))) = true then (fun y38 y39 => (y38, y39)) ((f51 { p with made := PS.made p } { d with made := DS.made d } b).1) ((f51 { p with made := PS.made p } { d with made := DS.made d } b).2) else (if (decide (PS.state p = (11 : Int))) = true then (fun y40 y41 => (y40, y41)) ((f51 { p with made := PS.made p } { d with made := DS.made d } b).1) ((f51 { p with made := PS.made p } { d with made := DS.made d } b).2) else (if (decide (PS.state p = (13 : Int))) = true then (fun y42 y43 => (y42, y43)) ((f51 { p with made := PS.made p } { d with made := DS.made d } b).1) ((f51 { p with made := PS.made p } { d with made := DS.made d } b).2) else (if (decide ((128 : Int) ≤ b)) = true then (p, d) else (if (decide (b < (32 : Int))) = true then (if (decide (PS.state p < (7 : Int))) = true then (fun y44 y45 => (y44, y45)) ((f48 { p with made := PS.made p } { d with made := DS.made d } b).1) ((f48 { p with made := PS.made p } { d with made := DS.made d } b).2) else (p, d)) else (if (decide (PS.state p = (1 : Int))) = true then (fun y46 y47 => (y46, y47)) ((f52 { p with made := PS.made p } { d with made := DS.made d } b).1) ((f52 { p with made := PS.made p } { d with made := DS.made d } b).2) else (if (decide (PS.state p = (2 : Int))) = true then (fun y48 y49 => (y48, y49)) ((f52 { p with made := PS.made p } { d with made := DS.made d } b).1) ((f52 { p with made := PS.made p } { d with made := DS.made d } b).2) else (fun y50 y51 => (y50, y51)) ((f53 { p with made := PS.made p } { d with made := DS.made d } b).1) ((f53 { p with made := PS.made p } { d with made := DS.made d } b).2))))))))))))) else (if (decide (b = (24 : Int))) = true then (fun y52 y53 => (y52, y53)) ((f48 { p with state := (0 : Int) } { d with made := DS.made d } b).1) ((f48 { p with state := (0 : Int) } { d with made := DS.made d } b).2) else (if (decide (b = (26 : Int))) = true then (fun y54 y55 => (y54, y55)) ((f48 { p with state := (0 : Int) } { d with made := DS.made d } b).1) ((f48 { p with state := (0 : Int) } { d with made := DS.made d } b).2) else (if (decide (b = (27 : Int))) = true then (if (decide (PS.state p = (12 : Int))) = true then (fun y56 y57 => ({ y56 with state := (1 : Int), aKind := (0 : Int), aRune := (0 : Int), aFinal := (0 : Int), aPrivate := (0 : Int), aParams := [], aInter := { data := #[] }, aText := { data := #[] }, many := (0 : Int) }, y57)) ((f49 { p with made := PS.made p } { d with made := DS.made d } (5 : Int)).1) ((f49 { p with made := PS.made p } { d with made := DS.made d } (5 : Int)).2) else (if (decide (PS.state p = (11 : Int))) = true then (fun y58 y59 => ({ y58 with state := (1 : Int), aKind := (0 : Int), aRune := (0 : Int), aFinal := (0 : Int), aPrivate := (0 : Int), aParams := [], aInter := { data := #[] }, aText := { data := #[] }, many := (0 : Int) }, y59)) ((f49 { p with made := PS.made p } { d with made := DS.made d } (6 : Int)).1) ((f49 { p with made := PS.made p } { d with made := DS.made d } (6 : Int)).2) else ({ p with state := (1 : Int), aKind := (0 : Int), aRune := (0 : Int), aFinal := (0 : Int), aPrivate := (0 : Int), aParams := [], aInter := { data := #[] }, aText := { data := #[] }, many := (0 : Int) }, d))) else (if (decide (PS.state p = (0 : Int))) = true then (fun y60 y61 => (y60, y61)) ((f50 { p with made := PS.made p } { d with made := DS.made d } b).1) ((f50 { p with made := PS.made p } { d with made := DS.made d } b).2) else (if (decide (PS.state p = (12 : Int))) = true then (fun y62 y63 => (y62, y63)) ((f51 { p with made := PS.made p } { d with made := DS.made d } b).1) ((f51 { p with made := PS.made p } { d with made := DS.made d } b).2) else (if (decide (PS.state p = (11 : Int))) = true then (fun y64 y65 => (y64, y65)) ((f51 { p with made := PS.made p } { d with made := DS.made d } b).1) ((f51 { p with made := PS.made p } { d with made := DS.made d } b).2) else (if (decide (PS.state p = (13 : Int))) = true then (fun y66 y67 => (y66, y67)) ((f51 { p with made := PS.made p } { d with made := DS.made d } b).1) ((f51 { p with made := PS.made p } { d with made := DS.made d } b).2) else (if (decide ((128 : Int) ≤ b)) = true then (p, d) else (if (decide (b < (32 : Int))) = true then (if (decide (PS.state p < (7 : Int))) = true then (fun y68 y69 => (y68, y69)) ((f48 { p with made := PS.made p } { d with made := DS.made d } b).1) ((f48 { p with made := PS.made p } { d with made := DS.made d } b).2) else (p, d)) else (if (decide (PS.state p = (1 : Int))) = true then (fun y70 y71 => (y70, y71)) ((f52 { p with made := PS.made p } { d with made := DS.made d } b).1) ((f52 { p with made := PS.made p } { d with made := DS.made d } b).2) else (if (decide (PS.state p = (2 : Int))) = true then (fun y72 y73 => (y72, y73)) ((f52 { p with made := PS.made p } { d with made := DS.made d } b).1) ((f52 { p with made := PS.made p } { d with made := DS.made d } b).2) else (fun y74 y75 => (y74, y75)) ((f53 { p with made := PS.made p } { d with made := DS.made d } b).1) ((f53 { p with made := PS.made p } { d with made := DS.made d } b).2)))))))))))))
def s35 (p : PS) (d : DS) (b : Int) : Prop :=
  (if (decide (PS.state p = (0 : Int))) = true then (if (decide (b < (128 : Int))) = true then ((List.length (DS.b d) = List.length (DS.b d)) ∧ (s30 { d with made := DS.made d } ∧ (fun y0 y1 => ((decide ((0 : Nat) + List.length y1 ≤ List.length y1)) = true ∧ ((List.length (PS.aParams p) = List.length (PS.aParams p)) ∧ ((List.length (PS.out p) = List.length (PS.out p)) ∧ ((List.length (DS.b y0) = List.length (DS.b y0)) ∧ (s29 { p with made := PS.made p } { y0 with made := DS.made y0 } (List.take (List.length y1) y1) ∧ (fun y2 y3 => (if (decide (b = (24 : Int))) = true then ((List.length (PS.aParams y2) = List.length (PS.aParams y2)) ∧ ((List.length (PS.out y2) = List.length (PS.out y2)) ∧ ((List.length (DS.b y3) = List.length (DS.b y3)) ∧ (s48 { y2 with state := (0 : Int) } { y3 with made := DS.made y3 } b ∧ (fun y4 y5 => True) ((f48 { y2 with state := (0 : Int) } { y3 with made := DS.made y3 } b).1) ((f48 { y2 with state := (0 : Int) } { y3 with made := DS.made y3 } b).2))))) else (if (decide (b = (26 : Int))) = true then ((List.length (PS.aParams y2) = List.length (PS.aParams y2)) ∧ ((List.length (PS.out y2) = List.length (PS.out y2)) ∧ ((List.length (DS.b y3) = List.length (DS.b y3)) ∧ (s48 { y2 with state := (0 : Int) } { y3 with made := DS.made y3 } b ∧ (fun y6 y7 => True) ((f48 { y2 with state := (0 : Int) } { y3 with made := DS.made y3 } b).1) ((f48 { y2 with state := (0 : Int) } { y3 with made := DS.made y3 } b).2))))) else (if (decide (b = (27 : Int))) = true then (if (decide (PS.state y2 = (12 : Int))) = true then ((List.length (PS.aParams y2) = List.length (PS.aParams y2)) ∧ ((List.length (PS.out y2) = List.length (PS.out y2)) ∧ ((List.length (DS.b y3) = List.length (DS.b y3)) ∧ (s49 { y2 with made := PS.made y2 } { y3 with made := DS.made y3 } (5 : Int) ∧ (fun y8 y9 => True) ((f49 { y2 with made := PS.made y2 } { y3 with made := DS.made y3 } (5 : Int)).1) ((f49 { y2 with made := PS.made y2 } { y3 with made := DS.made y3 } (5 : Int)).2))))) else (if (decide (PS.state y2 = (11 : Int))) = true then ((List.length (PS.aParams y2) = List.length (PS.aParams y2)) ∧ ((List.length (PS.out y2) = List.length (PS.out y2)) ∧ ((List.length (DS.b y3) = List.length (DS.b y3)) ∧ (s49 { y2 with made := PS.made y2 } { y3 with made := DS.made y3 } (6 : Int) ∧ (fun y10 y11 => True) ((f49 { y2 with made := PS.made y2 } { y3 with made := DS.made y3 } (6 : Int)).1) ((f49 { y2 with made := PS.made y2 } { y3 with made := DS.made y3 } (6 : Int)).2))))) else True)) else (if (decide (PS.state y2 = (0 : Int))) = true then ((List.length (PS.aParams y2) = List.length (PS.aParams y2)) ∧ ((List.length (PS.out y2) = List.length (PS.out y2)) ∧ ((List.length (DS.b y3) = List.length (DS.b y3)) ∧ (s50 { y2 with made := PS.made y2 } { y3 with made := DS.made y3 } b ∧ (fun y12 y13 => True) ((f50 { y2 with made := PS.made y2 } { y3 with made := DS.made y3 } b).1) ((f50 { y2 with made := PS.made y2 } { y3 with made := DS.made y3 } b).2))))) else (if (decide (PS.state y2 = (12 : Int))) = true then ((List.length (PS.aParams y2) = List.length (PS.aParams y2)) ∧ ((List.length (PS.out y2) = List.length (PS.out y2)) ∧ ((List.length (DS.b y3) = List.length (DS.b y3)) ∧ (s51 { y2 with made := PS.made y2 } { y3 with made := DS.made y3 } b ∧ (fun y14 y15 => True) ((f51 { y2 with made := PS.made y2 } { y3 with made := DS.made y3 } b).1) ((f51 { y2 with made := PS.made y2 } { y3 with made := DS.made y3 } b).2))))) else (if (decide (PS.state y2 = (11 : Int))) = true then ((List.length (PS.aParams y2) = List.length (PS.aParams y2)) ∧ ((List.length (PS.out y2) = List.length (PS.out y2)) ∧ ((List.length (DS.b y3) = List.length (DS.b y3)) ∧ (s51 { y2 with made := PS.made y2 } { y3 with made := DS.made y3 } b ∧ (fun y16 y17 => True) ((f51 { y2 with made := PS.made y2 } { y3 with made := DS.made y3 } b).1) ((f51 { y2 with made := PS.made y2 } { y3 with made := DS.made y3 } b).2))))) else (if (decide (PS.state y2 = (13 : Int))) = true then ((List.length (PS.aParams y2) = List.length (PS.aParams y2)) ∧ ((List.length (PS.out y2) = List.length (PS.out y2)) ∧ ((List.length (DS.b y3) = List.length (DS.b y3)) ∧ (s51 { y2 with made := PS.made y2 } { y3 with made := DS.made y3 } b ∧ (fun y18 y19 => True) ((f51 { y2 with made := PS.made y2 } { y3 with made := DS.made y3 } b).1) ((f51 { y2 with made := PS.made y2 } { y3 with made := DS.made y3 } b).2))))) else (if (decide ((128 : Int) ≤ b)) = true then True else (if (decide (b < (32 : Int))) = true then (if (decide (PS.state y2 < (7 : Int))) = true then ((List.length (PS.aParams y2) = List.length (PS.aParams y2)) ∧ ((List.length (PS.out y2) = List.length (PS.out y2)) ∧ ((List.length (DS.b y3) = List.length (DS.b y3)) ∧ (s48 { y2 with made := PS.made y2 } { y3 with made := DS.made y3 } b ∧ (fun y20 y21 => True) ((f48 { y2 with made := PS.made y2 } { y3 with made := DS.made y3 } b).1) ((f48 { y2 with made := PS.made y2 } { y3 with made := DS.made y3 } b).2))))) else True) else (if (decide (PS.state y2 = (1 : Int))) = true then ((List.length (PS.aParams y2) = List.length (PS.aParams y2)) ∧ ((List.length (PS.out y2) = List.length (PS.out y2)) ∧ ((List.length (DS.b y3) = List.length (DS.b y3)) ∧ (s52 { y2 with made := PS.made y2 } { y3 with made := DS.made y3 } b ∧ (fun y22 y23 => True) ((f52 { y2 with made := PS.made y2 } { y3 with made := DS.made y3 } b).1) ((f52 { y2 with made := PS.made y2 } { y3 with made := DS.made y3 } b).2))))) else (if (decide (PS.state y2 = (2 : Int))) = true then ((List.length (PS.aParams y2) = List.length (PS.aParams y2)) ∧ ((List.length (PS.out y2) = List.length (PS.out y2)) ∧ ((List.length (DS.b y3) = List.length (DS.b y3)) ∧ (s52 { y2 with made := PS.made y2 } { y3 with made := DS.made y3 } b ∧ (fun y24 y25 => True) ((f52 { y2 with made := PS.made y2 } { y3 with made := DS.made y3 } b).1) ((f52 { y2 with made := PS.made y2 } { y3 with made := DS.made y3 } b).2))))) else ((List.length (PS.aParams y2) = List.length (PS.aParams y2)) ∧ ((List.length (PS.out y2) = List.length (PS.out y2)) ∧ ((List.length (DS.b y3) = List.length (DS.b y3)) ∧ (s53 { y2 with made := PS.made y2 } { y3 with made := DS.made y3 } b ∧ (fun y26 y27 => True) ((f53 { y2 with made := PS.made y2 } { y3 with made := DS.made y3 } b).1) ((f53 { y2 with made := PS.made y2 } { y3 with made := DS.made y3 } b).2))))))))))))))))) ((f29 { p with made := PS.made p } { y0 with made := DS.made y0 } (List.take (List.length y1) y1)).1) ((f29 { p with made := PS.made p } { y0 with made := DS.made y0 } (List.take (List.length y1) y1)).2))))))) ((f30 { d with made := DS.made d }).1) ((f30 { d with made := DS.made d }).2))) else (if (decide (b = (24 : Int))) = true then ((List.length (PS.aParams p) = List.length (PS.aParams p)) ∧ ((List.length (PS.out p) = List.length (PS.out p)) ∧ ((List.length (DS.b d) = List.length (DS.b d)) ∧ (s48 { p with state := (0 : Int) } { d with made := DS.made d } b ∧ (fun y28 y29 => True) ((f48 { p with state := (0 : Int) } { d with made := DS.made d } b).1) ((f48 { p with state := (0 : Int) } { d with made := DS.made d } b).2))))) else (if (decide (b = (26 : Int))) = true then ((List.length (PS.aParams p) = List.length (PS.aParams p)) ∧ ((List.length (PS.out p) = List.length (PS.out p)) ∧ ((List.length (DS.b d) = List.length (DS.b d)) ∧ (s48 { p with state := (0 : Int) } { d with made := DS.made d } b ∧ (fun y30 y31 => True) ((f48 { p with state := (0 : Int) } { d with made := DS.made d } b).1) ((f48 { p with state := (0 : Int) } { d with made := DS.made d } b).2))))) else (if (decide (b = (27 : Int))) = true then (if (decide (PS.state p = (12 : Int))) = true then ((List.length (PS.aParams p) = List.length (PS.aParams p)) ∧ ((List.length (PS.out p) = List.length (PS.out p)) ∧ ((List.length (DS.b d) = List.length (DS.b d)) ∧ (s49 { p with made := PS.made p } { d with made := DS.made d } (5 : Int) ∧ (fun y32 y33 => True) ((f49 { p with made := PS.made p } { d with made := DS.made d } (5 : Int)).1) ((f49 { p with made := PS.made p } { d with made := DS.made d } (5 : Int)).2))))) else (if (decide (PS.state p = (11 : Int))) = true then ((List.length (PS.aParams p) = List.length (PS.aParams p)) ∧ ((List.length (PS.out p) = List.length (PS.out p)) ∧ ((List.length (DS.b d) = List.length (DS.b d)) ∧ (s49 { p with made := PS.made p } { d with made := DS.made d } (6 : Int) ∧ (fun y34 y35 => True) ((f49 { p with made := PS.made p } { d with made := DS.made d } (6 : Int)).1) ((f49 { p with made := PS.made p } { d with made := DS.made d } (6 : Int)).2))))) else True)) else (if (decide (PS.state p = (0 : Int))) = true then ((List.length (PS.aParams p) = List.length (PS.aParams p)) ∧ ((List.length (PS.out p) = List.length (PS.out p)) ∧ ((List.length (DS.b d) = List.length (DS.b d)) ∧ (s50 { p with made := PS.made p } { d with made := DS.made d } b ∧ (fun y36 y37 => True) ((f50 { p with made := PS.made p } { d with made := DS.made d } b).1) ((f50 { p with made := PS.made p } { d with made := DS.made d } b).2))))) else (if (decide (PS.state p = (12 : Int))) = true then ((List.length (PS.aParams p) = List.length (PS.aParams p)) ∧ ((List.length (PS.out p) = List.length (PS.out p)) ∧ ((List.length (DS.b d) = List.length (DS.b d)) ∧ (s51 { p with made := PS.made p } { d with made := DS.made d } b ∧ (fun y38 y39 => True) ((f51 { p with made := PS.made p } { d with made := DS.made d } b).1) ((f51 { p with made := PS.made p } { d with made := DS.made d } b).2))))) else (if (decide (PS.state p = (11 : Int))) = true then ((List.length (PS.aParams p) = List.length (PS.aParams p)) ∧ ((List.length (PS.out p) = List.length (PS.out p)) ∧ ((List.length (DS.b d) = List.length (DS.b d)) ∧ (s51 { p with made := PS.made p } { d with made := DS.made d } b ∧ (fun y40 y41 => True) ((f51 { p with made := PS.made p } { d with made := DS.made d } b).1) ((f51 { p with made := PS.made p } { d with made := DS.made d } b).2))))) else (if (decide (PS.state p = (13 : Int))) = true then ((List.length (PS.aParams p) = List.length (PS.aParams p)) ∧ ((List.length (PS.out p) = List.length (PS.out p)) ∧ ((List.length (DS.b d) = List.length (DS.b d)) ∧ (s51 { p with made := PS.made p } { d with made := DS.made d } b ∧ (fun y42 y43 => True) ((f51 { p with made := PS.made p } { d with made := DS.made d } b).1) ((f51 { p with made := PS.made p } { d with made := DS.made d } b).2))))) else (if (decide ((128 : Int) ≤ b)) = true then True else (if (decide (b < (32 : Int))) = true then (if (decide (PS.state p < (7 : Int))) = true then ((List.length (PS.aParams p) = List.length (PS.aParams p)) ∧ ((List.length (PS.out p) = List.length (PS.out p)) ∧ ((List.length (DS.b d) = List.length (DS.b d)) ∧ (s48 { p with made := PS.made p } { d with made := DS.made d } b ∧ (fun y44 y45 => True) ((f48 { p with made := PS.made p } { d with made := DS.made d } b).1) ((f48 { p with made := PS.made p } { d with made := DS.made d } b).2))))) else True) else (if (decide (PS.state p = (1 : Int))) = true then ((List.length (PS.aParams p) = List.length (PS.aParams p)) ∧ ((List.length (PS.out p) = List.length (PS.out p)) ∧ ((List.length (DS.b d) = List.length (DS.b d)) ∧ (s52 { p with made := PS.made p } { d with made := DS.made d } b ∧ (fun y46 y47 => True) ((f52 { p with made := PS.made p } { d with made := DS.made d } b).1) ((f52 { p with made := PS.made p } { d with made := DS.made d } b).2))))) else (if (decide (PS.state p = (2 : Int))) = true then ((List.length (PS.aParams p) = List.length (PS.aParams p)) ∧ ((List.length (PS.out p) = List.length (PS.out p)) ∧ ((List.length (DS.b d) = List.length (DS.b d)) ∧ (s52 { p with made := PS.made p } { d with made := DS.made d } b ∧ (fun y48 y49 => True) ((f52 { p with made := PS.made p } { d with made := DS.made d } b).1) ((f52 { p with made := PS.made p } { d with made := DS.made d } b).2))))) else ((List.length (PS.aParams p) = List.length (PS.aParams p)) ∧ ((List.length (PS.out p) = List.length (PS.out p)) ∧ ((List.length (DS.b d) = List.length (DS.b d)) ∧ (s53 { p with made := PS.made p } { d with made := DS.made d } b ∧ (fun y50 y51 => True) ((f53 { p with made := PS.made p } { d with made := DS.made d } b).1) ((f53 { p with made := PS.made p } { d with made := DS.made d } b).2))))))))))))))))) else (if (decide (b = (24 : Int))) = true then ((List.length (PS.aParams p) = List.length (PS.aParams p)) ∧ ((List.length (PS.out p) = List.length (PS.out p)) ∧ ((List.length (DS.b d) = List.length (DS.b d)) ∧ (s48 { p with state := (0 : Int) } { d with made := DS.made d } b ∧ (fun y52 y53 => True) ((f48 { p with state := (0 : Int) } { d with made := DS.made d } b).1) ((f48 { p with state := (0 : Int) } { d with made := DS.made d } b).2))))) else (if (decide (b = (26 : Int))) = true then ((List.length (PS.aParams p) = List.length (PS.aParams p)) ∧ ((List.length (PS.out p) = List.length (PS.out p)) ∧ ((List.length (DS.b d) = List.length (DS.b d)) ∧ (s48 { p with state := (0 : Int) } { d with made := DS.made d } b ∧ (fun y54 y55 => True) ((f48 { p with state := (0 : Int) } { d with made := DS.made d } b).1) ((f48 { p with state := (0 : Int) } { d with made := DS.made d } b).2))))) else (if (decide (b = (27 : Int))) = true then (if (decide (PS.state p = (12 : Int))) = true then ((List.length (PS.aParams p) = List.length (PS.aParams p)) ∧ ((List.length (PS.out p) = List.length (PS.out p)) ∧ ((List.length (DS.b d) = List.length (DS.b d)) ∧ (s49 { p with made := PS.made p } { d with made := DS.made d } (5 : Int) ∧ (fun y56 y57 => True) ((f49 { p with made := PS.made p } { d with made := DS.made d } (5 : Int)).1) ((f49 { p with made := PS.made p } { d with made := DS.made d } (5 : Int)).2))))) else (if (decide (PS.state p = (11 : Int))) = true then ((List.length (PS.aParams p) = List.length (PS.aParams p)) ∧ ((List.length (PS.out p) = List.length (PS.out p)) ∧ ((List.length (DS.b d) = List.length (DS.b d)) ∧ (s49 { p with made := PS.made p } { d with made := DS.made d } (6 : Int) ∧ (fun y58 y59 => True) ((f49 { p with made := PS.made p } { d with made := DS.made d } (6 : Int)).1) ((f49 { p with made := PS.made p } { d with made := DS.made d } (6 : Int)).2))))) else True)) else (if (decide (PS.state p = (0 : Int))) = true then ((List.length (PS.aParams p) = List.length (PS.aParams p)) ∧ ((List.length (PS.out p) = List.length (PS.out p)) ∧ ((List.length (DS.b d) = List.length (DS.b d)) ∧ (s50 { p with made := PS.made p } { d with made := DS.made d } b ∧ (fun y60 y61 => True) ((f50 { p with made := PS.made p } { d with made := DS.made d } b).1) ((f50 { p with made := PS.made p } { d with made := DS.made d } b).2))))) else (if (decide (PS.state p = (12 : Int))) = true then ((List.length (PS.aParams p) = List.length (PS.aParams p)) ∧ ((List.length (PS.out p) = List.length (PS.out p)) ∧ ((List.length (DS.b d) = List.length (DS.b d)) ∧ (s51 { p with made := PS.made p } { d with made := DS.made d } b ∧ (fun y62 y63 => True) ((f51 { p with made := PS.made p } { d with made := DS.made d } b).1) ((f51 { p with made := PS.made p } { d with made := DS.made d } b).2))))) else (if (decide (PS.state p = (11 : Int))) = true then ((List.length (PS.aParams p) = List.length (PS.aParams p)) ∧ ((List.length (PS.out p) = List.length (PS.out p)) ∧ ((List.length (DS.b d) = List.length (DS.b d)) ∧ (s51 { p with made := PS.made p } { d with made := DS.made d } b ∧ (fun y64 y65 => True) ((f51 { p with made := PS.made p } { d with made := DS.made d } b).1) ((f51 { p with made := PS.made p } { d with made := DS.made d } b).2))))) else (if (decide (PS.state p = (13 : Int))) = true then ((List.length (PS.aParams p) = List.length (PS.aParams p)) ∧ ((List.length (PS.out p) = List.length (PS.out p)) ∧ ((List.length (DS.b d) = List.length (DS.b d)) ∧ (s51 { p with made := PS.made p } { d with made := DS.made d } b ∧ (fun y66 y67 => True) ((f51 { p with made := PS.made p } { d with made := DS.made d } b).1) ((f51 { p with made := PS.made p } { d with made := DS.made d } b).2))))) else (if (decide ((128 : Int) ≤ b)) = true then True else (if (decide (b < (32 : Int))) = true then (if (decide (PS.state p < (7 : Int))) = true then ((List.length (PS.aParams p) = List.length (PS.aParams p)) ∧ ((List.length (PS.out p) = List.length (PS.out p)) ∧ ((List.length (DS.b d) = List.length (DS.b d)) ∧ (s48 { p with made := PS.made p } { d with made := DS.made d } b ∧ (fun y68 y69 => True) ((f48 { p with made := PS.made p } { d with made := DS.made d } b).1) ((f48 { p with made := PS.made p } { d with made := DS.made d } b).2))))) else True) else (if (decide (PS.state p = (1 : Int))) = true then ((List.length (PS.aParams p) = List.length (PS.aParams p)) ∧ ((List.length (PS.out p) = List.length (PS.out p)) ∧ ((List.length (DS.b d) = List.length (DS.b d)) ∧ (s52 { p with made := PS.made p } { d with made := DS.made d } b ∧ (fun y70 y71 => True) ((f52 { p with made := PS.made p } { d with made := DS.made d } b).1) ((f52 { p with made := PS.made p } { d with made := DS.made d } b).2))))) else (if (decide (PS.state p = (2 : Int))) = true then ((List.length (PS.aParams p) = List.length (PS.aParams p)) ∧ ((List.length (PS.out p) = List.length (PS.out p)) ∧ ((List.length (DS.b d) = List.length (DS.b d)) ∧ (s52 { p with made := PS.made p } { d with made := DS.made d } b ∧ (fun y72 y73 => True) ((f52 { p with made := PS.made p } { d with made := DS.made d } b).1) ((f52 { p with made := PS.made p } { d with made := DS.made d } b).2))))) else ((List.length (PS.aParams p) = List.length (PS.aParams p)) ∧ ((List.length (PS.out p) = List.length (PS.out p)) ∧ ((List.length (DS.b d) = List.length (DS.b d)) ∧ (s53 { p with made := PS.made p } { d with made := DS.made d } b ∧ (fun y74 y75 => True) ((f53 { p with made := PS.made p } { d with made := DS.made d } b).1) ((f53 { p with made := PS.made p } { d with made := DS.made d } b).2)))))))))))))))))
theorem v35 (p : PS) (d : DS) (b : Int) (K : PS → DS → Prop) (h : s35 p d b) (k : K ((f35 p d b).1) ((f35 p d b).2)) : m35 p d b K := by
  unfold m35
  unfold s35 at h
  unfold f35 at k
  refine br_mk (fun hc => ?_) (fun hc => ?_)
  · rw [if_pos hc] at h k
    refine br_mk (fun hc => ?_) (fun hc => ?_)
    · rw [if_pos hc] at h k
      obtain ⟨h1, h⟩ := h; refine ⟨h1, ?_⟩; clear h1
      obtain ⟨h1, h⟩ := h
      refine v30 _ _ h1 ?_
      (try dsimp only at h); (try dsimp only at k); (try dsimp only)
      obtain ⟨h1, h⟩ := h; refine req_mk h1 ?_; clear h1
      obtain ⟨h1, h⟩ := h; refine ⟨h1, ?_⟩; clear h1
      obtain ⟨h1, h⟩ := h; refine ⟨h1, ?_⟩; clear h1
      obtain ⟨h1, h⟩ := h; refine ⟨h1, ?_⟩; clear h1
      obtain ⟨h1, h⟩ := h
      refine v29 _ _ _ _ h1 ?_
      (try dsimp only at h); (try dsimp only at k); (try dsimp only)
      refine br_mk (fun hc => ?_) (fun hc => ?_)
      · rw [if_pos hc] at h k
        obtain ⟨h1, h⟩ := h; refine ⟨h1, ?_⟩; clear h1
        obtain ⟨h1, h⟩ := h; refine ⟨h1, ?_⟩; clear h1
        obtain ⟨h1, h⟩ := h; refine ⟨h1, ?_⟩; clear h1
        obtain ⟨h1, h⟩ := h
        refine v48 _ _ _ _ h1 ?_
        (try dsimp only at h); (try dsimp only at k); (try dsimp only)
        exact k
      · rw [if_neg (nf_Pf1 hc)] at h k
        refine br_mk (fun hc => ?_) (fun hc => ?_)
        · rw [if_pos hc] at h k
          obtain ⟨h1, h⟩ := h; refine ⟨h1, ?_⟩; clear h1
          obtain ⟨h1, h⟩ := h; refine ⟨h1, ?_⟩; clear h1
          obtain ⟨h1, h⟩ := h; refine ⟨h1, ?_⟩; clear h1
          obtain ⟨h1, h⟩ := h
          refine v48 _ _ _ _ h1 ?_
          (try dsimp only at h); (try dsimp only at k); (try dsimp only)
          exact k
        · rw [if_neg (nf_Pf1 hc)] at h k
          refine br_mk (fun hc => ?_) (fun hc => ?_)
          · rw [if_pos hc] at h k
            refine br_mk (fun hc => ?_) (fun hc => ?_)
            · rw [if_pos hc] at h k
              obtain ⟨h1, h⟩ := h; refine ⟨h1, ?_⟩; clear h1
              obtain ⟨h1, h⟩ := h; refine ⟨h1, ?_⟩; clear h1
              obtain ⟨h1, h⟩ := h; refine ⟨h1, ?_⟩; clear h1
              obtain ⟨h1, h⟩ := h
              refine v49 _ _ _ _ h1 ?_
              (try dsimp only at h); (try dsimp only at k); (try dsimp only)
              exact k
            · rw [if_neg (nf_Pf1 hc)] at h k
              refine br_mk (fun hc => ?_) (fun hc => ?_)
              · rw [if_pos hc] at h k
                obtain ⟨h1, h⟩ := h; refine ⟨h1, ?_⟩; clear h1
                obtain ⟨h1, h⟩ := h; refine ⟨h1, ?_⟩; clear h1
                obtain ⟨h1, h⟩ := h; refine ⟨h1, ?_⟩; clear h1
                obtain ⟨h1, h⟩ := h
                refine v49 _ _ _ _ h1 ?_
                (try dsimp only at h); (try dsimp only at k); (try dsimp only)
                exact k
              · rw [if_neg (nf_Pf1 hc)] at h k
                exact k
          · rw [if_neg (nf_Pf1 hc)] at h k
            refine br_mk (fun hc => ?_) (fun hc => ?_)
            · rw [if_pos hc] at h k
              obtain ⟨h1, h⟩ := h; refine ⟨h1, ?_⟩; clear h1
              obtain ⟨h1, h⟩ := h; refine ⟨h1, ?_⟩; clear h1
              obtain ⟨h1, h⟩ := h; refine ⟨h1, ?_⟩; clear h1
              obtain ⟨h1, h⟩ := h
              refine v50 _ _ _ _ h1 ?_
              (try dsimp only at h); (try dsimp only at k); (try dsimp only)
              exact k
            · rw [if_neg (nf_Pf1 hc)] at h k
              refine br_mk (fun hc => ?_) (fun hc => ?_)
              · rw [if_pos hc] at h k
                obtain ⟨h1, h⟩ := h; refine ⟨h1, ?_⟩; clear h1
                obtain ⟨h1, h⟩ := h; refine ⟨h1, ?_⟩; clear h1
                obtain ⟨h1, h⟩ := h; refine ⟨h1, ?_⟩; clear h1
                obtain ⟨h1, h⟩ := h
                refine v51 _ _ _ _ h1 ?_
                (try dsimp only at h); (try dsimp only at k); (try dsimp only)
                exact k
              · rw [if_neg (nf_Pf1 hc)] at h k
                refine br_mk (fun hc => ?_) (fun hc => ?_)
                · rw [if_pos hc] at h k
                  obtain ⟨h1, h⟩ := h; refine ⟨h1, ?_⟩; clear h1
                  obtain ⟨h1, h⟩ := h; refine ⟨h1, ?_⟩; clear h1
                  obtain ⟨h1, h⟩ := h; refine ⟨h1, ?_⟩; clear h1
                  obtain ⟨h1, h⟩ := h
                  refine v51 _ _ _ _ h1 ?_
                  (try dsimp only at h); (try dsimp only at k); (try dsimp only)
                  exact k
                · rw [if_neg (nf_Pf1 hc)] at h k
                  refine br_mk (fun hc => ?_) (fun hc => ?_)
                  · rw [if_pos hc] at h k
                    obtain ⟨h1, h⟩ := h; refine ⟨h1, ?_⟩; clear h1
                    obtain ⟨h1, h⟩ := h; refine ⟨h1, ?_⟩; clear h1
                    obtain ⟨h1, h⟩ := h; refine ⟨h1, ?_⟩; clear h1
                    obtain ⟨h1, h⟩ := h
                    refine v51 _ _ _ _ h1 ?_
                    (try dsimp only at h); (try dsimp only at k); (try dsimp only)
                    exact k
                  · rw [if_neg (nf_Pf1 hc)] at h k
                    refine br_mk (fun hc => ?_) (fun hc => ?_)
                    · rw [if_pos hc] at h k
                      exact k
                    · rw [if_neg (nf_Pf1 hc)] at h k
                      refine br_mk (fun hc => ?_) (fun hc => ?_)
                      · rw [if_pos hc] at h k
                        refine br_mk (fun hc => ?_) (fun hc => ?_)
                        · rw [if_pos hc] at h k
                          obtain ⟨h1, h⟩ := h; refine ⟨h1, ?_⟩; clear h1
                          obtain ⟨h1, h⟩ := h; refine ⟨h1, ?_⟩; clear h1
                          obtain ⟨h1, h⟩ := h; refine ⟨h1, ?_⟩; clear h1
                          obtain ⟨h1, h⟩ := h
                          refine v48 _ _ _ _ h1 ?_
                          (try dsimp only at h); (try dsimp only at k); (try dsimp only)
                          exact k
                        · rw [if_neg (nf_Pf1 hc)] at h k
                          exact k
                      · rw [if_neg (nf_Pf1 hc)] at h k
                        refine br_mk (fun hc => ?_) (fun hc => ?_)
                        · rw [if_pos hc] at h k
                          obtain ⟨h1, h⟩ := h; refine ⟨h1, ?_⟩; clear h1
                          obtain ⟨h1, h⟩ := h; refine ⟨h1, ?_⟩; clear h1
                          obtain ⟨h1, h⟩ := h; refine ⟨h1, ?_⟩; clear h1
                          obtain ⟨h1, h⟩ := h
                          refine v52 _ _ _ _ h1 ?_
                          (try dsimp only at h); (try dsimp only at k); (try dsimp only)
                          exact k
                        · rw [if_neg (nf_Pf1 hc)] at h k
                          refine br_mk (fun hc => ?_) (fun hc => ?_)
                          · rw [if_pos hc] at h k
                            obtain ⟨h1, h⟩ := h; refine ⟨h1, ?_⟩; clear h1
                            obtain ⟨h1, h⟩ := h; refine ⟨h1, ?_⟩; clear h1
                            obtain ⟨h1, h⟩ := h; refine ⟨h1, ?_⟩; clear h1
                            obtain ⟨h1, h⟩ := h
                            refine v52 _ _ _ _ h1 ?_
                            (try dsimp only at h); (try dsimp only at k); (try dsimp only)
                            exact k
                          · rw [if_neg (nf_Pf1 hc)] at h k
                            obtain ⟨h1, h⟩ := h; refine ⟨h1, ?_⟩; clear h1
                            obtain ⟨h1, h⟩ := h; refine ⟨h1, ?_⟩; clear h1
                            obtain ⟨h1, h⟩ := h; refine ⟨h1, ?_⟩; clear h1
                            obtain ⟨h1, h⟩ := h
                            refine v53 _ _ _ _ h1 ?_
                            (try dsimp only at h); (try dsimp only at k); (try dsimp only)
                            exact k
    · rw [if_neg (nf_Pf1 hc)] at h k
      refine br_mk (fun hc => ?_) (fun hc => ?_)
      · rw [if_pos hc] at h k
        obtain ⟨h1, h⟩ := h; refine ⟨h1, ?_⟩; clear h1
        obtain ⟨h1, h⟩ := h; refine ⟨h1, ?_⟩; clear h1
        obtain ⟨h1, h⟩ := h; refine ⟨h1, ?_⟩; clear h1
        obtain ⟨h1, h⟩ := h
        refine v48 _ _ _ _ h1 ?_
        (try dsimp only at h); (try dsimp only at k); (try dsimp only)
        exact k
      · rw [if_neg (nf_Pf1 hc)] at h k
        refine br_mk (fun hc => ?_) (fun hc => ?_)
        · rw [if_pos hc] at h k
          obtain ⟨h1, h⟩ := h; refine ⟨h1, ?_⟩; clear h1
          obtain ⟨h1, h⟩ := h; refine ⟨h1, ?_⟩; clear h1
          obtain ⟨h1, h⟩ := h; refine ⟨h1, ?_⟩; clear h1
          obtain ⟨h1, h⟩ := h
          refine v48 _ _ _ _ h1 ?_
          (try dsimp only at h); (try dsimp only at k); (try dsimp only)
          exact k
        · rw [if_neg (nf_Pf1 hc)] at h k
          refine br_mk (fun hc => ?_) (fun hc => ?_)
          · rw [if_pos hc] at h k
            refine br_mk (fun hc => ?_) (fun hc => ?_)
            · rw [if_pos hc] at h k
              obtain ⟨h1, h⟩ := h; refine ⟨h1, ?_⟩; clear h1
              obtain ⟨h1, h⟩ := h; refine ⟨h1, ?_⟩; clear h1
              obtain ⟨h1, h⟩ := h; refine ⟨h1, ?_⟩; clear h1
              obtain ⟨h1, h⟩ := h
              refine v49 _ _ _ _ h1 ?_
              (try dsimp only at h); (try dsimp only at k); (try dsimp only)
              exact k
            · rw [if_neg (nf_Pf1 hc)] at h k
              refine br_mk (fun hc => ?_) (fun hc => ?_)
              · rw [if_pos hc] at h k
                obtain ⟨h1, h⟩ := h; refine ⟨h1, ?_⟩; clear h1
                obtain ⟨h1, h⟩ := h; refine ⟨h1, ?_⟩; clear h1
                obtain ⟨h1, h⟩ := h; refine ⟨h1, ?_⟩; clear h1
                obtain ⟨h1, h⟩ := h
                refine v49 _ _ _ _ h1 ?_
                (try dsimp only at h); (try dsimp only at k); (try dsimp only)
                exact k
              · rw [if_neg (nf_Pf1 hc)] at h k
                exact k
          · rw [if_neg (nf_Pf1 hc)] at h k
            refine br_mk (fun hc => ?_) (fun hc => ?_)
            · rw [if_pos hc] at h k
              obtain ⟨h1, h⟩ := h; refine ⟨h1, ?_⟩; clear h1
              obtain ⟨h1, h⟩ := h; refine ⟨h1, ?_⟩; clear h1
              obtain ⟨h1, h⟩ := h; refine ⟨h1, ?_⟩; clear h1
              obtain ⟨h1, h⟩ := h
              refine v50 _ _ _ _ h1 ?_
              (try dsimp only at h); (try dsimp only at k); (try dsimp only)
              exact k
            · rw [if_neg (nf_Pf1 hc)] at h k
              refine br_mk (fun hc => ?_) (fun hc => ?_)
              · rw [if_pos hc] at h k
                obtain ⟨h1, h⟩ := h; refine ⟨h1, ?_⟩; clear h1
                obtain ⟨h1, h⟩ := h; refine ⟨h1, ?_⟩; clear h1
                obtain ⟨h1, h⟩ := h; refine ⟨h1, ?_⟩; clear h1
                obtain ⟨h1, h⟩ := h
                refine v51 _ _ _ _ h1 ?_
                (try dsimp only at h); (try dsimp only at k); (try dsimp only)
                exact k
              · rw [if_neg (nf_Pf1 hc)] at h k
                refine br_mk (fun hc => ?_) (fun hc => ?_)
                · rw [if_pos hc] at h k
                  obtain ⟨h1, h⟩ := h; refine ⟨h1, ?_⟩; clear h1
                  obtain ⟨h1, h⟩ := h; refine ⟨h1, ?_⟩; clear h1
                  obtain ⟨h1, h⟩ := h; refine ⟨h1, ?_⟩; clear h1
                  obtain ⟨h1, h⟩ := h
                  refine v51 _ _ _ _ h1 ?_
                  (try dsimp only at h); (try dsimp only at k); (try dsimp only)
                  exact k
                · rw [if_neg (nf_Pf1 hc)] at h k
                  refine br_mk (fun hc => ?_) (fun hc => ?_)
                  · rw [if_pos hc] at h k
                    obtain ⟨h1, h⟩ := h; refine ⟨h1, ?_⟩; clear h1
                    obtain ⟨h1, h⟩ := h; refine ⟨h1, ?_⟩; clear h1
                    obtain ⟨h1, h⟩ := h; refine ⟨h1, ?_⟩; clear h1
                    obtain ⟨h1, h⟩ := h
                    refine v51 _ _ _ _ h1 ?_
                    (try dsimp only at h); (try dsimp only at k); (try dsimp only)
                    exact k
                  · rw [if_neg (nf_Pf1 hc)] at h k
                    refine br_mk (fun hc => ?_) (fun hc => ?_)
                    · rw [if_pos hc] at h k
                      exact k
                    · rw [if_neg (nf_Pf1 hc)] at h k
                      refine br_mk (fun hc => ?_) (fun hc => ?_)
                      · rw [if_pos hc] at h k
                        refine br_mk (fun hc => ?_) (fun hc => ?_)
                        · rw [if_pos hc] at h k
                          obtain ⟨h1, h⟩ := h; refine ⟨h1, ?_⟩; clear h1
                          obtain ⟨h1, h⟩ := h; refine ⟨h1, ?_⟩; clear h1
                          obtain ⟨h1, h⟩ := h; refine ⟨h1, ?_⟩; clear h1
                          obtain ⟨h1, h⟩ := h
                          refine v48 _ _ _ _ h1 ?_
                          (try dsimp only at h); (try dsimp only at k); (try dsimp only)
                          exact k
                        · rw [if_neg (nf_Pf1 hc)] at h k
                          exact k
                      · rw [if_neg (nf_Pf1 hc)] at h k
                        refine br_mk (fun hc => ?_) (fun hc => ?_)
                        · rw [if_pos hc] at h k
                          obtain ⟨h1, h⟩ := h; refine ⟨h1, ?_⟩; clear h1
                          obtain ⟨h1, h⟩ := h; refine ⟨h1, ?_⟩; clear h1
                          obtain ⟨h1, h⟩ := h; refine ⟨h1, ?_⟩; clear h1
                          obtain ⟨h1, h⟩ := h
                          refine v52 _ _ _ _ h1 ?_
                          (try dsimp only at h); (try dsimp only at k); (try dsimp only)
                          exact k
                        · rw [if_neg (nf_Pf1 hc)] at h k
                          refine br_mk (fun hc => ?_) (fun hc => ?_)
                          · rw [if_pos hc] at h k
                            obtain ⟨h1, h⟩ := h; refine ⟨h1, ?_⟩; clear h1
                            obtain ⟨h1, h⟩ := h; refine ⟨h1, ?_⟩; clear h1
                            obtain ⟨h1, h⟩ := h; refine ⟨h1, ?_⟩; clear h1
                            obtain ⟨h1, h⟩ := h
                            refine v52 _ _ _ _ h1 ?_
                            (try dsimp only at h); (try dsimp only at k); (try dsimp only)
                            exact k
                          · rw [if_neg (nf_Pf1 hc)] at h k
                            obtain ⟨h1, h⟩ := h; refine ⟨h1, ?_⟩; clear h1
                            obtain ⟨h1, h⟩ := h; refine ⟨h1, ?_⟩; clear h1
                            obtain ⟨h1, h⟩ := h; refine ⟨h1, ?_⟩; clear h1
                            obtain ⟨h1, h⟩ := h
                            refine v53 _ _ _ _ h1 ?_
                            (try dsimp only at h); (try dsimp only at k); (try dsimp only)
                            exact k
  · rw [if_neg (nf_Pf1 hc)] at h k
    refine br_mk (fun hc => ?_) (fun hc => ?_)
    · rw [if_pos hc] at h k
      obtain ⟨h1, h⟩ := h; refine ⟨h1, ?_⟩; clear h1
      obtain ⟨h1, h⟩ := h; refine ⟨h1, ?_⟩; clear h1
      obtain ⟨h1, h⟩ := h; refine ⟨h1, ?_⟩; clear h1
      obtain ⟨h1, h⟩ := h
      refine v48 _ _ _ _ h1 ?_
      (try dsimp only at h); (try dsimp only at k); (try dsimp only)
      exact k
    · rw [if_neg (nf_Pf1 hc)] at h k
      refine br_mk (fun hc => ?_) (fun hc => ?_)
      · rw [if_pos hc] at h k
        obtain ⟨h1, h⟩ := h; refine ⟨h1, ?_⟩; clear h1
        obtain ⟨h1, h⟩ := h; refine ⟨h1, ?_⟩; clear h1
        obtain ⟨h1, h⟩ := h; refine ⟨h1, ?_⟩; clear h1
        obtain ⟨h1, h⟩ := h
        refine v48 _ _ _ _ h1 ?_
        (try dsimp only at h); (try dsimp only at k); (try dsimp only)
        exact k
      · rw [if_neg (nf_Pf1 hc)] at h k
        refine br_mk (fun hc => ?_) (fun hc => ?_)
        · rw [if_pos hc] at h k
          refine br_mk (fun hc => ?_) (fun hc => ?_)
          · rw [if_pos hc] at h k
            obtain ⟨h1, h⟩ := h; refine ⟨h1, ?_⟩; clear h1
            obtain ⟨h1, h⟩ := h; refine ⟨h1, ?_⟩; clear h1
            obtain ⟨h1, h⟩ := h; refine ⟨h1, ?_⟩; clear h1
            obtain ⟨h1, h⟩ := h
            refine v49 _ _ _ _ h1 ?_
            (try dsimp only at h); (try dsimp only at k); (try dsimp only)
            exact k
          · rw [if_neg (nf_Pf1 hc)] at h k
            refine br_mk (fun hc => ?_) (fun hc => ?_)
            · rw [if_pos hc] at h k
              obtain ⟨h1, h⟩ := h; refine ⟨h1, ?_⟩; clear h1
              obtain ⟨h1, h⟩ := h; refine ⟨h1, ?_⟩; clear h1
              obtain ⟨h1, h⟩ := h; refine ⟨h1, ?_⟩; clear h1
              obtain ⟨h1, h⟩ := h
              refine v49 _ _ _ _ h1 ?_
              (try dsimp only at h); (try dsimp only at k); (try dsimp only)
              exact k
            · rw [if_neg (nf_Pf1 hc)] at h k
              exact k
        · rw [if_neg (nf_Pf1 hc)] at h k
          refine br_mk (fun hc => ?_) (fun hc => ?_)
          · rw [if_pos hc] at h k
            obtain ⟨h1, h⟩ := h; refine ⟨h1, ?_⟩; clear h1
            obtain ⟨h1, h⟩ := h; refine ⟨h1, ?_⟩; clear h1
            obtain ⟨h1, h⟩ := h; refine ⟨h1, ?_⟩; clear h1
            obtain ⟨h1, h⟩ := h
            refine v50 _ _ _ _ h1 ?_
            (try dsimp only at h); (try dsimp only at k); (try dsimp only)
            exact k
          · rw [if_neg (nf_Pf1 hc)] at h k
            refine br_mk (fun hc => ?_) (fun hc => ?_)
            · rw [if_pos hc] at h k
              obtain ⟨h1, h⟩ := h; refine ⟨h1, ?_⟩; clear h1
              obtain ⟨h1, h⟩ := h; refine ⟨h1, ?_⟩; clear h1
              obtain ⟨h1, h⟩ := h; refine ⟨h1, ?_⟩; clear h1
              obtain ⟨h1, h⟩ := h
              refine v51 _ _ _ _ h1 ?_
              (try dsimp only at h); (try dsimp only at k); (try dsimp only)
              exact k
            · rw [if_neg (nf_Pf1 hc)] at h k
              refine br_mk (fun hc => ?_) (fun hc => ?_)
              · rw [if_pos hc] at h k
                obtain ⟨h1, h⟩ := h; refine ⟨h1, ?_⟩; clear h1
                obtain ⟨h1, h⟩ := h; refine ⟨h1, ?_⟩; clear h1
                obtain ⟨h1, h⟩ := h; refine ⟨h1, ?_⟩; clear h1
                obtain ⟨h1, h⟩ := h
                refine v51 _ _ _ _ h1 ?_
                (try dsimp only at h); (try dsimp only at k); (try dsimp only)
                exact k
              · rw [if_neg (nf_Pf1 hc)] at h k
                refine br_mk (fun hc => ?_) (fun hc => ?_)
                · rw [if_pos hc] at h k
                  obtain ⟨h1, h⟩ := h; refine ⟨h1, ?_⟩; clear h1
                  obtain ⟨h1, h⟩ := h; refine ⟨h1, ?_⟩; clear h1
                  obtain ⟨h1, h⟩ := h; refine ⟨h1, ?_⟩; clear h1
                  obtain ⟨h1, h⟩ := h
                  refine v51 _ _ _ _ h1 ?_
                  (try dsimp only at h); (try dsimp only at k); (try dsimp only)
                  exact k
                · rw [if_neg (nf_Pf1 hc)] at h k
                  refine br_mk (fun hc => ?_) (fun hc => ?_)
                  · rw [if_pos hc] at h k
                    exact k
                  · rw [if_neg (nf_Pf1 hc)] at h k
                    refine br_mk (fun hc => ?_) (fun hc => ?_)
                    · rw [if_pos hc] at h k
                      refine br_mk (fun hc => ?_) (fun hc => ?_)
                      · rw [if_pos hc] at h k
                        obtain ⟨h1, h⟩ := h; refine ⟨h1, ?_⟩; clear h1
                        obtain ⟨h1, h⟩ := h; refine ⟨h1, ?_⟩; clear h1
                        obtain ⟨h1, h⟩ := h; refine ⟨h1, ?_⟩; clear h1
                        obtain ⟨h1, h⟩ := h
                        refine v48 _ _ _ _ h1 ?_
                        (try dsimp only at h); (try dsimp only at k); (try dsimp only)
                        exact k
                      · rw [if_neg (nf_Pf1 hc)] at h k
                        exact k
                    · rw [if_neg (nf_Pf1 hc)] at h k
                      refine br_mk (fun hc => ?_) (fun hc => ?_)
                      · rw [if_pos hc] at h k
                        obtain ⟨h1, h⟩ := h; refine ⟨h1, ?_⟩; clear h1
                        obtain ⟨h1, h⟩ := h; refine ⟨h1, ?_⟩; clear h1
                        obtain ⟨h1, h⟩ := h; refine ⟨h1, ?_⟩; clear h1
                        obtain ⟨h1, h⟩ := h
                        refine v52 _ _ _ _ h1 ?_
                        (try dsimp only at h); (try dsimp only at k); (try dsimp only)
                        exact k
                      · rw [if_neg (nf_Pf1 hc)] at h k
                        refine br_mk (fun hc => ?_) (fun hc => ?_)
                        · rw [if_pos hc] at h k
                          obtain ⟨h1, h⟩ := h; refine ⟨h1, ?_⟩; clear h1
                          obtain ⟨h1, h⟩ := h; refine ⟨h1, ?_⟩; clear h1
                          obtain ⟨h1, h⟩ := h; refine ⟨h1, ?_⟩; clear h1
                          obtain ⟨h1, h⟩ := h
                          refine v52 _ _ _ _ h1 ?_
                          (try dsimp only at h); (try dsimp only at k); (try dsimp only)
                          exact k
                        · rw [if_neg (nf_Pf1 hc)] at h k
                          obtain ⟨h1, h⟩ := h; refine ⟨h1, ?_⟩; clear h1
                          obtain ⟨h1, h⟩ := h; refine ⟨h1, ?_⟩; clear h1
                          obtain ⟨h1, h⟩ := h; refine ⟨h1, ?_⟩; clear h1
                          obtain ⟨h1, h⟩ := h
                          refine v53 _ _ _ _ h1 ?_
                          (try dsimp only at h); (try dsimp only at k); (try dsimp only)
                          exact k
end Go.Proofs.YtojdmhfkgkfpaaaDoor
