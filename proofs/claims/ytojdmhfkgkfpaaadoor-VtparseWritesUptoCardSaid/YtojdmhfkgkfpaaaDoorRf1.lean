/- Layer 05, the reference: pure functions. Printed by tools/fgen.py. -/
import Derived.Test.YtojdmhfkgkfpaaaDoorLor
set_option linter.unusedVariables false
set_option linter.unusedSimpArgs false
set_option maxRecDepth 100000
namespace Go.Proofs.YtojdmhfkgkfpaaaDoor
open Go.AM Go.LTxt Go.LMem Go.RowKit
theorem nf_Rf1 {b : Bool} (h : b = false) : ¬ b = true := by rw [h]; decide
noncomputable def f47 (b : List Dat) : (List Dat) :=
  (fun y1 => (y1)) (f47_2 [] b)
def s47 (b : List Dat) : Prop :=
  (s47_2 [] b ∧ (fun y1 => True) (f47_2 [] b))
theorem v47 (b : List Dat) (K : List Dat → Prop) (h : s47 b) (k : K (f47 b)) : m47 b K := by
  unfold m47
  unfold s47 at h
  unfold f47 at k
  obtain ⟨h1, h⟩ := h
  refine (vl47_2 _ _ _ h1 ?_).elim fun n hn => ⟨n, rfl, hn⟩
  (try dsimp only at h); (try dsimp only at k); (try dsimp only)
  exact k
noncomputable def f32 (r : RS) : RS × (List Dat) :=
  (fun y0 => ({ r with db := [] }, y0)) (f47 (List.take (List.length (RS.db r)) (RS.db r)))
def s32 (r : RS) : Prop :=
  ((decide ((0 : Nat) + List.length (RS.db r) ≤ List.length (RS.db r))) = true ∧ (s47 (List.take (List.length (RS.db r)) (RS.db r)) ∧ (fun y0 => True) (f47 (List.take (List.length (RS.db r)) (RS.db r)))))
theorem v32 (r : RS) (K : RS → List Dat → Prop) (h : s32 r) (k : K ((f32 r).1) ((f32 r).2)) : m32 r K := by
  unfold m32
  unfold s32 at h
  unfold f32 at k
  obtain ⟨h1, h⟩ := h; refine req_mk h1 ?_; clear h1
  obtain ⟨h1, h⟩ := h
  refine v47 _ _ h1 ?_
  (try dsimp only at h); (try dsimp only at k); (try dsimp only)
  exact k
noncomputable def f46 (r : RS) (a : Int) (a2 : Int) (a3 : Int) (a4 : Int) (a5 : List Dat) (a6 : ByteArray) (a7 : ByteArray) : RS :=
  ({ r with out := dapp (RS.out r) (0 : Nat) (List.length (RS.out r)) [Dat.pair (Dat.int a) (Dat.pair (Dat.int a2) (Dat.pair (Dat.int a3) (Dat.pair (Dat.int a4) (Dat.pair (Dat.list a5) (Dat.pair (Dat.str a6) (Dat.pair (Dat.str a7) (Dat.int (0 : Int))))))))] })
def s46 (r : RS) (a : Int) (a2 : Int) (a3 : Int) (a4 : Int) (a5 : List Dat) (a6 : ByteArray) (a7 : ByteArray) : Prop :=
  ((appOK (RS.out r) (0 : Nat) (List.length (RS.out r)) (1 : Nat) (72 : Nat)) = true ∧ True)
theorem v46 (r : RS) (a : Int) (a2 : Int) (a3 : Int) (a4 : Int) (a5 : List Dat) (a6 : ByteArray) (a7 : ByteArray) (K : RS → Prop) (h : s46 r a a2 a3 a4 a5 a6 a7) (k : K (f46 r a a2 a3 a4 a5 a6 a7)) : m46 r a a2 a3 a4 a5 a6 a7 K := by
  unfold m46
  unfold s46 at h
  unfold f46 at k
  obtain ⟨h1, h⟩ := h; refine req_mk h1 ?_; clear h1
  exact k
noncomputable def f31 (r : RS) (l : List Dat) : RS :=
  (fun y1 => (y1)) (f31_1 r l (0 : Int))
def s31 (r : RS) (l : List Dat) : Prop :=
  (s31_1 r l (0 : Int) ∧ (fun y1 => True) (f31_1 r l (0 : Int)))
theorem v31 (r : RS) (l : List Dat) (K : RS → Prop) (h : s31 r l) (k : K (f31 r l)) : m31 r l K := by
  unfold m31
  unfold s31 at h
  unfold f31 at k
  obtain ⟨h1, h⟩ := h
  refine (vl31_1 _ _ _ _ h1 ?_).elim fun n hn => ⟨n, rfl, rfl, rfl, hn⟩
  (try dsimp only at h); (try dsimp only at k); (try dsimp only)
  exact k
noncomputable def f56 (r : RS) : RS :=
  ({ r with private_ := (0 : Int), params := [], many := (0 : Int), inter := { data := #[] }, text := { data := #[] }, final := (0 : Int) })
def s56 (r : RS) : Prop :=
  True
theorem v56 (r : RS) (K : RS → Prop) (h : s56 r) (k : K (f56 r)) : m56 r K := by
  unfold m56
  unfold s56 at h
  unfold f56 at k
  exact k
noncomputable def f74 (r : RS) (x' : Int) : RS :=
  (if (decide ((↑(ByteArray.size (RS.inter r)) : Int) < (2 : Int))) = true then ({ r with inter := RS.inter r ++ Utf8.encode x' }) else (r))
def s74 (r : RS) (x' : Int) : Prop :=
  (if (decide ((↑(ByteArray.size (RS.inter r)) : Int) < (2 : Int))) = true then ((inR IntKind.i32 x') = true ∧ ((decide (ByteArray.size (RS.inter r) + ByteArray.size (Utf8.encode x') ≤ (9223372036854775807 : Nat))) = true ∧ True)) else True)
theorem v74 (r : RS) (x' : Int) (K : RS → Prop) (h : s74 r x') (k : K (f74 r x')) : m74 r x' K := by
  unfold m74
  unfold s74 at h
  unfold f74 at k
  refine br_mk (fun hc => ?_) (fun hc => ?_)
  · rw [if_pos hc] at h k
    obtain ⟨h1, h⟩ := h; refine req_mk h1 ?_; clear h1
    obtain ⟨h1, h⟩ := h; refine req_mk h1 ?_; clear h1
    exact k
  · rw [if_neg (nf_Rf1 hc)] at h k
    exact k
noncomputable def f72 (r : RS) (x' : Int) : RS :=
  (if (decide ((↑(ByteArray.size (RS.text r)) : Int) < (1024 : Int))) = true then ({ r with text := RS.text r ++ strD [Dat.int x'] }) else (r))
def s72 (r : RS) (x' : Int) : Prop :=
  (if (decide ((↑(ByteArray.size (RS.text r)) : Int) < (1024 : Int))) = true then ((decide (ByteArray.size (RS.text r) + ByteArray.size (strD [Dat.int x']) ≤ (9223372036854775807 : Nat))) = true ∧ True) else True)
theorem v72 (r : RS) (x' : Int) (K : RS → Prop) (h : s72 r x') (k : K (f72 r x')) : m72 r x' K := by
  unfold m72
  unfold s72 at h
  unfold f72 at k
  refine br_mk (fun hc => ?_) (fun hc => ?_)
  · rw [if_pos hc] at h k
    obtain ⟨h1, h⟩ := h; refine req_mk h1 ?_; clear h1
    exact k
  · rw [if_neg (nf_Rf1 hc)] at h k
    exact k
noncomputable def f86 (r : RS) : RS :=
  (if (decide (RS.many r = (0 : Int))) = true then ({ r with params := dapp [Dat.int (-1 : Int)] (0 : Nat) (1 : Nat) [Dat.int (-1 : Int)], many := (1 : Int) + (1 : Int) }) else (if (decide (RS.many r ≤ (16 : Int))) = true then (if (decide (RS.many r + (1 : Int) ≤ (16 : Int))) = true then ({ r with params := dapp (RS.params r) (0 : Nat) (List.length (RS.params r)) [Dat.int (-1 : Int)], many := RS.many r + (1 : Int) }) else ({ r with many := RS.many r + (1 : Int) })) else (if (decide (RS.many r ≤ (16 : Int))) = true then ({ r with params := dapp (RS.params r) (0 : Nat) (List.length (RS.params r)) [Dat.int (-1 : Int)] }) else (r))))
def s86 (r : RS) : Prop :=
  (if (decide (RS.many r = (0 : Int))) = true then ((appOK [Dat.int (-1 : Int)] (0 : Nat) (1 : Nat) (1 : Nat) (8 : Nat)) = true ∧ True) else (if (decide (RS.many r ≤ (16 : Int))) = true then ((inR IntKind.i64 (RS.many r + (1 : Int))) = true ∧ (if (decide (RS.many r + (1 : Int) ≤ (16 : Int))) = true then ((appOK (RS.params r) (0 : Nat) (List.length (RS.params r)) (1 : Nat) (8 : Nat)) = true ∧ True) else True)) else (if (decide (RS.many r ≤ (16 : Int))) = true then ((appOK (RS.params r) (0 : Nat) (List.length (RS.params r)) (1 : Nat) (8 : Nat)) = true ∧ True) else True)))
theorem v86 (r : RS) (K : RS → Prop) (h : s86 r) (k : K (f86 r)) : m86 r K := by
  unfold m86
  unfold s86 at h
  unfold f86 at k
  refine br_mk (fun hc => ?_) (fun hc => ?_)
  · rw [if_pos hc] at h k
    obtain ⟨h1, h⟩ := h; refine req_mk h1 ?_; clear h1
    exact k
  · rw [if_neg (nf_Rf1 hc)] at h k
    refine br_mk (fun hc => ?_) (fun hc => ?_)
    · rw [if_pos hc] at h k
      obtain ⟨h1, h⟩ := h; refine req_mk h1 ?_; clear h1
      refine br_mk (fun hc => ?_) (fun hc => ?_)
      · rw [if_pos hc] at h k
        obtain ⟨h1, h⟩ := h; refine req_mk h1 ?_; clear h1
        exact k
      · rw [if_neg (nf_Rf1 hc)] at h k
        exact k
    · rw [if_neg (nf_Rf1 hc)] at h k
      refine br_mk (fun hc => ?_) (fun hc => ?_)
      · rw [if_pos hc] at h k
        obtain ⟨h1, h⟩ := h; refine req_mk h1 ?_; clear h1
        exact k
      · rw [if_neg (nf_Rf1 hc)] at h k
        exact k
noncomputable def f87 (r : RS) (x' : Int) : RS :=
  (if (decide (RS.many r = (0 : Int))) = true then ({ r with params := [Dat.int (if false = true then max ((if true = true then max (-1 : Int) (0 : Int) else min (-1 : Int) (0 : Int)) * (10 : Int) + IntKind.wrap IntKind.u8 (x' - (48 : Int))) (65535 : Int) else min ((if true = true then max (-1 : Int) (0 : Int) else min (-1 : Int) (0 : Int)) * (10 : Int) + IntKind.wrap IntKind.u8 (x' - (48 : Int))) (65535 : Int))], many := (1 : Int) }) else (if (decide ((16 : Int) < RS.many r)) = true then ({ r with params := dcut (RS.params r) (0 : Nat) (List.length (RS.params r)) }) else ({ r with params := dcut (List.set (RS.params r) ((0 : Nat) + Int.toNat ((↑(List.length (RS.params r)) : Int) - (1 : Int))) (Dat.int (if false = true then max ((if true = true then max (Dat.toInt (List.getD (RS.params r) ((0 : Nat) + Int.toNat ((↑(List.length (RS.params r)) : Int) - (1 : Int))) default)) (0 : Int) else min (Dat.toInt (List.getD (RS.params r) ((0 : Nat) + Int.toNat ((↑(List.length (RS.params r)) : Int) - (1 : Int))) default)) (0 : Int)) * (10 : Int) + IntKind.wrap IntKind.u8 (x' - (48 : Int))) (65535 : Int) else min ((if true = true then max (Dat.toInt (List.getD (RS.params r) ((0 : Nat) + Int.toNat ((↑(List.length (RS.params r)) : Int) - (1 : Int))) default)) (0 : Int) else min (Dat.toInt (List.getD (RS.params r) ((0 : Nat) + Int.toNat ((↑(List.length (RS.params r)) : Int) - (1 : Int))) default)) (0 : Int)) * (10 : Int) + IntKind.wrap IntKind.u8 (x' - (48 : Int))) (65535 : Int)))) (0 : Nat) (List.length (RS.params r)) })))
def s87 (r : RS) (x' : Int) : Prop :=
  (if (decide (RS.many r = (0 : Int))) = true then ((inR IntKind.i64 (IntKind.wrap IntKind.u8 (x' - (48 : Int)))) = true ∧ ((inR IntKind.i64 ((if true = true then max (-1 : Int) (0 : Int) else min (-1 : Int) (0 : Int)) * (10 : Int) + IntKind.wrap IntKind.u8 (x' - (48 : Int)))) = true ∧ True)) else (if (decide ((16 : Int) < RS.many r)) = true then ((decide ((0 : Nat) + List.length (RS.params r) ≤ List.length (RS.params r))) = true ∧ True) else ((inR IntKind.i64 ((↑(List.length (RS.params r)) : Int) - (1 : Int))) = true ∧ ((decide ((0 : Int) ≤ (↑(List.length (RS.params r)) : Int) - (1 : Int)) && decide ((↑(List.length (RS.params r)) : Int) - (1 : Int) < (↑(List.length (RS.params r)) : Int))) = true ∧ ((decide ((0 : Nat) + Int.toNat ((↑(List.length (RS.params r)) : Int) - (1 : Int)) < List.length (RS.params r))) = true ∧ ((inR IntKind.i64 ((if true = true then max (Dat.toInt (List.getD (RS.params r) ((0 : Nat) + Int.toNat ((↑(List.length (RS.params r)) : Int) - (1 : Int))) default)) (0 : Int) else min (Dat.toInt (List.getD (RS.params r) ((0 : Nat) + Int.toNat ((↑(List.length (RS.params r)) : Int) - (1 : Int))) default)) (0 : Int)) * (10 : Int))) = true ∧ ((inR IntKind.i64 (IntKind.wrap IntKind.u8 (x' - (48 : Int)))) = true ∧ ((inR IntKind.i64 ((if true = true then max (Dat.toInt (List.getD (RS.params r) ((0 : Nat) + Int.toNat ((↑(List.length (RS.params r)) : Int) - (1 : Int))) default)) (0 : Int) else min (Dat.toInt (List.getD (RS.params r) ((0 : Nat) + Int.toNat ((↑(List.length (RS.params r)) : Int) - (1 : Int))) default)) (0 : Int)) * (10 : Int) + IntKind.wrap IntKind.u8 (x' - (48 : Int)))) = true ∧ ((decide ((0 : Int) ≤ (↑(List.length (RS.params r)) : Int) - (1 : Int)) && decide ((↑(List.length (RS.params r)) : Int) - (1 : Int) < (↑(List.length (RS.params r)) : Int))) = true ∧ ((decide ((0 : Nat) + Int.toNat ((↑(List.length (RS.params r)) : Int) - (1 : Int)) < List.length (RS.params r))) = true ∧ ((decide ((0 : Nat) + List.length (RS.params r) ≤ List.length (List.set (RS.params r) ((0 : Nat) + Int.toNat ((↑(List.length (RS.params r)) : Int) - (1 : Int))) (Dat.int (if false = true then max ((if true = true then max (Dat.toInt (List.getD (RS.params r) ((0 : Nat) + Int.toNat ((↑(List.length (RS.params r)) : Int) - (1 : Int))) default)) (0 : Int) else min (Dat.toInt (List.getD (RS.params r) ((0 : Nat) + Int.toNat ((↑(List.length (RS.params r)) : Int) - (1 : Int))) default)) (0 : Int)) * (10 : Int) + IntKind.wrap IntKind.u8 (x' - (48 : Int))) (65535 : Int) else min ((if true = true then max (Dat.toInt (List.getD (RS.params r) ((0 : Nat) + Int.toNat ((↑(List.length (RS.params r)) : Int) - (1 : Int))) default)) (0 : Int) else min (Dat.toInt (List.getD (RS.params r) ((0 : Nat) + Int.toNat ((↑(List.length (RS.params r)) : Int) - (1 : Int))) default)) (0 : Int)) * (10 : Int) + IntKind.wrap IntKind.u8 (x' - (48 : Int))) (65535 : Int)))))) = true ∧ True)))))))))))
theorem v87 (r : RS) (x' : Int) (K : RS → Prop) (h : s87 r x') (k : K (f87 r x')) : m87 r x' K := by
  unfold m87
  unfold s87 at h
  unfold f87 at k
  refine br_mk (fun hc => ?_) (fun hc => ?_)
  · rw [if_pos hc] at h k
    obtain ⟨h1, h⟩ := h; refine req_mk h1 ?_; clear h1
    obtain ⟨h1, h⟩ := h; refine req_mk h1 ?_; clear h1
    exact k
  · rw [if_neg (nf_Rf1 hc)] at h k
    refine br_mk (fun hc => ?_) (fun hc => ?_)
    · rw [if_pos hc] at h k
      obtain ⟨h1, h⟩ := h; refine req_mk h1 ?_; clear h1
      exact k
    · rw [if_neg (nf_Rf1 hc)] at h k
      obtain ⟨h1, h⟩ := h; refine req_mk h1 ?_; clear h1
      obtain ⟨h1, h⟩ := h; refine req_mk h1 ?_; clear h1
      obtain ⟨h1, h⟩ := h; refine req_mk h1 ?_; clear h1
      obtain ⟨h1, h⟩ := h; refine req_mk h1 ?_; clear h1
      obtain ⟨h1, h⟩ := h; refine req_mk h1 ?_; clear h1
      obtain ⟨h1, h⟩ := h; refine req_mk h1 ?_; clear h1
      obtain ⟨h1, h⟩ := h; refine req_mk h1 ?_; clear h1
      obtain ⟨h1, h⟩ := h; refine req_mk h1 ?_; clear h1
      obtain ⟨h1, h⟩ := h; refine req_mk h1 ?_; clear h1
      exact k
noncomputable def f85 (r : RS) (x' : Int) : RS :=
  (if (decide ((7 : Int) ≤ RS.state r)) = true then (if (decide (RS.state r = (10 : Int))) = true then ({ r with state := (13 : Int), final := x' }) else ({ r with state := (11 : Int), final := x' })) else (if (!decide (RS.state r = (6 : Int))) = true then (fun y0 => ({ y0 with state := (0 : Int) })) (f46 r (4 : Int) (0 : Int) x' (RS.private_ r) (List.take (List.length (List.take (List.length (RS.params r)) (RS.params r))) (List.take (List.length (RS.params r)) (RS.params r))) (RS.inter r) { data := #[] }) else ({ r with state := (0 : Int) })))
def s85 (r : RS) (x' : Int) : Prop :=
  (if (decide ((7 : Int) ≤ RS.state r)) = true then (if (decide (RS.state r = (10 : Int))) = true then True else True) else (if (!decide (RS.state r = (6 : Int))) = true then ((decide ((0 : Nat) + List.length (RS.params r) ≤ List.length (RS.params r))) = true ∧ ((decide (List.length (List.take (List.length (RS.params r)) (RS.params r)) * (8 : Nat) ≤ (140737488351232 : Nat))) = true ∧ ((decide ((0 : Nat) + List.length (List.take (List.length (RS.params r)) (RS.params r)) ≤ List.length (List.take (List.length (RS.params r)) (RS.params r)))) = true ∧ ((List.length (RS.db r) = List.length (RS.db r)) ∧ ((List.length (RS.params r) = List.length (RS.params r)) ∧ ((List.length (RS.out r) = List.length (RS.out r)) ∧ (s46 r (4 : Int) (0 : Int) x' (RS.private_ r) (List.take (List.length (List.take (List.length (RS.params r)) (RS.params r))) (List.take (List.length (RS.params r)) (RS.params r))) (RS.inter r) { data := #[] } ∧ (fun y0 => True) (f46 r (4 : Int) (0 : Int) x' (RS.private_ r) (List.take (List.length (List.take (List.length (RS.params r)) (RS.params r))) (List.take (List.length (RS.params r)) (RS.params r))) (RS.inter r) { data := #[] })))))))) else True))
theorem v85 (r : RS) (x' : Int) (K : RS → Prop) (h : s85 r x') (k : K (f85 r x')) : m85 r x' K := by
  unfold m85
  unfold s85 at h
  unfold f85 at k
  refine br_mk (fun hc => ?_) (fun hc => ?_)
  · rw [if_pos hc] at h k
    refine br_mk (fun hc => ?_) (fun hc => ?_)
    · rw [if_pos hc] at h k
      exact k
    · rw [if_neg (nf_Rf1 hc)] at h k
      exact k
  · rw [if_neg (nf_Rf1 hc)] at h k
    refine br_mk (fun hc => ?_) (fun hc => ?_)
    · rw [if_pos hc] at h k
      obtain ⟨h1, h⟩ := h; refine req_mk h1 ?_; clear h1
      obtain ⟨h1, h⟩ := h; refine req_mk h1 ?_; clear h1
      obtain ⟨h1, h⟩ := h; refine req_mk h1 ?_; clear h1
      obtain ⟨h1, h⟩ := h; refine ⟨h1, ?_⟩; clear h1
      obtain ⟨h1, h⟩ := h; refine ⟨h1, ?_⟩; clear h1
      obtain ⟨h1, h⟩ := h; refine ⟨h1, ?_⟩; clear h1
      obtain ⟨h1, h⟩ := h
      refine v46 _ _ _ _ _ _ _ _ _ h1 ?_
      (try dsimp only at h); (try dsimp only at k); (try dsimp only)
      exact k
    · rw [if_neg (nf_Rf1 hc)] at h k
      exact k
noncomputable def f58 (r : RS) (x' : Int) : RS :=
  (if (decide ((7 : Int) ≤ RS.state r)) = true then (if (decide (RS.state r ≤ (10 : Int))) = true then (r) else (fun y0 => (y0)) (f46 r (2 : Int) (0 : Int) x' (0 : Int) [] { data := #[] } { data := #[] })) else (fun y1 => (y1)) (f46 r (2 : Int) (0 : Int) x' (0 : Int) [] { data := #[] } { data := #[] }))
def s58 (r : RS) (x' : Int) : Prop :=
  (if (decide ((7 : Int) ≤ RS.state r)) = true then (if (decide (RS.state r ≤ (10 : Int))) = true then True else ((List.length (RS.db r) = List.length (RS.db r)) ∧ ((List.length (RS.params r) = List.length (RS.params r)) ∧ ((List.length (RS.out r) = List.length (RS.out r)) ∧ (s46 r (2 : Int) (0 : Int) x' (0 : Int) [] { data := #[] } { data := #[] } ∧ (fun y0 => True) (f46 r (2 : Int) (0 : Int) x' (0 : Int) [] { data := #[] } { data := #[] })))))) else ((List.length (RS.db r) = List.length (RS.db r)) ∧ ((List.length (RS.params r) = List.length (RS.params r)) ∧ ((List.length (RS.out r) = List.length (RS.out r)) ∧ (s46 r (2 : Int) (0 : Int) x' (0 : Int) [] { data := #[] } { data := #[] } ∧ (fun y1 => True) (f46 r (2 : Int) (0 : Int) x' (0 : Int) [] { data := #[] } { data := #[] }))))))
theorem v58 (r : RS) (x' : Int) (K : RS → Prop) (h : s58 r x') (k : K (f58 r x')) : m58 r x' K := by
  unfold m58
  unfold s58 at h
  unfold f58 at k
  refine br_mk (fun hc => ?_) (fun hc => ?_)
  · rw [if_pos hc] at h k
    refine br_mk (fun hc => ?_) (fun hc => ?_)
    · rw [if_pos hc] at h k
      exact k
    · rw [if_neg (nf_Rf1 hc)] at h k
      obtain ⟨h1, h⟩ := h; refine ⟨h1, ?_⟩; clear h1
      obtain ⟨h1, h⟩ := h; refine ⟨h1, ?_⟩; clear h1
      obtain ⟨h1, h⟩ := h; refine ⟨h1, ?_⟩; clear h1
      obtain ⟨h1, h⟩ := h
      refine v46 _ _ _ _ _ _ _ _ _ h1 ?_
      (try dsimp only at h); (try dsimp only at k); (try dsimp only)
      exact k
  · rw [if_neg (nf_Rf1 hc)] at h k
    obtain ⟨h1, h⟩ := h; refine ⟨h1, ?_⟩; clear h1
    obtain ⟨h1, h⟩ := h; refine ⟨h1, ?_⟩; clear h1
    obtain ⟨h1, h⟩ := h; refine ⟨h1, ?_⟩; clear h1
    obtain ⟨h1, h⟩ := h
    refine v46 _ _ _ _ _ _ _ _ _ h1 ?_
    (try dsimp only at h); (try dsimp only at k); (try dsimp only)
    exact k
noncomputable def f57 (r : RS) (x' : Int) : RS :=
  (if (decide (RS.state r = (11 : Int))) = true then (if (!decide (x' = (127 : Int))) = true then (fun y0 => (y0)) (f72 r x') else (r)) else (if (decide (x' = (7 : Int))) = true then (fun y1 => ({ y1 with state := (0 : Int) })) (f46 r (5 : Int) (0 : Int) (0 : Int) (0 : Int) [] { data := #[] } (RS.text r)) else (if (decide ((32 : Int) ≤ x')) = true then (fun y2 => (y2)) (f72 r x') else (r))))
def s57 (r : RS) (x' : Int) : Prop :=
  (if (decide (RS.state r = (11 : Int))) = true then (if (!decide (x' = (127 : Int))) = true then ((List.length (RS.db r) = List.length (RS.db r)) ∧ ((List.length (RS.params r) = List.length (RS.params r)) ∧ ((List.length (RS.out r) = List.length (RS.out r)) ∧ (s72 r x' ∧ (fun y0 => True) (f72 r x'))))) else True) else (if (decide (x' = (7 : Int))) = true then ((List.length (RS.db r) = List.length (RS.db r)) ∧ ((List.length (RS.params r) = List.length (RS.params r)) ∧ ((List.length (RS.out r) = List.length (RS.out r)) ∧ (s46 r (5 : Int) (0 : Int) (0 : Int) (0 : Int) [] { data := #[] } (RS.text r) ∧ (fun y1 => True) (f46 r (5 : Int) (0 : Int) (0 : Int) (0 : Int) [] { data := #[] } (RS.text r)))))) else (if (decide ((32 : Int) ≤ x')) = true then ((List.length (RS.db r) = List.length (RS.db r)) ∧ ((List.length (RS.params r) = List.length (RS.params r)) ∧ ((List.length (RS.out r) = List.length (RS.out r)) ∧ (s72 r x' ∧ (fun y2 => True) (f72 r x'))))) else True)))
theorem v57 (r : RS) (x' : Int) (K : RS → Prop) (h : s57 r x') (k : K (f57 r x')) : m57 r x' K := by
  unfold m57
  unfold s57 at h
  unfold f57 at k
  refine br_mk (fun hc => ?_) (fun hc => ?_)
  · rw [if_pos hc] at h k
    refine br_mk (fun hc => ?_) (fun hc => ?_)
    · rw [if_pos hc] at h k
      obtain ⟨h1, h⟩ := h; refine ⟨h1, ?_⟩; clear h1
      obtain ⟨h1, h⟩ := h; refine ⟨h1, ?_⟩; clear h1
      obtain ⟨h1, h⟩ := h; refine ⟨h1, ?_⟩; clear h1
      obtain ⟨h1, h⟩ := h
      refine v72 _ _ _ h1 ?_
      (try dsimp only at h); (try dsimp only at k); (try dsimp only)
      exact k
    · rw [if_neg (nf_Rf1 hc)] at h k
      exact k
  · rw [if_neg (nf_Rf1 hc)] at h k
    refine br_mk (fun hc => ?_) (fun hc => ?_)
    · rw [if_pos hc] at h k
      obtain ⟨h1, h⟩ := h; refine ⟨h1, ?_⟩; clear h1
      obtain ⟨h1, h⟩ := h; refine ⟨h1, ?_⟩; clear h1
      obtain ⟨h1, h⟩ := h; refine ⟨h1, ?_⟩; clear h1
      obtain ⟨h1, h⟩ := h
      refine v46 _ _ _ _ _ _ _ _ _ h1 ?_
      (try dsimp only at h); (try dsimp only at k); (try dsimp only)
      exact k
    · rw [if_neg (nf_Rf1 hc)] at h k
      refine br_mk (fun hc => ?_) (fun hc => ?_)
      · rw [if_pos hc] at h k
        obtain ⟨h1, h⟩ := h; refine ⟨h1, ?_⟩; clear h1
        obtain ⟨h1, h⟩ := h; refine ⟨h1, ?_⟩; clear h1
        obtain ⟨h1, h⟩ := h; refine ⟨h1, ?_⟩; clear h1
        obtain ⟨h1, h⟩ := h
        refine v72 _ _ _ h1 ?_
        (try dsimp only at h); (try dsimp only at k); (try dsimp only)
        exact k
      · rw [if_neg (nf_Rf1 hc)] at h k
        exact k
noncomputable def f73 (r : RS) (x' : Int) : RS :=
  (if (decide (x' < (48 : Int))) = true then (fun y0 => ({ y0 with state := (2 : Int) })) (f74 r x') else (if (decide (x' = (91 : Int))) = true then ({ r with state := (3 : Int) }) else (if (decide (x' = (93 : Int))) = true then ({ r with state := (12 : Int) }) else (if (decide (x' = (80 : Int))) = true then ({ r with state := (7 : Int) }) else (if (decide (x' = (88 : Int))) = true then ({ r with state := (13 : Int) }) else (if (decide (x' = (94 : Int))) = true then ({ r with state := (13 : Int) }) else (if (decide (x' = (95 : Int))) = true then ({ r with state := (13 : Int) }) else (if (decide (x' = (92 : Int))) = true then ({ r with state := (0 : Int) }) else (fun y1 => ({ y1 with state := (0 : Int) })) (f46 r (3 : Int) (0 : Int) x' (0 : Int) [] { data := #[] } { data := #[] })))))))))
def s73 (r : RS) (x' : Int) : Prop :=
  (if (decide (x' < (48 : Int))) = true then ((List.length (RS.db r) = List.length (RS.db r)) ∧ ((List.length (RS.params r) = List.length (RS.params r)) ∧ ((List.length (RS.out r) = List.length (RS.out r)) ∧ (s74 r x' ∧ (fun y0 => True) (f74 r x'))))) else (if (decide (x' = (91 : Int))) = true then True else (if (decide (x' = (93 : Int))) = true then True else (if (decide (x' = (80 : Int))) = true then True else (if (decide (x' = (88 : Int))) = true then True else (if (decide (x' = (94 : Int))) = true then True else (if (decide (x' = (95 : Int))) = true then True else (if (decide (x' = (92 : Int))) = true then True else ((List.length (RS.db r) = List.length (RS.db r)) ∧ ((List.length (RS.params r) = List.length (RS.params r)) ∧ ((List.length (RS.out r) = List.length (RS.out r)) ∧ (s46 r (3 : Int) (0 : Int) x' (0 : Int) [] { data := #[] } { data := #[] } ∧ (fun y1 => True) (f46 r (3 : Int) (0 : Int) x' (0 : Int) [] { data := #[] } { data := #[] })))))))))))))
theorem v73 (r : RS) (x' : Int) (K : RS → Prop) (h : s73 r x') (k : K (f73 r x')) : m73 r x' K := by
  unfold m73
  unfold s73 at h
  unfold f73 at k
  refine br_mk (fun hc => ?_) (fun hc => ?_)
  · rw [if_pos hc] at h k
    obtain ⟨h1, h⟩ := h; refine ⟨h1, ?_⟩; clear h1
    obtain ⟨h1, h⟩ := h; refine ⟨h1, ?_⟩; clear h1
    obtain ⟨h1, h⟩ := h; refine ⟨h1, ?_⟩; clear h1
    obtain ⟨h1, h⟩ := h
    refine v74 _ _ _ h1 ?_
    (try dsimp only at h); (try dsimp only at k); (try dsimp only)
    exact k
  · rw [if_neg (nf_Rf1 hc)] at h k
    refine br_mk (fun hc => ?_) (fun hc => ?_)
    · rw [if_pos hc] at h k
      exact k
    · rw [if_neg (nf_Rf1 hc)] at h k
      refine br_mk (fun hc => ?_) (fun hc => ?_)
      · rw [if_pos hc] at h k
        exact k
      · rw [if_neg (nf_Rf1 hc)] at h k
        refine br_mk (fun hc => ?_) (fun hc => ?_)
        · rw [if_pos hc] at h k
          exact k
        · rw [if_neg (nf_Rf1 hc)] at h k
          refine br_mk (fun hc => ?_) (fun hc => ?_)
          · rw [if_pos hc] at h k
            exact k
          · rw [if_neg (nf_Rf1 hc)] at h k
            refine br_mk (fun hc => ?_) (fun hc => ?_)
            · rw [if_pos hc] at h k
              exact k
            · rw [if_neg (nf_Rf1 hc)] at h k
              refine br_mk (fun hc => ?_) (fun hc => ?_)
              · rw [if_pos hc] at h k
                exact k
              · rw [if_neg (nf_Rf1 hc)] at h k
                refine br_mk (fun hc => ?_) (fun hc => ?_)
                · rw [if_pos hc] at h k
                  exact k
                · rw [if_neg (nf_Rf1 hc)] at h k
                  obtain ⟨h1, h⟩ := h; refine ⟨h1, ?_⟩; clear h1
                  obtain ⟨h1, h⟩ := h; refine ⟨h1, ?_⟩; clear h1
                  obtain ⟨h1, h⟩ := h; refine ⟨h1, ?_⟩; clear h1
                  obtain ⟨h1, h⟩ := h
                  refine v46 _ _ _ _ _ _ _ _ _ h1 ?_
                  (try dsimp only at h); (try dsimp only at k); (try dsimp only)
                  exact k
noncomputable def f75 (r : RS) (x' : Int) : RS :=
  (if (decide ((7 : Int) ≤ RS.state r)) = true then (if (decide ((64 : Int) ≤ x')) = true then (fun y0 => (y0)) (f85 r x') else (if (decide (RS.state r - (7 : Int) = (3 : Int))) = true then (r) else (if (decide (x' < (48 : Int))) = true then (fun y1 => ({ y1 with state := (7 : Int) + (2 : Int) })) (f74 r x') else (if (decide (RS.state r - (7 : Int) = (2 : Int))) = true then ({ r with state := (7 : Int) + (3 : Int) }) else (if (decide (x' = (58 : Int))) = true then ({ r with state := (7 : Int) + (3 : Int) }) else (if (decide (RS.state r - (7 : Int) = (1 : Int))) = true then (if (decide ((60 : Int) ≤ x')) = true then ({ r with state := (7 : Int) + (3 : Int) }) else (if (decide ((60 : Int) ≤ x')) = true then ({ r with state := (7 : Int) + (1 : Int), private_ := x' }) else (if (decide (x' = (59 : Int))) = true then (fun y2 => ({ y2 with state := (7 : Int) + (1 : Int) })) (f86 r) else (fun y3 => ({ y3 with state := (7 : Int) + (1 : Int) })) (f87 r x')))) else (if (decide ((60 : Int) ≤ x')) = true then ({ r with state := (7 : Int) + (1 : Int), private_ := x' }) else (if (decide (x' = (59 : Int))) = true then (fun y4 => ({ y4 with state := (7 : Int) + (1 : Int) })) (f86 r) else (fun y5 => ({ y5 with state := (7 : Int) + (1 : Int) })) (f87 r x'))))))))) else (if (decide ((64 : Int) ≤ x')) = true then (fun y6 => (y6)) (f85 r x') else (if (decide (RS.state r - (3 : Int) = (3 : Int))) = true then (r) else (if (decide (x' < (48 : Int))) = true then (fun y7 => ({ y7 with state := (3 : Int) + (2 : Int) })) (f74 r x') else (if (decide (RS.state r - (3 : Int) = (2 : Int))) = true then ({ r with state := (3 : Int) + (3 : Int) }) else (if (decide (x' = (58 : Int))) = true then ({ r with state := (3 : Int) + (3 : Int) }) else (if (decide (RS.state r - (3 : Int) = (1 : Int))) = true then (if (decide ((60 : Int) ≤ x')) = true then ({ r with state := (3 : Int) + (3 : Int) }) else (if (decide ((60 : Int) ≤ x')) = true then ({ r with state := (3 : Int) + (1 : Int), private_ := x' }) else (if (decide (x' = (59 : Int))) = true then (fun y8 => ({ y8 with state := (3 : Int) + (1 : Int) })) (f86 r) else (fun y9 => ({ y9 with state := (3 : Int) + (1 : Int) })) (f87 r x')))) else (if (decide ((60 : Int) ≤ x')) = true then ({ r with state := (3 : Int) + (1 : Int), private_ := x' }) else (if (decide (x' = (59 : Int))) = true then (fun y10 => ({ y10 with state := (3 : Int) + (1 : Int) })) (f86 r) else (fun y11 => ({ y11 with state := (3 : Int) + (1 : Int) })) (f87 r x'))))))))))
def s75 (r : RS) (x' : Int) : Prop :=
  (if (decide ((7 : Int) ≤ RS.state r)) = true then ((inR IntKind.i64 (RS.state r - (7 : Int))) = true ∧ (if (decide ((64 : Int) ≤ x')) = true then ((List.length (RS.db r) = List.length (RS.db r)) ∧ ((List.length (RS.params r) = List.length (RS.params r)) ∧ ((List.length (RS.out r) = List.length (RS.out r)) ∧ (s85 r x' ∧ (fun y0 => True) (f85 r x'))))) else (if (decide (RS.state r - (7 : Int) = (3 : Int))) = true then True else (if (decide (x' < (48 : Int))) = true then ((List.length (RS.db r) = List.length (RS.db r)) ∧ ((List.length (RS.params r) = List.length (RS.params r)) ∧ ((List.length (RS.out r) = List.length (RS.out r)) ∧ (s74 r x' ∧ (fun y1 => True) (f74 r x'))))) else (if (decide (RS.state r - (7 : Int) = (2 : Int))) = true then True else (if (decide (x' = (58 : Int))) = true then True else (if (decide (RS.state r - (7 : Int) = (1 : Int))) = true then (if (decide ((60 : Int) ≤ x')) = true then True else (if (decide ((60 : Int) ≤ x')) = true then True else (if (decide (x' = (59 : Int))) = true then ((List.length (RS.db r) = List.length (RS.db r)) ∧ ((List.length (RS.params r) = List.length (RS.params r)) ∧ ((List.length (RS.out r) = List.length (RS.out r)) ∧ (s86 r ∧ (fun y2 => True) (f86 r))))) else ((List.length (RS.db r) = List.length (RS.db r)) ∧ ((List.length (RS.params r) = List.length (RS.params r)) ∧ ((List.length (RS.out r) = List.length (RS.out r)) ∧ (s87 r x' ∧ (fun y3 => True) (f87 r x')))))))) else (if (decide ((60 : Int) ≤ x')) = true then True else (if (decide (x' = (59 : Int))) = true then ((List.length (RS.db r) = List.length (RS.db r)) ∧ ((List.length (RS.params r) = List.length (RS.params r)) ∧ ((List.length (RS.out r) = List.length (RS.out r)) ∧ (s86 r ∧ (fun y4 => True) (f86 r))))) else ((List.length (RS.db r) = List.length (RS.db r)) ∧ ((List.length (RS.params r) = List.length (RS.params r)) ∧ ((List.length (RS.out r) = List.length (RS.out r)) ∧ (s87 r x' ∧ (fun y5 => True) (f87 r x')))))))))))))) else ((inR IntKind.i64 (RS.state r - (3 : Int))) = true ∧ (if (decide ((64 : Int) ≤ x')) = true then ((List.length (RS.db r) = List.length (RS.db r)) ∧ ((List.length (RS.params r) = List.length (RS.params r)) ∧ ((List.length (RS.out r) = List.length (RS.out r)) ∧ (s85 r x' ∧ (fun y6 => True) (f85 r x'))))) else (if (decide (RS.state r - (3 : Int) = (3 : Int))) = true then True else (if (decide (x' < (48 : Int))) = true then ((List.length (RS.db r) = List.length (RS.db r)) ∧ ((List.length (RS.params r) = List.length (RS.params r)) ∧ ((List.length (RS.out r) = List.length (RS.out r)) ∧ (s74 r x' ∧ (fun y7 => True) (f74 r x'))))) else (if (decide (RS.state r - (3 : Int) = (2 : Int))) = true then True else (if (decide (x' = (58 : Int))) = true then True else (if (decide (RS.state r - (3 : Int) = (1 : Int))) = true then (if (decide ((60 : Int) ≤ x')) = true then True else (if (decide ((60 : Int) ≤ x')) = true then True else (if (decide (x' = (59 : Int))) = true then ((List.length (RS.db r) = List.length (RS.db r)) ∧ ((List.length (RS.params r) = List.length (RS.params r)) ∧ ((List.length (RS.out r) = List.length (RS.out r)) ∧ (s86 r ∧ (fun y8 => True) (f86 r))))) else ((List.length (RS.db r) = List.length (RS.db r)) ∧ ((List.length (RS.params r) = List.length (RS.params r)) ∧ ((List.length (RS.out r) = List.length (RS.out r)) ∧ (s87 r x' ∧ (fun y9 => True) (f87 r x')))))))) else (if (decide ((60 : Int) ≤ x')) = true then True else (if (decide (x' = (59 : Int))) = true then ((List.length (RS.db r) = List.length (RS.db r)) ∧ ((List.length (RS.params r) = List.length (RS.params r)) ∧ ((List.length (RS.out r) = List.length (RS.out r)) ∧ (s86 r ∧ (fun y10 => True) (f86 r))))) else ((List.length (RS.db r) = List.length (RS.db r)) ∧ ((List.length (RS.params r) = List.length (RS.params r)) ∧ ((List.length (RS.out r) = List.length (RS.out r)) ∧ (s87 r x' ∧ (fun y11 => True) (f87 r x')))))))))))))))
theorem v75 (r : RS) (x' : Int) (K : RS → Prop) (h : s75 r x') (k : K (f75 r x')) : m75 r x' K := by
  unfold m75
  unfold s75 at h
  unfold f75 at k
  refine br_mk (fun hc => ?_) (fun hc => ?_)
  · rw [if_pos hc] at h k
    obtain ⟨h1, h⟩ := h; refine req_mk h1 ?_; clear h1
    refine br_mk (fun hc => ?_) (fun hc => ?_)
    · rw [if_pos hc] at h k
      obtain ⟨h1, h⟩ := h; refine ⟨h1, ?_⟩; clear h1
      obtain ⟨h1, h⟩ := h; refine ⟨h1, ?_⟩; clear h1
      obtain ⟨h1, h⟩ := h; refine ⟨h1, ?_⟩; clear h1
      obtain ⟨h1, h⟩ := h
      refine v85 _ _ _ h1 ?_
      (try dsimp only at h); (try dsimp only at k); (try dsimp only)
      exact k
    · rw [if_neg (nf_Rf1 hc)] at h k
      refine br_mk (fun hc => ?_) (fun hc => ?_)
      · rw [if_pos hc] at h k
        exact k
      · rw [if_neg (nf_Rf1 hc)] at h k
        refine br_mk (fun hc => ?_) (fun hc => ?_)
        · rw [if_pos hc] at h k
          obtain ⟨h1, h⟩ := h; refine ⟨h1, ?_⟩; clear h1
          obtain ⟨h1, h⟩ := h; refine ⟨h1, ?_⟩; clear h1
          obtain ⟨h1, h⟩ := h; refine ⟨h1, ?_⟩; clear h1
          obtain ⟨h1, h⟩ := h
          refine v74 _ _ _ h1 ?_
          (try dsimp only at h); (try dsimp only at k); (try dsimp only)
          exact k
        · rw [if_neg (nf_Rf1 hc)] at h k
          refine br_mk (fun hc => ?_) (fun hc => ?_)
          · rw [if_pos hc] at h k
            exact k
          · rw [if_neg (nf_Rf1 hc)] at h k
            refine br_mk (fun hc => ?_) (fun hc => ?_)
            · rw [if_pos hc] at h k
              exact k
            · rw [if_neg (nf_Rf1 hc)] at h k
              refine br_mk (fun hc => ?_) (fun hc => ?_)
              · rw [if_pos hc] at h k
                refine br_mk (fun hc => ?_) (fun hc => ?_)
                · rw [if_pos hc] at h k
                  exact k
                · rw [if_neg (nf_Rf1 hc)] at h k
                  refine br_mk (fun hc => ?_) (fun hc => ?_)
                  · rw [if_pos hc] at h k
                    exact k
                  · rw [if_neg (nf_Rf1 hc)] at h k
                    refine br_mk (fun hc => ?_) (fun hc => ?_)
                    · rw [if_pos hc] at h k
                      obtain ⟨h1, h⟩ := h; refine ⟨h1, ?_⟩; clear h1
                      obtain ⟨h1, h⟩ := h; refine ⟨h1, ?_⟩; clear h1
                      obtain ⟨h1, h⟩ := h; refine ⟨h1, ?_⟩; clear h1
                      obtain ⟨h1, h⟩ := h
                      refine v86 _ _ h1 ?_
                      (try dsimp only at h); (try dsimp only at k); (try dsimp only)
                      exact k
                    · rw [if_neg (nf_Rf1 hc)] at h k
                      obtain ⟨h1, h⟩ := h; refine ⟨h1, ?_⟩; clear h1
                      obtain ⟨h1, h⟩ := h; refine ⟨h1, ?_⟩; clear h1
                      obtain ⟨h1, h⟩ := h; refine ⟨h1, ?_⟩; clear h1
                      obtain ⟨h1, h⟩ := h
                      refine v87 _ _ _ h1 ?_
                      (try dsimp only at h); (try dsimp only at k); (try dsimp only)
                      exact k
              · rw [if_neg (nf_Rf1 hc)] at h k
                refine br_mk (fun hc => ?_) (fun hc => ?_)
                · rw [if_pos hc] at h k
                  exact k
                · rw [if_neg (nf_Rf1 hc)] at h k
                  refine br_mk (fun hc => ?_) (fun hc => ?_)
                  · rw [if_pos hc] at h k
                    obtain ⟨h1, h⟩ := h; refine ⟨h1, ?_⟩; clear h1
                    obtain ⟨h1, h⟩ := h; refine ⟨h1, ?_⟩; clear h1
                    obtain ⟨h1, h⟩ := h; refine ⟨h1, ?_⟩; clear h1
                    obtain ⟨h1, h⟩ := h
                    refine v86 _ _ h1 ?_
                    (try dsimp only at h); (try dsimp only at k); (try dsimp only)
                    exact k
                  · rw [if_neg (nf_Rf1 hc)] at h k
                    obtain ⟨h1, h⟩ := h; refine ⟨h1, ?_⟩; clear h1
                    obtain ⟨h1, h⟩ := h; refine ⟨h1, ?_⟩; clear h1
                    obtain ⟨h1, h⟩ := h; refine ⟨h1, ?_⟩; clear h1
                    obtain ⟨h1, h⟩ := h
                    refine v87 _ _ _ h1 ?_
                    (try dsimp only at h); (try dsimp only at k); (try dsimp only)
                    exact k
  · rw [if_neg (nf_Rf1 hc)] at h k
    obtain ⟨h1, h⟩ := h; refine req_mk h1 ?_; clear h1
    refine br_mk (fun hc => ?_) (fun hc => ?_)
    · rw [if_pos hc] at h k
      obtain ⟨h1, h⟩ := h; refine ⟨h1, ?_⟩; clear h1
      obtain ⟨h1, h⟩ := h; refine ⟨h1, ?_⟩; clear h1
      obtain ⟨h1, h⟩ := h; refine ⟨h1, ?_⟩; clear h1
      obtain ⟨h1, h⟩ := h
      refine v85 _ _ _ h1 ?_
      (try dsimp only at h); (try dsimp only at k); (try dsimp only)
      exact k
    · rw [if_neg (nf_Rf1 hc)] at h k
      refine br_mk (fun hc => ?_) (fun hc => ?_)
      · rw [if_pos hc] at h k
        exact k
      · rw [if_neg (nf_Rf1 hc)] at h k
        refine br_mk (fun hc => ?_) (fun hc => ?_)
        · rw [if_pos hc] at h k
          obtain ⟨h1, h⟩ := h; refine ⟨h1, ?_⟩; clear h1
          obtain ⟨h1, h⟩ := h; refine ⟨h1, ?_⟩; clear h1
          obtain ⟨h1, h⟩ := h; refine ⟨h1, ?_⟩; clear h1
          obtain ⟨h1, h⟩ := h
          refine v74 _ _ _ h1 ?_
          (try dsimp only at h); (try dsimp only at k); (try dsimp only)
          exact k
        · rw [if_neg (nf_Rf1 hc)] at h k
          refine br_mk (fun hc => ?_) (fun hc => ?_)
          · rw [if_pos hc] at h k
            exact k
          · rw [if_neg (nf_Rf1 hc)] at h k
            refine br_mk (fun hc => ?_) (fun hc => ?_)
            · rw [if_pos hc] at h k
              exact k
            · rw [if_neg (nf_Rf1 hc)] at h k
              refine br_mk (fun hc => ?_) (fun hc => ?_)
              · rw [if_pos hc] at h k
                refine br_mk (fun hc => ?_) (fun hc => ?_)
                · rw [if_pos hc] at h k
                  exact k
                · rw [if_neg (nf_Rf1 hc)] at h k
                  refine br_mk (fun hc => ?_) (fun hc => ?_)
                  · rw [if_pos hc] at h k
                    exact k
                  · rw [if_neg (nf_Rf1 hc)] at h k
                    refine br_mk (fun hc => ?_) (fun hc => ?_)
                    · rw [if_pos hc] at h k
                      obtain ⟨h1, h⟩ := h; refine ⟨h1, ?_⟩; clear h1
                      obtain ⟨h1, h⟩ := h; refine ⟨h1, ?_⟩; clear h1
                      obtain ⟨h1, h⟩ := h; refine ⟨h1, ?_⟩; clear h1
                      obtain ⟨h1, h⟩ := h
                      refine v86 _ _ h1 ?_
                      (try dsimp only at h); (try dsimp only at k); (try dsimp only)
                      exact k
                    · rw [if_neg (nf_Rf1 hc)] at h k
                      obtain ⟨h1, h⟩ := h; refine ⟨h1, ?_⟩; clear h1
                      obtain ⟨h1, h⟩ := h; refine ⟨h1, ?_⟩; clear h1
                      obtain ⟨h1, h⟩ := h; refine ⟨h1, ?_⟩; clear h1
                      obtain ⟨h1, h⟩ := h
                      refine v87 _ _ _ h1 ?_
                      (try dsimp only at h); (try dsimp only at k); (try dsimp only)
                      exact k
              · rw [if_neg (nf_Rf1 hc)] at h k
                refine br_mk (fun hc => ?_) (fun hc => ?_)
                · rw [if_pos hc] at h k
                  exact k
                · rw [if_neg (nf_Rf1 hc)] at h k
                  refine br_mk (fun hc => ?_) (fun hc => ?_)
                  · rw [if_pos hc] at h k
                    obtain ⟨h1, h⟩ := h; refine ⟨h1, ?_⟩; clear h1
                    obtain ⟨h1, h⟩ := h; refine ⟨h1, ?_⟩; clear h1
                    obtain ⟨h1, h⟩ := h; refine ⟨h1, ?_⟩; clear h1
                    obtain ⟨h1, h⟩ := h
                    refine v86 _ _ h1 ?_
                    (try dsimp only at h); (try dsimp only at k); (try dsimp only)
                    exact k
                  · rw [if_neg (nf_Rf1 hc)] at h k
                    obtain ⟨h1, h⟩ := h; refine ⟨h1, ?_⟩; clear h1
                    obtain ⟨h1, h⟩ := h; refine ⟨h1, ?_⟩; clear h1
                    obtain ⟨h1, h⟩ := h; refine ⟨h1, ?_⟩; clear h1
                    obtain ⟨h1, h⟩ := h
                    refine v87 _ _ _ h1 ?_
                    (try dsimp only at h); (try dsimp only at k); (try dsimp only)
                    exact k
noncomputable def f59 (r : RS) (x' : Int) : RS :=
  (if (decide (RS.state r = (0 : Int))) = true then (fun y0 => (y0)) (f46 r (1 : Int) x' (0 : Int) (0 : Int) [] { data := #[] } { data := #[] }) else (if (decide (RS.state r = (1 : Int))) = true then (fun y1 => (y1)) (f73 r x') else (if (decide (RS.state r = (2 : Int))) = true then (if (decide (x' < (48 : Int))) = true then (fun y2 => (y2)) (f74 r x') else (fun y3 => ({ y3 with state := (0 : Int) })) (f46 r (3 : Int) (0 : Int) x' (0 : Int) [] (RS.inter r) { data := #[] })) else (fun y4 => (y4)) (f75 r x'))))
def s59 (r : RS) (x' : Int) : Prop :=
  (if (decide (RS.state r = (0 : Int))) = true then ((inR IntKind.i32 x') = true ∧ ((List.length (RS.db r) = List.length (RS.db r)) ∧ ((List.length (RS.params r) = List.length (RS.params r)) ∧ ((List.length (RS.out r) = List.length (RS.out r)) ∧ (s46 r (1 : Int) x' (0 : Int) (0 : Int) [] { data := #[] } { data := #[] } ∧ (fun y0 => True) (f46 r (1 : Int) x' (0 : Int) (0 : Int) [] { data := #[] } { data := #[] })))))) else (if (decide (RS.state r = (1 : Int))) = true then ((List.length (RS.db r) = List.length (RS.db r)) ∧ ((List.length (RS.params r) = List.length (RS.params r)) ∧ ((List.length (RS.out r) = List.length (RS.out r)) ∧ (s73 r x' ∧ (fun y1 => True) (f73 r x'))))) else (if (decide (RS.state r = (2 : Int))) = true then (if (decide (x' < (48 : Int))) = true then ((List.length (RS.db r) = List.length (RS.db r)) ∧ ((List.length (RS.params r) = List.length (RS.params r)) ∧ ((List.length (RS.out r) = List.length (RS.out r)) ∧ (s74 r x' ∧ (fun y2 => True) (f74 r x'))))) else ((List.length (RS.db r) = List.length (RS.db r)) ∧ ((List.length (RS.params r) = List.length (RS.params r)) ∧ ((List.length (RS.out r) = List.length (RS.out r)) ∧ (s46 r (3 : Int) (0 : Int) x' (0 : Int) [] (RS.inter r) { data := #[] } ∧ (fun y3 => True) (f46 r (3 : Int) (0 : Int) x' (0 : Int) [] (RS.inter r) { data := #[] })))))) else ((List.length (RS.db r) = List.length (RS.db r)) ∧ ((List.length (RS.params r) = List.length (RS.params r)) ∧ ((List.length (RS.out r) = List.length (RS.out r)) ∧ (s75 r x' ∧ (fun y4 => True) (f75 r x'))))))))
theorem v59 (r : RS) (x' : Int) (K : RS → Prop) (h : s59 r x') (k : K (f59 r x')) : m59 r x' K := by
  unfold m59
  unfold s59 at h
  unfold f59 at k
  refine br_mk (fun hc => ?_) (fun hc => ?_)
  · rw [if_pos hc] at h k
    obtain ⟨h1, h⟩ := h; refine req_mk h1 ?_; clear h1
    obtain ⟨h1, h⟩ := h; refine ⟨h1, ?_⟩; clear h1
    obtain ⟨h1, h⟩ := h; refine ⟨h1, ?_⟩; clear h1
    obtain ⟨h1, h⟩ := h; refine ⟨h1, ?_⟩; clear h1
    obtain ⟨h1, h⟩ := h
    refine v46 _ _ _ _ _ _ _ _ _ h1 ?_
    (try dsimp only at h); (try dsimp only at k); (try dsimp only)
    exact k
  · rw [if_neg (nf_Rf1 hc)] at h k
    refine br_mk (fun hc => ?_) (fun hc => ?_)
    · rw [if_pos hc] at h k
      obtain ⟨h1, h⟩ := h; refine ⟨h1, ?_⟩; clear h1
      obtain ⟨h1, h⟩ := h; refine ⟨h1, ?_⟩; clear h1
      obtain ⟨h1, h⟩ := h; refine ⟨h1, ?_⟩; clear h1
      obtain ⟨h1, h⟩ := h
      refine v73 _ _ _ h1 ?_
      (try dsimp only at h); (try dsimp only at k); (try dsimp only)
      exact k
    · rw [if_neg (nf_Rf1 hc)] at h k
      refine br_mk (fun hc => ?_) (fun hc => ?_)
      · rw [if_pos hc] at h k
        refine br_mk (fun hc => ?_) (fun hc => ?_)
        · rw [if_pos hc] at h k
          obtain ⟨h1, h⟩ := h; refine ⟨h1, ?_⟩; clear h1
          obtain ⟨h1, h⟩ := h; refine ⟨h1, ?_⟩; clear h1
          obtain ⟨h1, h⟩ := h; refine ⟨h1, ?_⟩; clear h1
          obtain ⟨h1, h⟩ := h
          refine v74 _ _ _ h1 ?_
          (try dsimp only at h); (try dsimp only at k); (try dsimp only)
          exact k
        · rw [if_neg (nf_Rf1 hc)] at h k
          obtain ⟨h1, h⟩ := h; refine ⟨h1, ?_⟩; clear h1
          obtain ⟨h1, h⟩ := h; refine ⟨h1, ?_⟩; clear h1
          obtain ⟨h1, h⟩ := h; refine ⟨h1, ?_⟩; clear h1
          obtain ⟨h1, h⟩ := h
          refine v46 _ _ _ _ _ _ _ _ _ h1 ?_
          (try dsimp only at h); (try dsimp only at k); (try dsimp only)
          exact k
      · rw [if_neg (nf_Rf1 hc)] at h k
        obtain ⟨h1, h⟩ := h; refine ⟨h1, ?_⟩; clear h1
        obtain ⟨h1, h⟩ := h; refine ⟨h1, ?_⟩; clear h1
        obtain ⟨h1, h⟩ := h; refine ⟨h1, ?_⟩; clear h1
        obtain ⟨h1, h⟩ := h
        refine v75 _ _ _ h1 ?_
        (try dsimp only at h); (try dsimp only at k); (try dsimp only)
        exact k
noncomputable def f37 (r : RS) (x' : Int) : RS :=
  (if (decide (RS.state r = (0 : Int))) = true then (if (decide ((128 : Int) ≤ x')) = true then (fun y0 y1 => (fun y2 => (y2)) (f31 y0 (List.take (List.length y1) y1))) ((f54 r [Dat.int x']).1) ((f54 r [Dat.int x']).2) else (if (decide (RS.state r = (0 : Int))) = true then (fun y3 y4 => (fun y5 => (if (decide (x' = (24 : Int))) = true then (fun y6 => ({ y6 with state := (0 : Int) })) (f46 y5 (2 : Int) (0 : Int) x' (0 : Int) [] { data := #[] } { data := #[] }) else (if (decide (x' = (26 : Int))) = true then (fun y7 => ({ y7 with state := (0 : Int) })) (f46 y5 (2 : Int) (0 : Int) x' (0 : Int) [] { data := #[] } { data := #[] }) else (if (decide (x' = (27 : Int))) = true then (if (decide (RS.state y5 = (12 : Int))) = true then (fun y8 => (if (decide (RS.state y8 = (11 : Int))) = true then (fun y9 => (fun y10 => ({ y10 with state := (1 : Int) })) (f56 y9)) (f46 y8 (6 : Int) (0 : Int) (RS.final y8) (RS.private_ y8) (List.take (List.length (List.take (List.length (RS.params y8)) (RS.params y8))) (List.take (List.length (RS.params y8)) (RS.params y8))) (RS.inter y8) (RS.text y8)) else (fun y11 => ({ y11 with state := (1 : Int) })) (f56 y8))) (f46 y5 (5 : Int) (0 : Int) (0 : Int) (0 : Int) [] { data := #[] } (RS.text y5)) else (if (decide (RS.state y5 = (11 : Int))) = true then (fun y12 => (fun y13 => ({ y13 with state := (1 : Int) })) (f56 y12)) (f46 y5 (6 : Int) (0 : Int) (RS.final y5) (RS.private_ y5) (List.take (List.length (List.take (List.length (RS.params y5)) (RS.params y5))) (List.take (List.length (RS.params y5)) (RS.params y5))) (RS.inter y5) (RS.text y5)) else (fun y14 => ({ y14 with state := (1 : Int) })) (f56 y5))) else (if (decide (RS.state y5 = (12 : Int))) = true then (fun y15 => (y15)) (f57 y5 x') else (if (decide (RS.state y5 = (11 : Int))) = true then (fun y16 => (y16)) (f57 y5 x') else (if (decide ((128 : Int) ≤ x')) = true then (y5) else (if (decide (RS.state y5 = (13 : Int))) = true then (y5) else (if (decide (x' < (32 : Int))) = true then (fun y17 => (y17)) (f58 y5 x') else (if (decide (x' = (127 : Int))) = true then (y5) else (fun y18 => (y18)) (f59 y5 x'))))))))))) (f31 y3 (List.take (List.length y4) y4))) ((f32 r).1) ((f32 r).2) else (if (decide (x' = (24 : Int))) = true then (fun y19 => ({ y19 with state := (0 : Int) })) (f46 r (2 : Int) (0 : Int) x' (0 : Int) [] { data := #[] } { data := #[] }) else (if (decide (x' = (26 : Int))) = true then (fun y20 => ({ y20 with state := (0 : Int) })) (f46 r (2 : Int) (0 : Int) x' (0 : Int) [] { data := #[] } { data := #[] }) else (if (decide (x' = (27 : Int))) = true then (if (decide (RS.state r = (12 : Int))) = true then (fun y21 => (if (decide (RS.state y21 = (11 : Int))) = true then (fun y22 => (fun y23 => ({ y23 with state := (1 : Int) })) (f56 y22)) (f46 y21 (6 : Int) (0 : Int) (RS.final y21) (RS.private_ y21) (List.take (List.length (List.take (List.length (RS.params y21)) (RS.params y21))) (List.take (List.length (RS.params y21)) (RS.params y21))) (RS.inter y21) (RS.text y21)) else (fun y24 => ({ y24 with state := (1 : Int) })) (f56 y21))) (f46 r (5 : Int) (0 : Int) (0 : Int) (0 : Int) [] { data := #[] } (RS.text r)) else (if (decide (RS.state r = (11 : Int))) = true then (fun y25 => (fun y26 => ({ y26 with state := (1 : Int) })) (f56 y25)) (f46 r (6 : Int) (0 : Int) (RS.final r) (RS.private_ r) (List.take (List.length (List.take (List.length (RS.params r)) (RS.params r))) (List.take (List.length (RS.params r)) (RS.params r))) (RS.inter r) (RS.text r)) else (fun y27 => ({ y27 with state := (1 : Int) })) (f56 r))) else (if (decide (RS.state r = (12 : Int))) = true then (fun y28 => (y28)) (f57 r x') else (if (decide (RS.state r = (11 : Int))) = true then (fun y29 => (y29)) (f57 r x') else (if (decide ((128 : Int) ≤ x')) = true then (r) else (if (decide (RS.state r = (13 : Int))) = true then (r) else (if (decide (x' < (32 : Int))) = true then (fun y30 => (y30)) (f58 r x') else (if (decide (x' = (127 : Int))) = true then (r) else (fun y31 => (y31)) (f59 r x')))))))))))) else (if (decide (RS.state r = (0 : Int))) = true then (fun y32 y33 => (fun y34 => (if (decide (x' = (24 : Int))) = true then (fun y35 => ({ y35 with state := (0 : Int) })) (f46 y34 (2 : Int) (0 : Int) x' (0 : Int) [] { data := #[] } { data := #[] }) else (if (decide (x' = (26 : Int))) = true then (fun y36 => ({ y36 with state := (0 : Int) })) (f46 y34 (2 : Int) (0 : Int) x' (0 : Int) [] { data := #[] } { data := #[] }) else (if (decide (x' = (27 : Int))) = true then (if (decide (RS.state y34 = (12 : Int))) = true then (fun y37 => (if (decide (RS.state y37 = (11 : Int))) = true then (fun y38 => (fun y39 => ({ y39 with state := (1 : Int) })) (f56 y38)) (f46 y37 (6 : Int) (0 : Int) (RS.final y37) (RS.private_ y37) (List.take (List.length (List.take (List.length (RS.params y37)) (RS.params y37))) (List.take (List.length (RS.params y37)) (RS.params y37))) (RS.inter y37) (RS.text y37)) else (fun y40 => ({ y40 with state := (1 : Int) })) (f56 y37))) (f46 y34 (5 : Int) (0 : Int) (0 : Int) (0 : Int) [] { data := #[] } (RS.text y34)) else (if (decide (RS.state y34 = (11 : Int))) = true then (fun y41 => (fun y42 => ({ y42 with state := (1 : Int) })) (f56 y41)) (f46 y34 (6 : Int) (0 : Int) (RS.final y34) (RS.private_ y34) (List.take (List.length (List.take (List.length (RS.params y34)) (RS.params y34))) (List.take (List.length (RS.params y34)) (RS.params y34))) (RS.inter y34) (RS.text y34)) else (fun y43 => ({ y43 with state := (1 : Int) })) (f56 y34))) else (if (decide (RS.state y34 = (12 : Int))) = true then (fun y44 => (y44)) (f57 y34 x') else (if (decide (RS.state y34 = (11 : Int))) = true then (fun y45 => (y45)) (f57 y34 x') else (if (decide ((128 : Int) ≤ x')) = true then (y34) else (if (decide (RS.state y34 = (13 : Int))) = true then (y34) else (if (decide (x' < (32 : Int))) = true then (fun y46 => (y46)) (f58 y34 x') else (if (decide (x' = (127 : Int))) = true then (y34) else (fun y47 => (y47)) (f59 y34 x'))))))))))) (f31 y32 (List.take (List.length y33) y33))) ((f32 r).1) ((f32 r).2) else (if (decide (x' = (24 : Int))) = true then (fun y48 => ({ y48 with state := (0 : Int) })) (f46 r (2 : Int) (0 : Int) x' (0 : Int) [] { data := #[] } { data := #[] }) else (if (decide (x' = (26 : Int))) = true then (fun y49 => ({ y49 with state := (0 : Int) })) (f46 r (2 : Int) (0 : Int) x' (0 : Int) [] { data := #[] } { data := #[] }) else (if (decide (x' = (27 : Int))) = true then (if (decide (RS.state r = (12 : Int))) = true then (fun y50 => (if (decide (RS.state y50 = (11 : Int))) = true then (fun y51 => (fun y52 => ({ y52 with state := (1 : Int) })) (f56 y51)) (f46 y50 (6 : Int) (0 : Int) (RS.final y50) (RS.private_ y50) (List.take (List.length (List.take (List.length (RS.params y50)) (RS.params y50))) (List.take (List.length (RS.params y50)) (RS.params y50))) (RS.inter y50) (RS.text y50)) else (fun y53 => ({ y53 with state := (1 : Int) })) (f56 y50))) (f46 r (5 : Int) (0 : Int) (0 : Int) (0 : Int) [] { data := #[] } (RS.text r)) else (if (decide (RS.state r = (11 : Int))) = true then (fun y54 => (fun y55 => ({ y55 with state := (1 : Int) })) (f56 y54)) (f46 r (6 : Int) (0 : Int) (RS.final r) (RS.private_ r) (List.take (List.length (List.take (List.length (RS.params r)) (RS.params r))) (List.take (List.length (RS.params r)) (RS.params r))) (RS.inter r) (RS.text r)) else (fun y56 => ({ y56 with state := (1 : Int) })) (f56 r))) else (if (decide (RS.state r = (12 : Int))) = true then (fun y57 => (y57)) (f57 r x') else (if (decide (RS.state r = (11 : Int))) = true then (fun y58 => (y58)) (f57 r x') else (if (decide ((128 : Int) ≤ x')) = true then (r) else (if (decide (RS.state r = (13 : Int))) = true then (r) else (if (decide (x' < (32 : Int))) = true then (fun y59 => (y59)) (f58 r x') else (if (decide (x' = (127 : Int))) = true then (r) else (fun y60 => (y60)) (f59 r x'))))))))))))
def s37 (r : RS) (x' : Int) : Prop :=
  (if (decide (RS.state r = (0 : Int))) = true then (if (decide ((128 : Int) ≤ x')) = true then ((List.length (RS.db r) = List.length (RS.db r)) ∧ ((List.length (RS.params r) = List.length (RS.params r)) ∧ ((List.length (RS.out r) = List.length (RS.out r)) ∧ (s54 r [Dat.int x'] ∧ (fun y0 y1 => ((decide ((0 : Nat) + List.length y1 ≤ List.length y1)) = true ∧ ((List.length (RS.db y0) = List.length (RS.db y0)) ∧ ((List.length (RS.params y0) = List.length (RS.params y0)) ∧ ((List.length (RS.out y0) = List.length (RS.out y0)) ∧ (s31 y0 (List.take (List.length y1) y1) ∧ (fun y2 => True) (f31 y0 (List.take (List.length y1) y1)))))))) ((f54 r [Dat.int x']).1) ((f54 r [Dat.int x']).2))))) else (if (decide (RS.state r = (0 : Int))) = true then ((List.length (RS.db r) = List.length (RS.db r)) ∧ ((List.length (RS.params r) = List.length (RS.params r)) ∧ ((List.length (RS.out r) = List.length (RS.out r)) ∧ (s32 r ∧ (fun y3 y4 => ((decide ((0 : Nat) + List.length y4 ≤ List.length y4)) = true ∧ ((List.length (RS.db y3) = List.length (RS.db y3)) ∧ ((List.length (RS.params y3) = List.length (RS.params y3)) ∧ ((List.length (RS.out y3) = List.length (RS.out y3)) ∧ (s31 y3 (List.take (List.length y4) y4) ∧ (fun y5 => (if (decide (x' = (24 : Int))) = true then ((List.length (RS.db y5) = List.length (RS.db y5)) ∧ ((List.length (RS.params y5) = List.length (RS.params y5)) ∧ ((List.length (RS.out y5) = List.length (RS.out y5)) ∧ (s46 y5 (2 : Int) (0 : Int) x' (0 : Int) [] { data := #[] } { data := #[] } ∧ (fun y6 => True) (f46 y5 (2 : Int) (0 : Int) x' (0 : Int) [] { data := #[] } { data := #[] }))))) else (if (decide (x' = (26 : Int))) = true then ((List.length (RS.db y5) = List.length (RS.db y5)) ∧ ((List.length (RS.params y5) = List.length (RS.params y5)) ∧ ((List.length (RS.out y5) = List.length (RS.out y5)) ∧ (s46 y5 (2 : Int) (0 : Int) x' (0 : Int) [] { data := #[] } { data := #[] } ∧ (fun y7 => True) (f46 y5 (2 : Int) (0 : Int) x' (0 : Int) [] { data := #[] } { data := #[] }))))) else (if (decide (x' = (27 : Int))) = true then (if (decide (RS.state y5 = (12 : Int))) = true then ((List.length (RS.db y5) = List.length (RS.db y5)) ∧ ((List.length (RS.params y5) = List.length (RS.params y5)) ∧ ((List.length (RS.out y5) = List.length (RS.out y5)) ∧ (s46 y5 (5 : Int) (0 : Int) (0 : Int) (0 : Int) [] { data := #[] } (RS.text y5) ∧ (fun y8 => (if (decide (RS.state y8 = (11 : Int))) = true then ((decide ((0 : Nat) + List.length (RS.params y8) ≤ List.length (RS.params y8))) = true ∧ ((decide (List.length (List.take (List.length (RS.params y8)) (RS.params y8)) * (8 : Nat) ≤ (140737488351232 : Nat))) = true ∧ ((decide ((0 : Nat) + List.length (List.take (List.length (RS.params y8)) (RS.params y8)) ≤ List.length (List.take (List.length (RS.params y8)) (RS.params y8)))) = true ∧ ((List.length (RS.db y8) = List.length (RS.db y8)) ∧ ((List.length (RS.params y8) = List.length (RS.params y8)) ∧ ((List.length (RS.out y8) = List.length (RS.out y8)) ∧ (s46 y8 (6 : Int) (0 : Int) (RS.final y8) (RS.private_ y8) (List.take (List.length (List.take (List.length (RS.params y8)) (RS.params y8))) (List.take (List.length (RS.params y8)) (RS.params y8))) (RS.inter y8) (RS.text y8) ∧ (fun y9 => ((List.length (RS.db y9) = List.length (RS.db y9)) ∧ ((List.length (RS.params y9) = List.length (RS.params y9)) ∧ ((List.length (RS.out y9) = List.length (RS.out y9)) ∧ (s56 y9 ∧ (fun y10 => True) (f56 y9)))))) (f46 y8 (6 : Int) (0 : Int) (RS.final y8) (RS.private_ y8) (List.take (List.length (List.take (List.length (RS.params y8)) (RS.params y8))) (List.take (List.length (RS.params y8)) (RS.params y8))) (RS.inter y8) (RS.text y8))))))))) else ((List.length (RS.db y8) = List.length (RS.db y8)) ∧ ((List.length (RS.params y8) = List.length (RS.params y8)) ∧ ((List.length (RS.out y8) = List.length (RS.out y8)) ∧ (s56 y8 ∧ (fun y11 => True) (f56 y8))))))) (f46 y5 (5 : Int) (0 : Int) (0 : Int) (0 : Int) [] { data := #[] } (RS.text y5)))))) else (if (decide (RS.state y5 = (11 : Int))) = true then ((decide ((0 : Nat) + List.length (RS.params y5) ≤ List.length (RS.params y5))) = true ∧ ((decide (List.length (List.take (List.length (RS.params y5)) (RS.params y5)) * (8 : Nat) ≤ (140737488351232 : Nat))) = true ∧ ((decide ((0 : Nat) + List.length (List.take (List.length (RS.params y5)) (RS.params y5)) ≤ List.length (List.take (List.length (RS.params y5)) (RS.params y5)))) = true ∧ ((List.length (RS.db y5) = List.length (RS.db y5)) ∧ ((List.length (RS.params y5) = List.length (RS.params y5)) ∧ ((List.length (RS.out y5) = List.length (RS.out y5)) ∧ (s46 y5 (6 : Int) (0 : Int) (RS.final y5) (RS.private_ y5) (List.take (List.length (List.take (List.length (RS.params y5)) (RS.params y5))) (List.take (List.length (RS.params y5)) (RS.params y5))) (RS.inter y5) (RS.text y5) ∧ (fun y12 => ((List.length (RS.db y12) = List.length (RS.db y12)) ∧ ((List.length (RS.params y12) = List.length (RS.params y12)) ∧ ((List.length (RS.out y12) = List.length (RS.out y12)) ∧ (s56 y12 ∧ (fun y13 => True) (f56 y12)))))) (f46 y5 (6 : Int) (0 : Int) (RS.final y5) (RS.private_ y5) (List.take (List.length (List.take (List.length (RS.params y5)) (RS.params y5))) (List.take (List.length (RS.params y5)) (RS.params y5))) (RS.inter y5) (RS.text y5))))))))) else ((List.length (RS.db y5) = List.length (RS.db y5)) ∧ ((List.length (RS.params y5) = List.length (RS.params y5)) ∧ ((List.length (RS.out y5) = List.length (RS.out y5)) ∧ (s56 y5 ∧ (fun y14 => True) (f56 y5))))))) else (if (decide (RS.state y5 = (12 : Int))) = true then ((List.length (RS.db y5) = List.length (RS.db y5)) ∧ ((List.length (RS.params y5) = List.length (RS.params y5)) ∧ ((List.length (RS.out y5) = List.length (RS.out y5)) ∧ (s57 y5 x' ∧ (fun y15 => True) (f57 y5 x'))))) else (if (decide (RS.state y5 = (11 : Int))) = true then ((List.length (RS.db y5) = List.length (RS.db y5)) ∧ ((List.length (RS.params y5) = List.length (RS.params y5)) ∧ ((List.length (RS.out y5) = List.length (RS.out y5)) ∧ (s57 y5 x' ∧ (fun y16 => True) (f57 y5 x'))))) else (if (decide ((128 : Int) ≤ x')) = true then True else (if (decide (RS.state y5 = (13 : Int))) = true then True else (if (decide (x' < (32 : Int))) = true then ((List.length (RS.db y5) = List.length (RS.db y5)) ∧ ((List.length (RS.params y5) = List.length (RS.params y5)) ∧ ((List.length (RS.out y5) = List.length (RS.out y5)) ∧ (s58 y5 x' ∧ (fun y17 => True) (f58 y5 x'))))) else (if (decide (x' = (127 : Int))) = true then True else ((List.length (RS.db y5) = List.length (RS.db y5)) ∧ ((List.length (RS.params y5) = List.length (RS.params y5)) ∧ ((List.length (RS.out y5) = List.length (RS.out y5)) ∧ (s59 y5 x' ∧ (fun y18 => True) (f59 y5 x'))))))))))))))) (f31 y3 (List.take (List.length y4) y4)))))))) ((f32 r).1) ((f32 r).2))))) else (if (decide (x' = (24 : Int))) = true then ((List.length (RS.db r) = List.length (RS.db r)) ∧ ((List.length (RS.params r) = List.length (RS.params r)) ∧ ((List.length (RS.out r) = List.length (RS.out r)) ∧ (s46 r (2 : Int) (0 : Int) x' (0 : Int) [] { data := #[] } { data := #[] } ∧ (fun y19 => True) (f46 r (2 : Int) (0 : Int) x' (0 : Int) [] { data := #[] } { data := #[] }))))) else (if (decide (x' = (26 : Int))) = true then ((List.length (RS.db r) = List.length (RS.db r)) ∧ ((List.length (RS.params r) = List.length (RS.params r)) ∧ ((List.length (RS.out r) = List.length (RS.out r)) ∧ (s46 r (2 : Int) (0 : Int) x' (0 : Int) [] { data := #[] } { data := #[] } ∧ (fun y20 => True) (f46 r (2 : Int) (0 : Int) x' (0 : Int) [] { data := #[] } { data := #[] }))))) else (if (decide (x' = (27 : Int))) = true then (if (decide (RS.state r = (12 : Int))) = true then ((List.length (RS.db r) = List.length (RS.db r)) ∧ ((List.length (RS.params r) = List.length (RS.params r)) ∧ ((List.length (RS.out r) = List.length (RS.out r)) ∧ (s46 r (5 : Int) (0 : Int) (0 : Int) (0 : Int) [] { data := #[] } (RS.text r) ∧ (fun y21 => (if (decide (RS.state y21 = (11 : Int))) = true then ((decide ((0 : Nat) + List.length (RS.params y21) ≤ List.length (RS.params y21))) = true ∧ ((decide (List.length (List.take (List.length (RS.params y21)) (RS.params y21)) * (8 : Nat) ≤ (140737488351232 : Nat))) = true ∧ ((decide ((0 : Nat) + List.length (List.take (List.length (RS.params y21)) (RS.params y21)) ≤ List.length (List.take (List.length (RS.params y21)) (RS.params y21)))) = true ∧ ((List.length (RS.db y21) = List.length (RS.db y21)) ∧ ((List.length (RS.params y21) = List.length (RS.params y21)) ∧ ((List.length (RS.out y21) = List.length (RS.out y21)) ∧ (s46 y21 (6 : Int) (0 : Int) (RS.final y21) (RS.private_ y21) (List.take (List.length (List.take (List.length (RS.params y21)) (RS.params y21))) (List.take (List.length (RS.params y21)) (RS.params y21))) (RS.inter y21) (RS.text y21) ∧ (fun y22 => ((List.length (RS.db y22) = List.length (RS.db y22)) ∧ ((List.length (RS.params y22) = List.length (RS.params y22)) ∧ ((List.length (RS.out y22) = List.length (RS.out y22)) ∧ (s56 y22 ∧ (fun y23 => True) (f56 y22)))))) (f46 y21 (6 : Int) (0 : Int) (RS.final y21) (RS.private_ y21) (List.take (List.length (List.take (List.length (RS.params y21)) (RS.params y21))) (List.take (List.length (RS.params y21)) (RS.params y21))) (RS.inter y21) (RS.text y21))))))))) else ((List.length (RS.db y21) = List.length (RS.db y21)) ∧ ((List.length (RS.params y21) = List.length (RS.params y21)) ∧ ((List.length (RS.out y21) = List.length (RS.out y21)) ∧ (s56 y21 ∧ (fun y24 => True) (f56 y21))))))) (f46 r (5 : Int) (0 : Int) (0 : Int) (0 : Int) [] { data := #[] } (RS.text r)))))) else (if (decide (RS.state r = (11 : Int))) = true then ((decide ((0 : Nat) + List.length (RS.params r) ≤ List.length (RS.params r))) = true ∧ ((decide (List.length (List.take (List.length (RS.params r)) (RS.params r)) * (8 : Nat) ≤ (140737488351232 : Nat))) = true ∧ ((decide ((0 : Nat) + List.length (List.take (List.length (RS.params r)) (RS.params r)) ≤ List.length (List.take (List.length (RS.params r)) (RS.params r)))) = true ∧ ((List.length (RS.db r) = List.length (RS.db r)) ∧ ((List.length (RS.params r) = List.length (RS.params r)) ∧ ((List.length (RS.out r) = List.length (RS.out r)) ∧ (s46 r (6 : Int) (0 : Int) (RS.final r) (RS.private_ r) (List.take (List.length (List.take (List.length (RS.params r)) (RS.params r))) (List.take (List.length (RS.params r)) (RS.params r))) (RS.inter r) (RS.text r) ∧ (fun y25 => ((List.length (RS.db y25) = List.length (RS.db y25)) ∧ ((List.length (RS.params y25) = List.length (RS.params y25)) ∧ ((List.length (RS.out y25) = List.length (RS.out y25)) ∧ (s56 y25 ∧ (fun y26 => True) (f56 y25)))))) (f46 r (6 : Int) (0 : Int) (RS.final r) (RS.private_ r) (List.take (List.length (List.take (List.length (RS.params r)) (RS.params r))) (List.take (List.length (RS.params r)) (RS.params r))) (RS.inter r) (RS.text r))))))))) else ((List.length (RS.db r) = List.length (RS.db r)) ∧ ((List.length (RS.params r) = List.length (RS.params r)) ∧ ((List.length (RS.out r) = List.length (RS.out r)) ∧ (s56 r ∧ (fun y27 => True) (f56 r))))))) else (if (decide (RS.state r = (12 : Int))) = true then ((List.length (RS.db r) = List.length (RS.db r)) ∧ ((List.length (RS.params r) = List.length (RS.params r)) ∧ ((List.length (RS.out r) = List.length (RS.out r)) ∧ (s57 r x' ∧ (fun y28 => True) (f57 r x'))))) else (if (decide (RS.state r = (11 : Int))) = true then ((List.length (RS.db r) = List.length (RS.db r)) ∧ ((List.length (RS.params r) = List.length (RS.params r)) ∧ ((List.length (RS.out r) = List.length (RS.out r)) ∧ (s57 r x' ∧ (fun y29 => True) (f57 r x'))))) else (if (decide ((128 : Int) ≤ x')) = true then True else (if (decide (RS.state r = (13 : Int))) = true then True else (if (decide (x' < (32 : Int))) = true then ((List.length (RS.db r) = List.length (RS.db r)) ∧ ((List.length (RS.params r) = List.length (RS.params r)) ∧ ((List.length (RS.out r) = List.length (RS.out r)) ∧ (s58 r x' ∧ (fun y30 => True) (f58 r x'))))) else (if (decide (x' = (127 : Int))) = true then True else ((List.length (RS.db r) = List.length (RS.db r)) ∧ ((List.length (RS.params r) = List.length (RS.params r)) ∧ ((List.length (RS.out r) = List.length (RS.out r)) ∧ (s59 r x' ∧ (fun y31 => True) (f59 r x')))))))))))))))) else (if (decide (RS.state r = (0 : Int))) = true then ((List.length (RS.db r) = List.length (RS.db r)) ∧ ((List.length (RS.params r) = List.length (RS.params r)) ∧ ((List.length (RS.out r) = List.length (RS.out r)) ∧ (s32 r ∧ (fun y32 y33 => ((decide ((0 : Nat) + List.length y33 ≤ List.length y33)) = true ∧ ((List.length (RS.db y32) = List.length (RS.db y32)) ∧ ((List.length (RS.params y32) = List.length (RS.params y32)) ∧ ((List.length (RS.out y32) = List.length (RS.out y32)) ∧ (s31 y32 (List.take (List.length y33) y33) ∧ (fun y34 => (if (decide (x' = (24 : Int))) = true then ((List.length (RS.db y34) = List.length (RS.db y34)) ∧ ((List.length (RS.params y34) = List.length (RS.params y34)) ∧ ((List.length (RS.out y34) = List.length (RS.out y34)) ∧ (s46 y34 (2 : Int) (0 : Int) x' (0 : Int) [] { data := #[] } { data := #[] } ∧ (fun y35 => True) (f46 y34 (2 : Int) (0 : Int) x' (0 : Int) [] { data := #[] } { data := #[] }))))) else (if (decide (x' = (26 : Int))) = true then ((List.length (RS.db y34) = List.length (RS.db y34)) ∧ ((List.length (RS.params y34) = List.length (RS.params y34)) ∧ ((List.length (RS.out y34) = List.length (RS.out y34)) ∧ (s46 y34 (2 : Int) (0 : Int) x' (0 : Int) [] { data := #[] } { data := #[] } ∧ (fun y36 => True) (f46 y34 (2 : Int) (0 : Int) x' (0 : Int) [] { data := #[] } { data := #[] }))))) else (if (decide (x' = (27 : Int))) = true then (if (decide (RS.state y34 = (12 : Int))) = true then ((List.length (RS.db y34) = List.length (RS.db y34)) ∧ ((List.length (RS.params y34) = List.length (RS.params y34)) ∧ ((List.length (RS.out y34) = List.length (RS.out y34)) ∧ (s46 y34 (5 : Int) (0 : Int) (0 : Int) (0 : Int) [] { data := #[] } (RS.text y34) ∧ (fun y37 => (if (decide (RS.state y37 = (11 : Int))) = true then ((decide ((0 : Nat) + List.length (RS.params y37) ≤ List.length (RS.params y37))) = true ∧ ((decide (List.length (List.take (List.length (RS.params y37)) (RS.params y37)) * (8 : Nat) ≤ (140737488351232 : Nat))) = true ∧ ((decide ((0 : Nat) + List.length (List.take (List.length (RS.params y37)) (RS.params y37)) ≤ List.length (List.take (List.length (RS.params y37)) (RS.params y37)))) = true ∧ ((List.length (RS.db y37) = List.length (RS.db y37)) ∧ ((List.length (RS.params y37) = List.length (RS.params y37)) ∧ ((List.length (RS.out y37) = List.length (RS.out y37)) ∧ (s46 y37 (6 : Int) (0 : Int) (RS.final y37) (RS.private_ y37) (List.take (List.length (List.take (List.length (RS.params y37)) (RS.params y37))) (List.take (List.length (RS.params y37)) (RS.params y37))) (RS.inter y37) (RS.text y37) ∧ (fun y38 => ((List.length (RS.db y38) = List.length (RS.db y38)) ∧ ((List.length (RS.params y38) = List.length (RS.params y38)) ∧ ((List.length (RS.out y38) = List.length (RS.out y38)) ∧ (s56 y38 ∧ (fun y39 => True) (f56 y38)))))) (f46 y37 (6 : Int) (0 : Int) (RS.final y37) (RS.private_ y37) (List.take (List.length (List.take (List.length (RS.params y37)) (RS.params y37))) (List.take (List.length (RS.params y37)) (RS.params y37))) (RS.inter y37) (RS.text y37))))))))) else ((List.length (RS.db y37) = List.length (RS.db y37)) ∧ ((List.length (RS.params y37) = List.length (RS.params y37)) ∧ ((List.length (RS.out y37) = List.length (RS.out y37)) ∧ (s56 y37 ∧ (fun y40 => True) (f56 y37))))))) (f46 y34 (5 : Int) (0 : Int) (0 : Int) (0 : Int) [] { data := #[] } (RS.text y34)))))) else (if (decide (RS.state y34 = (11 : Int))) = true then ((decide ((0 : Nat) + List.length (RS.params y34) ≤ List.length (RS.params y34))) = true ∧ ((decide (List.length (List.take (List.length (RS.params y34)) (RS.params y34)) * (8 : Nat) ≤ (140737488351232 : Nat))) = true ∧ ((decide ((0 : Nat) + List.length (List.take (List.length (RS.params y34)) (RS.params y34)) ≤ List.length (List.take (List.length (RS.params y34)) (RS.params y34)))) = true ∧ ((List.length (RS.db y34) = List.length (RS.db y34)) ∧ ((List.length (RS.params y34) = List.length (RS.params y34)) ∧ ((List.length (RS.out y34) = List.length (RS.out y34)) ∧ (s46 y34 (6 : Int) (0 : Int) (RS.final y34) (RS.private_ y34) (List.take (List.length (List.take (List.length (RS.params y34)) (RS.params y34))) (List.take (List.length (RS.params y34)) (RS.params y34))) (RS.inter y34) (RS.text y34) ∧ (fun y41 => ((List.length (RS.db y41) = List.length (RS.db y41)) ∧ ((List.length (RS.params y41) = List.length (RS.params y41)) ∧ ((List.length (RS.out y41) = List.length (RS.out y41)) ∧ (s56 y41 ∧ (fun y42 => True) (f56 y41)))))) (f46 y34 (6 : Int) (0 : Int) (RS.final y34) (RS.private_ y34) (List.take (List.length (List.take (List.length (RS.params y34)) (RS.params y34))) (List.take (List.length (RS.params y34)) (RS.params y34))) (RS.inter y34) (RS.text y34))))))))) else ((List.length (RS.db y34) = List.length (RS.db y34)) ∧ ((List.length (RS.params y34) = List.length (RS.params y34)) ∧ ((List.length (RS.out y34) = List.length (RS.out y34)) ∧ (s56 y34 ∧ (fun y43 => True) (f56 y34))))))) else (if (decide (RS.state y34 = (12 : Int))) = true then ((List.length (RS.db y34) = List.length (RS.db y34)) ∧ ((List.length (RS.params y34) = List.length (RS.params y34)) ∧ ((List.length (RS.out y34) = List.length (RS.out y34)) ∧ (s57 y34 x' ∧ (fun y44 => True) (f57 y34 x'))))) else (if (decide (RS.state y34 = (11 : Int))) = true then ((List.length (RS.db y34) = List.length (RS.db y34)) ∧ ((List.length (RS.params y34) = List.length (RS.params y34)) ∧ ((List.length (RS.out y34) = List.length (RS.out y34)) ∧ (s57 y34 x' ∧ (fun y45 => True) (f57 y34 x'))))) else (if (decide ((128 : Int) ≤ x')) = true then True else (if (decide (RS.state y34 = (13 : Int))) = true then True else (if (decide (x' < (32 : Int))) = true then ((List.length (RS.db y34) = List.length (RS.db y34)) ∧ ((List.length (RS.params y34) = List.length (RS.params y34)) ∧ ((List.length (RS.out y34) = List.length (RS.out y34)) ∧ (s58 y34 x' ∧ (fun y46 => True) (f58 y34 x'))))) else (if (decide (x' = (127 : Int))) = true then True else ((List.length (RS.db y34) = List.length (RS.db y34)) ∧ ((List.length (RS.params y34) = List.length (RS.params y34)) ∧ ((List.length (RS.out y34) = List.length (RS.out y34)) ∧ (s59 y34 x' ∧ (fun y47 => True) (f59 y34 x'))))))))))))))) (f31 y32 (List.take (List.length y33) y33)))))))) ((f32 r).1) ((f32 r).2))))) else (if (decide (x' = (24 : Int))) = true then ((List.length (RS.db r) = List.length (RS.db r)) ∧ ((List.length (RS.params r) = List.length (RS.params r)) ∧ ((List.length (RS.out r) = List.length (RS.out r)) ∧ (s46 r (2 : Int) (0 : Int) x' (0 : Int) [] { data := #[] } { data := #[] } ∧ (fun y48 => True) (f46 r (2 : Int) (0 : Int) x' (0 : Int) [] { data := #[] } { data := #[] }))))) else (if (decide (x' = (26 : Int))) = true then ((List.length (RS.db r) = List.length (RS.db r)) ∧ ((List.length (RS.params r) = List.length (RS.params r)) ∧ ((List.length (RS.out r) = List.length (RS.out r)) ∧ (s46 r (2 : Int) (0 : Int) x' (0 : Int) [] { data := #[] } { data := #[] } ∧ (fun y49 => True) (f46 r (2 : Int) (0 : Int) x' (0 : Int) [] { data := #[] } { data := #[] }))))) else (if (decide (x' = (27 : Int))) = true then (if (decide (RS.state r = (12 : Int))) = true then ((List.length (RS.db r) = List.length (RS.db r)) ∧ ((List.length (RS.params r) = List.length (RS.params r)) ∧ ((List.length (RS.out r) = List.length (RS.out r)) ∧ (s46 r (5 : Int) (0 : Int) (0 : Int) (0 : Int) [] { data := #[] } (RS.text r) ∧ (fun y50 => (if (decide (RS.state y50 = (11 : Int))) = true then ((decide ((0 : Nat) + List.length (RS.params y50) ≤ List.length (RS.params y50))) = true ∧ ((decide (List.length (List.take (List.length (RS.params y50)) (RS.params y50)) * (8 : Nat) ≤ (140737488351232 : Nat))) = true ∧ ((decide ((0 : Nat) + List.length (List.take (List.length (RS.params y50)) (RS.params y50)) ≤ List.length (List.take (List.length (RS.params y50)) (RS.params y50)))) = true ∧ ((List.length (RS.db y50) = List.length (RS.db y50)) ∧ ((List.length (RS.params y50) = List.length (RS.params y50)) ∧ ((List.length (RS.out y50) = List.length (RS.out y50)) ∧ (s46 y50 (6 : Int) (0 : Int) (RS.final y50) (RS.private_ y50) (List.take (List.length (List.take (List.length (RS.params y50)) (RS.params y50))) (List.take (List.length (RS.params y50)) (RS.params y50))) (RS.inter y50) (RS.text y50) ∧ (fun y51 => ((List.length (RS.db y51) = List.length (RS.db y51)) ∧ ((List.length (RS.params y51) = List.length (RS.params y51)) ∧ ((List.length (RS.out y51) = List.length (RS.out y51)) ∧ (s56 y51 ∧ (fun y52 => True) (f56 y51)))))) (f46 y50 (6 : Int) (0 : Int) (RS.final y50) (RS.private_ y50) (List.take (List.length (List.take (List.length (RS.params y50)) (RS.params y50))) (List.take (List.length (RS.params y50)) (RS.params y50))) (RS.inter y50) (RS.text y50))))))))) else ((List.length (RS.db y50) = List.length (RS.db y50)) ∧ ((List.length (RS.params y50) = List.length (RS.params y50)) ∧ ((List.length (RS.out y50) = List.length (RS.out y50)) ∧ (s56 y50 ∧ (fun y53 => True) (f56 y50))))))) (f46 r (5 : Int) (0 : Int) (0 : Int) (0 : Int) [] { data := #[] } (RS.text r)))))) else (if (decide (RS.state r = (11 : Int))) = true then ((decide ((0 : Nat) + List.length (RS.params r) ≤ List.length (RS.params r))) = true ∧ ((decide (List.length (List.take (List.length (RS.params r)) (RS.params r)) * (8 : Nat) ≤ (140737488351232 : Nat))) = true ∧ ((decide ((0 : Nat) + List.length (List.take (List.length (RS.params r)) (RS.params r)) ≤ List.length (List.take (List.length (RS.params r)) (RS.params r)))) = true ∧ ((List.length (RS.db r) = List.length (RS.db r)) ∧ ((List.length (RS.params r) = List.length (RS.params r)) ∧ ((List.length (RS.out r) = List.length (RS.out r)) ∧ (s46 r (6 : Int) (0 : Int) (RS.final r) (RS.private_ r) (List.take (List.length (List.take (List.length (RS.params r)) (RS.params r))) (List.take (List.length (RS.params r)) (RS.params r))) (RS.inter r) (RS.text r) ∧ (fun y54 => ((List.length (RS.db y54) = List.length (RS.db y54)) ∧ ((List.length (RS.params y54) = List.length (RS.params y54)) ∧ ((List.length (RS.out y54) = List.length (RS.out y54)) ∧ (s56 y54 ∧ (fun y55 => True) (f56 y54)))))) (f46 r (6 : Int) (0 : Int) (RS.final r) (RS.private_ r) (List.take (List.length (List.take (List.length (RS.params r)) (RS.params r))) (List.take (List.length (RS.params r)) (RS.params r))) (RS.inter r) (RS.text r))))))))) else ((List.length (RS.db r) = List.length (RS.db r)) ∧ ((List.length (RS.params r) = List.length (RS.params r)) ∧ ((List.length (RS.out r) = List.length (RS.out r)) ∧ (s56 r ∧ (fun y56 => True) (f56 r))))))) else (if (decide (RS.state r = (12 : Int))) = true then ((List.length (RS.db r) = List.length (RS.db r)) ∧ ((List.length (RS.params r) = List.length (RS.params r)) ∧ ((List.length (RS.out r) = List.length (RS.out r)) ∧ (s57 r x' ∧ (fun y57 => True) (f57 r x'))))) else (if (decide (RS.state r = (11 : Int))) = true then ((List.length (RS.db r) = List.length (RS.db r)) ∧ ((List.length (RS.params r) = List.length (RS.params r)) ∧ ((List.length (RS.out r) = List.length (RS.out r)) ∧ (s57 r x' ∧ (fun y58 => True) (f57 r x'))))) else (if (decide ((128 : Int) ≤ x')) = true then True else (if (decide (RS.state r = (13 : Int))) = true then True else (if (decide (x' < (32 : Int))) = true then ((List.length (RS.db r) = List.length (RS.db r)) ∧ ((List.length (RS.params r) = List.length (RS.params r)) ∧ ((List.length (RS.out r) = List.length (RS.out r)) ∧ (s58 r x' ∧ (fun y59 => True) (f58 r x'))))) else (if (decide (x' = (127 : Int))) = true then True else ((List.length (RS.db r) = List.length (RS.db r)) ∧ ((List.length (RS.params r) = List.length (RS.params r)) ∧ ((List.length (RS.out r) = List.length (RS.out r)) ∧ (s59 r x' ∧ (fun y60 => True) (f59 r x'))))))))))))))))
theorem v37 (r : RS) (x' : Int) (K : RS → Prop) (h : s37 r x') (k : K (f37 r x')) : m37 r x' K := by
  unfold m37
  unfold s37 at h
  unfold f37 at k
  refine br_mk (fun hc => ?_) (fun hc => ?_)
  · rw [if_pos hc] at h k
    refine br_mk (fun hc => ?_) (fun hc => ?_)
    · rw [if_pos hc] at h k
      obtain ⟨h1, h⟩ := h; refine ⟨h1, ?_⟩; clear h1
      obtain ⟨h1, h⟩ := h; refine ⟨h1, ?_⟩; clear h1
      obtain ⟨h1, h⟩ := h; refine ⟨h1, ?_⟩; clear h1
      obtain ⟨h1, h⟩ := h
      refine v54 _ _ _ h1 ?_
      (try dsimp only at h); (try dsimp only at k); (try dsimp only)
      obtain ⟨h1, h⟩ := h; refine req_mk h1 ?_; clear h1
      obtain ⟨h1, h⟩ := h; refine ⟨h1, ?_⟩; clear h1
      obtain ⟨h1, h⟩ := h; refine ⟨h1, ?_⟩; clear h1
      obtain ⟨h1, h⟩ := h; refine ⟨h1, ?_⟩; clear h1
      obtain ⟨h1, h⟩ := h
      refine v31 _ _ _ h1 ?_
      (try dsimp only at h); (try dsimp only at k); (try dsimp only)
      exact k
    · rw [if_neg (nf_Rf1 hc)] at h k
      refine br_mk (fun hc => ?_) (fun hc => ?_)
      · rw [if_pos hc] at h k
        obtain ⟨h1, h⟩ := h; refine ⟨h1, ?_⟩; clear h1
        obtain ⟨h1, h⟩ := h; refine ⟨h1, ?_⟩; clear h1
        obtain ⟨h1, h⟩ := h; refine ⟨h1, ?_⟩; clear h1
        obtain ⟨h1, h⟩ := h
        refine v32 _ _ h1 ?_
        (try dsimp only at h); (try dsimp only at k); (try dsimp only)
        obtain ⟨h1, h⟩ := h; refine req_mk h1 ?_; clear h1
        obtain ⟨h1, h⟩ := h; refine ⟨h1, ?_⟩; clear h1
        obtain ⟨h1, h⟩ := h; refine ⟨h1, ?_⟩; clear h1
        obtain ⟨h1, h⟩ := h; refine ⟨h1, ?_⟩; clear h1
        obtain ⟨h1, h⟩ := h
        refine v31 _ _ _ h1 ?_
        (try dsimp only at h); (try dsimp only at k); (try dsimp only)
        refine br_mk (fun hc => ?_) (fun hc => ?_)
        · rw [if_pos hc] at h k
          obtain ⟨h1, h⟩ := h; refine ⟨h1, ?_⟩; clear h1
          obtain ⟨h1, h⟩ := h; refine ⟨h1, ?_⟩; clear h1
          obtain ⟨h1, h⟩ := h; refine ⟨h1, ?_⟩; clear h1
          obtain ⟨h1, h⟩ := h
          refine v46 _ _ _ _ _ _ _ _ _ h1 ?_
          (try dsimp only at h); (try dsimp only at k); (try dsimp only)
          exact k
        · rw [if_neg (nf_Rf1 hc)] at h k
          refine br_mk (fun hc => ?_) (fun hc => ?_)
          · rw [if_pos hc] at h k
            obtain ⟨h1, h⟩ := h; refine ⟨h1, ?_⟩; clear h1
            obtain ⟨h1, h⟩ := h; refine ⟨h1, ?_⟩; clear h1
            obtain ⟨h1, h⟩ := h; refine ⟨h1, ?_⟩; clear h1
            obtain ⟨h1, h⟩ := h
            refine v46 _ _ _ _ _ _ _ _ _ h1 ?_
            (try dsimp only at h); (try dsimp only at k); (try dsimp only)
            exact k
          · rw [if_neg (nf_Rf1 hc)] at h k
            refine br_mk (fun hc => ?_) (fun hc => ?_)
            · rw [if_pos hc] at h k
              refine br_mk (fun hc => ?_) (fun hc => ?_)
              · rw [if_pos hc] at h k
                obtain ⟨h1, h⟩ := h; refine ⟨h1, ?_⟩; clear h1
                obtain ⟨h1, h⟩ := h; refine ⟨h1, ?_⟩; clear h1
                obtain ⟨h1, h⟩ := h; refine ⟨h1, ?_⟩; clear h1
                obtain ⟨h1, h⟩ := h
                refine v46 _ _ _ _ _ _ _ _ _ h1 ?_
                (try dsimp only at h); (try dsimp only at k); (try dsimp only)
                refine br_mk (fun hc => ?_) (fun hc => ?_)
                · rw [if_pos hc] at h k
                  obtain ⟨h1, h⟩ := h; refine req_mk h1 ?_; clear h1
                  obtain ⟨h1, h⟩ := h; refine req_mk h1 ?_; clear h1
                  obtain ⟨h1, h⟩ := h; refine req_mk h1 ?_; clear h1
                  obtain ⟨h1, h⟩ := h; refine ⟨h1, ?_⟩; clear h1
                  obtain ⟨h1, h⟩ := h; refine ⟨h1, ?_⟩; clear h1
                  obtain ⟨h1, h⟩ := h; refine ⟨h1, ?_⟩; clear h1
                  obtain ⟨h1, h⟩ := h
                  refine v46 _ _ _ _ _ _ _ _ _ h1 ?_
                  (try dsimp only at h); (try dsimp only at k); (try dsimp only)
                  obtain ⟨h1, h⟩ := h; refine ⟨h1, ?_⟩; clear h1
                  obtain ⟨h1, h⟩ := h; refine ⟨h1, ?_⟩; clear h1
                  obtain ⟨h1, h⟩ := h; refine ⟨h1, ?_⟩; clear h1
                  obtain ⟨h1, h⟩ := h
                  refine v56 _ _ h1 ?_
                  (try dsimp only at h); (try dsimp only at k); (try dsimp only)
                  exact k
                · rw [if_neg (nf_Rf1 hc)] at h k
                  obtain ⟨h1, h⟩ := h; refine ⟨h1, ?_⟩; clear h1
                  obtain ⟨h1, h⟩ := h; refine ⟨h1, ?_⟩; clear h1
                  obtain ⟨h1, h⟩ := h; refine ⟨h1, ?_⟩; clear h1
                  obtain ⟨h1, h⟩ := h
                  refine v56 _ _ h1 ?_
                  (try dsimp only at h); (try dsimp only at k); (try dsimp only)
                  exact k
              · rw [if_neg (nf_Rf1 hc)] at h k
                refine br_mk (fun hc => ?_) (fun hc => ?_)
                · rw [if_pos hc] at h k
                  obtain ⟨h1, h⟩ := h; refine req_mk h1 ?_; clear h1
                  obtain ⟨h1, h⟩ := h; refine req_mk h1 ?_; clear h1
                  obtain ⟨h1, h⟩ := h; refine req_mk h1 ?_; clear h1
                  obtain ⟨h1, h⟩ := h; refine ⟨h1, ?_⟩; clear h1
                  obtain ⟨h1, h⟩ := h; refine ⟨h1, ?_⟩; clear h1
                  obtain ⟨h1, h⟩ := h; refine ⟨h1, ?_⟩; clear h1
                  obtain ⟨h1, h⟩ := h
                  refine v46 _ _ _ _ _ _ _ _ _ h1 ?_
                  (try dsimp only at h); (try dsimp only at k); (try dsimp only)
                  obtain ⟨h1, h⟩ := h; refine ⟨h1, ?_⟩; clear h1
                  obtain ⟨h1, h⟩ := h; refine ⟨h1, ?_⟩; clear h1
                  obtain ⟨h1, h⟩ := h; refine ⟨h1, ?_⟩; clear h1
                  obtain ⟨h1, h⟩ := h
                  refine v56 _ _ h1 ?_
                  (try dsimp only at h); (try dsimp only at k); (try dsimp only)
                  exact k
                · rw [if_neg (nf_Rf1 hc)] at h k
                  obtain ⟨h1, h⟩ := h; refine ⟨h1, ?_⟩; clear h1
                  obtain ⟨h1, h⟩ := h; refine ⟨h1, ?_⟩; clear h1
                  obtain ⟨h1, h⟩ := h; refine ⟨h1, ?_⟩; clear h1
                  obtain ⟨h1, h⟩ := h
                  refine v56 _ _ h1 ?_
                  (try dsimp only at h); (try dsimp only at k); (try dsimp only)
                  exact k
            · rw [if_neg (nf_Rf1 hc)] at h k
              refine br_mk (fun hc => ?_) (fun hc => ?_)
              · rw [if_pos hc] at h k
                obtain ⟨h1, h⟩ := h; refine ⟨h1, ?_⟩; clear h1
                obtain ⟨h1, h⟩ := h; refine ⟨h1, ?_⟩; clear h1
                obtain ⟨h1, h⟩ := h; refine ⟨h1, ?_⟩; clear h1
                obtain ⟨h1, h⟩ := h
                refine v57 _ _ _ h1 ?_
                (try dsimp only at h); (try dsimp only at k); (try dsimp only)
                exact k
              · rw [if_neg (nf_Rf1 hc)] at h k
                refine br_mk (fun hc => ?_) (fun hc => ?_)
                · rw [if_pos hc] at h k
                  obtain ⟨h1, h⟩ := h; refine ⟨h1, ?_⟩; clear h1
                  obtain ⟨h1, h⟩ := h; refine ⟨h1, ?_⟩; clear h1
                  obtain ⟨h1, h⟩ := h; refine ⟨h1, ?_⟩; clear h1
                  obtain ⟨h1, h⟩ := h
                  refine v57 _ _ _ h1 ?_
                  (try dsimp only at h); (try dsimp only at k); (try dsimp only)
                  exact k
                · rw [if_neg (nf_Rf1 hc)] at h k
                  refine br_mk (fun hc => ?_) (fun hc => ?_)
                  · rw [if_pos hc] at h k
                    exact k
                  · rw [if_neg (nf_Rf1 hc)] at h k
                    refine br_mk (fun hc => ?_) (fun hc => ?_)
                    · rw [if_pos hc] at h k
                      exact k
                    · rw [if_neg (nf_Rf1 hc)] at h k
                      refine br_mk (fun hc => ?_) (fun hc => ?_)
                      · rw [if_pos hc] at h k
                        obtain ⟨h1, h⟩ := h; refine ⟨h1, ?_⟩; clear h1
                        obtain ⟨h1, h⟩ := h; refine ⟨h1, ?_⟩; clear h1
                        obtain ⟨h1, h⟩ := h; refine ⟨h1, ?_⟩; clear h1
                        obtain ⟨h1, h⟩ := h
                        refine v58 _ _ _ h1 ?_
                        (try dsimp only at h); (try dsimp only at k); (try dsimp only)
                        exact k
                      · rw [if_neg (nf_Rf1 hc)] at h k
                        refine br_mk (fun hc => ?_) (fun hc => ?_)
                        · rw [if_pos hc] at h k
                          exact k
                        · rw [if_neg (nf_Rf1 hc)] at h k
                          obtain ⟨h1, h⟩ := h; refine ⟨h1, ?_⟩; clear h1
                          obtain ⟨h1, h⟩ := h; refine ⟨h1, ?_⟩; clear h1
                          obtain ⟨h1, h⟩ := h; refine ⟨h1, ?_⟩; clear h1
                          obtain ⟨h1, h⟩ := h
                          refine v59 _ _ _ h1 ?_
                          (try dsimp only at h); (try dsimp only at k); (try dsimp only)
                          exact k
      · rw [if_neg (nf_Rf1 hc)] at h k
        refine br_mk (fun hc => ?_) (fun hc => ?_)
        · rw [if_pos hc] at h k
          obtain ⟨h1, h⟩ := h; refine ⟨h1, ?_⟩; clear h1
          obtain ⟨h1, h⟩ := h; refine ⟨h1, ?_⟩; clear h1
          obtain ⟨h1, h⟩ := h; refine ⟨h1, ?_⟩; clear h1
          obtain ⟨h1, h⟩ := h
          refine v46 _ _ _ _ _ _ _ _ _ h1 ?_
          (try dsimp only at h); (try dsimp only at k); (try dsimp only)
          exact k
        · rw [if_neg (nf_Rf1 hc)] at h k
          refine br_mk (fun hc => ?_) (fun hc => ?_)
          · rw [if_pos hc] at h k
            obtain ⟨h1, h⟩ := h; refine ⟨h1, ?_⟩; clear h1
            obtain ⟨h1, h⟩ := h; refine ⟨h1, ?_⟩; clear h1
            obtain ⟨h1, h⟩ := h; refine ⟨h1, ?_⟩; clear h1
            obtain ⟨h1, h⟩ := h
            refine v46 _ _ _ _ _ _ _ _ _ h1 ?_
            (try dsimp only at h); (try dsimp only at k); (try dsimp only)
            exact k
          · rw [if_neg (nf_Rf1 hc)] at h k
            refine br_mk (fun hc => ?_) (fun hc => ?_)
            · rw [if_pos hc] at h k
              refine br_mk (fun hc => ?_) (fun hc => ?_)
              · rw [if_pos hc] at h k
                obtain ⟨h1, h⟩ := h; refine ⟨h1, ?_⟩; clear h1
                obtain ⟨h1, h⟩ := h; refine ⟨h1, ?_⟩; clear h1
                obtain ⟨h1, h⟩ := h; refine ⟨h1, ?_⟩; clear h1
                obtain ⟨h1, h⟩ := h
                refine v46 _ _ _ _ _ _ _ _ _ h1 ?_
                (try dsimp only at h); (try dsimp only at k); (try dsimp only)
                refine br_mk (fun hc => ?_) (fun hc => ?_)
                · rw [if_pos hc] at h k
                  obtain ⟨h1, h⟩ := h; refine req_mk h1 ?_; clear h1
                  obtain ⟨h1, h⟩ := h; refine req_mk h1 ?_; clear h1
                  obtain ⟨h1, h⟩ := h; refine req_mk h1 ?_; clear h1
                  obtain ⟨h1, h⟩ := h; refine ⟨h1, ?_⟩; clear h1
                  obtain ⟨h1, h⟩ := h; refine ⟨h1, ?_⟩; clear h1
                  obtain ⟨h1, h⟩ := h; refine ⟨h1, ?_⟩; clear h1
                  obtain ⟨h1, h⟩ := h
                  refine v46 _ _ _ _ _ _ _ _ _ h1 ?_
                  (try dsimp only at h); (try dsimp only at k); (try dsimp only)
                  obtain ⟨h1, h⟩ := h; refine ⟨h1, ?_⟩; clear h1
                  obtain ⟨h1, h⟩ := h; refine ⟨h1, ?_⟩; clear h1
                  obtain ⟨h1, h⟩ := h; refine ⟨h1, ?_⟩; clear h1
                  obtain ⟨h1, h⟩ := h
                  refine v56 _ _ h1 ?_
                  (try dsimp only at h); (try dsimp only at k); (try dsimp only)
                  exact k
                · rw [if_neg (nf_Rf1 hc)] at h k
                  obtain ⟨h1, h⟩ := h; refine ⟨h1, ?_⟩; clear h1
                  obtain ⟨h1, h⟩ := h; refine ⟨h1, ?_⟩; clear h1
                  obtain ⟨h1, h⟩ := h; refine ⟨h1, ?_⟩; clear h1
                  obtain ⟨h1, h⟩ := h
                  refine v56 _ _ h1 ?_
                  (try dsimp only at h); (try dsimp only at k); (try dsimp only)
                  exact k
              · rw [if_neg (nf_Rf1 hc)] at h k
                refine br_mk (fun hc => ?_) (fun hc => ?_)
                · rw [if_pos hc] at h k
                  obtain ⟨h1, h⟩ := h; refine req_mk h1 ?_; clear h1
                  obtain ⟨h1, h⟩ := h; refine req_mk h1 ?_; clear h1
                  obtain ⟨h1, h⟩ := h; refine req_mk h1 ?_; clear h1
                  obtain ⟨h1, h⟩ := h; refine ⟨h1, ?_⟩; clear h1
                  obtain ⟨h1, h⟩ := h; refine ⟨h1, ?_⟩; clear h1
                  obtain ⟨h1, h⟩ := h; refine ⟨h1, ?_⟩; clear h1
                  obtain ⟨h1, h⟩ := h
                  refine v46 _ _ _ _ _ _ _ _ _ h1 ?_
                  (try dsimp only at h); (try dsimp only at k); (try dsimp only)
                  obtain ⟨h1, h⟩ := h; refine ⟨h1, ?_⟩; clear h1
                  obtain ⟨h1, h⟩ := h; refine ⟨h1, ?_⟩; clear h1
                  obtain ⟨h1, h⟩ := h; refine ⟨h1, ?_⟩; clear h1
                  obtain ⟨h1, h⟩ := h
                  refine v56 _ _ h1 ?_
                  (try dsimp only at h); (try dsimp only at k); (try dsimp only)
                  exact k
                · rw [if_neg (nf_Rf1 hc)] at h k
                  obtain ⟨h1, h⟩ := h; refine ⟨h1, ?_⟩; clear h1
                  obtain ⟨h1, h⟩ := h; refine ⟨h1, ?_⟩; clear h1
                  obtain ⟨h1, h⟩ := h; refine ⟨h1, ?_⟩; clear h1
                  obtain ⟨h1, h⟩ := h
                  refine v56 _ _ h1 ?_
                  (try dsimp only at h); (try dsimp only at k); (try dsimp only)
                  exact k
            · rw [if_neg (nf_Rf1 hc)] at h k
              refine br_mk (fun hc => ?_) (fun hc => ?_)
              · rw [if_pos hc] at h k
                obtain ⟨h1, h⟩ := h; refine ⟨h1, ?_⟩; clear h1
                obtain ⟨h1, h⟩ := h; refine ⟨h1, ?_⟩; clear h1
                obtain ⟨h1, h⟩ := h; refine ⟨h1, ?_⟩; clear h1
                obtain ⟨h1, h⟩ := h
                refine v57 _ _ _ h1 ?_
                (try dsimp only at h); (try dsimp only at k); (try dsimp only)
                exact k
              · rw [if_neg (nf_Rf1 hc)] at h k
                refine br_mk (fun hc => ?_) (fun hc => ?_)
                · rw [if_pos hc] at h k
                  obtain ⟨h1, h⟩ := h; refine ⟨h1, ?_⟩; clear h1
                  obtain ⟨h1, h⟩ := h; refine ⟨h1, ?_⟩; clear h1
                  obtain ⟨h1, h⟩ := h; refine ⟨h1, ?_⟩; clear h1
                  obtain ⟨h1, h⟩ := h
                  refine v57 _ _ _ h1 ?_
                  (try dsimp only at h); (try dsimp only at k); (try dsimp only)
                  exact k
                · rw [if_neg (nf_Rf1 hc)] at h k
                  refine br_mk (fun hc => ?_) (fun hc => ?_)
                  · rw [if_pos hc] at h k
                    exact k
                  · rw [if_neg (nf_Rf1 hc)] at h k
                    refine br_mk (fun hc => ?_) (fun hc => ?_)
                    · rw [if_pos hc] at h k
                      exact k
                    · rw [if_neg (nf_Rf1 hc)] at h k
                      refine br_mk (fun hc => ?_) (fun hc => ?_)
                      · rw [if_pos hc] at h k
                        obtain ⟨h1, h⟩ := h; refine ⟨h1, ?_⟩; clear h1
                        obtain ⟨h1, h⟩ := h; refine ⟨h1, ?_⟩; clear h1
                        obtain ⟨h1, h⟩ := h; refine ⟨h1, ?_⟩; clear h1
                        obtain ⟨h1, h⟩ := h
                        refine v58 _ _ _ h1 ?_
                        (try dsimp only at h); (try dsimp only at k); (try dsimp only)
                        exact k
                      · rw [if_neg (nf_Rf1 hc)] at h k
                        refine br_mk (fun hc => ?_) (fun hc => ?_)
                        · rw [if_pos hc] at h k
                          exact k
                        · rw [if_neg (nf_Rf1 hc)] at h k
                          obtain ⟨h1, h⟩ := h; refine ⟨h1, ?_⟩; clear h1
                          obtain ⟨h1, h⟩ := h; refine ⟨h1, ?_⟩; clear h1
                          obtain ⟨h1, h⟩ := h; refine ⟨h1, ?_⟩; clear h1
                          obtain ⟨h1, h⟩ := h
                          refine v59 _ _ _ h1 ?_
                          (try dsimp only at h); (try dsimp only at k); (try dsimp only)
                          exact k
  · rw [if_neg (nf_Rf1 hc)] at h k
    refine br_mk (fun hc => ?_) (fun hc => ?_)
    · rw [if_pos hc] at h k
      obtain ⟨h1, h⟩ := h; refine ⟨h1, ?_⟩; clear h1
      obtain ⟨h1, h⟩ := h; refine ⟨h1, ?_⟩; clear h1
      obtain ⟨h1, h⟩ := h; refine ⟨h1, ?_⟩; clear h1
      obtain ⟨h1, h⟩ := h
      refine v32 _ _ h1 ?_
      (try dsimp only at h); (try dsimp only at k); (try dsimp only)
      obtain ⟨h1, h⟩ := h; refine req_mk h1 ?_; clear h1
      obtain ⟨h1, h⟩ := h; refine ⟨h1, ?_⟩; clear h1
      obtain ⟨h1, h⟩ := h; refine ⟨h1, ?_⟩; clear h1
      obtain ⟨h1, h⟩ := h; refine ⟨h1, ?_⟩; clear h1
      obtain ⟨h1, h⟩ := h
      refine v31 _ _ _ h1 ?_
      (try dsimp only at h); (try dsimp only at k); (try dsimp only)
      refine br_mk (fun hc => ?_) (fun hc => ?_)
      · rw [if_pos hc] at h k
        obtain ⟨h1, h⟩ := h; refine ⟨h1, ?_⟩; clear h1
        obtain ⟨h1, h⟩ := h; refine ⟨h1, ?_⟩; clear h1
        obtain ⟨h1, h⟩ := h; refine ⟨h1, ?_⟩; clear h1
        obtain ⟨h1, h⟩ := h
        refine v46 _ _ _ _ _ _ _ _ _ h1 ?_
        (try dsimp only at h); (try dsimp only at k); (try dsimp only)
        exact k
      · rw [if_neg (nf_Rf1 hc)] at h k
        refine br_mk (fun hc => ?_) (fun hc => ?_)
        · rw [if_pos hc] at h k
          obtain ⟨h1, h⟩ := h; refine ⟨h1, ?_⟩; clear h1
          obtain ⟨h1, h⟩ := h; refine ⟨h1, ?_⟩; clear h1
          obtain ⟨h1, h⟩ := h; refine ⟨h1, ?_⟩; clear h1
          obtain ⟨h1, h⟩ := h
          refine v46 _ _ _ _ _ _ _ _ _ h1 ?_
          (try dsimp only at h); (try dsimp only at k); (try dsimp only)
          exact k
        · rw [if_neg (nf_Rf1 hc)] at h k
          refine br_mk (fun hc => ?_) (fun hc => ?_)
          · rw [if_pos hc] at h k
            refine br_mk (fun hc => ?_) (fun hc => ?_)
            · rw [if_pos hc] at h k
              obtain ⟨h1, h⟩ := h; refine ⟨h1, ?_⟩; clear h1
              obtain ⟨h1, h⟩ := h; refine ⟨h1, ?_⟩; clear h1
              obtain ⟨h1, h⟩ := h; refine ⟨h1, ?_⟩; clear h1
              obtain ⟨h1, h⟩ := h
              refine v46 _ _ _ _ _ _ _ _ _ h1 ?_
              (try dsimp only at h); (try dsimp only at k); (try dsimp only)
              refine br_mk (fun hc => ?_) (fun hc => ?_)
              · rw [if_pos hc] at h k
                obtain ⟨h1, h⟩ := h; refine req_mk h1 ?_; clear h1
                obtain ⟨h1, h⟩ := h; refine req_mk h1 ?_; clear h1
                obtain ⟨h1, h⟩ := h; refine req_mk h1 ?_; clear h1
                obtain ⟨h1, h⟩ := h; refine ⟨h1, ?_⟩; clear h1
                obtain ⟨h1, h⟩ := h; refine ⟨h1, ?_⟩; clear h1
                obtain ⟨h1, h⟩ := h; refine ⟨h1, ?_⟩; clear h1
                obtain ⟨h1, h⟩ := h
                refine v46 _ _ _ _ _ _ _ _ _ h1 ?_
                (try dsimp only at h); (try dsimp only at k); (try dsimp only)
                obtain ⟨h1, h⟩ := h; refine ⟨h1, ?_⟩; clear h1
                obtain ⟨h1, h⟩ := h; refine ⟨h1, ?_⟩; clear h1
                obtain ⟨h1, h⟩ := h; refine ⟨h1, ?_⟩; clear h1
                obtain ⟨h1, h⟩ := h
                refine v56 _ _ h1 ?_
                (try dsimp only at h); (try dsimp only at k); (try dsimp only)
                exact k
              · rw [if_neg (nf_Rf1 hc)] at h k
                obtain ⟨h1, h⟩ := h; refine ⟨h1, ?_⟩; clear h1
                obtain ⟨h1, h⟩ := h; refine ⟨h1, ?_⟩; clear h1
                obtain ⟨h1, h⟩ := h; refine ⟨h1, ?_⟩; clear h1
                obtain ⟨h1, h⟩ := h
                refine v56 _ _ h1 ?_
                (try dsimp only at h); (try dsimp only at k); (try dsimp only)
                exact k
            · rw [if_neg (nf_Rf1 hc)] at h k
              refine br_mk (fun hc => ?_) (fun hc => ?_)
              · rw [if_pos hc] at h k
                obtain ⟨h1, h⟩ := h; refine req_mk h1 ?_; clear h1
                obtain ⟨h1, h⟩ := h; refine req_mk h1 ?_; clear h1
                obtain ⟨h1, h⟩ := h; refine req_mk h1 ?_; clear h1
                obtain ⟨h1, h⟩ := h; refine ⟨h1, ?_⟩; clear h1
                obtain ⟨h1, h⟩ := h; refine ⟨h1, ?_⟩; clear h1
                obtain ⟨h1, h⟩ := h; refine ⟨h1, ?_⟩; clear h1
                obtain ⟨h1, h⟩ := h
                refine v46 _ _ _ _ _ _ _ _ _ h1 ?_
                (try dsimp only at h); (try dsimp only at k); (try dsimp only)
                obtain ⟨h1, h⟩ := h; refine ⟨h1, ?_⟩; clear h1
                obtain ⟨h1, h⟩ := h; refine ⟨h1, ?_⟩; clear h1
                obtain ⟨h1, h⟩ := h; refine ⟨h1, ?_⟩; clear h1
                obtain ⟨h1, h⟩ := h
                refine v56 _ _ h1 ?_
                (try dsimp only at h); (try dsimp only at k); (try dsimp only)
                exact k
              · rw [if_neg (nf_Rf1 hc)] at h k
                obtain ⟨h1, h⟩ := h; refine ⟨h1, ?_⟩; clear h1
                obtain ⟨h1, h⟩ := h; refine ⟨h1, ?_⟩; clear h1
                obtain ⟨h1, h⟩ := h; refine ⟨h1, ?_⟩; clear h1
                obtain ⟨h1, h⟩ := h
                refine v56 _ _ h1 ?_
                (try dsimp only at h); (try dsimp only at k); (try dsimp only)
                exact k
          · rw [if_neg (nf_Rf1 hc)] at h k
            refine br_mk (fun hc => ?_) (fun hc => ?_)
            · rw [if_pos hc] at h k
              obtain ⟨h1, h⟩ := h; refine ⟨h1, ?_⟩; clear h1
              obtain ⟨h1, h⟩ := h; refine ⟨h1, ?_⟩; clear h1
              obtain ⟨h1, h⟩ := h; refine ⟨h1, ?_⟩; clear h1
              obtain ⟨h1, h⟩ := h
              refine v57 _ _ _ h1 ?_
              (try dsimp only at h); (try dsimp only at k); (try dsimp only)
              exact k
            · rw [if_neg (nf_Rf1 hc)] at h k
              refine br_mk (fun hc => ?_) (fun hc => ?_)
              · rw [if_pos hc] at h k
                obtain ⟨h1, h⟩ := h; refine ⟨h1, ?_⟩; clear h1
                obtain ⟨h1, h⟩ := h; refine ⟨h1, ?_⟩; clear h1
                obtain ⟨h1, h⟩ := h; refine ⟨h1, ?_⟩; clear h1
                obtain ⟨h1, h⟩ := h
                refine v57 _ _ _ h1 ?_
                (try dsimp only at h); (try dsimp only at k); (try dsimp only)
                exact k
              · rw [if_neg (nf_Rf1 hc)] at h k
                refine br_mk (fun hc => ?_) (fun hc => ?_)
                · rw [if_pos hc] at h k
                  exact k
                · rw [if_neg (nf_Rf1 hc)] at h k
                  refine br_mk (fun hc => ?_) (fun hc => ?_)
                  · rw [if_pos hc] at h k
                    exact k
                  · rw [if_neg (nf_Rf1 hc)] at h k
                    refine br_mk (fun hc => ?_) (fun hc => ?_)
                    · rw [if_pos hc] at h k
                      obtain ⟨h1, h⟩ := h; refine ⟨h1, ?_⟩; clear h1
                      obtain ⟨h1, h⟩ := h; refine ⟨h1, ?_⟩; clear h1
                      obtain ⟨h1, h⟩ := h; refine ⟨h1, ?_⟩; clear h1
                      obtain ⟨h1, h⟩ := h
                      refine v58 _ _ _ h1 ?_
                      (try dsimp only at h); (try dsimp only at k); (try dsimp only)
                      exact k
                    · rw [if_neg (nf_Rf1 hc)] at h k
                      refine br_mk (fun hc => ?_) (fun hc => ?_)
                      · rw [if_pos hc] at h k
                        exact k
                      · rw [if_neg (nf_Rf1 hc)] at h k
                        obtain ⟨h1, h⟩ := h; refine ⟨h1, ?_⟩; clear h1
                        obtain ⟨h1, h⟩ := h; refine ⟨h1, ?_⟩; clear h1
                        obtain ⟨h1, h⟩ := h; refine ⟨h1, ?_⟩; clear h1
                        obtain ⟨h1, h⟩ := h
                        refine v59 _ _ _ h1 ?_
                        (try dsimp only at h); (try dsimp only at k); (try dsimp only)
                        exact k
    · rw [if_neg (nf_Rf1 hc)] at h k
      refine br_mk (fun hc => ?_) (fun hc => ?_)
      · rw [if_pos hc] at h k
        obtain ⟨h1, h⟩ := h; refine ⟨h1, ?_⟩; clear h1
        obtain ⟨h1, h⟩ := h; refine ⟨h1, ?_⟩; clear h1
        obtain ⟨h1, h⟩ := h; refine ⟨h1, ?_⟩; clear h1
        obtain ⟨h1, h⟩ := h
        refine v46 _ _ _ _ _ _ _ _ _ h1 ?_
        (try dsimp only at h); (try dsimp only at k); (try dsimp only)
        exact k
      · rw [if_neg (nf_Rf1 hc)] at h k
        refine br_mk (fun hc => ?_) (fun hc => ?_)
        · rw [if_pos hc] at h k
          obtain ⟨h1, h⟩ := h; refine ⟨h1, ?_⟩; clear h1
          obtain ⟨h1, h⟩ := h; refine ⟨h1, ?_⟩; clear h1
          obtain ⟨h1, h⟩ := h; refine ⟨h1, ?_⟩; clear h1
          obtain ⟨h1, h⟩ := h
          refine v46 _ _ _ _ _ _ _ _ _ h1 ?_
          (try dsimp only at h); (try dsimp only at k); (try dsimp only)
          exact k
        · rw [if_neg (nf_Rf1 hc)] at h k
          refine br_mk (fun hc => ?_) (fun hc => ?_)
          · rw [if_pos hc] at h k
            refine br_mk (fun hc => ?_) (fun hc => ?_)
            · rw [if_pos hc] at h k
              obtain ⟨h1, h⟩ := h; refine ⟨h1, ?_⟩; clear h1
              obtain ⟨h1, h⟩ := h; refine ⟨h1, ?_⟩; clear h1
              obtain ⟨h1, h⟩ := h; refine ⟨h1, ?_⟩; clear h1
              obtain ⟨h1, h⟩ := h
              refine v46 _ _ _ _ _ _ _ _ _ h1 ?_
              (try dsimp only at h); (try dsimp only at k); (try dsimp only)
              refine br_mk (fun hc => ?_) (fun hc => ?_)
              · rw [if_pos hc] at h k
                obtain ⟨h1, h⟩ := h; refine req_mk h1 ?_; clear h1
                obtain ⟨h1, h⟩ := h; refine req_mk h1 ?_; clear h1
                obtain ⟨h1, h⟩ := h; refine req_mk h1 ?_; clear h1
                obtain ⟨h1, h⟩ := h; refine ⟨h1, ?_⟩; clear h1
                obtain ⟨h1, h⟩ := h; refine ⟨h1, ?_⟩; clear h1
                obtain ⟨h1, h⟩ := h; refine ⟨h1, ?_⟩; clear h1
                obtain ⟨h1, h⟩ := h
                refine v46 _ _ _ _ _ _ _ _ _ h1 ?_
                (try dsimp only at h); (try dsimp only at k); (try dsimp only)
                obtain ⟨h1, h⟩ := h; refine ⟨h1, ?_⟩; clear h1
                obtain ⟨h1, h⟩ := h; refine ⟨h1, ?_⟩; clear h1
                obtain ⟨h1, h⟩ := h; refine ⟨h1, ?_⟩; clear h1
                obtain ⟨h1, h⟩ := h
                refine v56 _ _ h1 ?_
                (try dsimp only at h); (try dsimp only at k); (try dsimp only)
                exact k
              · rw [if_neg (nf_Rf1 hc)] at h k
                obtain ⟨h1, h⟩ := h; refine ⟨h1, ?_⟩; clear h1
                obtain ⟨h1, h⟩ := h; refine ⟨h1, ?_⟩; clear h1
                obtain ⟨h1, h⟩ := h; refine ⟨h1, ?_⟩; clear h1
                obtain ⟨h1, h⟩ := h
                refine v56 _ _ h1 ?_
                (try dsimp only at h); (try dsimp only at k); (try dsimp only)
                exact k
            · rw [if_neg (nf_Rf1 hc)] at h k
              refine br_mk (fun hc => ?_) (fun hc => ?_)
              · rw [if_pos hc] at h k
                obtain ⟨h1, h⟩ := h; refine req_mk h1 ?_; clear h1
                obtain ⟨h1, h⟩ := h; refine req_mk h1 ?_; clear h1
                obtain ⟨h1, h⟩ := h; refine req_mk h1 ?_; clear h1
                obtain ⟨h1, h⟩ := h; refine ⟨h1, ?_⟩; clear h1
                obtain ⟨h1, h⟩ := h; refine ⟨h1, ?_⟩; clear h1
                obtain ⟨h1, h⟩ := h; refine ⟨h1, ?_⟩; clear h1
                obtain ⟨h1, h⟩ := h
                refine v46 _ _ _ _ _ _ _ _ _ h1 ?_
                (try dsimp only at h); (try dsimp only at k); (try dsimp only)
                obtain ⟨h1, h⟩ := h; refine ⟨h1, ?_⟩; clear h1
                obtain ⟨h1, h⟩ := h; refine ⟨h1, ?_⟩; clear h1
                obtain ⟨h1, h⟩ := h; refine ⟨h1, ?_⟩; clear h1
                obtain ⟨h1, h⟩ := h
                refine v56 _ _ h1 ?_
                (try dsimp only at h); (try dsimp only at k); (try dsimp only)
                exact k
              · rw [if_neg (nf_Rf1 hc)] at h k
                obtain ⟨h1, h⟩ := h; refine ⟨h1, ?_⟩; clear h1
                obtain ⟨h1, h⟩ := h; refine ⟨h1, ?_⟩; clear h1
                obtain ⟨h1, h⟩ := h; refine ⟨h1, ?_⟩; clear h1
                obtain ⟨h1, h⟩ := h
                refine v56 _ _ h1 ?_
                (try dsimp only at h); (try dsimp only at k); (try dsimp only)
                exact k
          · rw [if_neg (nf_Rf1 hc)] at h k
            refine br_mk (fun hc => ?_) (fun hc => ?_)
            · rw [if_pos hc] at h k
              obtain ⟨h1, h⟩ := h; refine ⟨h1, ?_⟩; clear h1
              obtain ⟨h1, h⟩ := h; refine ⟨h1, ?_⟩; clear h1
              obtain ⟨h1, h⟩ := h; refine ⟨h1, ?_⟩; clear h1
              obtain ⟨h1, h⟩ := h
              refine v57 _ _ _ h1 ?_
              (try dsimp only at h); (try dsimp only at k); (try dsimp only)
              exact k
            · rw [if_neg (nf_Rf1 hc)] at h k
              refine br_mk (fun hc => ?_) (fun hc => ?_)
              · rw [if_pos hc] at h k
                obtain ⟨h1, h⟩ := h; refine ⟨h1, ?_⟩; clear h1
                obtain ⟨h1, h⟩ := h; refine ⟨h1, ?_⟩; clear h1
                obtain ⟨h1, h⟩ := h; refine ⟨h1, ?_⟩; clear h1
                obtain ⟨h1, h⟩ := h
                refine v57 _ _ _ h1 ?_
                (try dsimp only at h); (try dsimp only at k); (try dsimp only)
                exact k
              · rw [if_neg (nf_Rf1 hc)] at h k
                refine br_mk (fun hc => ?_) (fun hc => ?_)
                · rw [if_pos hc] at h k
                  exact k
                · rw [if_neg (nf_Rf1 hc)] at h k
                  refine br_mk (fun hc => ?_) (fun hc => ?_)
                  · rw [if_pos hc] at h k
                    exact k
                  · rw [if_neg (nf_Rf1 hc)] at h k
                    refine br_mk (fun hc => ?_) (fun hc => ?_)
                    · rw [if_pos hc] at h k
                      obtain ⟨h1, h⟩ := h; refine ⟨h1, ?_⟩; clear h1
                      obtain ⟨h1, h⟩ := h; refine ⟨h1, ?_⟩; clear h1
                      obtain ⟨h1, h⟩ := h; refine ⟨h1, ?_⟩; clear h1
                      obtain ⟨h1, h⟩ := h
                      refine v58 _ _ _ h1 ?_
                      (try dsimp only at h); (try dsimp only at k); (try dsimp only)
                      exact k
                    · rw [if_neg (nf_Rf1 hc)] at h k
                      refine br_mk (fun hc => ?_) (fun hc => ?_)
                      · rw [if_pos hc] at h k
                        exact k
                      · rw [if_neg (nf_Rf1 hc)] at h k
                        obtain ⟨h1, h⟩ := h; refine ⟨h1, ?_⟩; clear h1
                        obtain ⟨h1, h⟩ := h; refine ⟨h1, ?_⟩; clear h1
                        obtain ⟨h1, h⟩ := h; refine ⟨h1, ?_⟩; clear h1
                        obtain ⟨h1, h⟩ := h
                        refine v59 _ _ _ h1 ?_
                        (try dsimp only at h); (try dsimp only at k); (try dsimp only)
                        exact k
end Go.Proofs.YtojdmhfkgkfpaaaDoor
