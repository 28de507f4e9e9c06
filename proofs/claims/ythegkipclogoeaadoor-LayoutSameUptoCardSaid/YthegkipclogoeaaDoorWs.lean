/- LayoutSame answers true for every input of bulk at most 1048576; conditions: the second form's bound, the listed tables. -/
import Derived.Test.YthegkipclogoeaaDoorZa
import Derived.Test.YthegkipclogoeaaDoorAmFl
import Derived.Test.YthegkipclogoeaaDoorZq
import Derived.Test.YthegkipclogoeaaDoorCards
import Derived.Test.YthegkipclogoeaaDoorTie
import Derived.Test.YthegkipclogoeaaDoorTb
import Derived.Test.YthegkipclogoeaaDoorLw
import Derived.WalkKit
import Derived.ProofKit
import Derived.OpenShut
import Derived.Deep.DeepHandedRow
import Derived.Lib.LaidTab
set_option linter.unusedVariables false
set_option maxRecDepth 100000
namespace Go.Proofs.YthegkipclogoeaaDoor
open Go.AM Go.LTxt Go.LMem Go.RowKit
noncomputable def l8_2 : Nat → C29 → C29 → List Dat → Int → Int → (C29 → C29 → Prop) → (C29 → C29 → Bool → Prop) → Prop
  | 0, _, _, _, _, _, _, _ => False
  | fu + 1, c, c2, xs, n, n2, E0, R_ =>
    br (decide (n2 < n)) (
     req (decide ((0 : Int) ≤ n2) && decide (n2 < (↑(List.length xs) : Int))) (
     req (decide (Int.toNat n2 < List.length xs)) (
     m21 (Dat.toList (List.getD xs (Int.toNat n2) default)) (fun y0 => 
      m25 (Dat.toList (List.getD xs (Int.toNat n2) default)) (fun y1 => 
       req (decide ((0 : Nat) + List.length y0 ≤ List.length y0)) (
       req (decide ((0 : Nat) + List.length y1 ≤ List.length y1)) (
       m15 (List.take (List.length y0) y0) (List.take (List.length y1) y1) (fun y2 => 
        br (!y2) (R_ c c2 false) (
         req (inR IntKind.i64 (n2 + (1 : Int))) (l8_2 fu c c2 xs n (n2 + (1 : Int)) E0 R_)))))))))) (E0 c c2)
def F8_2 : AM.Form := ⟨mkF 43 [(2, .p 0 0), (3, .p 1 0), (8, .ro (.slice (.pair .str (.pair (.int .i64) (.pair (.int .i64) .unit))))), (9, .int .i64), (10, .int .i64)], [.cells 29 [.ro (.slice (.pair .str (.pair (.int .i64) (.pair (.int .i64) .unit)))), .int .i64, .int .i64, .int .i64], .cells 29 [.ro (.slice (.pair .str (.pair (.int .i64) (.pair (.int .i64) .unit)))), .int .i64, .int .i64, .int .i64]]⟩
noncomputable def mm8_2 (n : Nat) (ds : List Dat) (Q : AExit → List AV → AH → Prop) : Prop := l8_2 n ⟨(dat ds 3).toList, (dat ds 4).toInt, (dat ds 5).toInt, (dat ds 6).toInt⟩ ⟨(dat ds 7).toList, (dat ds 8).toInt, (dat ds 9).toInt, (dat ds 10).toInt⟩ ((dat ds 0).toList) ((dat ds 1).toInt) ((dat ds 2).toInt) (fun rc rc2 => Q (AExit.exit 0) (mkAV 43 [(2, .p 0 0), (3, .p 1 0)]) ⟨[.cells 29 [.ro (.slice (.pair .str (.pair (.int .i64) (.pair (.int .i64) .unit)))) rc.rows, .c (.int .i64 rc.cursorRow), .c (.int .i64 rc.cursorCol), .c (.int .i64 rc.above)], .cells 29 [.ro (.slice (.pair .str (.pair (.int .i64) (.pair (.int .i64) .unit)))) rc2.rows, .c (.int .i64 rc2.cursorRow), .c (.int .i64 rc2.cursorCol), .c (.int .i64 rc2.above)]], []⟩) (fun rc rc2 rb => Q AExit.ret (mkAV 43 [(2, .p 0 0), (3, .p 1 0), (4, .c (.bool rb))]) ⟨[.cells 29 [.ro (.slice (.pair .str (.pair (.int .i64) (.pair (.int .i64) .unit)))) rc.rows, .c (.int .i64 rc.cursorRow), .c (.int .i64 rc.cursorCol), .c (.int .i64 rc.above)], .cells 29 [.ro (.slice (.pair .str (.pair (.int .i64) (.pair (.int .i64) .unit)))) rc2.rows, .c (.int .i64 rc2.cursorRow), .c (.int .i64 rc2.cursorCol), .c (.int .i64 rc2.above)]], []⟩)
theorem t8_2 (n : Nat) (ds : List Dat) (Q : AExit → List AV → AH → Prop) : wpA Tryd.prog tys GG9 1000 8 (theLoop Tryd.prog 8 2) (fun e f' h' => endF Tryd.prog ((fun _ => []) e) ((fun e => match e with | .normal => ⟨[2, 3, 8, 9, 10], []⟩ | .exit 0 => ⟨[2, 3], []⟩ | .ret => ⟨[2, 3, 4], []⟩ | _ => ⟨[], []⟩) e) ((fun e => match e with | .normal => [] | .exit 0 => [] | .ret => [] | _ => []) e) (F8_2.hp ds) f' h' fun f2 h2 => match e with
      | .normal => locL F8_2 (mm8_2 n) f2 h2 Q
      | e => Q e f2 h2) (F8_2.fr ds) (F8_2.hp ds) = mm8_2 (n + 1) ds Q := by kernel_rfl
noncomputable def R8_2 : LoopT := headF Tryd.prog [] ⟨[2, 3, 8, 9, 10], []⟩ [] fun f h Q => ∃ n, locL F8_2 (mm8_2 n) f h Q
theorem ok8_2 : LoopOK Tryd.prog (theLoop Tryd.prog 8 2) R8_2 := ruleL_ok sGG9 (by kernel_rfl) mm8_2 (fun _ _ => rfl) t8_2
noncomputable def ls8_2 : List (FuncId × Nat × LoopT) := (8, 2, R8_2) :: ls27_2
theorem ls8_2_ok : LoopsOK Tryd.prog ls8_2 := .cons (by kernel_rfl) ok8_2 ls27_2_ok
noncomputable def GG8_2 : Rules := mkG [37, 27] cs9 ls8_2
theorem sGG8_2 : Sound Tryd.prog tys GG8_2 := mk_sound mixed tysOK names (by kernel_rfl) cs9_ok ls8_2_ok
noncomputable def m8 (a : List Dat) (a2 : Int) (a3 : Int) (a4 : Int) (b : List Dat) (b2 : Int) (b3 : Int) (b4 : Int) (K : Bool → Prop) : Prop :=
    (∃ y0, 
    l8_2 y0 { rows := a, cursorRow := a2, cursorCol := a3, above := a4 } { rows := b, cursorRow := b2, cursorCol := b3, above := b4 } a (↑(List.length a) : Int) (0 : Int) (fun y1 y2 => 
     m11 (fun y3 => 
      br (y3) (
       m26 (C29.rows y1) (C29.cursorRow y1) (C29.cursorCol y1) (C29.above y1) (C29.rows y2) (C29.cursorRow y2) (C29.cursorCol y2) (C29.above y2) (fun y4 => 
        m27 (C29.rows y1) (C29.cursorRow y1) (C29.cursorCol y1) (C29.above y1) (C29.rows y2) (C29.cursorRow y2) (C29.cursorCol y2) (C29.above y2) (fun y5 => 
         br (y4 == y5) (
          m26 (C29.rows y1) (C29.cursorRow y1) (C29.cursorCol y1) (C29.above y1) (C29.rows y1) (C29.cursorRow y1) (C29.cursorCol y1) (C29.above y1) (fun y6 => 
           br (y6) (
            m29 (C29.rows y1) (C29.cursorRow y1) (C29.cursorCol y1) (C29.above y1) (fun y7 => 
             m30 (C29.rows y1) (C29.cursorRow y1) (C29.cursorCol y1) (C29.above y1) (fun y8 => 
              req (decide ((0 : Nat) + List.length y7 ≤ List.length y7)) (
              req (decide ((0 : Nat) + List.length y8 ≤ List.length y8)) (
              m28 (List.take (List.length y7) y7) (List.take (List.length y8) y8) (fun y9 => K y9)))))) (K false))) (K false)))) (K false))) (fun y10 y11 y12 => K y12))
def F8 : AM.Form := ⟨[.agg [.ro (.slice (.pair .str (.pair (.int .i64) (.pair (.int .i64) .unit)))), .int .i64, .int .i64, .int .i64], .agg [.ro (.slice (.pair .str (.pair (.int .i64) (.pair (.int .i64) .unit)))), .int .i64, .int .i64, .int .i64]], []⟩
noncomputable def mm8 (ds : List Dat) (K : AV → AH → Prop) : Prop := m8 ((dat ds 0).toList) ((dat ds 1).toInt) ((dat ds 2).toInt) ((dat ds 3).toInt) ((dat ds 4).toList) ((dat ds 5).toInt) ((dat ds 6).toInt) ((dat ds 7).toInt) (fun rb => K (.c (.bool rb)) ⟨[], []⟩)
theorem t8 (ds : List Dat) (K : AV → AH → Prop) : callA Tryd.prog tys GG8_2 1000 8 (F8.fr ds) (F8.hp ds) (fun v h' => endK Tryd.prog [] .keep (F8.hp ds) (F8.fr ds) v h' K) = mm8 ds K := by kernel_rfl
noncomputable def R8 : CallT := ruleF Tryd.prog [(.agg [(.ro (.slice (.pair .str (.pair (.int .i64) (.pair (.int .i64) .unit))))), .keep, .keep, .keep]), (.agg [(.ro (.slice (.pair .str (.pair (.int .i64) (.pair (.int .i64) .unit))))), .keep, .keep, .keep])] [] F8 mm8
theorem ok8 : CallOK Tryd.prog 8 R8 := ruleF_ok sGG8_2 t8
noncomputable def cs8 : List (FuncId × CallT) := (8, R8) :: cs9
theorem cs8_ok : CallsOK Tryd.prog cs8 := .cons ok8 cs9_ok
noncomputable def GG8 : Rules := mkG [37, 27] cs8 ls8_2
theorem sGG8 : Sound Tryd.prog tys GG8 := mk_sound mixed tysOK names (by kernel_rfl) cs8_ok ls8_2_ok
end Go.Proofs.YthegkipclogoeaaDoor

set_option linter.unusedVariables false
set_option linter.unusedSimpArgs false
set_option maxRecDepth 100000
namespace Go.Proofs.YthegkipclogoeaaDoor
open Go.AM Go.LTxt Go.LMem Go.RowKit
theorem vl49 {xs : List Dat} (hb : xs.length ≤ bigL) (hr : RowsB bigL xs) {E0 : List Dat → Prop} : ∀ (rest pre acc : List Dat), xs = pre ++ rest → acc.length = pre.length → E0 (acc ++ rest.map trimD) → ∃ fu, l49_3 fu acc xs (xs.length : Int) (pre.length : Int) E0
  | [], pre, acc, hx, hl, h => by
    subst hx
    refine ⟨1, ?_⟩
    unfold l49_3
    rw [ixe, br_f]
    simpa using h
  | d :: rest, pre, acc, hx, hl, h => by
    subst hx
    have hbig := bigL_eq
    have hpl : pre.length < bigL := by simp only [List.length_append, List.length_cons] at hb; omega
    obtain ⟨fu, hfu⟩ := vl49 hb hr rest (pre ++ [d]) (acc ++ [trimD d]) (snoc2 pre d rest) (by simp [hl]) (by simpa using h)
    refine ⟨fu + 1, ?_⟩
    rw [← snoc1 pre d] at hfu
    unfold l49_3
    rw [ixl, br_t, ix1, req_t, ix2, req_t, gd]
    refine v21 (hr d (by simp)) (req_mk (len_ok _) (req_mk (app_ok (by omega)) ?_))
    rw [rq (pre_in hb)]
    refine ⟨rfl, ?_⟩
    rw [dapp_full, List.take_length]
    exact hfu
/-- rows without the empty ones at the end -/
def dropE : Nat → List Dat → List Dat
  | 0, l => l
  | k + 1, l => if (l.getD k default).toList.length = 0 then dropE k (l.take k) else l
theorem vl49e {E2 : List Dat → Prop} : ∀ (k : Nat) (l : List Dat), l.length = k → k ≤ bigL → E2 (dropE k l) → ∃ fu, l49_7 fu l E2
  | 0, l, hk, hb, h => by
    refine ⟨1, ?_⟩
    unfold l49_7
    refine brf (decide_eq_false (by omega)) (req_mk (len_ok _) ?_)
    rw [dcut_full]
    exact h
  | k + 1, l, hk, hb, h => by
    have hbig := bigL_eq
    simp only [dropE] at h
    have q1 : inR .i64 ((l.length : Int) - 1) = true := in64 (by omega) (by omega)
    have q2 : (decide ((0 : Int) ≤ (l.length : Int) - 1) && decide ((l.length : Int) - 1 < (l.length : Int))) = true := by rw [Bool.and_eq_true, decide_eq_true_eq, decide_eq_true_eq]; omega
    have q3 : (decide ((0 : Int) ≤ (0 : Int)) && decide ((0 : Int) ≤ (l.length : Int) - 1) && decide ((l.length : Int) - 1 ≤ (l.length : Int))) = true := by rw [Bool.and_eq_true, Bool.and_eq_true, decide_eq_true_eq, decide_eq_true_eq, decide_eq_true_eq]; omega
    have e0 : (0 : Nat) + Int.toNat ((l.length : Int) - 1) = k := by omega
    have e1 : Int.toNat ((l.length : Int) - 1) - 0 = k := by omega
    by_cases hc : (l.getD k default).toList.length = 0
    · rw [if_pos hc] at h
      obtain ⟨fu, hfu⟩ := vl49e k (l.take k) (by rw [List.length_take]; omega) (by omega) h
      refine ⟨fu + 1, ?_⟩
      unfold l49_7
      refine brt (decide_eq_true (by omega)) ?_
      rw [rq q1, rq q2, e0]
      refine req_mk (decide_eq_true (by omega)) (brt (decide_eq_true (by omega)) ?_)
      rw [rq q1, rq q3, e1]
      refine req_mk (decide_eq_true (by omega)) ⟨rfl, ?_⟩
      have ed : dcut l 0 k = l.take k := by simp [dcut]
      rw [ed]
      exact hfu
    · rw [if_neg hc] at h
      refine ⟨1, ?_⟩
      unfold l49_7
      refine brt (decide_eq_true (by omega)) ?_
      rw [rq q1, rq q2, e0]
      refine req_mk (decide_eq_true (by omega)) (brf (decide_eq_false (by omega)) (req_mk (len_ok _) ?_))
      rw [dcut_full]
      exact h
def bareF (rows : List Dat) : List Dat := dropE rows.length (rows.map trimD)
theorem v49 {rows : List Dat} (hb : rows.length ≤ bigL) (hr : RowsB bigL rows) {K : List Dat → Prop} (h : K (bareF rows)) : m49 rows K := by
  unfold m49
  refine (fun (hf : ∃ fu2, l49_3 fu2 _ _ _ ((([] : List Dat).length : Nat) : Int) _) => hf.elim fun f2 hf => ⟨f2, rfl, hf⟩) (vl49 hb hr rows [] [] rfl rfl ?_)
  refine req_mk (len_ok _) ?_
  rw [dcut_full]
  refine (fun (hf : ∃ fu2, l49_7 fu2 _ _) => hf.elim fun f2 hf => ⟨f2, rfl, hf⟩) (vl49e _ _ rfl (by simpa using hb) ?_)
  unfold bareF at h
  simpa using h
def eqR (a b : Dat) : Bool := eqF eqC a.toList b.toList
theorem vl23 {s t : List Dat} (hb : s.length ≤ bigL) (hr : RowsB bigL s) (hl : s.length = t.length) {K : Bool → Prop} : ∀ (k i : Nat), i + k = s.length → K (allF eqR s t k i) → ∃ fu, l23_4 fu t s (s.length : Int) (i : Int) (K true) (fun y => K y)
  | 0, i, hi, h => by
    refine ⟨1, ?_⟩
    unfold l23_4
    exact brf (decide_eq_false (by omega)) h
  | k + 1, i, hi, h => by
    have hbig := bigL_eq
    have e2 : Int.toNat (i : Int) = i := by omega
    have hrl := hr (s.getD i default) (by rw [List.getD_eq_getElem?_getD, List.getElem?_eq_getElem (by omega)]; exact List.getElem_mem _)
    simp only [allF] at h
    by_cases hc : eqR (s.getD i default) (t.getD i default) = true
    · rw [hc, Bool.true_and] at h
      obtain ⟨fu, hfu⟩ := vl23 hb hr hl k (i + 1) (by omega) h
      refine ⟨fu + 1, ?_⟩
      unfold l23_4
      refine brt (decide_eq_true (by omega)) (req_mk (iy1 (by omega)) (req_mk (iy2 (by omega)) (req_mk (iy1 (by omega)) (req_mk (iy2 (by omega)) ?_))))
      rw [e2]
      refine v15 hrl (brf (show (!(eqR (s.getD i default) (t.getD i default))) = false by rw [hc]; rfl) ?_)
      rw [rq (in64 (n := (i : Int) + 1) (by omega) (by omega)), show (i : Int) + 1 = ((i + 1 : Nat) : Int) by omega]
      exact hfu
    · rw [eq_false_of_ne_true hc, Bool.false_and] at h
      refine ⟨1, ?_⟩
      unfold l23_4
      refine brt (decide_eq_true (by omega)) (req_mk (iy1 (by omega)) (req_mk (iy2 (by omega)) (req_mk (iy1 (by omega)) (req_mk (iy2 (by omega)) ?_))))
      rw [e2]
      exact v15 hrl (brt (show (!(eqR (s.getD i default) (t.getD i default))) = true by rw [eq_false_of_ne_true hc]; rfl) h)
theorem v23 {s t : List Dat} (hb : s.length ≤ bigL) (hr : RowsB bigL s) {K : Bool → Prop} (h : K (eqF eqR s t)) : m23 s t K := by
  unfold m23
  unfold eqF at h
  by_cases hl : s.length = t.length
  · rw [decide_eq_true hl, Bool.true_and] at h
    exact brf (by rw [decide_eq_true (show (s.length : Int) = (t.length : Int) by omega)]; rfl) (vl23 hb hr hl s.length 0 (by omega) h)
  · rw [decide_eq_false hl, Bool.false_and] at h
    exact brt (by rw [decide_eq_false (show ¬ (s.length : Int) = (t.length : Int) by omega)]; rfl) h
theorem dropE_sub : ∀ (k : Nat) (l : List Dat), (dropE k l).length ≤ l.length ∧ ∀ r ∈ dropE k l, r ∈ l
  | 0, l => ⟨Nat.le_refl _, fun r h => h⟩
  | k + 1, l => by
    simp only [dropE]
    split
    · have h := dropE_sub k (l.take k)
      rw [List.length_take] at h
      exact ⟨by omega, fun r hr => List.mem_of_mem_take (h.2 r hr)⟩
    · exact ⟨Nat.le_refl _, fun r h => h⟩
theorem bareF_b {rows : List Dat} (hr : RowsB bigL rows) : (bareF rows).length ≤ rows.length ∧ RowsB bigL (bareF rows) := by
  have h := dropE_sub rows.length (rows.map trimD)
  rw [List.length_map] at h
  refine ⟨h.1, fun r hx => ?_⟩
  obtain ⟨y, hy, rfl⟩ := List.mem_map.1 (h.2 r hx)
  have := trim_len y.toList
  have := hr y hy
  show (trim y.toList).length ≤ bigL
  omega
def sameF (a : List Dat) (a2 a3 : Int) (b : List Dat) (b2 b3 : Int) : Bool := if a2 = b2 ∧ a3 = b3 then eqF eqR (bareF a) (bareF b) else false
theorem v26 {a b : List Dat} {a2 a3 a4 b2 b3 b4 : Int} (ha : a.length ≤ bigL) (hra : RowsB bigL a) (hb : b.length ≤ bigL) (hrb : RowsB bigL b) {K : Bool → Prop} (h : K (sameF a a2 a3 b b2 b3)) : m26 a a2 a3 a4 b b2 b3 b4 K := by
  unfold m26
  unfold sameF at h
  by_cases hc : a2 = b2 ∧ a3 = b3
  · rw [if_pos hc] at h
    refine brt (by rw [decide_eq_true hc.1, decide_eq_true hc.2]; rfl) (v49 ha hra (v49 hb hrb (req_mk (len_ok _) (req_mk (len_ok _) ?_))))
    rw [List.take_length, List.take_length]
    have h1 := bareF_b hra
    exact v23 (by omega) h1.2 h
  · rw [if_neg hc] at h
    refine brf ?_ h
    rw [Bool.and_true, Bool.and_eq_false_iff, decide_eq_false_iff_not, decide_eq_false_iff_not]
    omega
theorem eqR_self (c : Dat) : eqR c c = true := eqF_self eqC_self _
theorem sameF_self (a : List Dat) (a2 a3 : Int) : sameF a a2 a3 a a2 a3 = true := by
  unfold sameF
  rw [if_pos ⟨rfl, rfl⟩]
  exact eqF_self eqR_self _
end Go.Proofs.YthegkipclogoeaaDoor

set_option linter.unusedVariables false
set_option linter.unusedSimpArgs false
set_option maxRecDepth 100000
namespace Go.Proofs.YthegkipclogoeaaDoor
open Go.AM Go.LTxt Go.LMem Go.RowKit
/-- a row by its number, none: the empty one; without blanks at its end -/
def rw_ (l : List Dat) (i : Nat) : List Dat := (l.getD i default).toList
theorem rw_out {l : List Dat} {i : Nat} (h : l.length ≤ i) : rw_ l i = [] := by
  unfold rw_
  rw [List.getD_eq_getElem?_getD, List.getElem?_eq_none h]
  rfl
theorem rw_b {l : List Dat} (h : RowsB bigL l) (i : Nat) : (rw_ l i).length ≤ bigL := by
  by_cases hi : i < l.length
  · refine h _ ?_
    rw [List.getD_eq_getElem?_getD, List.getElem?_eq_getElem hi]
    exact List.getElem_mem _
  · rw [rw_out (by omega)]; exact Nat.zero_le _
/-! ### The document's sameRow -/
theorem vl50 {s t : List Dat} (hb : s.length ≤ bigL) (hl : s.length = t.length) {K : Bool → Prop} : ∀ (k i : Nat), i + k = s.length → K (allF eqC s t k i) → ∃ fu, l50_5 fu s t (i : Int) (K true) (fun y => K y)
  | 0, i, hi, h => by
    refine ⟨1, ?_⟩
    unfold l50_5
    exact brf (decide_eq_false (by omega)) h
  | k + 1, i, hi, h => by
    have hbig := bigL_eq
    have e2 : (0 : Nat) + Int.toNat (i : Int) = i := by omega
    simp only [allF] at h
    by_cases hc : eqC (s.getD i default) (t.getD i default) = true
    · rw [hc, Bool.true_and] at h
      obtain ⟨fu, hfu⟩ := vl50 hb hl k (i + 1) (by omega) h
      refine ⟨fu + 1, ?_⟩
      unfold l50_5
      refine brt (decide_eq_true (by omega)) (req_mk (iy1 (by omega)) (req_mk (iy3 (by omega)) (req_mk (iy1 (by omega)) (req_mk (iy3 (by omega)) ?_))))
      rw [e2]
      refine brf (show (!(eqC (s.getD i default) (t.getD i default))) = false by rw [hc]; rfl) ?_
      rw [rq (in64 (n := (i : Int) + 1) (by omega) (by omega)), show (i : Int) + 1 = ((i + 1 : Nat) : Int) by omega]
      exact ⟨rfl, rfl, hfu⟩
    · rw [eq_false_of_ne_true hc, Bool.false_and] at h
      refine ⟨1, ?_⟩
      unfold l50_5
      refine brt (decide_eq_true (by omega)) (req_mk (iy1 (by omega)) (req_mk (iy3 (by omega)) (req_mk (iy1 (by omega)) (req_mk (iy3 (by omega)) ?_))))
      rw [e2]
      exact brt (show (!(eqC (s.getD i default) (t.getD i default))) = true by rw [eq_false_of_ne_true hc]; rfl) h
def eqT (a b : List Dat) : Bool := eqF eqC (trim a) (trim b)
theorem v50 {a b : List Dat} (ha : a.length ≤ bigL) (hb : b.length ≤ bigL) {K : Bool → Prop} (h : K (eqT a b)) : m50 a b K := by
  unfold m50
  have hla := trim_len a
  refine v25 ha (v25 hb ?_)
  unfold eqT eqF at h
  by_cases hl : (trim a).length = (trim b).length
  · rw [decide_eq_true hl, Bool.true_and] at h
    refine brf (by rw [decide_eq_true (show ((trim a).length : Int) = ((trim b).length : Int) by omega)]; rfl) ?_
    exact (fun (hf : ∃ fu2, l50_5 fu2 _ _ ((0 : Nat) : Int) _ _) => hf.elim fun f2 hf => ⟨f2, rfl, rfl, hf⟩) (vl50 (by omega) hl (trim a).length 0 (by omega) h)
  · rw [decide_eq_false hl, Bool.false_and] at h
    exact brt (by rw [decide_eq_false (show ¬ ((trim a).length : Int) = ((trim b).length : Int) by omega)]; rfl) h
/-- all rows from i on (k of them) -/
def allT (a b : List Dat) : Nat → Nat → Bool
  | 0, _ => true
  | k + 1, i => eqT (rw_ a i) (rw_ b i) && allT a b k (i + 1)
def refF (a : List Dat) (a2 a3 : Int) (b : List Dat) (b2 b3 : Int) : Bool := if allT a b (max a.length b.length) 0 = true then decide (a2 = b2) && (decide (a3 = b3) && true) else false
theorem vl27 {c c2 : C29} (ha : c.rows.length ≤ bigL) (hra : RowsB bigL c.rows) (hb : c2.rows.length ≤ bigL) (hrb : RowsB bigL c2.rows) {E0 : C29 → C29 → Prop} {R : C29 → C29 → Bool → Prop} : ∀ (k i : Nat), i + k = max c.rows.length c2.rows.length → (if allT c.rows c2.rows k i = true then E0 c c2 else R c c2 false) → ∃ fu, l27_2 fu c c2 (i : Int) E0 R
  | 0, i, hi, h => by
    refine ⟨1, ?_⟩
    unfold l27_2
    exact brf (decide_eq_false (by omega)) (brf (decide_eq_false (by omega)) h)
  | k + 1, i, hi, h => by
    have hbig := bigL_eq
    have e : Int.toNat (i : Int) = i := by omega
    have q : inR .i64 ((i : Int) + 1) = true := in64 (by omega) (by omega)
    have e1 : (i : Int) + 1 = ((i + 1 : Nat) : Int) := by omega
    have step : ∃ fu, ∀ x y, x = rw_ c.rows i → y = rw_ c2.rows i → m50 x y (fun y0 => br (!y0) (R c c2 false) (req (inR IntKind.i64 ((i : Int) + (1 : Int))) (l27_2 fu c c2 ((i : Int) + (1 : Int)) E0 R))) := by
      have hA : allT c.rows c2.rows (k + 1) i = (eqT (rw_ c.rows i) (rw_ c2.rows i) && allT c.rows c2.rows k (i + 1)) := rfl
      rw [hA] at h
      by_cases hc : eqT (rw_ c.rows i) (rw_ c2.rows i) = true
      · rw [hc, Bool.true_and] at h
        obtain ⟨fu, hfu⟩ := vl27 ha hra hb hrb k (i + 1) (by omega) h
        refine ⟨fu, fun x y hx hy => ?_⟩
        subst hx hy
        refine v50 (rw_b hra i) (rw_b hrb i) ?_
        rw [hc, show (!true) = false from rfl, br_f, rq q, e1]
        exact hfu
      · rw [eq_false_of_ne_true hc, Bool.false_and, if_neg (by decide)] at h
        refine ⟨0, fun x y hx hy => ?_⟩
        subst hx hy
        refine v50 (rw_b hra i) (rw_b hrb i) ?_
        rw [eq_false_of_ne_true hc, show (!false) = true from rfl, br_t]
        exact h
    obtain ⟨fu, hst⟩ := step
    refine ⟨fu + 1, ?_⟩
    unfold l27_2
    by_cases h1 : i < c.rows.length
    · refine brt (decide_eq_true (by omega)) (brt (decide_eq_true (by omega)) (req_mk (iy1 h1) (req_mk (iy2 h1) ?_)))
      rw [e]
      by_cases h2 : i < c2.rows.length
      · refine brt (decide_eq_true (by omega)) (req_mk (iy1 h2) (req_mk (iy2 h2) ?_))
        exact hst _ _ rfl rfl
      · exact brf (decide_eq_false (by omega)) (hst _ _ rfl (rw_out (by omega)).symm)
    · have h2 : i < c2.rows.length := by omega
      refine brf (decide_eq_false (by omega)) (brt (decide_eq_true (by omega)) (brf (decide_eq_false (by omega)) (brt (decide_eq_true (by omega)) (req_mk (iy1 h2) (req_mk (iy2 h2) ?_)))))
      rw [e]
      exact hst _ _ (rw_out (by omega)).symm rfl
theorem v27 {a b : List Dat} {a2 a3 a4 b2 b3 b4 : Int} (ha : a.length ≤ bigL) (hra : RowsB bigL a) (hb : b.length ≤ bigL) (hrb : RowsB bigL b) {K : Bool → Prop} (h : K (refF a a2 a3 b b2 b3)) : m27 a a2 a3 a4 b b2 b3 b4 K := by
  unfold m27
  refine vl27 (c := ⟨a, a2, a3, a4⟩) (c2 := ⟨b, b2, b3, b4⟩) ha hra hb hrb (max a.length b.length) 0 (by show 0 + _ = max a.length b.length; omega) ?_
  unfold refF at h
  show if allT a b (max a.length b.length) 0 = true then K (decide (a2 = b2) && (decide (a3 = b3) && true)) else K false
  split
  · rename_i hc
    rw [if_pos hc] at h
    exact h
  · rename_i hc
    rw [if_neg hc] at h
    exact h
/-! ### Both say the same -/
theorem dropE_spec : ∀ (k : Nat) (l : List Dat), l.length = k → ∃ n, dropE k l = l.take n ∧ n ≤ k ∧ (∀ i, n ≤ i → i < k → (l.getD i default).toList.length = 0) ∧ (n = 0 ∨ (l.getD (n - 1) default).toList.length ≠ 0)
  | 0, l, hk => ⟨0, by rw [List.eq_nil_of_length_eq_zero hk]; rfl, Nat.le_refl _, fun i h1 h2 => by omega, .inl rfl⟩
  | k + 1, l, hk => by
    simp only [dropE]
    by_cases hc : (l.getD k default).toList.length = 0
    · rw [if_pos hc]
      obtain ⟨n, h1, h2, h3, h4⟩ := dropE_spec k (l.take k) (by rw [List.length_take]; omega)
      have hg : ∀ i, i < k → (l.take k).getD i default = l.getD i default := fun i hi => by
        rw [List.getD_eq_getElem?_getD, List.getD_eq_getElem?_getD, List.getElem?_take, if_pos hi]
      refine ⟨n, by rw [h1, List.take_take, show min n k = n by omega], by omega, fun i hi1 hi2 => ?_, ?_⟩
      · by_cases he : i = k
        · subst he; exact hc
        · rw [← hg i (by omega)]; exact h3 i hi1 (by omega)
      · rcases h4 with h4 | h4
        · exact .inl h4
        · by_cases h0 : n = 0
          · exact .inl h0
          · refine .inr ?_
            rw [← hg (n - 1) (by omega)]
            exact h4
    · rw [if_neg hc]
      refine ⟨k + 1, ?_, Nat.le_refl _, fun i h1 h2 => by omega, .inr hc⟩
      rw [← hk, List.take_length]
theorem getD_map {f : Dat → Dat} {l : List Dat} {i : Nat} (h : i < l.length) : (l.map f).getD i default = f (l.getD i default) := by
  rw [List.getD_eq_getElem?_getD, List.getElem?_map, List.getElem?_eq_getElem h, List.getD_eq_getElem?_getD, List.getElem?_eq_getElem h]
  rfl
/-- how many rows are left, and which -/
theorem bare_spec (l : List Dat) : ∃ n, n ≤ l.length ∧ (bareF l).length = n ∧ (∀ i, i < n → ((bareF l).getD i default).toList = trim (rw_ l i)) ∧ (∀ i, n ≤ i → trim (rw_ l i) = []) ∧ (n = 0 ∨ trim (rw_ l (n - 1)) ≠ []) := by
  obtain ⟨n, h1, h2, h3, h4⟩ := dropE_spec l.length (l.map trimD) (by rw [List.length_map])
  have hg : ∀ i, i < l.length → ((l.map trimD).getD i default).toList = trim (rw_ l i) := fun i hi => by rw [getD_map hi]; rfl
  refine ⟨n, h2, ?_, fun i hi => ?_, fun i hi => ?_, ?_⟩
  · unfold bareF
    rw [h1, List.length_take, List.length_map]
    omega
  · unfold bareF
    rw [h1, List.getD_eq_getElem?_getD, List.getElem?_take, if_pos hi, ← List.getD_eq_getElem?_getD]
    exact hg i (by omega)
  · by_cases hl : i < l.length
    · have := h3 i hi hl
      rw [hg i hl] at this
      exact List.eq_nil_of_length_eq_zero this
    · rw [rw_out (by omega)]; rfl
  · rcases h4 with h4 | h4
    · exact .inl h4
    · by_cases h0 : n = 0
      · exact .inl h0
      · refine .inr fun he => h4 ?_
        rw [hg (n - 1) (by omega), he]
        rfl
theorem allT_iff {a b : List Dat} : ∀ (k i : Nat), allT a b k i = true ↔ ∀ j, i ≤ j → j < i + k → eqT (rw_ a j) (rw_ b j) = true
  | 0, i => by simp only [allT, true_iff]; intro j h1 h2; omega
  | k + 1, i => by
    simp only [allT, Bool.and_eq_true, allT_iff k (i + 1)]
    constructor
    · rintro ⟨h1, h2⟩ j h3 h4
      by_cases he : j = i
      · subst he; exact h1
      · exact h2 j (by omega) (by omega)
    · intro h
      exact ⟨h i (Nat.le_refl _) (by omega), fun j h3 h4 => h j (by omega) (by omega)⟩
theorem allF_iff {f : Dat → Dat → Bool} {s t : List Dat} : ∀ (k i : Nat), allF f s t k i = true ↔ ∀ j, i ≤ j → j < i + k → f (s.getD j default) (t.getD j default) = true
  | 0, i => by simp only [allF, true_iff]; intro j h1 h2; omega
  | k + 1, i => by
    simp only [allF, Bool.and_eq_true, allF_iff k (i + 1)]
    constructor
    · rintro ⟨h1, h2⟩ j h3 h4
      by_cases he : j = i
      · subst he; exact h1
      · exact h2 j (by omega) (by omega)
    · intro h
      exact ⟨h i (Nat.le_refl _) (by omega), fun j h3 h4 => h j (by omega) (by omega)⟩
theorem eqF_len {f : Dat → Dat → Bool} {s t : List Dat} (h : eqF f s t = true) : s.length = t.length := by
  unfold eqF at h
  rw [Bool.and_eq_true, decide_eq_true_eq] at h
  exact h.1
theorem same_rows (a b : List Dat) : eqF eqR (bareF a) (bareF b) = true ↔ allT a b (max a.length b.length) 0 = true := by
  obtain ⟨n, n1, n2, n3, n4, n5⟩ := bare_spec a
  obtain ⟨m, m1, m2, m3, m4, m5⟩ := bare_spec b
  rw [allT_iff]
  unfold eqF
  rw [Bool.and_eq_true, decide_eq_true_eq, allF_iff, n2, m2]
  have hR : ∀ j, j < n → j < m → eqR ((bareF a).getD j default) ((bareF b).getD j default) = eqT (rw_ a j) (rw_ b j) := fun j h1 h2 => by
    unfold eqR eqT
    rw [n3 j h1, m3 j h2]
  constructor
  · rintro ⟨rfl, h⟩ j _ hj
    by_cases hjn : j < n
    · have := h j (by omega) (by omega)
      rw [hR j hjn hjn] at this
      exact this
    · unfold eqT
      rw [n4 j (by omega), m4 j (by omega)]
      rfl
  · intro h
    have hnm : n = m := by
      rcases Nat.lt_trichotomy n m with hl | hl | hl
      · have h1 := eqF_len (h (m - 1) (by omega) (by omega))
        rw [n4 (m - 1) (by omega)] at h1
        rcases m5 with m5 | m5
        · omega
        · exact absurd (List.eq_nil_of_length_eq_zero h1.symm) m5
      · exact hl
      · have h1 := eqF_len (h (n - 1) (by omega) (by omega))
        rw [m4 (n - 1) (by omega)] at h1
        rcases n5 with n5 | n5
        · omega
        · exact absurd (List.eq_nil_of_length_eq_zero h1) n5
    subst hnm
    refine ⟨rfl, fun j _ hj => ?_⟩
    rw [hR j (by omega) (by omega)]
    exact h j (by omega) (by omega)
theorem same_ref (a b : List Dat) (a2 a3 b2 b3 : Int) : sameF a a2 a3 b b2 b3 = refF a a2 a3 b b2 b3 := by
  unfold sameF refF
  have h := same_rows a b
  by_cases hr : allT a b (max a.length b.length) 0 = true
  · rw [if_pos hr, h.2 hr]
    by_cases hc : a2 = b2 ∧ a3 = b3
    · rw [if_pos hc, decide_eq_true hc.1, decide_eq_true hc.2]; rfl
    · rw [if_neg hc]
      symm
      rw [Bool.and_true, Bool.and_eq_false_iff, decide_eq_false_iff_not, decide_eq_false_iff_not]
      omega
  · rw [if_neg hr]
    have : eqF eqR (bareF a) (bareF b) = false := eq_false_of_ne_true fun h1 => hr (h.1 h1)
    split
    · exact this
    · rfl
/-! ### Texts -/
theorem vl30c {c : C29} {l : List Dat} {i : Nat} (hi : i < c.rows.length) (hb : (rw_ c.rows i).length ≤ bigL) (hc : ∀ x ∈ rw_ c.rows i, (tx x).size ≤ bigL) {E2 : C29 → List Dat → Int → ByteArray → Prop} : ∀ (rest pre : List Dat) (s : ByteArray), rw_ c.rows i = pre ++ rest → s.size ≤ bigL * pre.length → E2 c l (i : Int) (catR s rest) → ∃ fu, l30_7 fu c l (i : Int) s (pre.length : Int) E2
  | [], pre, s, hx, hs, h => by
    have e : Int.toNat (i : Int) = i := by omega
    refine ⟨1, ?_⟩
    unfold l30_7
    refine req_mk (iy1 hi) (req_mk (iy2 hi) ?_)
    rw [e]
    refine brf ?_ h
    show decide ((pre.length : Int) < ((rw_ c.rows i).length : Int)) = false
    rw [hx]
    exact ixe pre
  | d :: rest, pre, s, hx, hs, h => by
    have e : Int.toNat (i : Int) = i := by omega
    have hbig := bigL_eq
    have hd := hc d (by rw [hx]; simp)
    have hpl : pre.length < bigL := by rw [hx] at hb; simp only [List.length_append, List.length_cons] at hb; omega
    have hsz : s.size ≤ 1000000000000000000 := by rw [hbig] at hs hpl; omega
    obtain ⟨fu, hfu⟩ := vl30c (l := l) hi hb hc rest (pre ++ [d]) (s ++ tx d) (by rw [hx]; simp) (by rw [ByteArray.size_append, List.length_append, List.length_singleton, Nat.mul_add]; omega) h
    refine ⟨fu + 1, ?_⟩
    rw [← snoc1 pre d] at hfu
    unfold l30_7
    refine req_mk (iy1 hi) (req_mk (iy2 hi) ?_)
    rw [e]
    have hrw : (List.getD c.rows i default).toList = rw_ c.rows i := rfl
    rw [hrw, hx]
    rw [hx] at hb
    refine brt (ixl pre d rest) (req_mk (iy1 hi) (req_mk (decide_eq_true hi) (req_mk (iy1 (by simp)) (req_mk (ix2 pre d rest) ?_))))
    rw [gd]
    refine req_mk (by rw [decide_eq_true_eq]; show s.size + (tx d).size ≤ _; omega) ?_
    rw [rq (pre_in hb)]
    exact ⟨rfl, hfu⟩
theorem vl30t {c : C29} {l : List Dat} {i : Int} {E4 : C29 → List Dat → Int → ByteArray → Prop} : ∀ (k : Nat) (s : ByteArray), s.size = k → k ≤ 1000000000000000000 → E4 c l i (rtr k s) → ∃ fu, l30_10 fu c l i s E4
  | 0, s, hk, hb, h => by
    refine ⟨1, ?_⟩
    unfold l30_10
    exact brf (decide_eq_false (by omega)) h
  | k + 1, s, hk, hb, h => by
    have q1 : inR .i64 ((s.size : Int) - 1) = true := in64 (by omega) (by omega)
    have q2 : (decide ((0 : Int) ≤ (s.size : Int) - 1) && decide ((s.size : Int) - 1 < (s.size : Int))) = true := by rw [Bool.and_eq_true, decide_eq_true_eq, decide_eq_true_eq]; omega
    have q3 : (decide ((0 : Int) ≤ (0 : Int)) && decide ((0 : Int) ≤ (s.size : Int) - 1) && decide ((s.size : Int) - 1 ≤ (s.size : Int))) = true := by rw [Bool.and_eq_true, Bool.and_eq_true, decide_eq_true_eq, decide_eq_true_eq, decide_eq_true_eq]; omega
    simp only [rtr] at h
    by_cases hc : lastB s = 32
    · rw [if_pos hc] at h
      obtain ⟨fu, hfu⟩ := vl30t k (subS s 0 (Int.toNat ((s.size : Int) - 1))) (by rw [subS_size (by omega)]; omega) (by omega) h
      refine ⟨fu + 1, ?_⟩
      unfold l30_10
      refine brt (decide_eq_true (by omega)) ?_
      rw [rq q1, rq q2]
      refine brt (decide_eq_true hc) ?_
      rw [rq q1, rq q3]
      exact ⟨rfl, hfu⟩
    · rw [if_neg hc] at h
      refine ⟨1, ?_⟩
      unfold l30_10
      refine brt (decide_eq_true (by omega)) ?_
      rw [rq q1, rq q2]
      exact brf (decide_eq_false hc) h
theorem vl30 {c : C29} (hb : c.rows.length ≤ bigL) (ht : TextB c.rows) {E0 : C29 → List Dat → Prop} : ∀ (k i : Nat) (acc : List Dat), i + k = c.rows.length → acc.length = i → E0 c (acc ++ (c.rows.drop i).map textR) → ∃ fu, l30_3 fu c acc (i : Int) E0
  | 0, i, acc, hi, ha, h => by
    refine ⟨1, ?_⟩
    unfold l30_3
    refine brf (decide_eq_false (by omega)) ?_
    rw [List.drop_eq_nil_of_le (by omega)] at h
    simpa using h
  | k + 1, i, acc, hi, ha, h => by
    have hbig := bigL_eq
    have hil : i < c.rows.length := by omega
    have hm : c.rows.getD i default ∈ c.rows := by rw [List.getD_eq_getElem?_getD, List.getElem?_eq_getElem hil]; exact List.getElem_mem _
    obtain ⟨hd1, hd2⟩ := ht _ hm
    have hdr : c.rows.drop i = c.rows.getD i default :: c.rows.drop (i + 1) := by
      rw [List.getD_eq_getElem?_getD, List.getElem?_eq_getElem hil]
      exact List.drop_eq_getElem_cons hil
    rw [hdr] at h
    obtain ⟨fu, hfu⟩ := vl30 hb ht k (i + 1) (acc ++ [textR (c.rows.getD i default)]) (by omega) (by simp [ha]) (by simpa using h)
    refine ⟨fu + 1, ?_⟩
    unfold l30_3
    have hcs := catR_size (rw_ c.rows i) { data := #[] } hd2
    have hcs' : (catR { data := #[] } (rw_ c.rows i)).size ≤ 1000000000000000000 := by
      have e0 : (ByteArray.mk #[]).size = 0 := rfl
      have : bigL * (rw_ c.rows i).length ≤ bigL * bigL := Nat.mul_le_mul_left _ hd1
      rw [hbig] at this hcs
      rw [e0] at hcs
      omega
    refine brt (decide_eq_true (by omega)) ?_
    refine (fun (hf : ∃ fu2, l30_7 fu2 _ _ _ _ ((([] : List Dat).length : Nat) : Int) _) => hf.elim fun f2 hf => ⟨f2, rfl, hf⟩) (vl30c (c := c) hil hd1 hd2 (rw_ c.rows i) [] { data := #[] } rfl (Nat.zero_le _) ?_)
    refine (fun (hf : ∃ fu2, l30_10 fu2 _ _ _ _ _) => hf.elim fun f2 hf => ⟨f2, rfl, hf⟩) (vl30t (c := c) _ _ rfl hcs' ?_)
    refine req_mk (app_ok (by omega)) ?_
    show req (inR IntKind.i64 ((i : Int) + (1 : Int))) _
    rw [rq (in64 (n := (i : Int) + 1) (by omega) (by omega)), dapp_full]
    refine ⟨rfl, ?_⟩
    rw [show (i : Int) + 1 = ((i + 1 : Nat) : Int) by omega]
    exact hfu
theorem v30 {f : List Dat} {f2 f3 f4 : Int} (hb : f.length ≤ bigL) (ht : TextB f) {K : List Dat → Prop} (h : K (f.map textR)) : m30 f f2 f3 f4 K := by
  unfold m30
  exact (fun (hf : ∃ fu2, l30_3 fu2 _ _ ((0 : Nat) : Int) _) => hf.elim fun f2 hf => ⟨f2, rfl, hf⟩) (vl30 (c := ⟨f, f2, f3, f4⟩) hb ht f.length 0 [] (by show 0 + f.length = f.length; omega) rfl (E0 := fun y1 y2 => K y2) (by simpa using h))
/-! ### All of it -/
theorem eqS_self (c : Dat) : eqS c c = true := strEq_self _
theorem vl8 {c c2 : C29} {xs : List Dat} (hb : xs.length ≤ bigL) (hr : RowsB bigL xs) {E0 : C29 → C29 → Prop} {R : C29 → C29 → Bool → Prop} (h : E0 c c2) : ∀ (rest pre : List Dat), xs = pre ++ rest → ∃ fu, l8_2 fu c c2 xs (xs.length : Int) (pre.length : Int) E0 R
  | [], pre, hx => by
    subst hx
    refine ⟨1, ?_⟩
    unfold l8_2
    rw [ixe, br_f]
    exact h
  | d :: rest, pre, hx => by
    subst hx
    obtain ⟨fu, hfu⟩ := vl8 (R := R) hb hr h rest (pre ++ [d]) (snoc2 pre d rest)
    have hd := hr d (by simp)
    have htl := trim_len d.toList
    refine ⟨fu + 1, ?_⟩
    rw [← snoc1 pre d] at hfu
    unfold l8_2
    rw [ixl, br_t, ix1, req_t, ix2, req_t, gd]
    refine v21 hd (v25 hd (req_mk (len_ok _) (req_mk (len_ok _) ?_)))
    rw [List.take_length]
    refine v15 (by omega) ?_
    rw [eqF_self eqC_self, show (!true) = false from rfl, br_f, rq (pre_in hb)]
    exact hfu
theorem v8 {a b : List Dat} {a2 a3 a4 b2 b3 b4 : Int} (ha : a.length ≤ bigL) (hta : TextB a) (hb : b.length ≤ bigL) (hrb : RowsB bigL b) {K : Bool → Prop} (h : K true) : m8 a a2 a3 a4 b b2 b3 b4 K := by
  have hra : RowsB bigL a := fun r hr => (hta r hr).1
  unfold m8
  refine vl8 (c := ⟨a, a2, a3, a4⟩) (c2 := ⟨b, b2, b3, b4⟩) ha hra ?_ a [] rfl
  refine v11 (brt rfl ?_)
  show m26 a a2 a3 a4 b b2 b3 b4 _
  refine v26 ha hra hb hrb ?_
  show m27 a a2 a3 a4 b b2 b3 b4 _
  refine v27 ha hra hb hrb ?_
  rw [same_ref]
  refine brt (by cases refF a a2 a3 b b2 b3 <;> rfl) ?_
  show m26 a a2 a3 a4 a a2 a3 a4 _
  refine v26 ha hra ha hra ?_
  rw [sameF_self, br_t]
  show m29 a a2 a3 a4 _
  refine v29 ha hta ?_
  show m30 a a2 a3 a4 _
  refine v30 ha hta (req_mk (len_ok _) (req_mk (len_ok _) (v28 (by rw [List.take_length, List.length_map]; exact ha) ?_)))
  rw [eqF_self eqS_self]
  exact h
end Go.Proofs.YthegkipclogoeaaDoor

set_option linter.unusedVariables false
set_option maxRecDepth 100000
namespace Go.Proofs.YthegkipclogoeaaDoor.layoutSame
open Go.ChangeShapes Go.WideShapes Go.ChangeAt Go.RowKit Go.AM
def cellSh : Sh := .pair .str (.pair (.int .i64) (.pair (.int .i64) .unit))
def frameSh : Sh := .pair (.slice (.slice (.pair .str (.pair (.int .i64) (.pair (.int .i64) .unit))))) (.pair (.pair (.int .i64) (.pair (.int .i64) .unit)) (.pair (.int .i64) .unit))
theorem str_b {H : Type} (z : DataW H) : (toDat .str z).toStr.size ≤ Rows.uptoBulk z := by
  cases z with
  | lit l => cases l with
    | string l => simp only [toDat, Dat.toStr, Rows.uptoBulk]; show l.toArray.size ≤ _; simp
    | _ => simp only [toDat, Dat.toStr]; exact Nat.zero_le _
  | _ => simp only [toDat, Dat.toStr]; exact Nat.zero_le _
theorem cell_b {H : Type} (y : DataW H) : (tx (toDat cellSh y)).size ≤ Rows.uptoBulk y := by
  unfold cellSh tx
  cases y with
  | agg l => cases l with
    | nil => exact Nat.zero_le _
    | cons x r =>
      simp only [toDat, Dat.fst, Rows.uptoBulk, Rows.uptoBulkAll]
      have := str_b x
      omega
  | _ => exact Nat.zero_le _
theorem row_b {H : Type} (y : DataW H) : (toDat (.slice cellSh) y).toList.length ≤ Rows.uptoBulk y ∧ ∀ c ∈ (toDat (.slice cellSh) y).toList, (tx c).size ≤ Rows.uptoBulk y := by
  refine ⟨slice_len cellSh y, fun c hc => ?_⟩
  cases y with
  | slice elems spare =>
    simp only [toDat, Dat.toList, List.mem_map] at hc
    obtain ⟨x, hx, rfl⟩ := hc
    have h1 := cell_b x
    have h2 := bulk_mem hx
    simp only [Rows.uptoBulk]
    omega
  | _ => simp only [toDat, Dat.toList] at hc; exact absurd hc (by simp)
theorem rows_b {H : Type} (y : DataW H) : (toDat (.slice (.slice cellSh)) y).toList.length ≤ Rows.uptoBulk y ∧ ∀ r ∈ (toDat (.slice (.slice cellSh)) y).toList, r.toList.length ≤ Rows.uptoBulk y ∧ ∀ c ∈ r.toList, (tx c).size ≤ Rows.uptoBulk y := by
  refine ⟨slice_len (.slice cellSh) y, fun c hc => ?_⟩
  cases y with
  | slice elems spare =>
    simp only [toDat, Dat.toList, List.mem_map] at hc
    obtain ⟨x, hx, rfl⟩ := hc
    have h1 := row_b x
    have h2 := bulk_mem hx
    simp only [Rows.uptoBulk]
    exact ⟨by have := h1.1; omega, fun c hc => by have := h1.2 c hc; omega⟩
  | _ => simp only [toDat, Dat.toList] at hc; exact absurd hc (by simp)
theorem frame_b {H : Type} (y : DataW H) : (toDat (.pair (.slice (.slice (.pair .str (.pair (.int .i64) (.pair (.int .i64) .unit))))) (.pair (.pair (.int .i64) (.pair (.int .i64) .unit)) (.pair (.int .i64) .unit))) y).fst.toList.length ≤ Rows.uptoBulk y ∧ ∀ r ∈ (toDat (.pair (.slice (.slice (.pair .str (.pair (.int .i64) (.pair (.int .i64) .unit))))) (.pair (.pair (.int .i64) (.pair (.int .i64) .unit)) (.pair (.int .i64) .unit))) y).fst.toList, r.toList.length ≤ Rows.uptoBulk y ∧ ∀ c ∈ r.toList, (tx c).size ≤ Rows.uptoBulk y := by
  have h0 : ∀ d : Dat, d = .int 0 → d.fst.toList = [] := fun d hd => by rw [hd]; rfl
  cases y with
  | agg l => cases l with
    | nil => exact ⟨Nat.zero_le _, fun r hr => absurd hr (by rw [h0]; (· simp); (· rfl))⟩
    | cons x r =>
      have h := rows_b x
      show (toDat (.slice (.slice cellSh)) x).toList.length ≤ _ ∧ ∀ r ∈ (toDat (.slice (.slice cellSh)) x).toList, _
      simp only [Rows.uptoBulk, Rows.uptoBulkAll]
      exact ⟨by have := h.1; omega, fun r hr => ⟨by have := (h.2 r hr).1; omega, fun c hc => by have := (h.2 r hr).2 c hc; omega⟩⟩
  | _ => exact ⟨Nat.zero_le _, fun r hr => absurd hr (by rw [h0]; (· simp); (· rfl))⟩
theorem true8 {a b : List Dat} {a2 a3 a4 b2 b3 b4 : Int} (ha : a.length ≤ bigL) (hta : TextB a) (hb : b.length ≤ bigL) (hrb : RowsB bigL b) : m8 a a2 a3 a4 b b2 b3 b4 tb := v8 ha hta hb hrb trivial
theorem rule8 (a b : List Dat) (a2 a3 a4 b2 b3 b4 : Int) : R8 [.agg [.ro (.slice (.pair .str (.pair (.int .i64) (.pair (.int .i64) .unit)))) a, .c (.int .i64 a2), .c (.int .i64 a3), .c (.int .i64 a4)], .agg [.ro (.slice (.pair .str (.pair (.int .i64) (.pair (.int .i64) .unit)))) b, .c (.int .i64 b2), .c (.int .i64 b3), .c (.int .i64 b4)]] h0 isTrue = m8 a a2 a3 a4 b b2 b3 b4 tb := by kernel_rfl
theorem own : ownKnob Tryd.prog.godebug = none := by kernel_rfl
theorem contract (H : Type) (enc : TypeId × Value → H) (W : World) (base : Nat) (args : Array Value) (ds gs : List (DataW H)) (before : List MemPlace)
    (hval : ∀ (j : Nat) t v, Tryd.f8.params[j]? = some t → args[j]? = some v → Value.okWide Tryd.prog W .any base t v)
    (hW : DataW.Whole enc Tryd.prog Tryd.f8.params.toList Rows.layoutSameSpec.vars false W args.toList ds gs before) (hL : laidMetH Tryd.prog Rows.layoutSameUptoRow.laid W) (hk : Rows.uptoSmall H (ds ++ gs) = true) :
    Calls Tryd.prog 8 args W fun e W' => ∃ v, e = .returned v ∧ Rows.layoutSameSpec.post enc Tryd.prog Tryd.f8 false true false false W args v W' := by
  have one : ∃ d0 d1, ds = [d0, d1] := by
    obtain ⟨p, q, hA, hV, _⟩ := hW
    rw [Tryd.params8] at hA
    obtain ⟨v0, vs0, d0, ds0, p0, q0, hargs0, rfl, rfl, h0, r0⟩ := trodAll_cons hA
    obtain ⟨v1, vs1, d1, ds1, p1, q1, hargs1, rfl, rfl, h1, r1⟩ := trodAll_cons r0
    obtain ⟨rfl, rfl, rfl⟩ := trodAll_nil r1
    exact ⟨d0, d1, rfl⟩
  obtain ⟨d0, d1, rfl⟩ := one
  have hgs : gs = [] := by
    obtain ⟨p, q, hA, hV, _⟩ := hW
    obtain ⟨rfl, _⟩ := trodVars_none hV
    rfl
  subst hgs
  refine law_contractR ok8 (tb := 4) (ss := [.pair (.slice (.slice (.pair .str (.pair (.int .i64) (.pair (.int .i64) .unit))))) (.pair (.pair (.int .i64) (.pair (.int .i64) .unit)) (.pair (.int .i64) .unit)), .pair (.slice (.slice (.pair .str (.pair (.int .i64) (.pair (.int .i64) .unit))))) (.pair (.pair (.int .i64) (.pair (.int .i64) .unit)) (.pair (.int .i64) .unit))]) (tabs_laid hL) hval hW rfl (by kernel_rfl) (by kernel_rfl) (fun hl => rfl) (by kernel_rfl) (by kernel_rfl) (by kernel_rfl) (fun hF => ?_)
  refine ⟨[.agg [.ro (.slice (.pair .str (.pair (.int .i64) (.pair (.int .i64) .unit)))) (toDat (.pair (.slice (.slice (.pair .str (.pair (.int .i64) (.pair (.int .i64) .unit))))) (.pair (.pair (.int .i64) (.pair (.int .i64) .unit)) (.pair (.int .i64) .unit))) d0).fst.toList, .c (.int .i64 (toDat (.pair (.slice (.slice (.pair .str (.pair (.int .i64) (.pair (.int .i64) .unit))))) (.pair (.pair (.int .i64) (.pair (.int .i64) .unit)) (.pair (.int .i64) .unit))) d0).snd.fst.fst.toInt), .c (.int .i64 (toDat (.pair (.slice (.slice (.pair .str (.pair (.int .i64) (.pair (.int .i64) .unit))))) (.pair (.pair (.int .i64) (.pair (.int .i64) .unit)) (.pair (.int .i64) .unit))) d0).snd.fst.snd.fst.toInt), .c (.int .i64 (toDat (.pair (.slice (.slice (.pair .str (.pair (.int .i64) (.pair (.int .i64) .unit))))) (.pair (.pair (.int .i64) (.pair (.int .i64) .unit)) (.pair (.int .i64) .unit))) d0).snd.snd.fst.toInt)], .agg [.ro (.slice (.pair .str (.pair (.int .i64) (.pair (.int .i64) .unit)))) (toDat (.pair (.slice (.slice (.pair .str (.pair (.int .i64) (.pair (.int .i64) .unit))))) (.pair (.pair (.int .i64) (.pair (.int .i64) .unit)) (.pair (.int .i64) .unit))) d1).fst.toList, .c (.int .i64 (toDat (.pair (.slice (.slice (.pair .str (.pair (.int .i64) (.pair (.int .i64) .unit))))) (.pair (.pair (.int .i64) (.pair (.int .i64) .unit)) (.pair (.int .i64) .unit))) d1).snd.fst.fst.toInt), .c (.int .i64 (toDat (.pair (.slice (.slice (.pair .str (.pair (.int .i64) (.pair (.int .i64) .unit))))) (.pair (.pair (.int .i64) (.pair (.int .i64) .unit)) (.pair (.int .i64) .unit))) d1).snd.fst.snd.fst.toInt), .c (.int .i64 (toDat (.pair (.slice (.slice (.pair .str (.pair (.int .i64) (.pair (.int .i64) .unit))))) (.pair (.pair (.int .i64) (.pair (.int .i64) .unit)) (.pair (.int .i64) .unit))) d1).snd.snd.fst.toInt)]], by kernel_rfl, ?_⟩
  rw [rule8]
  have hf0 := hF (.pair (.slice (.slice (.pair .str (.pair (.int .i64) (.pair (.int .i64) .unit))))) (.pair (.pair (.int .i64) (.pair (.int .i64) .unit)) (.pair (.int .i64) .unit)), d0) (by simp)
  have hf1 := hF (.pair (.slice (.slice (.pair .str (.pair (.int .i64) (.pair (.int .i64) .unit))))) (.pair (.pair (.int .i64) (.pair (.int .i64) .unit)) (.pair (.int .i64) .unit)), d1) (by simp)
  have hb := bound hk
  have hb0 := bulk_mem (d := d0) (l := [d0, d1] ++ []) (by simp)
  have hb1 := bulk_mem (d := d1) (l := [d0, d1] ++ []) (by simp)
  have hbig := bigL_eq
  have h1 := frame_b d0
  have h2 := frame_b d1
  exact true8 (by omega) (fun r hr => ⟨by have := (h1.2 r hr).1; omega, fun c hc => by have := (h1.2 r hr).2 c hc; omega⟩) (by omega) (fun r hr => by have := (h2.2 r hr).1; omega)
theorem laid_met (os : Os) : laidMet Tryd.prog Rows.layoutSameUptoRow.laid (((laidWorld Rows.layoutSameUptoRow.laid os).forCall (fun _ _ => 0) ⟨#[], #[.agg #[.slice none 0 0, .int .i64 0, .int .i64 0, .int .i64 0], .agg #[.slice none 0 0, .int .i64 0, .int .i64 0, .int .i64 0]], []⟩)).memory :=
  laidMet_of_run' 8 (by kernel_rfl) (by kernel_rfl)
theorem reads (os : Os) {H : Type} (enc : TypeId × Value → H) : ∃ places, DataW.whole enc Tryd.prog ((laidWorld Rows.layoutSameUptoRow.laid os).forCall (fun _ _ => 0) ⟨#[], #[.agg #[.slice none 0 0, .int .i64 0, .int .i64 0, .int .i64 0], .agg #[.slice none 0 0, .int .i64 0, .int .i64 0, .int .i64 0]], []⟩).memory Tryd.f8.params.toList Rows.layoutSameSpec.vars false #[.agg #[.slice none 0 0, .int .i64 0, .int .i64 0, .int .i64 0], .agg #[.slice none 0 0, .int .i64 0, .int .i64 0, .int .i64 0]].toList 8 = some ([.agg [.nil, .agg [.lit (.int .i64 0), .lit (.int .i64 0)], .lit (.int .i64 0)], .agg [.nil, .agg [.lit (.int .i64 0), .lit (.int .i64 0)], .lit (.int .i64 0)]], [], places) :=
  ⟨[], by kernel_rfl⟩
theorem lifted (os : Os) (started : os.Started) (H : Type) (enc : TypeId × Value → H) (F : Stop.Interp) :
    ReturnsInHanded {} Tryd.checked os 8 .any ((Rows.OpenSpec.upto Rows.layoutSameSpec).preRow enc Tryd.prog Tryd.f8 Rows.layoutSameUptoRow.domain false Rows.layoutSameUptoRow.laid) (((Rows.OpenSpec.upto Rows.layoutSameSpec).at F).post enc Tryd.prog Tryd.f8 false true false false) := by
  obtain ⟨places, hx⟩ := reads os enc
  refine returnsInHanded_of_row (C := Tryd.checked) (s := Rows.OpenSpec.upto Rows.layoutSameSpec) own started (by kernel_rfl) Tryd.func8
    (witness_row_at (enc := enc) (C := Tryd.checked) false (laidWorld Rows.layoutSameUptoRow.laid os) #[.agg #[.slice none 0 0, .int .i64 0, .int .i64 0, .int .i64 0], .agg #[.slice none 0 0, .int .i64 0, .int .i64 0, .int .i64 0]] rfl (by kernel_rfl) (by kernel_rfl) (by kernel_rfl)
      (OpenSpec.preRow_of_cond 8 hx (by kernel_rfl) (fun k hk => by cases hk; kernel_rfl) (by kernel_rfl) (laid_met os))) ?_
  intro W base args ds gs before hval hW hc1 hc2 hc3 hL _ _
  first
    | exact contract H enc W base args ds gs before hval hW hL (hc1 _ rfl)
    | exact contract H enc W base args ds gs before hval hW hL (hc2 _ rfl)
    | exact contract H enc W base args ds gs before hval hW hL (hc3 _ rfl)
theorem said : Rows.LayoutSameUptoSaid :=
  OpenClaim.holds_of_cond 8 Tryd.f8 rfl rfl rfl rfl rfl rfl rfl ⟨rfl, rfl, rfl, rfl, rfl⟩ rfl rfl rfl rfl rfl (by kernel_rfl) Tryd.func8 (by kernel_rfl)
    (of_decide_eq_true (by kernel_rfl)) (by unfold Func.isWrapper; first | (rw [if_pos (by decide +kernel)]; kernel_rfl) | (rw [if_neg (by decide +kernel)]; exact ⟨rfl, rfl⟩))
    (fun os started H enc _ F => by rw [OpenClaim.pre_eq_preRow]; exact lifted os started H enc F)
/-- No parameter wants a stand-in; the program's own looks are off. -/
theorem plain (f : FuncId) (fn : Func) (hf : Tryd.pinned.checked.prog.funcNamed "lanyard/lanyardlaw23.LayoutSame" = some f) (hfn : Tryd.pinned.checked.prog.funcs[f]? = some fn) :
    false = Tryd.pinned.checked.prog.looks [] ∧ ∀ (j : Nat) t, fn.params[j]? = some t → Tryd.pinned.checked.prog.wantsStandIn t = false := by
  obtain rfl : f = 8 := Option.some.inj ((show Tryd.prog.funcNamed "lanyard/lanyardlaw23.LayoutSame" = some 8 by kernel_rfl).symm.trans hf) |>.symm
  obtain rfl : fn = Tryd.f8 := (Option.some.inj (Tryd.func8.symm.trans hfn)).symm
  refine ⟨by kernel_rfl, fun j t ht => ?_⟩
  have h1 : (Tryd.f8.params.toList.all fun t => !Tryd.pinned.checked.prog.wantsStandIn t) = true := by kernel_rfl
  have h2 := List.all_eq_true.1 h1 t (Array.mem_toList_iff.2 (Array.mem_of_getElem? ht))
  simpa using h2
theorem card : Rows.LayoutSameUptoCardSaid :=
  Claim7.holds_tied_plain_at .later [] _ _ _ _ said (fun _ h => by cases h) (by kernel_rfl) (fun _ h => by cases h) layoutSameUpto_row_tie rfl ⟨rfl, rfl⟩ (by kernel_rfl) rfl plain (by kernel_rfl)
end Go.Proofs.YthegkipclogoeaaDoor.layoutSame

