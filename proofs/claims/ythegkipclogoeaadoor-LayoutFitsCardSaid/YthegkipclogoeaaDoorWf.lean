/- LayoutFits answers true for every input; conditions: the listed tables. -/
import Derived.Test.YthegkipclogoeaaDoorZa
import Derived.Test.YthegkipclogoeaaDoorAmFl
import Derived.Test.YthegkipclogoeaaDoorZq
import Derived.Test.YthegkipclogoeaaDoorCards
import Derived.Test.YthegkipclogoeaaDoorTie
import Derived.Test.YthegkipclogoeaaDoorTb
import Derived.Test.YthegkipclogoeaaDoorLw
import Derived.WalkKit
import Derived.ProofKit
import Derived.OpenShut
import Derived.Deep.DeepHandedRow
import Derived.Lib.LaidTab
set_option linter.unusedVariables false
set_option maxRecDepth 100000
namespace Go.Proofs.YthegkipclogoeaaDoor
open Go.AM Go.LTxt Go.LMem Go.RowKit
noncomputable def l3_12 : Nat → C24 → List Dat → List Dat → Int → Int → List Dat → Int → Int → (C24 → List Dat → Int → Int → Prop) → (C24 → Bool → Prop) → Prop
  | 0, _, _, _, _, _, _, _, _, _, _ => False
  | fu + 1, c, l, r, n, n2, xs, n3, n4, E2, R_ =>
    br (decide (n4 < n3)) (
     req (decide ((0 : Int) ≤ n4) && decide (n4 < (↑(List.length xs) : Int))) (
     req (decide (Int.toNat n4 < List.length xs)) (
     br (decide (Dat.toInt (Dat.fst (Dat.snd (List.getD xs (Int.toNat n4) default))) = (2 : Int))) (
      req (inR IntKind.i64 (n4 + (1 : Int))) (
      br (decide ((↑(List.length r) : Int) ≤ n4 + (1 : Int))) (R_ c false) (
       req (inR IntKind.i64 (n4 + (1 : Int))) (
       req (decide ((0 : Int) ≤ n4 + (1 : Int)) && decide (n4 + (1 : Int) < (↑(List.length r) : Int))) (
       req (decide (Int.toNat (n4 + (1 : Int)) < List.length r)) (
       br (!decide (Dat.toInt (Dat.fst (Dat.snd (List.getD r (Int.toNat (n4 + (1 : Int))) default))) = (0 : Int))) (R_ c false) (
        br (decide (Dat.toInt (Dat.fst (Dat.snd (List.getD xs (Int.toNat n4) default))) = (0 : Int))) (
         br (decide (n4 = (0 : Int))) (R_ c false) (
          req (inR IntKind.i64 (n4 - (1 : Int))) (
          req (decide ((0 : Int) ≤ n4 - (1 : Int)) && decide (n4 - (1 : Int) < (↑(List.length r) : Int))) (
          req (decide (Int.toNat (n4 - (1 : Int)) < List.length r)) (
          br (!decide (Dat.toInt (Dat.fst (Dat.snd (List.getD r (Int.toNat (n4 - (1 : Int))) default))) = (2 : Int))) (R_ c false) (
           req (inR IntKind.i64 (n4 + (1 : Int))) (((List.length l) = List.length l ∧ l3_12 fu c l r n n2 xs n3 (n4 + (1 : Int)) E2 R_)))))))) (
         req (inR IntKind.i64 (n4 + (1 : Int))) (((List.length l) = List.length l ∧ l3_12 fu c l r n n2 xs n3 (n4 + (1 : Int)) E2 R_)))))))))) (
      br (decide (Dat.toInt (Dat.fst (Dat.snd (List.getD xs (Int.toNat n4) default))) = (0 : Int))) (
       br (decide (n4 = (0 : Int))) (R_ c false) (
        req (inR IntKind.i64 (n4 - (1 : Int))) (
        req (decide ((0 : Int) ≤ n4 - (1 : Int)) && decide (n4 - (1 : Int) < (↑(List.length r) : Int))) (
        req (decide (Int.toNat (n4 - (1 : Int)) < List.length r)) (
        br (!decide (Dat.toInt (Dat.fst (Dat.snd (List.getD r (Int.toNat (n4 - (1 : Int))) default))) = (2 : Int))) (R_ c false) (
         req (inR IntKind.i64 (n4 + (1 : Int))) (((List.length l) = List.length l ∧ l3_12 fu c l r n n2 xs n3 (n4 + (1 : Int)) E2 R_)))))))) (
       req (inR IntKind.i64 (n4 + (1 : Int))) (((List.length l) = List.length l ∧ l3_12 fu c l r n n2 xs n3 (n4 + (1 : Int)) E2 R_))))))) (E2 c l n n2)
def F3_12 : AM.Form := ⟨mkF 123 [(1, .p 0 0), (6, .ro (.pair .str (.pair (.int .i64) (.pair (.int .i64) .unit)))), (65, .sl 1), (66, .int .i64), (67, .int .i64), (76, .ro (.pair .str (.pair (.int .i64) (.pair (.int .i64) .unit)))), (77, .int .i64), (78, .int .i64)], [.cells 24 [.ro (.int .i32), .ro (.int .i32), .int .i64, .int .i64, .int .i64, .bool], .seq 35 (.slice (.pair .str (.pair (.int .i64) (.pair (.int .i64) .unit))))]⟩
noncomputable def mm3_12 (n : Nat) (ds : List Dat) (Q : AExit → List AV → AH → Prop) : Prop := l3_12 n ⟨(dat ds 6).toList, (dat ds 7).toList, (dat ds 8).toInt, (dat ds 9).toInt, (dat ds 10).toInt, (dat ds 11).toBool⟩ ((dat ds 12).toList) ((dat ds 0).toList) ((dat ds 1).toInt) ((dat ds 2).toInt) ((dat ds 3).toList) ((dat ds 4).toInt) ((dat ds 5).toInt) (fun rc rl rn rn2 => Q (AExit.exit 2) (mkAV 123 [(1, .p 0 0), (65, .sl 1 0 rl.length), (66, .c (.int .i64 rn)), (67, .c (.int .i64 rn2))]) ⟨[.cells 24 [.ro (.int .i32) rc.prompt, .ro (.int .i32) rc.line, .c (.int .i64 rc.point), .c (.int .i64 rc.rows), .c (.int .i64 rc.cols), .c (.bool rc.across)], .seq 35 (.slice (.pair .str (.pair (.int .i64) (.pair (.int .i64) .unit)))) rl], []⟩) (fun rc rb => Q AExit.ret (mkAV 123 [(1, .p 0 0), (2, .c (.bool rb))]) ⟨[.cells 24 [.ro (.int .i32) rc.prompt, .ro (.int .i32) rc.line, .c (.int .i64 rc.point), .c (.int .i64 rc.rows), .c (.int .i64 rc.cols), .c (.bool rc.across)]], []⟩)
theorem t3_12 (n : Nat) (ds : List Dat) (Q : AExit → List AV → AH → Prop) : wpA Tryd.prog tys GG9 1000 3 (theLoop Tryd.prog 3 12) (fun e f' h' => endF Tryd.prog ((fun _ => []) e) ((fun e => match e with | .normal => ⟨[1, 6, 65, 66, 67, 76, 77, 78], []⟩ | .exit 2 => ⟨[1, 65, 66, 67], []⟩ | .ret => ⟨[1, 2], []⟩ | _ => ⟨[], []⟩) e) ((fun e => match e with | .normal => [] | .exit 2 => [] | .ret => [] | _ => []) e) (F3_12.hp ds) f' h' fun f2 h2 => match e with
      | .normal => locL F3_12 (mm3_12 n) f2 h2 Q
      | e => Q e f2 h2) (F3_12.fr ds) (F3_12.hp ds) = mm3_12 (n + 1) ds Q := by kernel_rfl
noncomputable def R3_12 : LoopT := headF Tryd.prog [] ⟨[1, 6, 65, 66, 67, 76, 77, 78], []⟩ [] fun f h Q => ∃ n, locL F3_12 (mm3_12 n) f h Q
theorem ok3_12 : LoopOK Tryd.prog (theLoop Tryd.prog 3 12) R3_12 := ruleL_ok sGG9 (by kernel_rfl) mm3_12 (fun _ _ => rfl) t3_12
noncomputable def ls3_12 : List (FuncId × Nat × LoopT) := (3, 12, R3_12) :: ls27_2
theorem ls3_12_ok : LoopsOK Tryd.prog ls3_12 := .cons (by kernel_rfl) ok3_12 ls27_2_ok
noncomputable def GG3_12 : Rules := mkG [37, 27] cs9 ls3_12
theorem sGG3_12 : Sound Tryd.prog tys GG3_12 := mk_sound mixed tysOK names (by kernel_rfl) cs9_ok ls3_12_ok
noncomputable def l3_7 : Nat → C24 → List Dat → Int → Int → (C24 → Prop) → (C24 → Bool → Prop) → Prop
  | 0, _, _, _, _, _, _ => False
  | fu + 1, c, l, n, n2, E0, R_ =>
    br (decide (n2 < n)) (
     req (decide ((0 : Int) ≤ n2) && decide (n2 < (↑(List.length l) : Int))) (
     req (decide ((0 : Nat) + Int.toNat n2 < List.length l)) (
     br (decide (C24.cols c < (↑(List.length (Dat.toList (List.getD l ((0 : Nat) + Int.toNat n2) default))) : Int))) (R_ c false) (
      (∃ y0, 
      ((List.length l = List.length l) ∧ 
      l3_12 y0 { prompt := C24.prompt c, line := C24.line c, point := C24.point c, rows := C24.rows c, cols := C24.cols c, across := C24.across c } l (Dat.toList (List.getD l ((0 : Nat) + Int.toNat n2) default)) n n2 (Dat.toList (List.getD l ((0 : Nat) + Int.toNat n2) default)) (↑(List.length (Dat.toList (List.getD l ((0 : Nat) + Int.toNat n2) default))) : Int) (0 : Int) (fun y1 y2 y3 y4 => 
       req (inR IntKind.i64 (y4 + (1 : Int))) (((List.length y2) = List.length y2 ∧ l3_7 fu y1 y2 y3 (y4 + (1 : Int)) E0 R_))) (fun y5 y6 => R_ y5 y6))))))) (E0 c)
def F3_7 : AM.Form := ⟨mkF 123 [(1, .p 0 0), (65, .sl 1), (66, .int .i64), (67, .int .i64)], [.cells 24 [.ro (.int .i32), .ro (.int .i32), .int .i64, .int .i64, .int .i64, .bool], .seq 35 (.slice (.pair .str (.pair (.int .i64) (.pair (.int .i64) .unit))))]⟩
noncomputable def mm3_7 (n : Nat) (ds : List Dat) (Q : AExit → List AV → AH → Prop) : Prop := l3_7 n ⟨(dat ds 2).toList, (dat ds 3).toList, (dat ds 4).toInt, (dat ds 5).toInt, (dat ds 6).toInt, (dat ds 7).toBool⟩ ((dat ds 8).toList) ((dat ds 0).toInt) ((dat ds 1).toInt) (fun rc => Q (AExit.exit 0) (mkAV 123 [(1, .p 0 0)]) ⟨[.cells 24 [.ro (.int .i32) rc.prompt, .ro (.int .i32) rc.line, .c (.int .i64 rc.point), .c (.int .i64 rc.rows), .c (.int .i64 rc.cols), .c (.bool rc.across)]], []⟩) (fun rc rb => Q AExit.ret (mkAV 123 [(1, .p 0 0), (2, .c (.bool rb))]) ⟨[.cells 24 [.ro (.int .i32) rc.prompt, .ro (.int .i32) rc.line, .c (.int .i64 rc.point), .c (.int .i64 rc.rows), .c (.int .i64 rc.cols), .c (.bool rc.across)]], []⟩)
theorem t3_7 (n : Nat) (ds : List Dat) (Q : AExit → List AV → AH → Prop) : wpA Tryd.prog tys GG3_12 1000 3 (theLoop Tryd.prog 3 7) (fun e f' h' => endF Tryd.prog ((fun _ => []) e) ((fun e => match e with | .normal => ⟨[1, 65, 66, 67], []⟩ | .exit 0 => ⟨[1], []⟩ | .ret => ⟨[1, 2], []⟩ | _ => ⟨[], []⟩) e) ((fun e => match e with | .normal => [] | .exit 0 => [] | .ret => [] | _ => []) e) (F3_7.hp ds) f' h' fun f2 h2 => match e with
      | .normal => locL F3_7 (mm3_7 n) f2 h2 Q
      | e => Q e f2 h2) (F3_7.fr ds) (F3_7.hp ds) = mm3_7 (n + 1) ds Q := by kernel_rfl
noncomputable def R3_7 : LoopT := headF Tryd.prog [] ⟨[1, 65, 66, 67], []⟩ [] fun f h Q => ∃ n, locL F3_7 (mm3_7 n) f h Q
theorem ok3_7 : LoopOK Tryd.prog (theLoop Tryd.prog 3 7) R3_7 := ruleL_ok sGG3_12 (by kernel_rfl) mm3_7 (fun _ _ => rfl) t3_7
noncomputable def ls3_7 : List (FuncId × Nat × LoopT) := (3, 7, R3_7) :: ls3_12
theorem ls3_7_ok : LoopsOK Tryd.prog ls3_7 := .cons (by kernel_rfl) ok3_7 ls3_12_ok
noncomputable def GG3_7 : Rules := mkG [37, 27] cs9 ls3_7
theorem sGG3_7 : Sound Tryd.prog tys GG3_7 := mk_sound mixed tysOK names (by kernel_rfl) cs9_ok ls3_7_ok
noncomputable def m3 (s : List Dat) (s2 : List Dat) (s3 : Int) (s4 : Int) (s5 : Int) (s6 : Bool) (K : Bool → Prop) : Prop :=
    m10 s s2 s3 s4 s5 s6 (fun y0 y1 y2 y3 y4 => 
     br (!decide (y4 = (0 : Int))) (
      m11 (fun y5 => 
       br (y5) (
        m12 s s2 s3 s4 s5 s6 (fun y6 => K (decide (y6 = y4)))) (K false))) (
      br (decide ((↑(List.length y0) : Int) < (1 : Int))) (K false) (
       br (decide (s4 < (↑(List.length y0) : Int))) (K false) (
        br (decide (y1 < (0 : Int))) (K false) (
         br (decide ((↑(List.length y0) : Int) ≤ y1)) (K false) (
          br (decide (y2 < (0 : Int))) (K false) (
           br (decide (s5 ≤ y2)) (K false) (
            (∃ y7, 
            ((List.length y0 = List.length y0) ∧ 
            l3_7 y7 { prompt := s, line := s2, point := s3, rows := s4, cols := s5, across := s6 } y0 (↑(List.length y0) : Int) (0 : Int) (fun y8 => 
             m11 (fun y9 => K y9)) (fun y10 y11 => K y11)))))))))))
def F3 : AM.Form := ⟨[.agg [.ro (.int .i32), .ro (.int .i32), .int .i64, .int .i64, .int .i64, .bool]], []⟩
noncomputable def mm3 (ds : List Dat) (K : AV → AH → Prop) : Prop := m3 ((dat ds 0).toList) ((dat ds 1).toList) ((dat ds 2).toInt) ((dat ds 3).toInt) ((dat ds 4).toInt) ((dat ds 5).toBool) (fun rb => K (.c (.bool rb)) ⟨[], []⟩)
theorem t3 (ds : List Dat) (K : AV → AH → Prop) : callA Tryd.prog tys GG3_7 1000 3 (F3.fr ds) (F3.hp ds) (fun v h' => endK Tryd.prog [] .keep (F3.hp ds) (F3.fr ds) v h' K) = mm3 ds K := by kernel_rfl
noncomputable def R3 : CallT := ruleF Tryd.prog [(.agg [(.ro (.int .i32)), (.ro (.int .i32)), .keep, .keep, .keep, .keep])] [] F3 mm3
theorem ok3 : CallOK Tryd.prog 3 R3 := ruleF_ok sGG3_7 t3
noncomputable def cs3 : List (FuncId × CallT) := (3, R3) :: cs9
theorem cs3_ok : CallsOK Tryd.prog cs3 := .cons ok3 cs9_ok
noncomputable def GG3 : Rules := mkG [37, 27] cs3 ls3_7
theorem sGG3 : Sound Tryd.prog tys GG3 := mk_sound mixed tysOK names (by kernel_rfl) cs3_ok ls3_7_ok
end Go.Proofs.YthegkipclogoeaaDoor

set_option linter.unusedVariables false
set_option linter.unusedSimpArgs false
set_option maxRecDepth 100000
namespace Go.Proofs.YthegkipclogoeaaDoor
open Go.AM Go.LTxt Go.LMem Go.RowKit
theorem vl3w {c : C24} {l r : List Dat} {n n2 : Int} (hb : r.length ≤ bigL) (hw : Whole r) {E2 : C24 → List Dat → Int → Int → Prop} {R : C24 → Bool → Prop} (h : E2 c l n n2) : ∀ (k i : Nat), i + k = r.length → ∃ fu, l3_12 fu c l r n n2 r (r.length : Int) (i : Int) E2 R
  | 0, i, hi => by
    refine ⟨1, ?_⟩
    unfold l3_12
    exact brf (decide_eq_false (by omega)) h
  | k + 1, i, hi => by
    have hbig := bigL_eq
    obtain ⟨fu, hfu⟩ := vl3w (R := R) hb hw h k (i + 1) (by omega)
    have hnb := hw i (by omega)
    unfold bad at hnb
    have e0 : Int.toNat (i : Int) = i := by omega
    have e1 : Int.toNat ((i : Int) + 1) = i + 1 := by omega
    have e2 : Int.toNat ((i : Int) - 1) = i - 1 := by omega
    have q0 : inR .i64 ((i : Int) + 1) = true := in64 (by omega) (by omega)
    have hwa : ∀ j, Dat.toInt (Dat.fst (Dat.snd (List.getD r j default))) = wa r j := fun _ => rfl
    have nx : ∀ {Q : Prop}, Q = l3_12 fu c l r n n2 r (r.length : Int) ((i : Int) + 1) E2 R → Q := fun {Q} hQ => by
      rw [hQ, show (i : Int) + 1 = ((i + 1 : Nat) : Int) by omega]
      exact hfu
    refine ⟨fu + 1, ?_⟩
    unfold l3_12
    refine brt (decide_eq_true (by omega)) (req_mk (iy1 (by omega)) (req_mk (iy2 (by omega)) ?_))
    simp only [e0, e1, e2, hwa]
    by_cases h2 : wa r i = 2
    · refine brt (decide_eq_true h2) ?_
      rw [rq q0]
      refine brf (decide_eq_false (by omega)) ?_
      rw [rq q0]
      refine req_mk (by rw [Bool.and_eq_true, decide_eq_true_eq, decide_eq_true_eq]; omega) (req_mk (decide_eq_true (by omega)) (brf (by rw [decide_eq_true (by omega)]; rfl) (brf (decide_eq_false (by omega)) ?_)))
      rw [rq q0]
      exact ⟨trivial, nx rfl⟩
    · refine brf (decide_eq_false h2) ?_
      by_cases h0 : wa r i = 0
      · refine brt (decide_eq_true h0) (brf (decide_eq_false (by omega)) ?_)
        rw [rq (in64 (n := (i : Int) - 1) (by omega) (by omega))]
        refine req_mk (by rw [Bool.and_eq_true, decide_eq_true_eq, decide_eq_true_eq]; omega) (req_mk (decide_eq_true (by omega)) (brf (by rw [decide_eq_true (by omega)]; rfl) ?_))
        rw [rq q0]
        exact ⟨trivial, nx rfl⟩
      · refine brf (decide_eq_false h0) ?_
        rw [rq q0]
        exact ⟨trivial, nx rfl⟩
theorem vl3 {c : C24} {l : List Dat} (hb : l.length ≤ bigL) (hc : c.cols ≤ 1000) (hok : RowsOK c.cols l) {E0 : C24 → Prop} {R : C24 → Bool → Prop} (h : E0 c) : ∀ (k i : Nat), i + k = l.length → ∃ fu, l3_7 fu c l (l.length : Int) (i : Int) E0 R
  | 0, i, hi => by
    refine ⟨1, ?_⟩
    unfold l3_7
    exact brf (decide_eq_false (by omega)) h
  | k + 1, i, hi => by
    have hbig := bigL_eq
    obtain ⟨fu, hfu⟩ := vl3 (R := R) hb hc hok h k (i + 1) (by omega)
    have e0 : (0 : Nat) + Int.toNat (i : Int) = i := by omega
    have hr := hok (l.getD i default) (by rw [List.getD_eq_getElem?_getD, List.getElem?_eq_getElem (by omega)]; exact List.getElem_mem _)
    have hle := hr.le
    refine ⟨fu + 1, ?_⟩
    unfold l3_7
    refine brt (decide_eq_true (by omega)) (req_mk (iy1 (by omega)) (req_mk (iy3 (by omega)) ?_))
    rw [e0]
    refine brf (decide_eq_false (by omega)) ?_
    refine (fun (hf : ∃ fu2, l3_12 fu2 _ _ _ _ _ _ _ ((0 : Nat) : Int) _ _) => hf.elim fun f2 hf => ⟨f2, rfl, hf⟩) (vl3w (by omega) hr.wh ?_ (l.getD i default).toList.length 0 (by omega))
    show req (inR IntKind.i64 ((i : Int) + (1 : Int))) _
    rw [rq (in64 (n := (i : Int) + 1) (by omega) (by omega))]
    refine ⟨rfl, ?_⟩
    rw [show (i : Int) + 1 = ((i + 1 : Nat) : Int) by omega]
    exact hfu
theorem v3 {s s2 : List Dat} {s3 s4 s5 : Int} {s6 : Bool} {K : Bool → Prop} (h : K true) : m3 s s2 s3 s4 s5 s6 K := by
  unfold m3
  refine v10 (fun hc => rowsF_bound hc) ?_
  by_cases hc : chk s s2 s3 s4 s5 = 0
  · rw [if_pos hc]
    obtain ⟨⟨g1, g2, g3, g4⟩, _⟩ := chk_ok hc
    obtain ⟨hok, hc0, hc1⟩ := rowsF_ok (across := s6) hc
    have hrow := rowsF_row (s := s) (s2 := s2) (s3 := s3) (cols := s5) (across := s6)
    generalize rowsF s s2 s3 s5 s6 = p at hok hc0 hc1 hrow ⊢
    have hl := renderF_len (rows := p.1) hrow.1 hrow.2 (show 1 ≤ s4 by omega)
    have hR := renderF_ok (row := p.2.1) (s4 := s4) hok
    generalize renderF p.1 p.2.1 s4 = q at hl hR ⊢
    have hbig := bigL_eq
    refine brf (by rfl) (brf (decide_eq_false (by omega)) (brf (decide_eq_false (by omega)) (brf (decide_eq_false (by omega)) (brf (decide_eq_false (by omega)) (brf (decide_eq_false (by omega)) (brf (decide_eq_false (by omega)) ?_))))))
    exact (fun (hf : ∃ fu2, l3_7 fu2 _ _ _ ((0 : Nat) : Int) _ _) => hf.elim fun f2 hf => ⟨f2, rfl, hf⟩) (vl3 (c := ⟨s, s2, s3, s4, s5, s6⟩) (by omega) (by show s5 ≤ 1000; omega) hR (v11 h) q.length 0 (by omega))
  · rw [if_neg hc]
    refine brt (by rw [decide_eq_false hc]; rfl) (v11 (brt rfl (v12 ?_)))
    rw [decide_eq_true rfl]
    exact h
end Go.Proofs.YthegkipclogoeaaDoor

set_option linter.unusedVariables false
set_option maxRecDepth 100000
namespace Go.Proofs.YthegkipclogoeaaDoor.layoutFits
open Go.ChangeShapes Go.WideShapes Go.ChangeAt Go.RowKit Go.AM
theorem true3 {s s2 : List Dat} {s3 s4 s5 : Int} {s6 : Bool} : m3 s s2 s3 s4 s5 s6 tb := v3 trivial
theorem rule3 (s s2 : List Dat) (s3 s4 s5 : Int) (s6 : Bool) : R3 [.agg [.ro (.int .i32) s, .ro (.int .i32) s2, .c (.int .i64 s3), .c (.int .i64 s4), .c (.int .i64 s5), .c (.bool s6)]] h0 isTrue = m3 s s2 s3 s4 s5 s6 tb := by kernel_rfl
theorem own : ownKnob Tryd.prog.godebug = none := by kernel_rfl
theorem contract (H : Type) (enc : TypeId × Value → H) (W : World) (base : Nat) (args : Array Value) (ds gs : List (DataW H)) (before : List MemPlace)
    (hval : ∀ (j : Nat) t v, Tryd.f3.params[j]? = some t → args[j]? = some v → Value.okWide Tryd.prog W .any base t v)
    (hW : DataW.Whole enc Tryd.prog Tryd.f3.params.toList Rows.layoutFitsSpec.vars false W args.toList ds gs before) (hL : laidMetH Tryd.prog Rows.layoutFitsRow.laid W) :
    Calls Tryd.prog 3 args W fun e W' => ∃ v, e = .returned v ∧ Rows.layoutFitsSpec.post enc Tryd.prog Tryd.f3 false true false false W args v W' := by
  have one : ∃ d0, ds = [d0] := by
    obtain ⟨p, q, hA, hV, _⟩ := hW
    rw [Tryd.params3] at hA
    obtain ⟨v0, vs0, d0, ds0, p0, q0, hargs0, rfl, rfl, h0, r0⟩ := trodAll_cons hA
    obtain ⟨rfl, rfl, rfl⟩ := trodAll_nil r0
    exact ⟨d0, rfl⟩
  obtain ⟨d0, rfl⟩ := one
  have hgs : gs = [] := by
    obtain ⟨p, q, hA, hV, _⟩ := hW
    obtain ⟨rfl, _⟩ := trodVars_none hV
    rfl
  subst hgs
  refine law_contractR ok3 (tb := 4) (ss := [.pair (.slice (.int .i32)) (.pair (.slice (.int .i32)) (.pair (.int .i64) (.pair (.int .i64) (.pair (.int .i64) (.pair .bool .unit)))))]) (tabs_laid hL) hval hW rfl (by kernel_rfl) (by kernel_rfl) (fun hl => rfl) (by kernel_rfl) (by kernel_rfl) (by kernel_rfl) (fun hF => ?_)
  refine ⟨[.agg [.ro (.int .i32) (toDat (.pair (.slice (.int .i32)) (.pair (.slice (.int .i32)) (.pair (.int .i64) (.pair (.int .i64) (.pair (.int .i64) (.pair .bool .unit)))))) d0).fst.toList, .ro (.int .i32) (toDat (.pair (.slice (.int .i32)) (.pair (.slice (.int .i32)) (.pair (.int .i64) (.pair (.int .i64) (.pair (.int .i64) (.pair .bool .unit)))))) d0).snd.fst.toList, .c (.int .i64 (toDat (.pair (.slice (.int .i32)) (.pair (.slice (.int .i32)) (.pair (.int .i64) (.pair (.int .i64) (.pair (.int .i64) (.pair .bool .unit)))))) d0).snd.snd.fst.toInt), .c (.int .i64 (toDat (.pair (.slice (.int .i32)) (.pair (.slice (.int .i32)) (.pair (.int .i64) (.pair (.int .i64) (.pair (.int .i64) (.pair .bool .unit)))))) d0).snd.snd.snd.fst.toInt), .c (.int .i64 (toDat (.pair (.slice (.int .i32)) (.pair (.slice (.int .i32)) (.pair (.int .i64) (.pair (.int .i64) (.pair (.int .i64) (.pair .bool .unit)))))) d0).snd.snd.snd.snd.fst.toInt), .c (.bool (toDat (.pair (.slice (.int .i32)) (.pair (.slice (.int .i32)) (.pair (.int .i64) (.pair (.int .i64) (.pair (.int .i64) (.pair .bool .unit)))))) d0).snd.snd.snd.snd.snd.fst.toBool)]], by kernel_rfl, ?_⟩
  rw [rule3]
  have hf0 := hF (.pair (.slice (.int .i32)) (.pair (.slice (.int .i32)) (.pair (.int .i64) (.pair (.int .i64) (.pair (.int .i64) (.pair .bool .unit))))), d0) (by simp)
  generalize toDat (.pair (.slice (.int .i32)) (.pair (.slice (.int .i32)) (.pair (.int .i64) (.pair (.int .i64) (.pair (.int .i64) (.pair .bool .unit)))))) d0 = D at hf0 ⊢
  exact true3
theorem laid_met (os : Os) : laidMet Tryd.prog Rows.layoutFitsRow.laid (((laidWorld Rows.layoutFitsRow.laid os).forCall (fun _ _ => 0) ⟨#[], #[.agg #[.slice none 0 0, .slice none 0 0, .int .i64 0, .int .i64 0, .int .i64 0, .bool false]], []⟩)).memory :=
  laidMet_of_run' 8 (by kernel_rfl) (by kernel_rfl)
theorem reads (os : Os) {H : Type} (enc : TypeId × Value → H) : ∃ places, DataW.whole enc Tryd.prog ((laidWorld Rows.layoutFitsRow.laid os).forCall (fun _ _ => 0) ⟨#[], #[.agg #[.slice none 0 0, .slice none 0 0, .int .i64 0, .int .i64 0, .int .i64 0, .bool false]], []⟩).memory Tryd.f3.params.toList Rows.layoutFitsSpec.vars false #[.agg #[.slice none 0 0, .slice none 0 0, .int .i64 0, .int .i64 0, .int .i64 0, .bool false]].toList 8 = some ([.agg [.nil, .nil, .lit (.int .i64 0), .lit (.int .i64 0), .lit (.int .i64 0), .lit (.bool false)]], [], places) :=
  ⟨[], by kernel_rfl⟩
theorem lifted (os : Os) (started : os.Started) (H : Type) (enc : TypeId × Value → H) (F : Stop.Interp) :
    ReturnsInHanded {} Tryd.checked os 3 .any ((OpenSpec.ofChange Rows.layoutFitsSpec).preRow enc Tryd.prog Tryd.f3 Rows.layoutFitsRow.domain false Rows.layoutFitsRow.laid) (((OpenSpec.ofChange Rows.layoutFitsSpec).at F).post enc Tryd.prog Tryd.f3 false true false false) := by
  obtain ⟨places, hx⟩ := reads os enc
  refine returnsInHanded_of_row (C := Tryd.checked) (s := OpenSpec.ofChange Rows.layoutFitsSpec) own started (by kernel_rfl) Tryd.func3
    (witness_row_at (enc := enc) (C := Tryd.checked) false (laidWorld Rows.layoutFitsRow.laid os) #[.agg #[.slice none 0 0, .slice none 0 0, .int .i64 0, .int .i64 0, .int .i64 0, .bool false]] rfl (by kernel_rfl) (by kernel_rfl) (by kernel_rfl)
      (OpenSpec.preRow_of_cond 8 hx (by kernel_rfl) (fun k hk => by cases hk) (by kernel_rfl) (laid_met os))) ?_
  intro W base args ds gs before hval hW _ _ _ hL _ _
  exact contract H enc W base args ds gs before hval hW hL
theorem said : Rows.LayoutFitsSaid :=
  OpenClaim.holds_of_cond 3 Tryd.f3 rfl rfl rfl rfl rfl rfl rfl ⟨rfl, rfl, rfl, rfl, rfl⟩ rfl rfl rfl rfl rfl (by kernel_rfl) Tryd.func3 (by kernel_rfl)
    (of_decide_eq_true (by kernel_rfl)) (by unfold Func.isWrapper; first | (rw [if_pos (by decide +kernel)]; kernel_rfl) | (rw [if_neg (by decide +kernel)]; exact ⟨rfl, rfl⟩))
    (fun os started H enc _ F => by rw [OpenClaim.pre_eq_preRow]; exact lifted os started H enc F)
/-- No parameter wants a stand-in; the program's own looks are off. -/
theorem plain (f : FuncId) (fn : Func) (hf : Tryd.pinned.checked.prog.funcNamed "lanyard/lanyardlaw23.LayoutFits" = some f) (hfn : Tryd.pinned.checked.prog.funcs[f]? = some fn) :
    false = Tryd.pinned.checked.prog.looks [] ∧ ∀ (j : Nat) t, fn.params[j]? = some t → Tryd.pinned.checked.prog.wantsStandIn t = false := by
  obtain rfl : f = 3 := Option.some.inj ((show Tryd.prog.funcNamed "lanyard/lanyardlaw23.LayoutFits" = some 3 by kernel_rfl).symm.trans hf) |>.symm
  obtain rfl : fn = Tryd.f3 := (Option.some.inj (Tryd.func3.symm.trans hfn)).symm
  refine ⟨by kernel_rfl, fun j t ht => ?_⟩
  have h1 : (Tryd.f3.params.toList.all fun t => !Tryd.pinned.checked.prog.wantsStandIn t) = true := by kernel_rfl
  have h2 := List.all_eq_true.1 h1 t (Array.mem_toList_iff.2 (Array.mem_of_getElem? ht))
  simpa using h2
theorem card : Rows.LayoutFitsCardSaid :=
  Claim7.holds_tied_plain_at .later [] _ _ _ _ said (fun _ h => by cases h) (by kernel_rfl) (fun _ h => by cases h) layoutFits_row_tie rfl ⟨rfl, rfl⟩ (by kernel_rfl) rfl plain (by kernel_rfl)
end Go.Proofs.YthegkipclogoeaaDoor.layoutFits

