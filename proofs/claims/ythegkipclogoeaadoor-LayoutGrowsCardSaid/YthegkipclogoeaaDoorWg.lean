/- LayoutGrows answers true for every input; conditions: the listed tables. -/
import Derived.Test.YthegkipclogoeaaDoorZa
import Derived.Test.YthegkipclogoeaaDoorAmFl
import Derived.Test.YthegkipclogoeaaDoorZq
import Derived.Test.YthegkipclogoeaaDoorCards
import Derived.Test.YthegkipclogoeaaDoorTie
import Derived.Test.YthegkipclogoeaaDoorTb
import Derived.Test.YthegkipclogoeaaDoorLw
import Derived.WalkKit
import Derived.ProofKit
import Derived.OpenShut
import Derived.Deep.DeepHandedRow
import Derived.Lib.LaidTab
set_option linter.unusedVariables false
set_option maxRecDepth 100000
namespace Go.Proofs.YthegkipclogoeaaDoor
open Go.AM Go.LTxt Go.LMem Go.RowKit
noncomputable def p5_r4 (c : C24) (l : List Dat) (r : Int) (e : Int) (E0 : C24 → List Dat → Int → Bool → Prop) : Prop :=
    br (!decide (e = (0 : Int))) (E0 c l r true) (
     br (decide ((1024 : Int) ≤ (↑(List.length (C24.line c)) : Int))) (E0 c l r true) (
      m13 r (fun y0 => 
       br (decide (y0 = (0 : Int))) (
        m17 r (fun y1 => 
         br (!y1) (E0 c l r true) (
          m11 (fun y2 => E0 c l r !y2)))) (
        m11 (fun y3 => E0 c l r !y3)))))
def F5_r4 : AM.Form := ⟨mkF 89 [(1, .int .i32), (2, .p 0 0), (5, .sl 1), (7, .int .i64)], [.cells 24 [.ro (.int .i32), .ro (.int .i32), .int .i64, .int .i64, .int .i64, .bool], .seq 35 (.slice (.pair .str (.pair (.int .i64) (.pair (.int .i64) .unit))))]⟩
noncomputable def mm5_r4 (ds : List Dat) (Q : AExit → List AV → AH → Prop) : Prop := p5_r4 ⟨(dat ds 2).toList, (dat ds 3).toList, (dat ds 4).toInt, (dat ds 5).toInt, (dat ds 6).toInt, (dat ds 7).toBool⟩ ((dat ds 8).toList) ((dat ds 0).toInt) ((dat ds 1).toInt) (fun rc rl rn rb => Q .normal (mkAV 89 [(1, .c (.int .i32 rn)), (2, .p 0 0), (5, .sl 1 0 rl.length), (44, .c (.bool rb))]) ⟨[.cells 24 [.ro (.int .i32) rc.prompt, .ro (.int .i32) rc.line, .c (.int .i64 rc.point), .c (.int .i64 rc.rows), .c (.int .i64 rc.cols), .c (.bool rc.across)], .seq 35 (.slice (.pair .str (.pair (.int .i64) (.pair (.int .i64) .unit)))) rl], []⟩)
theorem t5_r4 (ds : List Dat) (Q : AExit → List AV → AH → Prop) : wpA Tryd.prog tys GG9 1000 5 (theReg Tryd.prog 5 4) (fun e f' h' => endF Tryd.prog ((fun _ => []) e) ((fun _ => ⟨[1, 2, 5, 44], []⟩) e) ((fun _ => []) e) (F5_r4.hp ds) f' h' fun f2 h2 => Q e f2 h2) (F5_r4.fr ds) (F5_r4.hp ds) = mm5_r4 ds Q := by kernel_rfl
noncomputable def R5_r4 : LoopT := headF Tryd.prog [] ⟨[1, 2, 5, 7], []⟩ [] (locL F5_r4 mm5_r4)
theorem ok5_r4 : RegOK Tryd.prog (theReg Tryd.prog 5 4) R5_r4 := ruleP_ok sGG9 (by kernel_rfl) mm5_r4 t5_r4
noncomputable def rs5_r4 : List (FuncId × Nat × LoopT) := (5, 4, R5_r4) :: []
theorem rs5_r4_ok : RegsOK Tryd.prog rs5_r4 := .cons (by kernel_rfl) ok5_r4 .nil
noncomputable def GG5_r4 : Rules := mkG [37, 27] cs9 ls27_2 rs5_r4
theorem sGG5_r4 : Sound Tryd.prog tys GG5_r4 := mk_sound mixed tysOK names (by kernel_rfl) cs9_ok ls27_2_ok rs5_r4_ok
noncomputable def p5_r7 (c : C24) (l : List Dat) (E0 : C24 → List Dat → Prop) : Prop :=
    req (inR IntKind.i64 (C24.point c + (1 : Int))) (E0 { c with point := C24.point c + (1 : Int) } l)
def F5_r7 : AM.Form := ⟨mkF 89 [(2, .p 0 0), (5, .sl 2)], [.cells 24 [.ro (.int .i32), .sl 1, .int .i64, .int .i64, .int .i64, .bool], .seq 21 (.int .i32), .seq 35 (.slice (.pair .str (.pair (.int .i64) (.pair (.int .i64) .unit))))]⟩
noncomputable def mm5_r7 (ds : List Dat) (Q : AExit → List AV → AH → Prop) : Prop := p5_r7 ⟨(dat ds 0).toList, (dat ds 5).toList, (dat ds 1).toInt, (dat ds 2).toInt, (dat ds 3).toInt, (dat ds 4).toBool⟩ ((dat ds 6).toList) (fun rc rl => Q .normal (mkAV 89 [(2, .p 0 0), (5, .sl 2 0 rl.length)]) ⟨[.cells 24 [.ro (.int .i32) rc.prompt, .sl 1 0 rc.line.length, .c (.int .i64 rc.point), .c (.int .i64 rc.rows), .c (.int .i64 rc.cols), .c (.bool rc.across)], .seq 21 (.int .i32) rc.line, .seq 35 (.slice (.pair .str (.pair (.int .i64) (.pair (.int .i64) .unit)))) rl], []⟩)
theorem t5_r7 (ds : List Dat) (Q : AExit → List AV → AH → Prop) : wpA Tryd.prog tys GG5_r4 1000 5 (theReg Tryd.prog 5 7) (fun e f' h' => endF Tryd.prog ((fun _ => []) e) ((fun _ => ⟨[2, 5], []⟩) e) ((fun _ => []) e) (F5_r7.hp ds) f' h' fun f2 h2 => Q e f2 h2) (F5_r7.fr ds) (F5_r7.hp ds) = mm5_r7 ds Q := by kernel_rfl
noncomputable def R5_r7 : LoopT := headF Tryd.prog [] ⟨[2, 5], []⟩ [] (locL F5_r7 mm5_r7)
theorem ok5_r7 : RegOK Tryd.prog (theReg Tryd.prog 5 7) R5_r7 := ruleP_ok sGG5_r4 (by kernel_rfl) mm5_r7 t5_r7
noncomputable def rs5_r7 : List (FuncId × Nat × LoopT) := (5, 7, R5_r7) :: rs5_r4
theorem rs5_r7_ok : RegsOK Tryd.prog rs5_r7 := .cons (by kernel_rfl) ok5_r7 rs5_r4_ok
noncomputable def GG5_r7 : Rules := mkG [37, 27] cs9 ls27_2 rs5_r7
theorem sGG5_r7 : Sound Tryd.prog tys GG5_r7 := mk_sound mixed tysOK names (by kernel_rfl) cs9_ok ls27_2_ok rs5_r7_ok
noncomputable def l5_12 : Nat → List Dat → List Dat → Int → (Prop) → (Bool → Prop) → Prop
  | 0, _, _, _, _, _ => False
  | fu + 1, l, l2, i, E0, R_ =>
    req (inR IntKind.i64 ((↑(List.length l) : Int) - (2 : Int))) (
    br (decide (i < (↑(List.length l) : Int) - (2 : Int))) (
     req (decide ((0 : Int) ≤ i) && decide (i < (↑(List.length l) : Int))) (
     req (decide ((0 : Nat) + Int.toNat i < List.length l)) (
     req (decide ((0 : Int) ≤ i) && decide (i < (↑(List.length l2) : Int))) (
     req (decide ((0 : Nat) + Int.toNat i < List.length l2)) (
     m15 (Dat.toList (List.getD l ((0 : Nat) + Int.toNat i) default)) (Dat.toList (List.getD l2 ((0 : Nat) + Int.toNat i) default)) (fun y0 => 
      br (!y0) (R_ false) (
       req (inR IntKind.i64 (i + (1 : Int))) (((List.length l) = List.length l ∧ ((List.length l2) = List.length l2 ∧ l5_12 fu l l2 (i + (1 : Int)) E0 R_)))))))))) (E0))
def F5_12 : AM.Form := ⟨mkF 89 [(5, .sl 0), (8, .sl 1), (11, .int .i64)], [.seq 35 (.slice (.pair .str (.pair (.int .i64) (.pair (.int .i64) .unit)))), .seq 35 (.slice (.pair .str (.pair (.int .i64) (.pair (.int .i64) .unit))))]⟩
noncomputable def mm5_12 (n : Nat) (ds : List Dat) (Q : AExit → List AV → AH → Prop) : Prop := l5_12 n ((dat ds 1).toList) ((dat ds 2).toList) ((dat ds 0).toInt) (Q (AExit.exit 0) (mkAV 89 []) ⟨[], []⟩) (fun rb => Q AExit.ret (mkAV 89 [(4, .c (.bool rb))]) ⟨[], []⟩)
theorem t5_12 (n : Nat) (ds : List Dat) (Q : AExit → List AV → AH → Prop) : wpA Tryd.prog tys GG5_r7 1000 5 (theLoop Tryd.prog 5 12) (fun e f' h' => endF Tryd.prog ((fun _ => []) e) ((fun e => match e with | .normal => ⟨[5, 8, 11], []⟩ | .exit 0 => ⟨[], []⟩ | .ret => ⟨[4], []⟩ | _ => ⟨[], []⟩) e) ((fun e => match e with | .normal => [] | .exit 0 => [] | .ret => [] | _ => []) e) (F5_12.hp ds) f' h' fun f2 h2 => match e with
      | .normal => locL F5_12 (mm5_12 n) f2 h2 Q
      | e => Q e f2 h2) (F5_12.fr ds) (F5_12.hp ds) = mm5_12 (n + 1) ds Q := by kernel_rfl
noncomputable def R5_12 : LoopT := headF Tryd.prog [] ⟨[5, 8, 11], []⟩ [] fun f h Q => ∃ n, locL F5_12 (mm5_12 n) f h Q
theorem ok5_12 : LoopOK Tryd.prog (theLoop Tryd.prog 5 12) R5_12 := ruleL_ok sGG5_r7 (by kernel_rfl) mm5_12 (fun _ _ => rfl) t5_12
noncomputable def ls5_12 : List (FuncId × Nat × LoopT) := (5, 12, R5_12) :: ls27_2
theorem ls5_12_ok : LoopsOK Tryd.prog ls5_12 := .cons (by kernel_rfl) ok5_12 ls27_2_ok
noncomputable def GG5_12 : Rules := mkG [37, 27] cs9 ls5_12 rs5_r7
theorem sGG5_12 : Sound Tryd.prog tys GG5_12 := mk_sound mixed tysOK names (by kernel_rfl) cs9_ok ls5_12_ok rs5_r7_ok
noncomputable def m5 (s : List Dat) (s2 : List Dat) (s3 : Int) (s4 : Int) (s5 : Int) (s6 : Bool) (r : Int) (K : Bool → Prop) : Prop :=
    m14 s s2 (↑(List.length s2) : Int) s4 s5 false (fun y0 y1 y2 y3 => 
     ((List.length y0 = List.length y0) ∧ 
     p5_r4 { prompt := s, line := s2, point := (↑(List.length s2) : Int), rows := s4, cols := s5, across := false } y0 r y3 (fun y4 y5 y6 y7 => 
      br (y7) (
       m11 (fun y8 => K y8)) (
       m18 (C24.line y4) (fun y9 => 
        req (appOK y9 (0 : Nat) (List.length y9) (1 : Nat) (4 : Nat)) (
        ((List.length y5 = List.length y5) ∧ 
        ((List.length (dapp y9 (0 : Nat) (List.length y9) [Dat.int y6]) = List.length (dapp y9 (0 : Nat) (List.length y9) [Dat.int y6])) ∧ 
        p5_r7 { prompt := C24.prompt y4, line := dapp y9 (0 : Nat) (List.length y9) [Dat.int y6], point := C24.point y4, rows := C24.rows y4, cols := C24.cols y4, across := C24.across y4 } y5 (fun y10 y11 => 
         req (decide ((0 : Nat) + List.length (C24.line y10) ≤ List.length (C24.line y10))) (
         m14 (C24.prompt y10) (List.take (List.length (C24.line y10)) (C24.line y10)) (C24.point y10) (C24.rows y10) (C24.cols y10) (C24.across y10) (fun y12 y13 y14 y15 => 
          br (!decide (y15 = (0 : Int))) (K false) (
           br (decide ((↑(List.length y12) : Int) < (↑(List.length y11) : Int))) (K false) (
            (∃ y16, 
            ((List.length y11 = List.length y11) ∧ 
            ((List.length y12 = List.length y12) ∧ 
            l5_12 y16 y11 y12 (0 : Int) (K true) (fun y17 => K y17)))))))))))))))))
def F5 : AM.Form := ⟨[.agg [.ro (.int .i32), .ro (.int .i32), .int .i64, .int .i64, .int .i64, .bool], .int .i32], []⟩
noncomputable def mm5 (ds : List Dat) (K : AV → AH → Prop) : Prop := m5 ((dat ds 0).toList) ((dat ds 1).toList) ((dat ds 2).toInt) ((dat ds 3).toInt) ((dat ds 4).toInt) ((dat ds 5).toBool) ((dat ds 6).toInt) (fun rb => K (.c (.bool rb)) ⟨[], []⟩)
noncomputable def RV5_12_5 (Vl5_12 : Nat → List Dat → List Dat → Int → (Prop) → (Bool → Prop) → Prop) : LoopT := headF Tryd.prog [] ⟨[5, 8, 11], []⟩ [] fun f h Q => ∃ n, locL F5_12 (fun ds Q => Vl5_12 n ((dat ds 1).toList) ((dat ds 2).toList) ((dat ds 0).toInt) (Q (AExit.exit 0) (mkAV 89 []) ⟨[], []⟩) (fun rb => Q AExit.ret (mkAV 89 [(4, .c (.bool rb))]) ⟨[], []⟩)) f h Q
theorem okV5_12_5 : LoopOK Tryd.prog (theLoop Tryd.prog 5 12) (RV5_12_5 l5_12) := ok5_12
noncomputable def RV11_5 (Vm11 : (Bool → Prop) → Prop) : CallT := ruleF Tryd.prog [] [] F11 (fun ds K => Vm11  (fun rb => K (.c (.bool rb)) ⟨[], []⟩))
theorem okV11_5 : CallOK Tryd.prog 11 (RV11_5 m11) := ok11
noncomputable def RV14_5 (Vm14 : List Dat → List Dat → Int → Int → Int → Bool → (List Dat → Int → Int → Int → Prop) → Prop) : CallT := ruleF Tryd.prog [(.agg [(.ro (.int .i32)), (.ro (.int .i32)), .keep, .keep, .keep, .keep])] [] F14 (fun ds K => Vm14 ((dat ds 0).toList) ((dat ds 1).toList) ((dat ds 2).toInt) ((dat ds 3).toInt) ((dat ds 4).toInt) ((dat ds 5).toBool) (fun rl rn rn2 rn3 => K (.tup [.sl 0 0 rl.length, .agg [.c (.int .i64 rn), .c (.int .i64 rn2)], .c (.int .i64 rn3)]) ⟨[.seq 35 (.slice (.pair .str (.pair (.int .i64) (.pair (.int .i64) .unit)))) rl], []⟩))
theorem okV14_5 : CallOK Tryd.prog 14 (RV14_5 m14) := ok14
noncomputable def RV18_5 (Vm18 : List Dat → (List Dat → Prop) → Prop) : CallT := ruleF Tryd.prog [(.ro (.int .i32))] [] F18 (fun ds K => Vm18 ((dat ds 0).toList) (fun rl => K (.sl 0 0 rl.length) ⟨[.seq 21 (.int .i32) rl], []⟩))
theorem okV18_5 : CallOK Tryd.prog 18 (RV18_5 m18) := ok18
noncomputable def RV5_r4_5 (Vp5_r4 : C24 → List Dat → Int → Int → (C24 → List Dat → Int → Bool → Prop) → Prop) : LoopT := headF Tryd.prog [] ⟨[1, 2, 5, 7], []⟩ [] (locL F5_r4 (fun ds Q => Vp5_r4 ⟨(dat ds 2).toList, (dat ds 3).toList, (dat ds 4).toInt, (dat ds 5).toInt, (dat ds 6).toInt, (dat ds 7).toBool⟩ ((dat ds 8).toList) ((dat ds 0).toInt) ((dat ds 1).toInt) (fun rc rl rn rb => Q .normal (mkAV 89 [(1, .c (.int .i32 rn)), (2, .p 0 0), (5, .sl 1 0 rl.length), (44, .c (.bool rb))]) ⟨[.cells 24 [.ro (.int .i32) rc.prompt, .ro (.int .i32) rc.line, .c (.int .i64 rc.point), .c (.int .i64 rc.rows), .c (.int .i64 rc.cols), .c (.bool rc.across)], .seq 35 (.slice (.pair .str (.pair (.int .i64) (.pair (.int .i64) .unit)))) rl], []⟩)))
theorem okV5_r4_5 : RegOK Tryd.prog (theReg Tryd.prog 5 4) (RV5_r4_5 p5_r4) := ok5_r4
noncomputable def RV5_r7_5 (Vp5_r7 : C24 → List Dat → (C24 → List Dat → Prop) → Prop) : LoopT := headF Tryd.prog [] ⟨[2, 5], []⟩ [] (locL F5_r7 (fun ds Q => Vp5_r7 ⟨(dat ds 0).toList, (dat ds 5).toList, (dat ds 1).toInt, (dat ds 2).toInt, (dat ds 3).toInt, (dat ds 4).toBool⟩ ((dat ds 6).toList) (fun rc rl => Q .normal (mkAV 89 [(2, .p 0 0), (5, .sl 2 0 rl.length)]) ⟨[.cells 24 [.ro (.int .i32) rc.prompt, .sl 1 0 rc.line.length, .c (.int .i64 rc.point), .c (.int .i64 rc.rows), .c (.int .i64 rc.cols), .c (.bool rc.across)], .seq 21 (.int .i32) rc.line, .seq 35 (.slice (.pair .str (.pair (.int .i64) (.pair (.int .i64) .unit)))) rl], []⟩)))
theorem okV5_r7_5 : RegOK Tryd.prog (theReg Tryd.prog 5 7) (RV5_r7_5 p5_r7) := ok5_r7
noncomputable def GV5 (Vl5_12 : Nat → List Dat → List Dat → Int → (Prop) → (Bool → Prop) → Prop) (Vm11 : (Bool → Prop) → Prop) (Vm14 : List Dat → List Dat → Int → Int → Int → Bool → (List Dat → Int → Int → Int → Prop) → Prop) (Vm18 : List Dat → (List Dat → Prop) → Prop) (Vp5_r4 : C24 → List Dat → Int → Int → (C24 → List Dat → Int → Bool → Prop) → Prop) (Vp5_r7 : C24 → List Dat → (C24 → List Dat → Prop) → Prop) : Rules := mkG [37, 27] ((11, RV11_5 Vm11) :: (14, RV14_5 Vm14) :: (18, RV18_5 Vm18) :: cs9) ((5, 12, RV5_12_5 Vl5_12) :: ls5_12) ((5, 4, RV5_r4_5 Vp5_r4) :: (5, 7, RV5_r7_5 Vp5_r7) :: rs5_r7)
noncomputable def mV5 (Vl5_12 : Nat → List Dat → List Dat → Int → (Prop) → (Bool → Prop) → Prop) (Vm11 : (Bool → Prop) → Prop) (Vm14 : List Dat → List Dat → Int → Int → Int → Bool → (List Dat → Int → Int → Int → Prop) → Prop) (Vm18 : List Dat → (List Dat → Prop) → Prop) (Vp5_r4 : C24 → List Dat → Int → Int → (C24 → List Dat → Int → Bool → Prop) → Prop) (Vp5_r7 : C24 → List Dat → (C24 → List Dat → Prop) → Prop) (s : List Dat) (s2 : List Dat) (s3 : Int) (s4 : Int) (s5 : Int) (s6 : Bool) (r : Int) (K : Bool → Prop) : Prop :=
    Vm14 s s2 (↑(List.length s2) : Int) s4 s5 false (fun y0 y1 y2 y3 => 
     ((List.length y0 = List.length y0) ∧ 
     Vp5_r4 { prompt := s, line := s2, point := (↑(List.length s2) : Int), rows := s4, cols := s5, across := false } y0 r y3 (fun y4 y5 y6 y7 => 
      br (y7) (
       Vm11 (fun y8 => K y8)) (
       Vm18 (C24.line y4) (fun y9 => 
        req (appOK y9 (0 : Nat) (List.length y9) (1 : Nat) (4 : Nat)) (
        ((List.length y5 = List.length y5) ∧ 
        ((List.length (dapp y9 (0 : Nat) (List.length y9) [Dat.int y6]) = List.length (dapp y9 (0 : Nat) (List.length y9) [Dat.int y6])) ∧ 
        Vp5_r7 { prompt := C24.prompt y4, line := dapp y9 (0 : Nat) (List.length y9) [Dat.int y6], point := C24.point y4, rows := C24.rows y4, cols := C24.cols y4, across := C24.across y4 } y5 (fun y10 y11 => 
         req (decide ((0 : Nat) + List.length (C24.line y10) ≤ List.length (C24.line y10))) (
         Vm14 (C24.prompt y10) (List.take (List.length (C24.line y10)) (C24.line y10)) (C24.point y10) (C24.rows y10) (C24.cols y10) (C24.across y10) (fun y12 y13 y14 y15 => 
          br (!decide (y15 = (0 : Int))) (K false) (
           br (decide ((↑(List.length y12) : Int) < (↑(List.length y11) : Int))) (K false) (
            (∃ y16, 
            ((List.length y11 = List.length y11) ∧ 
            ((List.length y12 = List.length y12) ∧ 
            Vl5_12 y16 y11 y12 (0 : Int) (K true) (fun y17 => K y17)))))))))))))))))
noncomputable def mmV5 (Vl5_12 : Nat → List Dat → List Dat → Int → (Prop) → (Bool → Prop) → Prop) (Vm11 : (Bool → Prop) → Prop) (Vm14 : List Dat → List Dat → Int → Int → Int → Bool → (List Dat → Int → Int → Int → Prop) → Prop) (Vm18 : List Dat → (List Dat → Prop) → Prop) (Vp5_r4 : C24 → List Dat → Int → Int → (C24 → List Dat → Int → Bool → Prop) → Prop) (Vp5_r7 : C24 → List Dat → (C24 → List Dat → Prop) → Prop) (ds : List Dat) (K : AV → AH → Prop) : Prop := mV5 Vl5_12 Vm11 Vm14 Vm18 Vp5_r4 Vp5_r7 ((dat ds 0).toList) ((dat ds 1).toList) ((dat ds 2).toInt) ((dat ds 3).toInt) ((dat ds 4).toInt) ((dat ds 5).toBool) ((dat ds 6).toInt) (fun rb => K (.c (.bool rb)) ⟨[], []⟩)
theorem tV5 (Vl5_12 : Nat → List Dat → List Dat → Int → (Prop) → (Bool → Prop) → Prop) (Vm11 : (Bool → Prop) → Prop) (Vm14 : List Dat → List Dat → Int → Int → Int → Bool → (List Dat → Int → Int → Int → Prop) → Prop) (Vm18 : List Dat → (List Dat → Prop) → Prop) (Vp5_r4 : C24 → List Dat → Int → Int → (C24 → List Dat → Int → Bool → Prop) → Prop) (Vp5_r7 : C24 → List Dat → (C24 → List Dat → Prop) → Prop) (ds : List Dat) (K : AV → AH → Prop) : callA Tryd.prog tys (GV5 Vl5_12 Vm11 Vm14 Vm18 Vp5_r4 Vp5_r7) 1000 5 (F5.fr ds) (F5.hp ds) (fun v h' => endK Tryd.prog [] .keep (F5.hp ds) (F5.fr ds) v h' K) = mmV5 Vl5_12 Vm11 Vm14 Vm18 Vp5_r4 Vp5_r7 ds K := by kernel_rfl
noncomputable def GX5 : Rules := GV5 l5_12 m11 m14 m18 p5_r4 p5_r7
theorem sGX5 : Sound Tryd.prog tys GX5 := mk_sound mixed tysOK names (by kernel_rfl) (.cons okV11_5 (.cons okV14_5 (.cons okV18_5 (cs9_ok)))) (.cons (by kernel_rfl) okV5_12_5 (ls5_12_ok)) (.cons (by kernel_rfl) okV5_r4_5 (.cons (by kernel_rfl) okV5_r7_5 (rs5_r7_ok)))
theorem eV5 : mmV5 l5_12 m11 m14 m18 p5_r4 p5_r7 = mm5 := by kernel_rfl
theorem t5 (ds : List Dat) (K : AV → AH → Prop) : callA Tryd.prog tys GX5 1000 5 (F5.fr ds) (F5.hp ds) (fun v h' => endK Tryd.prog [] .keep (F5.hp ds) (F5.fr ds) v h' K) = mm5 ds K := (tV5 l5_12 m11 m14 m18 p5_r4 p5_r7 ds K).trans (congrFun (congrFun eV5 ds) K)
noncomputable def R5 : CallT := ruleF Tryd.prog [(.agg [(.ro (.int .i32)), (.ro (.int .i32)), .keep, .keep, .keep, .keep]), .keep] [] F5 mm5
theorem ok5 : CallOK Tryd.prog 5 R5 := ruleF_ok sGX5 t5
noncomputable def cs5 : List (FuncId × CallT) := (5, R5) :: cs9
theorem cs5_ok : CallsOK Tryd.prog cs5 := .cons ok5 cs9_ok
noncomputable def GG5 : Rules := mkG [37, 27] cs5 ls5_12 rs5_r7
theorem sGG5 : Sound Tryd.prog tys GG5 := mk_sound mixed tysOK names (by kernel_rfl) cs5_ok ls5_12_ok rs5_r7_ok
end Go.Proofs.YthegkipclogoeaaDoor

set_option linter.unusedVariables false
set_option linter.unusedSimpArgs false
set_option maxRecDepth 100000
namespace Go.Proofs.YthegkipclogoeaaDoor
open Go.AM Go.LTxt Go.LMem Go.RowKit
theorem cellS_app {l : List Dat} {r : Int} (hn : ¬ (width r = 0 ∧ ctl r = false)) : ∃ d m, cellS l r = l ++ d :: m := by
  rcases cellS_cases l r with h | ⟨m, h, h2, _⟩
  · unfold cellS at h ⊢
    by_cases h9 : r = 9
    · rw [if_pos h9] at h
      have := congrArg List.length h
      unfold pad at this
      simp only [List.length_map, List.length_append, List.length_singleton, List.length_replicate] at this
      omega
    · rw [if_neg h9] at h ⊢
      by_cases hc : (0 ≤ r ∧ r < 32) ∨ r = 127
      · rw [if_pos hc] at h ⊢; exact ⟨_, _, rfl⟩
      · rw [if_neg hc] at h ⊢
        by_cases hv : valid r = false
        · rw [if_pos hv] at h ⊢; exact ⟨_, _, rfl⟩
        · rw [if_neg hv] at h ⊢
          by_cases hct : ctl r = true
          · rw [if_pos hct] at h ⊢; exact ⟨_, _, rfl⟩
          · rw [if_neg hct] at h ⊢
            by_cases h0 : width r = 0
            · exact absurd ⟨h0, eq_false_of_ne_true hct⟩ hn
            · rw [if_neg h0] at h ⊢
              by_cases h2 : width r = 2
              · rw [if_pos h2] at h ⊢; exact ⟨_, _, rfl⟩
              · rw [if_neg h2] at h ⊢; exact ⟨_, _, rfl⟩
  · cases m with
    | nil => exact absurd rfl h2
    | cons d m => exact ⟨d, m, h⟩
theorem prep_pre (cols w : Int) (s : List Dat × List Dat) : ∃ t, (prep cols w s).1 = s.1 ++ t := by
  unfold prep
  split
  · exact ⟨_, rfl⟩
  · exact ⟨[], by simp⟩
theorem fold_pre (cols : Int) : ∀ (l : List Dat) (s : List Dat × List Dat), ∃ t, (l.foldl (layS cols) s).1 = s.1 ++ t
  | [], s => ⟨[], by simp⟩
  | d :: l, s => by
    obtain ⟨t1, h1⟩ := prep_pre cols (wd d) s
    obtain ⟨t2, h2⟩ := fold_pre cols l (layS cols s d)
    refine ⟨t1 ++ t2, ?_⟩
    rw [List.foldl_cons, h2]
    show (prep cols (wd d) s).1 ++ t2 = _
    rw [h1, List.append_assoc]
theorem cut_end (cols : Int) (l : List Dat) : rowsOf (cut l cols (l.length : Int)) = (prep cols 1 (l.foldl (layS cols) ([], []))).1 ++ [.list (prep cols 1 (l.foldl (layS cols) ([], []))).2] := by
  unfold rowsOf cut cutEnd
  rw [if_pos rfl, cutF_state]
/-- rows of cells with others behind them: the same but for the last two -/
theorem cut_grow {cols : Int} (C : List Dat) (d : Dat) (m : List Dat) : ∃ p ta tb, rowsOf (cut C cols (C.length : Int)) = p ++ ta ∧ rowsOf (cut (C ++ d :: m) cols ((C ++ d :: m).length : Int)) = p ++ tb ∧ ta.length ≤ 2 ∧ ta.length ≤ tb.length := by
  rw [cut_end, cut_end, List.foldl_append, List.foldl_cons]
  generalize C.foldl (layS cols) ([], []) = S
  obtain ⟨t2, h2⟩ := fold_pre cols m (layS cols S d)
  obtain ⟨t3, h3⟩ := prep_pre cols 1 (m.foldl (layS cols) (layS cols S d))
  have hl : (layS cols S d).1 = (prep cols (wd d) S).1 := rfl
  rw [h3, h2, hl]
  have hp1 : prep1 cols 1 S.2 = S.2 := by unfold prep1; rw [if_neg (by omega)]
  by_cases hf : (S.2.length : Int) = cols
  · have hp2 : prep1 cols (wd d) S.2 = S.2 := by unfold prep1; rw [if_neg (by omega)]
    have e1 : prep cols 1 S = (S.1 ++ [.list S.2], []) := by unfold prep; rw [hp1, if_pos hf]
    have e2 : (prep cols (wd d) S).1 = S.1 ++ [.list S.2] := by unfold prep; rw [hp2, if_pos hf]
    rw [e1, e2]
    refine ⟨S.1, [.list S.2, .list []], [.list S.2] ++ (t2 ++ (t3 ++ [.list (prep cols 1 (m.foldl (layS cols) (layS cols S d))).2])), by simp, by simp, by simp, ?_⟩
    simp only [List.length_append, List.length_cons, List.length_nil]
    omega
  · have e1 : prep cols 1 S = S := by unfold prep; rw [hp1, if_neg hf]
    obtain ⟨t1, h1⟩ := prep_pre cols (wd d) S
    rw [e1, h1]
    refine ⟨S.1, [.list S.2], t1 ++ (t2 ++ (t3 ++ [.list (prep cols 1 (m.foldl (layS cols) (layS cols S d))).2])), rfl, by simp, by simp, ?_⟩
    simp only [List.length_append, List.length_cons, List.length_nil]
    omega
theorem vl5 {a b : List Dat} (hb : a.length ≤ bigL) (hr : RowsB bigL a) (hle : a.length ≤ b.length) (he : ∀ i, i + 2 < a.length → a.getD i default = b.getD i default) {K : Bool → Prop} (h : K true) : ∀ (k i : Nat), (a.length ≤ 2 ∨ a.length - 2 ≤ i + k) → ∃ fu, l5_12 fu a b (i : Int) (K true) (fun y => K y)
  | 0, i, hi => by
    have hbig := bigL_eq
    refine ⟨1, ?_⟩
    unfold l5_12
    rw [rq (in64 (n := (a.length : Int) - 2) (by omega) (by omega))]
    exact brf (decide_eq_false (by omega)) h
  | k + 1, i, hi => by
    have hbig := bigL_eq
    by_cases hlt : i + 2 < a.length
    · obtain ⟨fu, hfu⟩ := vl5 hb hr hle he h k (i + 1) (by omega)
      have e0 : (0 : Nat) + Int.toNat (i : Int) = i := by omega
      refine ⟨fu + 1, ?_⟩
      unfold l5_12
      rw [rq (in64 (n := (a.length : Int) - 2) (by omega) (by omega))]
      refine brt (decide_eq_true (by omega)) (req_mk (iy1 (by omega)) (req_mk (iy3 (by omega)) (req_mk (iy1 (by omega)) (req_mk (iy3 (by omega)) ?_))))
      rw [e0, ← he i hlt]
      refine v15 (hr _ (by rw [List.getD_eq_getElem?_getD, List.getElem?_eq_getElem (by omega)]; exact List.getElem_mem _)) ?_
      rw [eqF_self eqC_self]
      rw [show (!true) = false from rfl, br_f, rq (in64 (n := (i : Int) + 1) (by omega) (by omega)), show (i : Int) + 1 = ((i + 1 : Nat) : Int) by omega]
      exact ⟨rfl, rfl, hfu⟩
    · refine ⟨1, ?_⟩
      unfold l5_12
      rw [rq (in64 (n := (a.length : Int) - 2) (by omega) (by omega))]
      exact brf (decide_eq_false (by omega)) h
theorem grow_rows {s s2 : List Dat} {cols : Int} {r : Int} (hn : ¬ (width r = 0 ∧ ctl r = false)) : (rowsF s s2 (s2.length : Int) cols false).1.length ≤ (rowsF s (s2 ++ [.int r]) ((s2.length : Int) + 1) cols false).1.length ∧
    ∀ i, i + 2 < (rowsF s s2 (s2.length : Int) cols false).1.length → (rowsF s s2 (s2.length : Int) cols false).1.getD i default = (rowsF s (s2 ++ [.int r]) ((s2.length : Int) + 1) cols false).1.getD i default := by
  have ha : allS s (s2 ++ [.int r]) = allS s s2 ++ [.int r] := by unfold allS; rw [List.append_assoc]
  have hla : (allS s s2).length = (split (seen false s)).2.length + s2.length := by unfold allS; rw [List.length_append]
  have hc1 : curS s s2 (s2.length : Int) = (cells (allS s s2)).length := by
    unfold curS curF
    rw [if_pos (by omega)]
  have hc2 : curS s (s2 ++ [.int r]) ((s2.length : Int) + 1) = (cells (allS s (s2 ++ [.int r]))).length := by
    unfold curS curF
    rw [if_pos (by rw [ha, List.length_append, List.length_singleton]; omega)]
  obtain ⟨d, m, hm⟩ := cellS_app (l := cells (allS s s2)) hn
  have hcl : cells (allS s (s2 ++ [.int r])) = cells (allS s s2) ++ d :: m := by rw [ha, cells_snoc]; exact hm
  obtain ⟨p, ta, tb, g1, g2, g3, g4⟩ := cut_grow (cols := cols) (cells (allS s s2)) d m
  have e1 : (rowsF s s2 (s2.length : Int) cols false).1 = outS s cols ++ (p ++ ta) := by
    unfold rowsF
    rw [if_neg (by decide), hc1, g1]
  have e2 : (rowsF s (s2 ++ [.int r]) ((s2.length : Int) + 1) cols false).1 = outS s cols ++ (p ++ tb) := by
    unfold rowsF
    rw [if_neg (by decide), hc2, hcl, g2]
  rw [e1, e2]
  refine ⟨by simp only [List.length_append]; omega, fun i hi => ?_⟩
  simp only [List.length_append] at hi
  rw [← List.append_assoc, ← List.append_assoc, List.getD_eq_getElem?_getD, List.getD_eq_getElem?_getD, List.getElem?_append_left (l₁ := outS s cols ++ p) (by simp only [List.length_append]; omega), List.getElem?_append_left (l₁ := outS s cols ++ p) (by simp only [List.length_append]; omega)]
theorem v5 {s s2 : List Dat} {s3 s4 s5 : Int} {s6 : Bool} {r : Int} {K : Bool → Prop} (h : K true) : m5 s s2 s3 s4 s5 s6 r K := by
  unfold m5
  refine v14 ?_
  have hbig := bigL_eq
  by_cases hc : chk s s2 (s2.length : Int) s4 s5 = 0
  · rw [if_pos hc]
    obtain ⟨⟨g1, g2, g3, g4⟩, g5, g6, g7, g8⟩ := chk_ok hc
    refine ⟨rfl, ?_⟩
    unfold p5_r4
    have stop : ∀ Q : Prop, br true (m11 (fun y8 => K y8)) Q := fun Q => by rw [br_t]; exact v11 h
    refine brf rfl (br_mk (fun _ => stop _) (fun hl => ?_))
    have hl : ¬ (1024 : Int) ≤ (s2.length : Int) := of_decide_eq_false hl
    have hc2 : chk s (s2 ++ [.int r]) ((s2.length : Int) + 1) s4 s5 = 0 := by
      unfold chk
      rw [List.length_append, List.length_singleton, if_neg (by omega), if_neg (by omega), if_neg (by omega)]
    have go : ¬ (width r = 0 ∧ ctl r = false) → m18 s2 (fun y9 => 
        req (appOK y9 (0 : Nat) (List.length y9) (1 : Nat) (4 : Nat)) (
        ((List.length (rowsF s s2 (s2.length : Int) s5 false).1 = List.length (rowsF s s2 (s2.length : Int) s5 false).1) ∧ 
        ((List.length (dapp y9 (0 : Nat) (List.length y9) [Dat.int r]) = List.length (dapp y9 (0 : Nat) (List.length y9) [Dat.int r])) ∧ 
        p5_r7 { prompt := s, line := dapp y9 (0 : Nat) (List.length y9) [Dat.int r], point := (s2.length : Int), rows := s4, cols := s5, across := false } (rowsF s s2 (s2.length : Int) s5 false).1 (fun y10 y11 => 
         req (decide ((0 : Nat) + List.length (C24.line y10) ≤ List.length (C24.line y10))) (
         m14 (C24.prompt y10) (List.take (List.length (C24.line y10)) (C24.line y10)) (C24.point y10) (C24.rows y10) (C24.cols y10) (C24.across y10) (fun y12 y13 y14 y15 => 
          br (!decide (y15 = (0 : Int))) (K false) (
           br (decide ((↑(List.length y12) : Int) < (↑(List.length y11) : Int))) (K false) (
            (∃ y16, 
            ((List.length y11 = List.length y11) ∧ 
            ((List.length y12 = List.length y12) ∧ 
            l5_12 y16 y11 y12 (0 : Int) (K true) (fun y17 => K y17))))))))))))) := fun hn => by
      refine v18 (by omega) (req_mk (app_ok (by omega)) ⟨rfl, rfl, ?_⟩)
      rw [dapp_full]
      unfold p5_r7
      show req (inR IntKind.i64 ((s2.length : Int) + (1 : Int))) _
      rw [rq (in64 (n := (s2.length : Int) + 1) (by omega) (by omega))]
      refine req_mk (len_ok _) ?_
      show m14 s (List.take (s2 ++ [Dat.int r]).length (s2 ++ [Dat.int r])) ((s2.length : Int) + 1) s4 s5 false _
      rw [List.take_length]
      refine v14 ?_
      rw [if_pos hc2]
      obtain ⟨q1, q2⟩ := grow_rows (s := s) (s2 := s2) (cols := s5) hn
      have hlen := rowsF_len (across := false) hc
      have hbd := rowsF_bound (across := false) hc
      generalize (rowsF s s2 (s2.length : Int) s5 false).1 = A at q1 q2 hlen hbd ⊢
      generalize rowsF s (s2 ++ [.int r]) ((s2.length : Int) + 1) s5 false = B at q1 q2 ⊢
      refine brf rfl (brf (decide_eq_false (by omega)) ?_)
      exact (fun (hf : ∃ fu2, l5_12 fu2 _ _ ((0 : Nat) : Int) _ _) => hf.elim fun f2 hf => ⟨f2, rfl, rfl, hf⟩) (vl5 (by omega) hbd q1 q2 h A.length 0 (by omega))
    refine v13 ?_
    by_cases h0 : width r = 0
    · refine brt (decide_eq_true h0) (v17 ?_)
      by_cases h1 : ctl r = true
      · refine brf (by rw [h1]; rfl) (v11 ?_)
        show br (!true) _ _
        rw [show (!true) = false from rfl, br_f]
        exact go (fun h2 => by rw [h1] at h2; exact absurd h2.2 (by decide))
      · exact brt (by rw [eq_false_of_ne_true h1]; rfl) (stop _)
    · refine brf (decide_eq_false h0) (v11 ?_)
      show br (!true) _ _
      rw [show (!true) = false from rfl, br_f]
      exact go (fun h2 => h0 h2.1)
  · rw [if_neg hc]
    refine ⟨rfl, ?_⟩
    unfold p5_r4
    refine brt (by rw [decide_eq_false hc]; rfl) ?_
    show br true (m11 (fun y8 => K y8)) _
    rw [br_t]
    exact v11 h
end Go.Proofs.YthegkipclogoeaaDoor

set_option linter.unusedVariables false
set_option maxRecDepth 100000
namespace Go.Proofs.YthegkipclogoeaaDoor.layoutGrows
open Go.ChangeShapes Go.WideShapes Go.ChangeAt Go.RowKit Go.AM
theorem true5 {s s2 : List Dat} {s3 s4 s5 : Int} {s6 : Bool} {r : Int} : m5 s s2 s3 s4 s5 s6 r tb := v5 trivial
theorem rule5 (s s2 : List Dat) (s3 s4 s5 : Int) (s6 : Bool) (r : Int) : R5 [.agg [.ro (.int .i32) s, .ro (.int .i32) s2, .c (.int .i64 s3), .c (.int .i64 s4), .c (.int .i64 s5), .c (.bool s6)], .c (.int .i32 r)] h0 isTrue = m5 s s2 s3 s4 s5 s6 r tb := by kernel_rfl
theorem own : ownKnob Tryd.prog.godebug = none := by kernel_rfl
theorem contract (H : Type) (enc : TypeId × Value → H) (W : World) (base : Nat) (args : Array Value) (ds gs : List (DataW H)) (before : List MemPlace)
    (hval : ∀ (j : Nat) t v, Tryd.f5.params[j]? = some t → args[j]? = some v → Value.okWide Tryd.prog W .any base t v)
    (hW : DataW.Whole enc Tryd.prog Tryd.f5.params.toList Rows.layoutGrowsSpec.vars false W args.toList ds gs before) (hL : laidMetH Tryd.prog Rows.layoutGrowsRow.laid W) :
    Calls Tryd.prog 5 args W fun e W' => ∃ v, e = .returned v ∧ Rows.layoutGrowsSpec.post enc Tryd.prog Tryd.f5 false true false false W args v W' := by
  have one : ∃ d0 d1, ds = [d0, d1] := by
    obtain ⟨p, q, hA, hV, _⟩ := hW
    rw [Tryd.params5] at hA
    obtain ⟨v0, vs0, d0, ds0, p0, q0, hargs0, rfl, rfl, h0, r0⟩ := trodAll_cons hA
    obtain ⟨v1, vs1, d1, ds1, p1, q1, hargs1, rfl, rfl, h1, r1⟩ := trodAll_cons r0
    obtain ⟨rfl, rfl, rfl⟩ := trodAll_nil r1
    exact ⟨d0, d1, rfl⟩
  obtain ⟨d0, d1, rfl⟩ := one
  have hgs : gs = [] := by
    obtain ⟨p, q, hA, hV, _⟩ := hW
    obtain ⟨rfl, _⟩ := trodVars_none hV
    rfl
  subst hgs
  refine law_contractR ok5 (tb := 4) (ss := [.pair (.slice (.int .i32)) (.pair (.slice (.int .i32)) (.pair (.int .i64) (.pair (.int .i64) (.pair (.int .i64) (.pair .bool .unit))))), .int .i32]) (tabs_laid hL) hval hW rfl (by kernel_rfl) (by kernel_rfl) (fun hl => rfl) (by kernel_rfl) (by kernel_rfl) (by kernel_rfl) (fun hF => ?_)
  refine ⟨[.agg [.ro (.int .i32) (toDat (.pair (.slice (.int .i32)) (.pair (.slice (.int .i32)) (.pair (.int .i64) (.pair (.int .i64) (.pair (.int .i64) (.pair .bool .unit)))))) d0).fst.toList, .ro (.int .i32) (toDat (.pair (.slice (.int .i32)) (.pair (.slice (.int .i32)) (.pair (.int .i64) (.pair (.int .i64) (.pair (.int .i64) (.pair .bool .unit)))))) d0).snd.fst.toList, .c (.int .i64 (toDat (.pair (.slice (.int .i32)) (.pair (.slice (.int .i32)) (.pair (.int .i64) (.pair (.int .i64) (.pair (.int .i64) (.pair .bool .unit)))))) d0).snd.snd.fst.toInt), .c (.int .i64 (toDat (.pair (.slice (.int .i32)) (.pair (.slice (.int .i32)) (.pair (.int .i64) (.pair (.int .i64) (.pair (.int .i64) (.pair .bool .unit)))))) d0).snd.snd.snd.fst.toInt), .c (.int .i64 (toDat (.pair (.slice (.int .i32)) (.pair (.slice (.int .i32)) (.pair (.int .i64) (.pair (.int .i64) (.pair (.int .i64) (.pair .bool .unit)))))) d0).snd.snd.snd.snd.fst.toInt), .c (.bool (toDat (.pair (.slice (.int .i32)) (.pair (.slice (.int .i32)) (.pair (.int .i64) (.pair (.int .i64) (.pair (.int .i64) (.pair .bool .unit)))))) d0).snd.snd.snd.snd.snd.fst.toBool)], .c (.int .i32 (toDat (.int .i32) d1).toInt)], by kernel_rfl, ?_⟩
  rw [rule5]
  have hf0 := hF (.pair (.slice (.int .i32)) (.pair (.slice (.int .i32)) (.pair (.int .i64) (.pair (.int .i64) (.pair (.int .i64) (.pair .bool .unit))))), d0) (by simp)
  have hf1 := hF (.int .i32, d1) (by simp)
  generalize toDat (.pair (.slice (.int .i32)) (.pair (.slice (.int .i32)) (.pair (.int .i64) (.pair (.int .i64) (.pair (.int .i64) (.pair .bool .unit)))))) d0 = D at hf0 ⊢
  exact true5
theorem laid_met (os : Os) : laidMet Tryd.prog Rows.layoutGrowsRow.laid (((laidWorld Rows.layoutGrowsRow.laid os).forCall (fun _ _ => 0) ⟨#[], #[.agg #[.slice none 0 0, .slice none 0 0, .int .i64 0, .int .i64 0, .int .i64 0, .bool false], .int .i32 0], []⟩)).memory :=
  laidMet_of_run' 8 (by kernel_rfl) (by kernel_rfl)
theorem reads (os : Os) {H : Type} (enc : TypeId × Value → H) : ∃ places, DataW.whole enc Tryd.prog ((laidWorld Rows.layoutGrowsRow.laid os).forCall (fun _ _ => 0) ⟨#[], #[.agg #[.slice none 0 0, .slice none 0 0, .int .i64 0, .int .i64 0, .int .i64 0, .bool false], .int .i32 0], []⟩).memory Tryd.f5.params.toList Rows.layoutGrowsSpec.vars false #[.agg #[.slice none 0 0, .slice none 0 0, .int .i64 0, .int .i64 0, .int .i64 0, .bool false], .int .i32 0].toList 8 = some ([.agg [.nil, .nil, .lit (.int .i64 0), .lit (.int .i64 0), .lit (.int .i64 0), .lit (.bool false)], .lit (.int .i32 0)], [], places) :=
  ⟨[], by kernel_rfl⟩
theorem lifted (os : Os) (started : os.Started) (H : Type) (enc : TypeId × Value → H) (F : Stop.Interp) :
    ReturnsInHanded {} Tryd.checked os 5 .any ((OpenSpec.ofChange Rows.layoutGrowsSpec).preRow enc Tryd.prog Tryd.f5 Rows.layoutGrowsRow.domain false Rows.layoutGrowsRow.laid) (((OpenSpec.ofChange Rows.layoutGrowsSpec).at F).post enc Tryd.prog Tryd.f5 false true false false) := by
  obtain ⟨places, hx⟩ := reads os enc
  refine returnsInHanded_of_row (C := Tryd.checked) (s := OpenSpec.ofChange Rows.layoutGrowsSpec) own started (by kernel_rfl) Tryd.func5
    (witness_row_at (enc := enc) (C := Tryd.checked) false (laidWorld Rows.layoutGrowsRow.laid os) #[.agg #[.slice none 0 0, .slice none 0 0, .int .i64 0, .int .i64 0, .int .i64 0, .bool false], .int .i32 0] rfl (by kernel_rfl) (by kernel_rfl) (by kernel_rfl)
      (OpenSpec.preRow_of_cond 8 hx (by kernel_rfl) (fun k hk => by cases hk) (by kernel_rfl) (laid_met os))) ?_
  intro W base args ds gs before hval hW _ _ _ hL _ _
  exact contract H enc W base args ds gs before hval hW hL
theorem said : Rows.LayoutGrowsSaid :=
  OpenClaim.holds_of_cond 5 Tryd.f5 rfl rfl rfl rfl rfl rfl rfl ⟨rfl, rfl, rfl, rfl, rfl⟩ rfl rfl rfl rfl rfl (by kernel_rfl) Tryd.func5 (by kernel_rfl)
    (of_decide_eq_true (by kernel_rfl)) (by unfold Func.isWrapper; first | (rw [if_pos (by decide +kernel)]; kernel_rfl) | (rw [if_neg (by decide +kernel)]; exact ⟨rfl, rfl⟩))
    (fun os started H enc _ F => by rw [OpenClaim.pre_eq_preRow]; exact lifted os started H enc F)
/-- No parameter wants a stand-in; the program's own looks are off. -/
theorem plain (f : FuncId) (fn : Func) (hf : Tryd.pinned.checked.prog.funcNamed "lanyard/lanyardlaw23.LayoutGrows" = some f) (hfn : Tryd.pinned.checked.prog.funcs[f]? = some fn) :
    false = Tryd.pinned.checked.prog.looks [] ∧ ∀ (j : Nat) t, fn.params[j]? = some t → Tryd.pinned.checked.prog.wantsStandIn t = false := by
  obtain rfl : f = 5 := Option.some.inj ((show Tryd.prog.funcNamed "lanyard/lanyardlaw23.LayoutGrows" = some 5 by kernel_rfl).symm.trans hf) |>.symm
  obtain rfl : fn = Tryd.f5 := (Option.some.inj (Tryd.func5.symm.trans hfn)).symm
  refine ⟨by kernel_rfl, fun j t ht => ?_⟩
  have h1 : (Tryd.f5.params.toList.all fun t => !Tryd.pinned.checked.prog.wantsStandIn t) = true := by kernel_rfl
  have h2 := List.all_eq_true.1 h1 t (Array.mem_toList_iff.2 (Array.mem_of_getElem? ht))
  simpa using h2
theorem card : Rows.LayoutGrowsCardSaid :=
  Claim7.holds_tied_plain_at .later [] _ _ _ _ said (fun _ h => by cases h) (by kernel_rfl) (fun _ h => by cases h) layoutGrows_row_tie rfl ⟨rfl, rfl⟩ (by kernel_rfl) rfl plain (by kernel_rfl)
end Go.Proofs.YthegkipclogoeaaDoor.layoutGrows

