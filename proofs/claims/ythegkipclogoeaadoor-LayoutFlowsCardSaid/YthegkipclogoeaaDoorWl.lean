/- LayoutFlows answers true for every input; conditions: the listed tables. -/
import Derived.Test.YthegkipclogoeaaDoorZa
import Derived.Test.YthegkipclogoeaaDoorAmFl
import Derived.Test.YthegkipclogoeaaDoorZq
import Derived.Test.YthegkipclogoeaaDoorCards
import Derived.Test.YthegkipclogoeaaDoorTie
import Derived.Test.YthegkipclogoeaaDoorTb
import Derived.Test.YthegkipclogoeaaDoorLw
import Derived.WalkKit
import Derived.ProofKit
import Derived.OpenShut
import Derived.Deep.DeepHandedRow
import Derived.Lib.LaidTab
set_option linter.unusedVariables false
set_option maxRecDepth 100000
namespace Go.Proofs.YthegkipclogoeaaDoor
open Go.AM Go.LTxt Go.LMem Go.RowKit
noncomputable def l4_4 : Nat → List Dat → Int → List Dat → Int → Int → (List Dat → Int → Prop) → (Bool → Prop) → Prop
  | 0, _, _, _, _, _, _, _ => False
  | fu + 1, line, cols, xs, n, n2, E0, R_ =>
    br (decide (n2 < n)) (
     req (decide ((0 : Int) ≤ n2) && decide (n2 < (↑(List.length xs) : Int))) (
     req (decide (Int.toNat n2 < List.length xs)) (
     m13 (Dat.toInt (List.getD xs (Int.toNat n2) default)) (fun y0 => 
      br (decide (y0 = (2 : Int))) (R_ true) (
       req (inR IntKind.i64 (n2 + (1 : Int))) (l4_4 fu line cols xs n (n2 + (1 : Int)) E0 R_)))))) (E0 line cols)
def F4_4 : AM.Form := ⟨mkF 75 [(0, .ro (.int .i32)), (1, .int .i64), (29, .ro (.int .i32)), (30, .int .i64), (31, .int .i64)], []⟩
noncomputable def mm4_4 (n : Nat) (ds : List Dat) (Q : AExit → List AV → AH → Prop) : Prop := l4_4 n ((dat ds 0).toList) ((dat ds 1).toInt) ((dat ds 2).toList) ((dat ds 3).toInt) ((dat ds 4).toInt) (fun rxs rn => Q (AExit.exit 0) (mkAV 75 [(0, .ro (.int .i32) rxs), (1, .c (.int .i64 rn))]) ⟨[], []⟩) (fun rb => Q AExit.ret (mkAV 75 [(4, .c (.bool rb))]) ⟨[], []⟩)
theorem t4_4 (n : Nat) (ds : List Dat) (Q : AExit → List AV → AH → Prop) : wpA Tryd.prog tys GG9 1000 4 (theLoop Tryd.prog 4 4) (fun e f' h' => endF Tryd.prog ((fun _ => []) e) ((fun e => match e with | .normal => ⟨[0, 1, 29, 30, 31], []⟩ | .exit 0 => ⟨[0, 1], []⟩ | .ret => ⟨[4], []⟩ | _ => ⟨[], []⟩) e) ((fun e => match e with | .normal => [] | .exit 0 => [] | .ret => [] | _ => []) e) (F4_4.hp ds) f' h' fun f2 h2 => match e with
      | .normal => locL F4_4 (mm4_4 n) f2 h2 Q
      | e => Q e f2 h2) (F4_4.fr ds) (F4_4.hp ds) = mm4_4 (n + 1) ds Q := by kernel_rfl
noncomputable def R4_4 : LoopT := headF Tryd.prog [] ⟨[0, 1, 29, 30, 31], []⟩ [] fun f h Q => ∃ n, locL F4_4 (mm4_4 n) f h Q
theorem ok4_4 : LoopOK Tryd.prog (theLoop Tryd.prog 4 4) R4_4 := ruleL_ok sGG9 (by kernel_rfl) mm4_4 (fun _ _ => rfl) t4_4
noncomputable def ls4_4 : List (FuncId × Nat × LoopT) := (4, 4, R4_4) :: ls27_2
theorem ls4_4_ok : LoopsOK Tryd.prog ls4_4 := .cons (by kernel_rfl) ok4_4 ls27_2_ok
noncomputable def GG4_4 : Rules := mkG [37, 27] cs9 ls4_4
theorem sGG4_4 : Sound Tryd.prog tys GG4_4 := mk_sound mixed tysOK names (by kernel_rfl) cs9_ok ls4_4_ok
noncomputable def l4_14 : Nat → List Dat → List Dat → List Dat → Int → Int → Int → (List Dat → List Dat → Prop) → (Bool → Prop) → Prop
  | 0, _, _, _, _, _, _, _, _ => False
  | fu + 1, l, l2, line, cols, n, n2, E2, R_ =>
    br (decide (n2 < n)) (
     req (decide ((0 : Int) ≤ n2) && decide (n2 < (↑(List.length l) : Int))) (
     req (decide ((0 : Nat) + Int.toNat n2 < List.length l)) (
     req (inR IntKind.i64 ((↑(List.length l) : Int) - (1 : Int))) (
     br (decide (n2 < (↑(List.length l) : Int) - (1 : Int))) (
      br (!decide ((↑(List.length (Dat.toList (List.getD l ((0 : Nat) + Int.toNat n2) default))) : Int) = cols)) (R_ false) (
       req (appOK l2 (0 : Nat) (List.length l2) (List.length (Dat.toList (List.getD l ((0 : Nat) + Int.toNat n2) default))) (32 : Nat)) (
       req (inR IntKind.i64 (n2 + (1 : Int))) (((List.length l) = List.length l ∧ ((List.length (dapp l2 (0 : Nat) (List.length l2) (Dat.toList (List.getD l ((0 : Nat) + Int.toNat n2) default)))) = List.length (dapp l2 (0 : Nat) (List.length l2) (Dat.toList (List.getD l ((0 : Nat) + Int.toNat n2) default))) ∧ ((List.length l) = List.length l ∧ l4_14 fu l (dapp l2 (0 : Nat) (List.length l2) (Dat.toList (List.getD l ((0 : Nat) + Int.toNat n2) default))) line cols n (n2 + (1 : Int)) E2 R_))))))) (
      req (appOK l2 (0 : Nat) (List.length l2) (List.length (Dat.toList (List.getD l ((0 : Nat) + Int.toNat n2) default))) (32 : Nat)) (
      req (inR IntKind.i64 (n2 + (1 : Int))) (((List.length l) = List.length l ∧ ((List.length (dapp l2 (0 : Nat) (List.length l2) (Dat.toList (List.getD l ((0 : Nat) + Int.toNat n2) default)))) = List.length (dapp l2 (0 : Nat) (List.length l2) (Dat.toList (List.getD l ((0 : Nat) + Int.toNat n2) default))) ∧ ((List.length l) = List.length l ∧ l4_14 fu l (dapp l2 (0 : Nat) (List.length l2) (Dat.toList (List.getD l ((0 : Nat) + Int.toNat n2) default))) line cols n (n2 + (1 : Int)) E2 R_)))))))))) (E2 l2 line)
def F4_14 : AM.Form := ⟨mkF 75 [(0, .ro (.int .i32)), (1, .int .i64), (7, .sl 0), (10, .sl 1), (49, .sl 0), (50, .int .i64), (51, .int .i64)], [.seq 35 (.slice (.pair .str (.pair (.int .i64) (.pair (.int .i64) .unit)))), .seq 37 (.pair .str (.pair (.int .i64) (.pair (.int .i64) .unit)))]⟩
noncomputable def mm4_14 (n : Nat) (ds : List Dat) (Q : AExit → List AV → AH → Prop) : Prop := l4_14 n ((dat ds 4).toList) ((dat ds 5).toList) ((dat ds 0).toList) ((dat ds 1).toInt) ((dat ds 2).toInt) ((dat ds 3).toInt) (fun rl rxs => Q (AExit.exit 2) (mkAV 75 [(0, .ro (.int .i32) rxs), (10, .sl 0 0 rl.length)]) ⟨[.seq 37 (.pair .str (.pair (.int .i64) (.pair (.int .i64) .unit))) rl], []⟩) (fun rb => Q AExit.ret (mkAV 75 [(4, .c (.bool rb))]) ⟨[], []⟩)
theorem t4_14 (n : Nat) (ds : List Dat) (Q : AExit → List AV → AH → Prop) : wpA Tryd.prog tys GG4_4 1000 4 (theLoop Tryd.prog 4 14) (fun e f' h' => endF Tryd.prog ((fun _ => []) e) ((fun e => match e with | .normal => ⟨[0, 1, 7, 10, 49, 50, 51], []⟩ | .exit 2 => ⟨[0, 10], []⟩ | .ret => ⟨[4], []⟩ | _ => ⟨[], []⟩) e) ((fun e => match e with | .normal => [(10, .row 37 (.pair .str (.pair (.int .i64) (.pair (.int .i64) .unit))))] | .exit 2 => [(10, .row 37 (.pair .str (.pair (.int .i64) (.pair (.int .i64) .unit))))] | .ret => [] | _ => []) e) (F4_14.hp ds) f' h' fun f2 h2 => match e with
      | .normal => locL F4_14 (mm4_14 n) f2 h2 Q
      | e => Q e f2 h2) (F4_14.fr ds) (F4_14.hp ds) = mm4_14 (n + 1) ds Q := by kernel_rfl
noncomputable def R4_14 : LoopT := headF Tryd.prog [] ⟨[0, 1, 7, 10, 49, 50, 51], []⟩ [(10, .row 37 (.pair .str (.pair (.int .i64) (.pair (.int .i64) .unit))))] fun f h Q => ∃ n, locL F4_14 (mm4_14 n) f h Q
theorem ok4_14 : LoopOK Tryd.prog (theLoop Tryd.prog 4 14) R4_14 := ruleL_ok sGG4_4 (by kernel_rfl) mm4_14 (fun _ _ => rfl) t4_14
noncomputable def ls4_14 : List (FuncId × Nat × LoopT) := (4, 14, R4_14) :: ls4_4
theorem ls4_14_ok : LoopsOK Tryd.prog ls4_14 := .cons (by kernel_rfl) ok4_14 ls4_4_ok
noncomputable def GG4_14 : Rules := mkG [37, 27] cs9 ls4_14
theorem sGG4_14 : Sound Tryd.prog tys GG4_14 := mk_sound mixed tysOK names (by kernel_rfl) cs9_ok ls4_14_ok
noncomputable def m4 (line : List Dat) (cols : Int) (K : Bool → Prop) : Prop :=
    br (decide (cols < (8 : Int))) (
     m11 (fun y0 => K y0)) (
     br (decide ((200 : Int) < cols)) (
      m11 (fun y1 => K y1)) (
      br (decide ((1024 : Int) < (↑(List.length line) : Int))) (
       m11 (fun y2 => K y2)) (
       m11 (fun y3 => 
        br (!y3) (
         m11 (fun y4 => K y4)) (
         (∃ y5, 
         l4_4 y5 line cols line (↑(List.length line) : Int) (0 : Int) (fun y6 y7 => 
          m14 [] y6 (0 : Int) (24 : Int) y7 false (fun y8 y9 y10 y11 => 
           br (!decide (y11 = (0 : Int))) (K false) (
            (∃ y12, 
            ((List.length y8 = List.length y8) ∧ 
            (((0 : Nat) = (0 : Nat)) ∧ 
            ((List.length y8 = List.length y8) ∧ 
            l4_14 y12 y8 [] y6 y7 (↑(List.length y8) : Int) (0 : Int) (fun y13 y14 => 
             m16 y14 (0 : Int) (fun y15 => 
              req (decide ((0 : Nat) + List.length y13 ≤ List.length y13)) (
              req (decide ((0 : Nat) + List.length y15 ≤ List.length y15)) (
              m15 (List.take (List.length y13) y13) (List.take (List.length y15) y15) (fun y16 => K y16))))) (fun y17 => K y17)))))))) (fun y18 => K y18)))))))
def F4 : AM.Form := ⟨[.ro (.int .i32), .int .i64], []⟩
noncomputable def mm4 (ds : List Dat) (K : AV → AH → Prop) : Prop := m4 ((dat ds 0).toList) ((dat ds 1).toInt) (fun rb => K (.c (.bool rb)) ⟨[], []⟩)
noncomputable def RV4_14_4 (Vl4_14 : Nat → List Dat → List Dat → List Dat → Int → Int → Int → (List Dat → List Dat → Prop) → (Bool → Prop) → Prop) : LoopT := headF Tryd.prog [] ⟨[0, 1, 7, 10, 49, 50, 51], []⟩ [(10, .row 37 (.pair .str (.pair (.int .i64) (.pair (.int .i64) .unit))))] fun f h Q => ∃ n, locL F4_14 (fun ds Q => Vl4_14 n ((dat ds 4).toList) ((dat ds 5).toList) ((dat ds 0).toList) ((dat ds 1).toInt) ((dat ds 2).toInt) ((dat ds 3).toInt) (fun rl rxs => Q (AExit.exit 2) (mkAV 75 [(0, .ro (.int .i32) rxs), (10, .sl 0 0 rl.length)]) ⟨[.seq 37 (.pair .str (.pair (.int .i64) (.pair (.int .i64) .unit))) rl], []⟩) (fun rb => Q AExit.ret (mkAV 75 [(4, .c (.bool rb))]) ⟨[], []⟩)) f h Q
theorem okV4_14_4 : LoopOK Tryd.prog (theLoop Tryd.prog 4 14) (RV4_14_4 l4_14) := ok4_14
noncomputable def RV4_4_4 (Vl4_4 : Nat → List Dat → Int → List Dat → Int → Int → (List Dat → Int → Prop) → (Bool → Prop) → Prop) : LoopT := headF Tryd.prog [] ⟨[0, 1, 29, 30, 31], []⟩ [] fun f h Q => ∃ n, locL F4_4 (fun ds Q => Vl4_4 n ((dat ds 0).toList) ((dat ds 1).toInt) ((dat ds 2).toList) ((dat ds 3).toInt) ((dat ds 4).toInt) (fun rxs rn => Q (AExit.exit 0) (mkAV 75 [(0, .ro (.int .i32) rxs), (1, .c (.int .i64 rn))]) ⟨[], []⟩) (fun rb => Q AExit.ret (mkAV 75 [(4, .c (.bool rb))]) ⟨[], []⟩)) f h Q
theorem okV4_4_4 : LoopOK Tryd.prog (theLoop Tryd.prog 4 4) (RV4_4_4 l4_4) := ok4_4
noncomputable def RV11_4 (Vm11 : (Bool → Prop) → Prop) : CallT := ruleF Tryd.prog [] [] F11 (fun ds K => Vm11  (fun rb => K (.c (.bool rb)) ⟨[], []⟩))
theorem okV11_4 : CallOK Tryd.prog 11 (RV11_4 m11) := ok11
noncomputable def RV14_4 (Vm14 : List Dat → List Dat → Int → Int → Int → Bool → (List Dat → Int → Int → Int → Prop) → Prop) : CallT := ruleF Tryd.prog [(.agg [(.ro (.int .i32)), (.ro (.int .i32)), .keep, .keep, .keep, .keep])] [] F14 (fun ds K => Vm14 ((dat ds 0).toList) ((dat ds 1).toList) ((dat ds 2).toInt) ((dat ds 3).toInt) ((dat ds 4).toInt) ((dat ds 5).toBool) (fun rl rn rn2 rn3 => K (.tup [.sl 0 0 rl.length, .agg [.c (.int .i64 rn), .c (.int .i64 rn2)], .c (.int .i64 rn3)]) ⟨[.seq 35 (.slice (.pair .str (.pair (.int .i64) (.pair (.int .i64) .unit)))) rl], []⟩))
theorem okV14_4 : CallOK Tryd.prog 14 (RV14_4 m14) := ok14
noncomputable def RV15_4 (Vm15 : List Dat → List Dat → (Bool → Prop) → Prop) : CallT := ruleF Tryd.prog [(.ro (.pair .str (.pair (.int .i64) (.pair (.int .i64) .unit)))), (.ro (.pair .str (.pair (.int .i64) (.pair (.int .i64) .unit))))] [] F15 (fun ds K => Vm15 ((dat ds 0).toList) ((dat ds 1).toList) (fun rb => K (.c (.bool rb)) ⟨[], []⟩))
theorem okV15_4 : CallOK Tryd.prog 15 (RV15_4 m15) := ok15
noncomputable def RV16_4 (Vm16 : List Dat → Int → (List Dat → Prop) → Prop) : CallT := ruleF Tryd.prog [(.ro (.int .i32)), .keep] [] F16 (fun ds K => Vm16 ((dat ds 0).toList) ((dat ds 1).toInt) (fun rl => K (.sl 0 0 rl.length) ⟨[.seq 37 (.pair .str (.pair (.int .i64) (.pair (.int .i64) .unit))) rl], []⟩))
theorem okV16_4 : CallOK Tryd.prog 16 (RV16_4 m16) := ok16
noncomputable def GV4 (Vl4_14 : Nat → List Dat → List Dat → List Dat → Int → Int → Int → (List Dat → List Dat → Prop) → (Bool → Prop) → Prop) (Vl4_4 : Nat → List Dat → Int → List Dat → Int → Int → (List Dat → Int → Prop) → (Bool → Prop) → Prop) (Vm11 : (Bool → Prop) → Prop) (Vm14 : List Dat → List Dat → Int → Int → Int → Bool → (List Dat → Int → Int → Int → Prop) → Prop) (Vm15 : List Dat → List Dat → (Bool → Prop) → Prop) (Vm16 : List Dat → Int → (List Dat → Prop) → Prop) : Rules := mkG [37, 27] ((11, RV11_4 Vm11) :: (14, RV14_4 Vm14) :: (15, RV15_4 Vm15) :: (16, RV16_4 Vm16) :: cs9) ((4, 14, RV4_14_4 Vl4_14) :: (4, 4, RV4_4_4 Vl4_4) :: ls4_14) ([])
noncomputable def mV4 (Vl4_14 : Nat → List Dat → List Dat → List Dat → Int → Int → Int → (List Dat → List Dat → Prop) → (Bool → Prop) → Prop) (Vl4_4 : Nat → List Dat → Int → List Dat → Int → Int → (List Dat → Int → Prop) → (Bool → Prop) → Prop) (Vm11 : (Bool → Prop) → Prop) (Vm14 : List Dat → List Dat → Int → Int → Int → Bool → (List Dat → Int → Int → Int → Prop) → Prop) (Vm15 : List Dat → List Dat → (Bool → Prop) → Prop) (Vm16 : List Dat → Int → (List Dat → Prop) → Prop) (line : List Dat) (cols : Int) (K : Bool → Prop) : Prop :=
    br (decide (cols < (8 : Int))) (
     Vm11 (fun y0 => K y0)) (
     br (decide ((200 : Int) < cols)) (
      Vm11 (fun y1 => K y1)) (
      br (decide ((1024 : Int) < (↑(List.length line) : Int))) (
       Vm11 (fun y2 => K y2)) (
       Vm11 (fun y3 => 
        br (!y3) (
         Vm11 (fun y4 => K y4)) (
         (∃ y5, 
         Vl4_4 y5 line cols line (↑(List.length line) : Int) (0 : Int) (fun y6 y7 => 
          Vm14 [] y6 (0 : Int) (24 : Int) y7 false (fun y8 y9 y10 y11 => 
           br (!decide (y11 = (0 : Int))) (K false) (
            (∃ y12, 
            ((List.length y8 = List.length y8) ∧ 
            (((0 : Nat) = (0 : Nat)) ∧ 
            ((List.length y8 = List.length y8) ∧ 
            Vl4_14 y12 y8 [] y6 y7 (↑(List.length y8) : Int) (0 : Int) (fun y13 y14 => 
             Vm16 y14 (0 : Int) (fun y15 => 
              req (decide ((0 : Nat) + List.length y13 ≤ List.length y13)) (
              req (decide ((0 : Nat) + List.length y15 ≤ List.length y15)) (
              Vm15 (List.take (List.length y13) y13) (List.take (List.length y15) y15) (fun y16 => K y16))))) (fun y17 => K y17)))))))) (fun y18 => K y18)))))))
noncomputable def mmV4 (Vl4_14 : Nat → List Dat → List Dat → List Dat → Int → Int → Int → (List Dat → List Dat → Prop) → (Bool → Prop) → Prop) (Vl4_4 : Nat → List Dat → Int → List Dat → Int → Int → (List Dat → Int → Prop) → (Bool → Prop) → Prop) (Vm11 : (Bool → Prop) → Prop) (Vm14 : List Dat → List Dat → Int → Int → Int → Bool → (List Dat → Int → Int → Int → Prop) → Prop) (Vm15 : List Dat → List Dat → (Bool → Prop) → Prop) (Vm16 : List Dat → Int → (List Dat → Prop) → Prop) (ds : List Dat) (K : AV → AH → Prop) : Prop := mV4 Vl4_14 Vl4_4 Vm11 Vm14 Vm15 Vm16 ((dat ds 0).toList) ((dat ds 1).toInt) (fun rb => K (.c (.bool rb)) ⟨[], []⟩)
theorem tV4 (Vl4_14 : Nat → List Dat → List Dat → List Dat → Int → Int → Int → (List Dat → List Dat → Prop) → (Bool → Prop) → Prop) (Vl4_4 : Nat → List Dat → Int → List Dat → Int → Int → (List Dat → Int → Prop) → (Bool → Prop) → Prop) (Vm11 : (Bool → Prop) → Prop) (Vm14 : List Dat → List Dat → Int → Int → Int → Bool → (List Dat → Int → Int → Int → Prop) → Prop) (Vm15 : List Dat → List Dat → (Bool → Prop) → Prop) (Vm16 : List Dat → Int → (List Dat → Prop) → Prop) (ds : List Dat) (K : AV → AH → Prop) : callA Tryd.prog tys (GV4 Vl4_14 Vl4_4 Vm11 Vm14 Vm15 Vm16) 1000 4 (F4.fr ds) (F4.hp ds) (fun v h' => endK Tryd.prog [] .keep (F4.hp ds) (F4.fr ds) v h' K) = mmV4 Vl4_14 Vl4_4 Vm11 Vm14 Vm15 Vm16 ds K := by kernel_rfl
noncomputable def GX4 : Rules := GV4 l4_14 l4_4 m11 m14 m15 m16
theorem sGX4 : Sound Tryd.prog tys GX4 := mk_sound mixed tysOK names (by kernel_rfl) (.cons okV11_4 (.cons okV14_4 (.cons okV15_4 (.cons okV16_4 (cs9_ok))))) (.cons (by kernel_rfl) okV4_14_4 (.cons (by kernel_rfl) okV4_4_4 (ls4_14_ok))) (.nil)
theorem eV4 : mmV4 l4_14 l4_4 m11 m14 m15 m16 = mm4 := by kernel_rfl
theorem t4 (ds : List Dat) (K : AV → AH → Prop) : callA Tryd.prog tys GX4 1000 4 (F4.fr ds) (F4.hp ds) (fun v h' => endK Tryd.prog [] .keep (F4.hp ds) (F4.fr ds) v h' K) = mm4 ds K := (tV4 l4_14 l4_4 m11 m14 m15 m16 ds K).trans (congrFun (congrFun eV4 ds) K)
noncomputable def R4 : CallT := ruleF Tryd.prog [(.ro (.int .i32)), .keep] [] F4 mm4
theorem ok4 : CallOK Tryd.prog 4 R4 := ruleF_ok sGX4 t4
noncomputable def cs4 : List (FuncId × CallT) := (4, R4) :: cs9
theorem cs4_ok : CallsOK Tryd.prog cs4 := .cons ok4 cs9_ok
noncomputable def GG4 : Rules := mkG [37, 27] cs4 ls4_14
theorem sGG4 : Sound Tryd.prog tys GG4 := mk_sound mixed tysOK names (by kernel_rfl) cs4_ok ls4_14_ok
end Go.Proofs.YthegkipclogoeaaDoor

set_option linter.unusedVariables false
set_option linter.unusedSimpArgs false
set_option maxRecDepth 100000
namespace Go.Proofs.YthegkipclogoeaaDoor
open Go.AM Go.LTxt Go.LMem Go.RowKit
theorem vl4a {xs : List Dat} {cols : Int} (hb : xs.length ≤ bigL) {E0 : List Dat → Int → Prop} {R : Bool → Prop} (hR : R true) : ∀ (rest pre : List Dat), xs = pre ++ rest → ((∀ d ∈ rest, width d.toInt ≠ 2) → E0 xs cols) → ∃ fu, l4_4 fu xs cols xs (xs.length : Int) (pre.length : Int) E0 R
  | [], pre, hx, h => by
    subst hx
    refine ⟨1, ?_⟩
    unfold l4_4
    rw [ixe, br_f]
    exact h (fun d hd => by simp at hd)
  | d :: rest, pre, hx, h => by
    subst hx
    by_cases hw : width d.toInt = 2
    · refine ⟨1, ?_⟩
      unfold l4_4
      rw [ixl, br_t, ix1, req_t, ix2, req_t, gd]
      exact v13 (brt (decide_eq_true hw) hR)
    · obtain ⟨fu, hfu⟩ := vl4a (cols := cols) (E0 := E0) hb hR rest (pre ++ [d]) (snoc2 pre d rest) (fun hh => h (fun x hx => by
        rcases List.mem_cons.1 hx with rfl | hx
        · exact hw
        · exact hh x hx))
      refine ⟨fu + 1, ?_⟩
      rw [← snoc1 pre d] at hfu
      unfold l4_4
      rw [ixl, br_t, ix1, req_t, ix2, req_t, gd]
      refine v13 (brf (decide_eq_false hw) ?_)
      rw [rq (pre_in hb)]
      exact hfu
theorem cellsF_ones : ∀ (l acc : List Dat), (∀ d ∈ l, width d.toInt ≠ 2) → (∀ c ∈ acc, wd c = 1) → ∀ c ∈ cellsF acc l, wd c = 1
  | [], acc, _, h => h
  | d :: l, acc, hl, h => by
    refine cellsF_ones l _ (fun x hx => hl x (by simp [hx])) ?_
    rcases cellS_cases acc d.toInt with h1 | ⟨m, h1, _, _, h2 | ⟨_, h2⟩⟩
    · intro c hc
      have : wd c ∈ (cellS acc d.toInt).map wd := List.mem_map.2 ⟨c, hc, rfl⟩
      rw [h1] at this
      obtain ⟨c', hc', e⟩ := List.mem_map.1 this
      rw [← e]
      exact h c' hc'
    · intro c hc
      change c ∈ cellS acc d.toInt at hc
      rw [h1] at hc
      exact (List.mem_append.1 hc).elim (h c) (h2 c)
    · exact absurd h2 (hl d (by simp))
def flat (l : List Dat) : List Dat := l.flatMap Dat.toList
theorem flat_app (a b : List Dat) : flat (a ++ b) = flat a ++ flat b := by simp [flat]
theorem flat_one (l : List Dat) : flat [.list l] = l := by simp [flat, Dat.toList]
/-- full rows, and what they have with the last one -/
structure Full (cols : Int) (s : List Dat × List Dat) (P : List Dat) : Prop where
  rows : ∀ r ∈ s.1, (r.toList.length : Int) = cols
  all : flat s.1 ++ s.2 = P
theorem prep_full {cols w : Int} {s : List Dat × List Dat} {P : List Dat} (hw : w ≠ 2) (h : Full cols s P) : Full cols (prep cols w s) P := by
  have hp1 : prep1 cols w s.2 = s.2 := by unfold prep1; rw [if_neg (fun h => hw h.1)]
  unfold prep
  rw [hp1]
  split
  · rename_i hf
    refine ⟨fun r hr => ?_, ?_⟩
    · rcases List.mem_append.1 hr with hr | hr
      · exact h.rows r hr
      · rw [List.mem_singleton] at hr
        subst hr
        exact hf
    · show flat (s.1 ++ [.list s.2]) ++ [] = P
      rw [flat_app, flat_one, List.append_nil]
      exact h.all
  · exact h
theorem fold_full {cols : Int} : ∀ (l : List Dat) {s : List Dat × List Dat} {P : List Dat}, (∀ c ∈ l, wd c = 1) → Full cols s P → Full cols (l.foldl (layS cols) s) (P ++ l.map cn)
  | [], s, P, _, h => by simpa using h
  | d :: l, s, P, hl, h => by
    rw [List.foldl_cons]
    have h1 := prep_full (w := wd d) (by rw [hl d (by simp)]; decide) h
    have h2 : Full cols (layS cols s d) (P ++ [cn d]) := ⟨h1.rows, by
      show flat (prep cols (wd d) s).1 ++ ((prep cols (wd d) s).2 ++ [cn d]) = _
      rw [← List.append_assoc, h1.all]⟩
    have := fold_full l (fun c hc => hl c (by simp [hc])) h2
    simpa using this
theorem cut_full {cols : Int} {l : List Dat} (hl : ∀ c ∈ l, wd c = 1) (cursor : Int) : Full cols (cut l cols cursor).1 (l.map cn) := by
  have h : Full cols (l.foldl (layS cols) ([], [])) (l.map cn) := by
    have := fold_full (cols := cols) l (s := ([], [])) (P := []) hl ⟨fun r hr => by simp at hr, rfl⟩
    simpa using this
  unfold cut cutEnd
  split
  · rw [cutF_state]; exact prep_full (by decide) h
  · rw [cutF_state]; exact h
theorem vl4b {xs line : List Dat} {cols : Int} (hb : xs.length ≤ bigL) (hf : ∀ i, i + 1 < xs.length → ((xs.getD i default).toList.length : Int) = cols) {E2 : List Dat → List Dat → Prop} {R : Bool → Prop} : ∀ (rest pre acc : List Dat), xs = pre ++ rest → acc.length + (flat rest).length ≤ 1000000 → E2 (acc ++ flat rest) line → ∃ fu, l4_14 fu xs acc line cols (xs.length : Int) (pre.length : Int) E2 R
  | [], pre, acc, hx, ha, h => by
    subst hx
    refine ⟨1, ?_⟩
    unfold l4_14
    rw [ixe, br_f]
    simpa [flat] using h
  | d :: rest, pre, acc, hx, ha, h => by
    subst hx
    have hbig := bigL_eq
    have hfl : flat (d :: rest) = d.toList ++ flat rest := by simp [flat]
    rw [hfl] at h ha
    rw [List.length_append] at ha
    obtain ⟨fu, hfu⟩ := vl4b (R := R) hb hf rest (pre ++ [d]) (acc ++ d.toList) (snoc2 pre d rest) (by rw [List.length_append]; omega) (by rw [List.append_assoc]; exact h)
    rw [← snoc1 pre d] at hfu
    have hxl : (pre ++ d :: rest).length = pre.length + (rest.length + 1) := by simp
    have hq : inR .i64 (((pre ++ d :: rest).length : Int) - 1) = true := in64 (by omega) (by omega)
    have hfd : (pre ++ d :: rest).getD pre.length default = d := by simp [List.getD_eq_getElem?_getD]
    refine ⟨fu + 1, ?_⟩
    unfold l4_14
    rw [ixl, br_t, ix1, req_t, ix3, req_t, gd0, rq hq]
    refine br_mk (fun hl => ?_) (fun _ => ?_)
    · have hl := of_decide_eq_true hl
      have hd := hf pre.length (by omega)
      rw [hfd] at hd
      rw [decide_eq_true hd, show (!true) = false from rfl, br_f]
      refine req_mk (app_ok (by omega)) ?_
      rw [rq (pre_in hb)]
      refine ⟨rfl, rfl, rfl, ?_⟩
      rw [dapp_full]
      exact hfu
    · refine req_mk (app_ok (by omega)) ?_
      rw [rq (pre_in hb)]
      refine ⟨rfl, rfl, rfl, ?_⟩
      rw [dapp_full]
      exact hfu
theorem allF_true {f : Dat → Dat → Bool} {s t : List Dat} : ∀ (k i : Nat), i + k = s.length → (∀ j, j < s.length → f (s.getD j default) (t.getD j default) = true) → allF f s t k i = true
  | 0, i, _, _ => rfl
  | k + 1, i, hi, h => by simp only [allF]; rw [h i (by omega), allF_true k (i + 1) (by omega) h]; rfl
theorem eqF_true {f : Dat → Dat → Bool} {s t : List Dat} (hl : s.length = t.length) (h : ∀ j, j < s.length → f (s.getD j default) (t.getD j default) = true) : eqF f s t = true := by
  unfold eqF
  rw [decide_eq_true hl, allF_true _ _ (by omega) h]
  rfl
theorem eqC_cn (c : Dat) : eqC (cn c) c = true := by
  have : (cn c).snd.snd.fst.toInt = c.snd.snd.fst.toInt := rfl
  unfold eqC
  rw [wd_cn, this, show tx (cn c) = tx c from rfl, strEq_self, decide_eq_true rfl, decide_eq_true rfl]
  rfl
theorem v4 {line : List Dat} {cols : Int} {K : Bool → Prop} (h : K true) : m4 line cols K := by
  unfold m4
  have hbig := bigL_eq
  refine br_mk (fun _ => v11 h) (fun h1 => br_mk (fun _ => v11 h) (fun h2 => br_mk (fun _ => v11 h) (fun h3 => v11 ?_)))
  have h1 := of_decide_eq_false h1
  have h2 := of_decide_eq_false h2
  have h3 := of_decide_eq_false h3
  rw [show (!true) = false from rfl, br_f]
  refine vl4a (by omega) h line [] rfl (fun hw => ?_)
  have hc : chk [] line 0 24 cols = 0 := by
    unfold chk
    rw [if_neg (by omega), if_neg (by simp; omega), if_neg (by omega)]
  refine v14 ?_
  rw [if_pos hc]
  have hall : allS [] line = line := rfl
  have hones := cellsF_ones line [] hw (fun c hc => by simp at hc)
  change ∀ c ∈ cells line, wd c = 1 at hones
  have hfull := cut_full (cols := cols) hones (curS [] line 0)
  have hrows : (rowsF [] line 0 cols false).1 = rowsOf (cut (cells line) cols (curS [] line 0)) := by
    unfold rowsF
    rw [if_neg (by decide), hall]
    rfl
  rw [hrows]
  have hfl : flat (rowsOf (cut (cells line) cols (curS [] line 0))) = (cells line).map cn := by
    unfold rowsOf
    rw [flat_app, flat_one]
    exact hfull.all
  have hfr : ∀ i, i + 1 < (rowsOf (cut (cells line) cols (curS [] line 0))).length → (((rowsOf (cut (cells line) cols (curS [] line 0))).getD i default).toList.length : Int) = cols := fun i hi => by
    unfold rowsOf at hi ⊢
    rw [List.length_append, List.length_singleton] at hi
    rw [List.getD_eq_getElem?_getD, List.getElem?_append_left (by omega), List.getElem?_eq_getElem (by omega)]
    exact hfull.rows _ (List.getElem_mem _)
  have hrl := rowsF_len (s := []) (across := false) hc
  rw [hrows] at hrl
  have hcl := cells_len line
  generalize rowsOf (cut (cells line) cols (curS [] line 0)) = X at hfl hfr hrl ⊢
  refine brf rfl ?_
  refine (fun (hf : ∃ fu2, l4_14 fu2 _ _ _ _ _ ((([] : List Dat).length : Nat) : Int) _ _) => hf.elim fun f2 hf => ⟨f2, rfl, rfl, rfl, hf⟩) (vl4b (by omega) hfr X [] [] rfl (by rw [hfl, List.length_map, List.length_nil]; omega) ?_)
  rw [hfl, List.nil_append]
  refine v16 (by omega) (req_mk (len_ok _) (req_mk (len_ok _) ?_))
  rw [List.take_length, List.take_length]
  refine v15 (by rw [List.length_map]; omega) ?_
  rw [eqF_true (by rw [List.length_map]) (fun j hj => by
    rw [List.length_map] at hj
    rw [List.getD_eq_getElem?_getD, List.getElem?_map, List.getElem?_eq_getElem hj, List.getD_eq_getElem?_getD, List.getElem?_eq_getElem hj]
    exact eqC_cn _)]
  exact h
end Go.Proofs.YthegkipclogoeaaDoor

set_option linter.unusedVariables false
set_option maxRecDepth 100000
namespace Go.Proofs.YthegkipclogoeaaDoor.layoutFlows
open Go.ChangeShapes Go.WideShapes Go.ChangeAt Go.RowKit Go.AM
theorem true4 {l : List Dat} {n : Int} : m4 l n tb := v4 trivial
theorem rule4 (l : List Dat) (n : Int) : R4 [.ro (.int .i32) l, .c (.int .i64 n)] h0 isTrue = m4 l n tb := by kernel_rfl
theorem own : ownKnob Tryd.prog.godebug = none := by kernel_rfl
theorem contract (H : Type) (enc : TypeId × Value → H) (W : World) (base : Nat) (args : Array Value) (ds gs : List (DataW H)) (before : List MemPlace)
    (hval : ∀ (j : Nat) t v, Tryd.f4.params[j]? = some t → args[j]? = some v → Value.okWide Tryd.prog W .any base t v)
    (hW : DataW.Whole enc Tryd.prog Tryd.f4.params.toList Rows.layoutFlowsSpec.vars false W args.toList ds gs before) (hL : laidMetH Tryd.prog Rows.layoutFlowsRow.laid W) :
    Calls Tryd.prog 4 args W fun e W' => ∃ v, e = .returned v ∧ Rows.layoutFlowsSpec.post enc Tryd.prog Tryd.f4 false true false false W args v W' := by
  have one : ∃ d0 d1, ds = [d0, d1] := by
    obtain ⟨p, q, hA, hV, _⟩ := hW
    rw [Tryd.params4] at hA
    obtain ⟨v0, vs0, d0, ds0, p0, q0, hargs0, rfl, rfl, h0, r0⟩ := trodAll_cons hA
    obtain ⟨v1, vs1, d1, ds1, p1, q1, hargs1, rfl, rfl, h1, r1⟩ := trodAll_cons r0
    obtain ⟨rfl, rfl, rfl⟩ := trodAll_nil r1
    exact ⟨d0, d1, rfl⟩
  obtain ⟨d0, d1, rfl⟩ := one
  have hgs : gs = [] := by
    obtain ⟨p, q, hA, hV, _⟩ := hW
    obtain ⟨rfl, _⟩ := trodVars_none hV
    rfl
  subst hgs
  refine law_contractR ok4 (tb := 4) (ss := [.slice (.int .i32), .int .i64]) (tabs_laid hL) hval hW rfl (by kernel_rfl) (by kernel_rfl) (fun hl => rfl) (by kernel_rfl) (by kernel_rfl) (by kernel_rfl) (fun hF => ?_)
  refine ⟨[.ro (.int .i32) (toDat (.slice (.int .i32)) d0).toList, .c (.int .i64 (toDat (.int .i64) d1).toInt)], by kernel_rfl, ?_⟩
  rw [rule4]
  have hf0 := hF (.slice (.int .i32), d0) (by simp)
  have hf1 := hF (.int .i64, d1) (by simp)
  exact true4
theorem laid_met (os : Os) : laidMet Tryd.prog Rows.layoutFlowsRow.laid (((laidWorld Rows.layoutFlowsRow.laid os).forCall (fun _ _ => 0) ⟨#[], #[.slice none 0 0, .int .i64 0], []⟩)).memory :=
  laidMet_of_run' 8 (by kernel_rfl) (by kernel_rfl)
theorem reads (os : Os) {H : Type} (enc : TypeId × Value → H) : ∃ places, DataW.whole enc Tryd.prog ((laidWorld Rows.layoutFlowsRow.laid os).forCall (fun _ _ => 0) ⟨#[], #[.slice none 0 0, .int .i64 0], []⟩).memory Tryd.f4.params.toList Rows.layoutFlowsSpec.vars false #[Value.slice none 0 0, .int .i64 0].toList 8 = some ([.nil, .lit (.int .i64 0)], [], places) :=
  ⟨[], by kernel_rfl⟩
theorem lifted (os : Os) (started : os.Started) (H : Type) (enc : TypeId × Value → H) (F : Stop.Interp) :
    ReturnsInHanded {} Tryd.checked os 4 .any ((OpenSpec.ofChange Rows.layoutFlowsSpec).preRow enc Tryd.prog Tryd.f4 Rows.layoutFlowsRow.domain false Rows.layoutFlowsRow.laid) (((OpenSpec.ofChange Rows.layoutFlowsSpec).at F).post enc Tryd.prog Tryd.f4 false true false false) := by
  obtain ⟨places, hx⟩ := reads os enc
  refine returnsInHanded_of_row (C := Tryd.checked) (s := OpenSpec.ofChange Rows.layoutFlowsSpec) own started (by kernel_rfl) Tryd.func4
    (witness_row_at (enc := enc) (C := Tryd.checked) false (laidWorld Rows.layoutFlowsRow.laid os) #[.slice none 0 0, .int .i64 0] rfl (by kernel_rfl) (by kernel_rfl) (by kernel_rfl)
      (OpenSpec.preRow_of_cond 8 hx (by kernel_rfl) (fun k hk => by cases hk) (by kernel_rfl) (laid_met os))) ?_
  intro W base args ds gs before hval hW _ _ _ hL _ _
  exact contract H enc W base args ds gs before hval hW hL
theorem said : Rows.LayoutFlowsSaid :=
  OpenClaim.holds_of_cond 4 Tryd.f4 rfl rfl rfl rfl rfl rfl rfl ⟨rfl, rfl, rfl, rfl, rfl⟩ rfl rfl rfl rfl rfl (by kernel_rfl) Tryd.func4 (by kernel_rfl)
    (of_decide_eq_true (by kernel_rfl)) (by unfold Func.isWrapper; first | (rw [if_pos (by decide +kernel)]; kernel_rfl) | (rw [if_neg (by decide +kernel)]; exact ⟨rfl, rfl⟩))
    (fun os started H enc _ F => by rw [OpenClaim.pre_eq_preRow]; exact lifted os started H enc F)
/-- No parameter wants a stand-in; the program's own looks are off. -/
theorem plain (f : FuncId) (fn : Func) (hf : Tryd.pinned.checked.prog.funcNamed "lanyard/lanyardlaw23.LayoutFlows" = some f) (hfn : Tryd.pinned.checked.prog.funcs[f]? = some fn) :
    false = Tryd.pinned.checked.prog.looks [] ∧ ∀ (j : Nat) t, fn.params[j]? = some t → Tryd.pinned.checked.prog.wantsStandIn t = false := by
  obtain rfl : f = 4 := Option.some.inj ((show Tryd.prog.funcNamed "lanyard/lanyardlaw23.LayoutFlows" = some 4 by kernel_rfl).symm.trans hf) |>.symm
  obtain rfl : fn = Tryd.f4 := (Option.some.inj (Tryd.func4.symm.trans hfn)).symm
  refine ⟨by kernel_rfl, fun j t ht => ?_⟩
  have h1 : (Tryd.f4.params.toList.all fun t => !Tryd.pinned.checked.prog.wantsStandIn t) = true := by kernel_rfl
  have h2 := List.all_eq_true.1 h1 t (Array.mem_toList_iff.2 (Array.mem_of_getElem? ht))
  simpa using h2
theorem card : Rows.LayoutFlowsCardSaid :=
  Claim7.holds_tied_plain_at .later [] _ _ _ _ said (fun _ h => by cases h) (by kernel_rfl) (fun _ h => by cases h) layoutFlows_row_tie rfl ⟨rfl, rfl⟩ (by kernel_rfl) rfl plain (by kernel_rfl)
end Go.Proofs.YthegkipclogoeaaDoor.layoutFlows

