/- Layer 21, Find: functions as definitions over their data. Printed by tools/dec.py. -/
import Derived.Test.YtbhehldefflhpaaDoorFt
set_option linter.unusedVariables false
set_option maxRecDepth 100000
namespace Go.Proofs.YtbhehldefflhpaaDoor
open Go.AM Go.LTxt Go.LMem Go.RowKit
noncomputable def csj : List (FuncId × CallT) := (9, R9) :: cs10
theorem csj_ok : CallsOK Tryd.prog csj := .cons ok9 cs10_ok
noncomputable def GGj : Rules := mkG [] csj ls10_20
theorem sGGj : Sound Tryd.prog tys GGj := mk_sound mixed tysOK names (by kernel_rfl) csj_ok ls10_20_ok
noncomputable def l28_4 : Nat → List Dat → List Dat → Int → (Prop) → (Bool → Prop) → Prop
  | 0, _, _, _, _, _ => False
  | fu + 1, a, b, i, E0, R_ =>
    br (decide (i < (↑(List.length a) : Int))) (
     req (decide ((0 : Int) ≤ i) && decide (i < (↑(List.length a) : Int))) (
     req (decide (Int.toNat i < List.length a)) (
     req (decide ((0 : Int) ≤ i) && decide (i < (↑(List.length b) : Int))) (
     req (decide (Int.toNat i < List.length b)) (
     br (!decide (Dat.toInt (List.getD a (Int.toNat i) default) = Dat.toInt (List.getD b (Int.toNat i) default))) (R_ false) (
      req (inR IntKind.i64 (i + (1 : Int))) (l28_4 fu a b (i + (1 : Int)) E0 R_))))))) (E0)
def F28_4 : AM.Form := ⟨mkF 26 [(0, .ro (.int .i32)), (1, .ro (.int .i32)), (5, .int .i64)], []⟩
noncomputable def mm28_4 (n : Nat) (ds : List Dat) (Q : AExit → List AV → AH → Prop) : Prop := l28_4 n ((dat ds 0).toList) ((dat ds 1).toList) ((dat ds 2).toInt) (Q (AExit.exit 0) (mkAV 26 []) ⟨[], []⟩) (fun rb => Q AExit.ret (mkAV 26 [(4, .c (.bool rb))]) ⟨[], []⟩)
theorem t28_4 (n : Nat) (ds : List Dat) (Q : AExit → List AV → AH → Prop) : wpA Tryd.prog tys GGj 1000 28 (theLoop Tryd.prog 28 4) (fun e f' h' => endF Tryd.prog ((fun _ => []) e) ((fun e => match e with | .normal => ⟨[0, 1, 5], []⟩ | .exit 0 => ⟨[], []⟩ | .ret => ⟨[4], []⟩ | _ => ⟨[], []⟩) e) ((fun e => match e with | .normal => [] | .exit 0 => [] | .ret => [] | _ => []) e) (F28_4.hp ds) f' h' fun f2 h2 => match e with
      | .normal => locL F28_4 (mm28_4 n) f2 h2 Q
      | e => Q e f2 h2) (F28_4.fr ds) (F28_4.hp ds) = mm28_4 (n + 1) ds Q := by kernel_rfl
noncomputable def R28_4 : LoopT := headF Tryd.prog [] ⟨[0, 1, 5], []⟩ [] fun f h Q => ∃ n, locL F28_4 (mm28_4 n) f h Q
theorem ok28_4 : LoopOK Tryd.prog (theLoop Tryd.prog 28 4) R28_4 := ruleL_ok sGGj (by kernel_rfl) mm28_4 (fun _ _ => rfl) t28_4
noncomputable def ls28_4 : List (FuncId × Nat × LoopT) := (28, 4, R28_4) :: ls10_20
theorem ls28_4_ok : LoopsOK Tryd.prog ls28_4 := .cons (by kernel_rfl) ok28_4 ls10_20_ok
noncomputable def GG28_4 : Rules := mkG [] csj ls28_4
theorem sGG28_4 : Sound Tryd.prog tys GG28_4 := mk_sound mixed tysOK names (by kernel_rfl) csj_ok ls28_4_ok
noncomputable def m28 (a : List Dat) (b : List Dat) (K : Bool → Prop) : Prop :=
    br (!decide ((↑(List.length a) : Int) = (↑(List.length b) : Int))) (K false) (
     (∃ y0, 
     l28_4 y0 a b (0 : Int) (K true) (fun y1 => K y1)))
def F28 : AM.Form := ⟨[.ro (.int .i32), .ro (.int .i32)], []⟩
noncomputable def mm28 (ds : List Dat) (K : AV → AH → Prop) : Prop := m28 ((dat ds 0).toList) ((dat ds 1).toList) (fun rb => K (.c (.bool rb)) ⟨[], []⟩)
theorem t28 (ds : List Dat) (K : AV → AH → Prop) : callA Tryd.prog tys GG28_4 1000 28 (F28.fr ds) (F28.hp ds) (fun v h' => endK Tryd.prog [] .keep (F28.hp ds) (F28.fr ds) v h' K) = mm28 ds K := by kernel_rfl
noncomputable def R28 : CallT := ruleF Tryd.prog [(.ro (.int .i32)), (.ro (.int .i32))] [] F28 mm28
theorem ok28 : CallOK Tryd.prog 28 R28 := ruleF_ok sGG28_4 t28
noncomputable def cs28 : List (FuncId × CallT) := (28, R28) :: csj
theorem cs28_ok : CallsOK Tryd.prog cs28 := .cons ok28 csj_ok
noncomputable def GG28 : Rules := mkG [] cs28 ls28_4
theorem sGG28 : Sound Tryd.prog tys GG28 := mk_sound mixed tysOK names (by kernel_rfl) cs28_ok ls28_4_ok
noncomputable def m8 (a : Int) (a2 : Int) (a3 : List Dat) (b : Int) (b2 : Int) (b3 : List Dat) (K : Bool → Prop) : Prop :=
    br (decide (a = b)) (
     br (decide (a2 = b2)) (
      m28 a3 b3 (fun y0 => K y0)) (K false)) (K false)
def F8 : AM.Form := ⟨[.agg [.int .i64, .int .i32, .ro (.int .i32)], .agg [.int .i64, .int .i32, .ro (.int .i32)]], []⟩
noncomputable def mm8 (ds : List Dat) (K : AV → AH → Prop) : Prop := m8 ((dat ds 0).toInt) ((dat ds 1).toInt) ((dat ds 2).toList) ((dat ds 3).toInt) ((dat ds 4).toInt) ((dat ds 5).toList) (fun rb => K (.c (.bool rb)) ⟨[], []⟩)
theorem t8 (ds : List Dat) (K : AV → AH → Prop) : callA Tryd.prog tys GG28 1000 8 (F8.fr ds) (F8.hp ds) (fun v h' => endK Tryd.prog [] .keep (F8.hp ds) (F8.fr ds) v h' K) = mm8 ds K := by kernel_rfl
noncomputable def R8 : CallT := ruleF Tryd.prog [(.agg [.keep, .keep, (.ro (.int .i32))]), (.agg [.keep, .keep, (.ro (.int .i32))])] [] F8 mm8
theorem ok8 : CallOK Tryd.prog 8 R8 := ruleF_ok sGG28 t8
noncomputable def cs8 : List (FuncId × CallT) := (8, R8) :: cs28
theorem cs8_ok : CallsOK Tryd.prog cs8 := .cons ok8 cs28_ok
noncomputable def GG8 : Rules := mkG [] cs8 ls28_4
theorem sGG8 : Sound Tryd.prog tys GG8 := mk_sound mixed tysOK names (by kernel_rfl) cs8_ok ls28_4_ok
noncomputable def m3 (line : List Dat) (point : Int) (K : Bool → Prop) : Prop :=
    m7 (fun y0 => 
     br (y0) (
      m9 line point (fun y1 y2 y3 => 
       m10 line point (fun y4 y5 y6 => 
        req (decide ((0 : Nat) + List.length y1 ≤ List.length y1)) (
        req (decide ((0 : Nat) + List.length y4 ≤ List.length y4)) (
        m8 y2 y3 (List.take (List.length y1) y1) y5 y6 (List.take (List.length y4) y4) (fun y7 => K y7)))))) (K false))
def F3 : AM.Form := ⟨[.ro (.int .i32), .int .i64], []⟩
noncomputable def mm3 (ds : List Dat) (K : AV → AH → Prop) : Prop := m3 ((dat ds 0).toList) ((dat ds 1).toInt) (fun rb => K (.c (.bool rb)) ⟨[], []⟩)
theorem t3 (ds : List Dat) (K : AV → AH → Prop) : callA Tryd.prog tys GG8 1000 3 (F3.fr ds) (F3.hp ds) (fun v h' => endK Tryd.prog [] .keep (F3.hp ds) (F3.fr ds) v h' K) = mm3 ds K := by kernel_rfl
noncomputable def R3 : CallT := ruleF Tryd.prog [(.ro (.int .i32)), .keep] [] F3 mm3
theorem ok3 : CallOK Tryd.prog 3 R3 := ruleF_ok sGG8 t3
noncomputable def cs3 : List (FuncId × CallT) := (3, R3) :: cs8
theorem cs3_ok : CallsOK Tryd.prog cs3 := .cons ok3 cs8_ok
noncomputable def GG3 : Rules := mkG [] cs3 ls28_4
theorem sGG3 : Sound Tryd.prog tys GG3 := mk_sound mixed tysOK names (by kernel_rfl) cs3_ok ls28_4_ok
end Go.Proofs.YtbhehldefflhpaaDoor
