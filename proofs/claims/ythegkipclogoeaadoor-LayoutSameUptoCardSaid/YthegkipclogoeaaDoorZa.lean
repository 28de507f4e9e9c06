/- Layer 23: functions as definitions over their data. Printed by tools/dec.py. -/
import Derived.Test.YthegkipclogoeaaDoorRl
import Derived.Test.YthegkipclogoeaaDoorAmFl
set_option linter.unusedVariables false
set_option maxRecDepth 100000
namespace Go.Proofs.YthegkipclogoeaaDoor
open Go.AM Go.LTxt Go.LMem Go.RowKit
noncomputable def m17 (r : Int) (K : Bool → Prop) : Prop :=
    br (decide ((0 : Int) ≤ r)) (
     br (decide (r < (32 : Int))) (K true) (
      br (decide ((127 : Int) ≤ r)) (K (decide (r ≤ (159 : Int)))) (K false))) (
     br (decide ((127 : Int) ≤ r)) (K (decide (r ≤ (159 : Int)))) (K false))
def F17 : AM.Form := ⟨[.int .i32], []⟩
noncomputable def mm17 (ds : List Dat) (K : AV → AH → Prop) : Prop := m17 ((dat ds 0).toInt) (fun rb => K (.c (.bool rb)) ⟨[], []⟩)
theorem t17 (ds : List Dat) (K : AV → AH → Prop) : callA Tryd.prog tys G00 1000 17 (F17.fr ds) (F17.hp ds) (fun v h' => endK Tryd.prog [] .keep (F17.hp ds) (F17.fr ds) v h' K) = mm17 ds K := by kernel_rfl
noncomputable def R17 : CallT := ruleF Tryd.prog [.keep] [] F17 mm17
theorem ok17 : CallOK Tryd.prog 17 R17 := ruleF_ok sG00 t17
noncomputable def cs17 : List (FuncId × CallT) := (17, R17) :: calls0
theorem cs17_ok : CallsOK Tryd.prog cs17 := .cons ok17 calls0_ok
noncomputable def GG17 : Rules := mkG [37, 27] cs17 ls0
theorem sGG17 : Sound Tryd.prog tys GG17 := mk_sound mixed tysOK names (by kernel_rfl) cs17_ok ls0_ok
noncomputable def m52 (r : Int) (K : Bool → Prop) : Prop :=
    br (decide ((0 : Int) ≤ r)) (
     br (decide (r < (55296 : Int))) (K true) (
      br (decide ((57343 : Int) < r)) (
       br (decide (r ≤ (1114111 : Int))) (K true) (K false)) (K false))) (
     br (decide ((57343 : Int) < r)) (
      br (decide (r ≤ (1114111 : Int))) (K true) (K false)) (K false))
def F52 : AM.Form := ⟨[.int .i32], []⟩
noncomputable def mm52 (ds : List Dat) (K : AV → AH → Prop) : Prop := m52 ((dat ds 0).toInt) (fun rb => K (.c (.bool rb)) ⟨[], []⟩)
theorem t52 (ds : List Dat) (K : AV → AH → Prop) : callA Tryd.prog tys GG17 1000 52 (F52.fr ds) (F52.hp ds) (fun v h' => endK Tryd.prog [] .keep (F52.hp ds) (F52.fr ds) v h' K) = mm52 ds K := by kernel_rfl
noncomputable def R52 : CallT := ruleF Tryd.prog [.keep] [] F52 mm52
theorem ok52 : CallOK Tryd.prog 52 R52 := ruleF_ok sGG17 t52
noncomputable def cs52 : List (FuncId × CallT) := (52, R52) :: cs17
theorem cs52_ok : CallsOK Tryd.prog cs52 := .cons ok52 cs17_ok
noncomputable def GG52 : Rules := mkG [37, 27] cs52 ls0
theorem sGG52 : Sound Tryd.prog tys GG52 := mk_sound mixed tysOK names (by kernel_rfl) cs52_ok ls0_ok
noncomputable def m33 (r : Int) (K : Bool → Prop) : Prop :=
    m52 r (fun y0 => K y0)
def F33 : AM.Form := ⟨[.int .i32], []⟩
noncomputable def mm33 (ds : List Dat) (K : AV → AH → Prop) : Prop := m33 ((dat ds 0).toInt) (fun rb => K (.c (.bool rb)) ⟨[], []⟩)
theorem t33 (ds : List Dat) (K : AV → AH → Prop) : callA Tryd.prog tys GG52 1000 33 (F33.fr ds) (F33.hp ds) (fun v h' => endK Tryd.prog [] .keep (F33.hp ds) (F33.fr ds) v h' K) = mm33 ds K := by kernel_rfl
noncomputable def R33 : CallT := ruleF Tryd.prog [.keep] [] F33 mm33
theorem ok33 : CallOK Tryd.prog 33 R33 := ruleF_ok sGG52 t33
noncomputable def cs33 : List (FuncId × CallT) := (33, R33) :: cs52
theorem cs33_ok : CallsOK Tryd.prog cs33 := .cons ok33 cs52_ok
noncomputable def GG33 : Rules := mkG [37, 27] cs33 ls0
theorem sGG33 : Sound Tryd.prog tys GG33 := mk_sound mixed tysOK names (by kernel_rfl) cs33_ok ls0_ok
noncomputable def l34_2 : Nat → Int → List Dat → Int → Int → (Prop) → (Bool → Prop) → Prop
  | 0, _, _, _, _, _, _ => False
  | fu + 1, r, xs, n, n2, E0, R_ =>
    br (decide (n2 < n)) (
     req (decide ((0 : Int) ≤ n2) && decide (n2 < (↑(List.length xs) : Int))) (
     req (decide (Int.toNat n2 < List.length xs)) (
     br (decide (Dat.toInt (Dat.fst (List.getD xs (Int.toNat n2) default)) ≤ r)) (
      br (decide (r ≤ Dat.toInt (Dat.fst (Dat.snd (List.getD xs (Int.toNat n2) default))))) (R_ true) (
       req (inR IntKind.i64 (n2 + (1 : Int))) (l34_2 fu r xs n (n2 + (1 : Int)) E0 R_))) (
      req (inR IntKind.i64 (n2 + (1 : Int))) (l34_2 fu r xs n (n2 + (1 : Int)) E0 R_))))) (E0)
def F34_2 : AM.Form := ⟨mkF 24 [(0, .int .i32), (7, .ro (.pair (.int .i32) (.pair (.int .i32) .unit))), (8, .int .i64), (9, .int .i64)], []⟩
noncomputable def mm34_2 (n : Nat) (ds : List Dat) (Q : AExit → List AV → AH → Prop) : Prop := l34_2 n ((dat ds 0).toInt) ((dat ds 1).toList) ((dat ds 2).toInt) ((dat ds 3).toInt) (Q (AExit.exit 0) (mkAV 24 []) ⟨[], []⟩) (fun rb => Q AExit.ret (mkAV 24 [(4, .c (.bool rb))]) ⟨[], []⟩)
theorem t34_2 (n : Nat) (ds : List Dat) (Q : AExit → List AV → AH → Prop) : wpA Tryd.prog tys GG33 1000 34 (theLoop Tryd.prog 34 2) (fun e f' h' => endF Tryd.prog ((fun _ => []) e) ((fun e => match e with | .normal => ⟨[0, 7, 8, 9], []⟩ | .exit 0 => ⟨[], []⟩ | .ret => ⟨[4], []⟩ | _ => ⟨[], []⟩) e) ((fun e => match e with | .normal => [] | .exit 0 => [] | .ret => [] | _ => []) e) (F34_2.hp ds) f' h' fun f2 h2 => match e with
      | .normal => locL F34_2 (mm34_2 n) f2 h2 Q
      | e => Q e f2 h2) (F34_2.fr ds) (F34_2.hp ds) = mm34_2 (n + 1) ds Q := by kernel_rfl
noncomputable def R34_2 : LoopT := headF Tryd.prog [] ⟨[0, 7, 8, 9], []⟩ [] fun f h Q => ∃ n, locL F34_2 (mm34_2 n) f h Q
theorem ok34_2 : LoopOK Tryd.prog (theLoop Tryd.prog 34 2) R34_2 := ruleL_ok sGG33 (by kernel_rfl) mm34_2 (fun _ _ => rfl) t34_2
noncomputable def ls34_2 : List (FuncId × Nat × LoopT) := (34, 2, R34_2) :: ls0
theorem ls34_2_ok : LoopsOK Tryd.prog ls34_2 := .cons (by kernel_rfl) ok34_2 ls0_ok
noncomputable def GG34_2 : Rules := mkG [37, 27] cs33 ls34_2
theorem sGG34_2 : Sound Tryd.prog tys GG34_2 := mk_sound mixed tysOK names (by kernel_rfl) cs33_ok ls34_2_ok
noncomputable def m34 (r : Int) (l : List Dat) (K : Bool → Prop) : Prop :=
    (∃ y0, 
    l34_2 y0 r l (↑(List.length l) : Int) (0 : Int) (K false) (fun y1 => K y1))
def F34 : AM.Form := ⟨[.int .i32, .ro (.pair (.int .i32) (.pair (.int .i32) .unit))], []⟩
noncomputable def mm34 (ds : List Dat) (K : AV → AH → Prop) : Prop := m34 ((dat ds 0).toInt) ((dat ds 1).toList) (fun rb => K (.c (.bool rb)) ⟨[], []⟩)
theorem t34 (ds : List Dat) (K : AV → AH → Prop) : callA Tryd.prog tys GG34_2 1000 34 (F34.fr ds) (F34.hp ds) (fun v h' => endK Tryd.prog [] .keep (F34.hp ds) (F34.fr ds) v h' K) = mm34 ds K := by kernel_rfl
noncomputable def R34 : CallT := ruleF Tryd.prog [.keep, (.ro (.pair (.int .i32) (.pair (.int .i32) .unit)))] [] F34 mm34
theorem ok34 : CallOK Tryd.prog 34 R34 := ruleF_ok sGG34_2 t34
noncomputable def cs34 : List (FuncId × CallT) := (34, R34) :: cs33
theorem cs34_ok : CallsOK Tryd.prog cs34 := .cons ok34 cs33_ok
noncomputable def GG34 : Rules := mkG [37, 27] cs34 ls34_2
theorem sGG34 : Sound Tryd.prog tys GG34 := mk_sound mixed tysOK names (by kernel_rfl) cs34_ok ls34_2_ok
noncomputable def m13 (r : Int) (K : Int → Prop) : Prop :=
    m33 r (fun y0 => 
     br (!y0) (K (0 : Int)) (
      m17 r (fun y1 => 
       br (y1) (K (0 : Int)) (
        m34 r [Dat.pair (Dat.int (768 : Int)) (Dat.pair (Dat.int (879 : Int)) (Dat.int (0 : Int))), Dat.pair (Dat.int (1155 : Int)) (Dat.pair (Dat.int (1161 : Int)) (Dat.int (0 : Int))), Dat.pair (Dat.int (1425 : Int)) (Dat.pair (Dat.int (1469 : Int)) (Dat.int (0 : Int))), Dat.pair (Dat.int (1552 : Int)) (Dat.pair (Dat.int (1562 : Int)) (Dat.int (0 : Int))), Dat.pair (Dat.int (1611 : Int)) (Dat.pair (Dat.int (1631 : Int)) (Dat.int (0 : Int))), Dat.pair (Dat.int (3633 : Int)) (Dat.pair (Dat.int (3633 : Int)) (Dat.int (0 : Int))), Dat.pair (Dat.int (3636 : Int)) (Dat.pair (Dat.int (3642 : Int)) (Dat.int (0 : Int))), Dat.pair (Dat.int (3655 : Int)) (Dat.pair (Dat.int (3662 : Int)) (Dat.int (0 : Int))), Dat.pair (Dat.int (6832 : Int)) (Dat.pair (Dat.int (6911 : Int)) (Dat.int (0 : Int))), Dat.pair (Dat.int (7616 : Int)) (Dat.pair (Dat.int (7679 : Int)) (Dat.int (0 : Int))), Dat.pair (Dat.int (8203 : Int)) (Dat.pair (Dat.int (8207 : Int)) (Dat.int (0 : Int))), Dat.pair (Dat.int (8400 : Int)) (Dat.pair (Dat.int (8447 : Int)) (Dat.int (0 : Int))), Dat.pair (Dat.int (12441 : Int)) (Dat.pair (Dat.int (12442 : Int)) (Dat.int (0 : Int))), Dat.pair (Dat.int (65024 : Int)) (Dat.pair (Dat.int (65039 : Int)) (Dat.int (0 : Int))), Dat.pair (Dat.int (65056 : Int)) (Dat.pair (Dat.int (65071 : Int)) (Dat.int (0 : Int)))] (fun y2 => 
         br (y2) (K (0 : Int)) (
          m34 r [Dat.pair (Dat.int (4352 : Int)) (Dat.pair (Dat.int (4447 : Int)) (Dat.int (0 : Int))), Dat.pair (Dat.int (11904 : Int)) (Dat.pair (Dat.int (12350 : Int)) (Dat.int (0 : Int))), Dat.pair (Dat.int (12353 : Int)) (Dat.pair (Dat.int (13311 : Int)) (Dat.int (0 : Int))), Dat.pair (Dat.int (13312 : Int)) (Dat.pair (Dat.int (19903 : Int)) (Dat.int (0 : Int))), Dat.pair (Dat.int (19968 : Int)) (Dat.pair (Dat.int (40959 : Int)) (Dat.int (0 : Int))), Dat.pair (Dat.int (40960 : Int)) (Dat.pair (Dat.int (42191 : Int)) (Dat.int (0 : Int))), Dat.pair (Dat.int (44032 : Int)) (Dat.pair (Dat.int (55203 : Int)) (Dat.int (0 : Int))), Dat.pair (Dat.int (63744 : Int)) (Dat.pair (Dat.int (64255 : Int)) (Dat.int (0 : Int))), Dat.pair (Dat.int (65072 : Int)) (Dat.pair (Dat.int (65135 : Int)) (Dat.int (0 : Int))), Dat.pair (Dat.int (65280 : Int)) (Dat.pair (Dat.int (65376 : Int)) (Dat.int (0 : Int))), Dat.pair (Dat.int (65504 : Int)) (Dat.pair (Dat.int (65510 : Int)) (Dat.int (0 : Int))), Dat.pair (Dat.int (127744 : Int)) (Dat.pair (Dat.int (128591 : Int)) (Dat.int (0 : Int))), Dat.pair (Dat.int (129280 : Int)) (Dat.pair (Dat.int (129535 : Int)) (Dat.int (0 : Int))), Dat.pair (Dat.int (131072 : Int)) (Dat.pair (Dat.int (262141 : Int)) (Dat.int (0 : Int)))] (fun y3 => 
           br (y3) (K (2 : Int)) (K (1 : Int)))))))))
def F13 : AM.Form := ⟨[.int .i32], []⟩
noncomputable def mm13 (ds : List Dat) (K : AV → AH → Prop) : Prop := m13 ((dat ds 0).toInt) (fun rn => K (.c (.int .i64 rn)) ⟨[], []⟩)
theorem t13 (ds : List Dat) (K : AV → AH → Prop) : callA Tryd.prog tys GG34 1000 13 (F13.fr ds) (F13.hp ds) (fun v h' => endK Tryd.prog [] .keep (F13.hp ds) (F13.fr ds) v h' K) = mm13 ds K := by kernel_rfl
noncomputable def R13 : CallT := ruleF Tryd.prog [.keep] [] F13 mm13
theorem ok13 : CallOK Tryd.prog 13 R13 := ruleF_ok sGG34 t13
noncomputable def cs13 : List (FuncId × CallT) := (13, R13) :: cs34
theorem cs13_ok : CallsOK Tryd.prog cs13 := .cons ok13 cs34_ok
noncomputable def GG13 : Rules := mkG [37, 27] cs13 ls34_2
theorem sGG13 : Sound Tryd.prog tys GG13 := mk_sound mixed tysOK names (by kernel_rfl) cs13_ok ls34_2_ok
noncomputable def m12 (s : List Dat) (s2 : List Dat) (s3 : Int) (s4 : Int) (s5 : Int) (s6 : Bool) (K : Int → Prop) : Prop :=
    br (decide (s4 < (2 : Int))) (K (230 : Int)) (
     br (decide ((60 : Int) < s4)) (K (230 : Int)) (
      br (decide (s5 < (8 : Int))) (K (230 : Int)) (
       br (decide ((200 : Int) < s5)) (K (230 : Int)) (
        br (decide ((1024 : Int) < (↑(List.length s) : Int))) (K (3 : Int)) (
         br (decide ((1024 : Int) < (↑(List.length s2) : Int))) (K (3 : Int)) (
          br (decide (s3 < (0 : Int))) (K (1 : Int)) (
           br (decide ((↑(List.length s2) : Int) < s3)) (K (1 : Int)) (K (0 : Int)))))))))
def F12 : AM.Form := ⟨[.agg [.ro (.int .i32), .ro (.int .i32), .int .i64, .int .i64, .int .i64, .bool]], []⟩
noncomputable def mm12 (ds : List Dat) (K : AV → AH → Prop) : Prop := m12 ((dat ds 0).toList) ((dat ds 1).toList) ((dat ds 2).toInt) ((dat ds 3).toInt) ((dat ds 4).toInt) ((dat ds 5).toBool) (fun rn => K (.c (.int .i64 rn)) ⟨[], []⟩)
theorem t12 (ds : List Dat) (K : AV → AH → Prop) : callA Tryd.prog tys GG13 1000 12 (F12.fr ds) (F12.hp ds) (fun v h' => endK Tryd.prog [] .keep (F12.hp ds) (F12.fr ds) v h' K) = mm12 ds K := by kernel_rfl
noncomputable def R12 : CallT := ruleF Tryd.prog [(.agg [(.ro (.int .i32)), (.ro (.int .i32)), .keep, .keep, .keep, .keep])] [] F12 mm12
theorem ok12 : CallOK Tryd.prog 12 R12 := ruleF_ok sGG13 t12
noncomputable def cs12 : List (FuncId × CallT) := (12, R12) :: cs13
theorem cs12_ok : CallsOK Tryd.prog cs12 := .cons ok12 cs13_ok
noncomputable def GG12 : Rules := mkG [37, 27] cs12 ls34_2
theorem sGG12 : Sound Tryd.prog tys GG12 := mk_sound mixed tysOK names (by kernel_rfl) cs12_ok ls34_2_ok
noncomputable def m35 (s : List Dat) (s2 : List Dat) (s3 : Int) (s4 : Int) (s5 : Int) (s6 : Bool) (K : Int → Prop) : Prop :=
    br (decide (s4 < (2 : Int))) (K (230 : Int)) (
     br (decide ((60 : Int) < s4)) (K (230 : Int)) (
      br (decide (s5 < (8 : Int))) (K (230 : Int)) (
       br (decide ((200 : Int) < s5)) (K (230 : Int)) (
        br (decide ((1024 : Int) < (↑(List.length s) : Int))) (K (3 : Int)) (
         br (decide ((1024 : Int) < (↑(List.length s2) : Int))) (K (3 : Int)) (
          br (decide (s3 < (0 : Int))) (K (1 : Int)) (
           br (decide ((↑(List.length s2) : Int) < s3)) (K (1 : Int)) (K (0 : Int)))))))))
def F35 : AM.Form := ⟨[.agg [.ro (.int .i32), .ro (.int .i32), .int .i64, .int .i64, .int .i64, .bool]], []⟩
noncomputable def mm35 (ds : List Dat) (K : AV → AH → Prop) : Prop := m35 ((dat ds 0).toList) ((dat ds 1).toList) ((dat ds 2).toInt) ((dat ds 3).toInt) ((dat ds 4).toInt) ((dat ds 5).toBool) (fun rn => K (.c (.int .i64 rn)) ⟨[], []⟩)
theorem t35 (ds : List Dat) (K : AV → AH → Prop) : callA Tryd.prog tys GG12 1000 35 (F35.fr ds) (F35.hp ds) (fun v h' => endK Tryd.prog [] .keep (F35.hp ds) (F35.fr ds) v h' K) = mm35 ds K := by kernel_rfl
noncomputable def R35 : CallT := ruleF Tryd.prog [(.agg [(.ro (.int .i32)), (.ro (.int .i32)), .keep, .keep, .keep, .keep])] [] F35 mm35
theorem ok35 : CallOK Tryd.prog 35 R35 := ruleF_ok sGG12 t35
noncomputable def cs35 : List (FuncId × CallT) := (35, R35) :: cs12
theorem cs35_ok : CallsOK Tryd.prog cs35 := .cons ok35 cs12_ok
noncomputable def GG35 : Rules := mkG [37, 27] cs35 ls34_2
theorem sGG35 : Sound Tryd.prog tys GG35 := mk_sound mixed tysOK names (by kernel_rfl) cs35_ok ls34_2_ok
noncomputable def m47  (K : ByteArray → Int → Int → Prop) : Prop := K { data := #[(32 : UInt8)] } (1 : Int) (0 : Int)
def F47 : AM.Form := ⟨[], []⟩
noncomputable def mm47 (ds : List Dat) (K : AV → AH → Prop) : Prop := m47  (fun rs rn rn2 => K (.agg [.c (.string rs), .c (.int .i64 rn), .c (.int .i64 rn2)]) ⟨[], []⟩)
theorem t47 (ds : List Dat) (K : AV → AH → Prop) : callA Tryd.prog tys GG35 1000 47 (F47.fr ds) (F47.hp ds) (fun v h' => endK Tryd.prog [] .keep (F47.hp ds) (F47.fr ds) v h' K) = mm47 ds K := by kernel_rfl
noncomputable def R47 : CallT := ruleF Tryd.prog [] [] F47 mm47
theorem ok47 : CallOK Tryd.prog 47 R47 := ruleF_ok sGG35 t47
noncomputable def cs47 : List (FuncId × CallT) := (47, R47) :: cs35
theorem cs47_ok : CallsOK Tryd.prog cs47 := .cons ok47 cs35_ok
noncomputable def GG47 : Rules := mkG [37, 27] cs47 ls34_2
theorem sGG47 : Sound Tryd.prog tys GG47 := mk_sound mixed tysOK names (by kernel_rfl) cs47_ok ls34_2_ok
noncomputable def m48  (K : ByteArray → Int → Int → Prop) : Prop := K { data := #[(32 : UInt8)] } (1 : Int) (0 : Int)
def F48 : AM.Form := ⟨[], []⟩
noncomputable def mm48 (ds : List Dat) (K : AV → AH → Prop) : Prop := m48  (fun rs rn rn2 => K (.agg [.c (.string rs), .c (.int .i64 rn), .c (.int .i64 rn2)]) ⟨[], []⟩)
theorem t48 (ds : List Dat) (K : AV → AH → Prop) : callA Tryd.prog tys GG47 1000 48 (F48.fr ds) (F48.hp ds) (fun v h' => endK Tryd.prog [] .keep (F48.hp ds) (F48.fr ds) v h' K) = mm48 ds K := by kernel_rfl
noncomputable def R48 : CallT := ruleF Tryd.prog [] [] F48 mm48
theorem ok48 : CallOK Tryd.prog 48 R48 := ruleF_ok sGG47 t48
noncomputable def cs48 : List (FuncId × CallT) := (48, R48) :: cs47
theorem cs48_ok : CallsOK Tryd.prog cs48 := .cons ok48 cs47_ok
noncomputable def GG48 : Rules := mkG [37, 27] cs48 ls34_2
theorem sGG48 : Sound Tryd.prog tys GG48 := mk_sound mixed tysOK names (by kernel_rfl) cs48_ok ls34_2_ok
noncomputable def l31_4 : Nat → List Dat → Bool → List Dat → Int → Int → (List Dat → Prop) → Prop
  | 0, _, _, _, _, _, _ => False
  | fu + 1, l, hides, xs, n, n2, E0 =>
    br (decide (n2 < n)) (
     req (decide ((0 : Int) ≤ n2) && decide (n2 < (↑(List.length xs) : Int))) (
     req (decide (Int.toNat n2 < List.length xs)) (
     br (hides) (
      req (inR IntKind.i64 (n2 + (1 : Int))) (((List.length l) = List.length l ∧ l31_4 fu l (!decide (Dat.toInt (List.getD xs (Int.toNat n2) default) = (2 : Int))) xs n (n2 + (1 : Int)) E0))) (
      br (decide (Dat.toInt (List.getD xs (Int.toNat n2) default) = (1 : Int))) (
       req (inR IntKind.i64 (n2 + (1 : Int))) (((List.length l) = List.length l ∧ l31_4 fu l true xs n (n2 + (1 : Int)) E0))) (
       br (!decide (Dat.toInt (List.getD xs (Int.toNat n2) default) = (2 : Int))) (
        req (appOK l (0 : Nat) (List.length l) (1 : Nat) (4 : Nat)) (
        req (inR IntKind.i64 (n2 + (1 : Int))) (((List.length (dapp l (0 : Nat) (List.length l) [Dat.int (Dat.toInt (List.getD xs (Int.toNat n2) default))])) = List.length (dapp l (0 : Nat) (List.length l) [Dat.int (Dat.toInt (List.getD xs (Int.toNat n2) default))]) ∧ l31_4 fu (dapp l (0 : Nat) (List.length l) [Dat.int (Dat.toInt (List.getD xs (Int.toNat n2) default))]) hides xs n (n2 + (1 : Int)) E0)))) (
        req (inR IntKind.i64 (n2 + (1 : Int))) (((List.length l) = List.length l ∧ l31_4 fu l hides xs n (n2 + (1 : Int)) E0)))))))) (E0 l)
def F31_4 : AM.Form := ⟨mkF 29 [(3, .sl 0), (4, .bool), (7, .ro (.int .i32)), (8, .int .i64), (9, .int .i64)], [.seq 21 (.int .i32)]⟩
noncomputable def mm31_4 (n : Nat) (ds : List Dat) (Q : AExit → List AV → AH → Prop) : Prop := l31_4 n ((dat ds 4).toList) ((dat ds 0).toBool) ((dat ds 1).toList) ((dat ds 2).toInt) ((dat ds 3).toInt) (fun rl => Q (AExit.exit 0) (mkAV 29 [(3, .sl 0 0 rl.length)]) ⟨[.seq 21 (.int .i32) rl], []⟩)
theorem t31_4 (n : Nat) (ds : List Dat) (Q : AExit → List AV → AH → Prop) : wpA Tryd.prog tys GG48 1000 31 (theLoop Tryd.prog 31 4) (fun e f' h' => endF Tryd.prog ((fun _ => []) e) ((fun e => match e with | .normal => ⟨[3, 4, 7, 8, 9], []⟩ | .exit 0 => ⟨[3], []⟩ | _ => ⟨[], []⟩) e) ((fun e => match e with | .normal => [(3, .row 21 (.int .i32))] | .exit 0 => [(3, .row 21 (.int .i32))] | _ => []) e) (F31_4.hp ds) f' h' fun f2 h2 => match e with
      | .normal => locL F31_4 (mm31_4 n) f2 h2 Q
      | e => Q e f2 h2) (F31_4.fr ds) (F31_4.hp ds) = mm31_4 (n + 1) ds Q := by kernel_rfl
noncomputable def R31_4 : LoopT := headF Tryd.prog [] ⟨[3, 4, 7, 8, 9], []⟩ [(3, .row 21 (.int .i32))] fun f h Q => ∃ n, locL F31_4 (mm31_4 n) f h Q
theorem ok31_4 : LoopOK Tryd.prog (theLoop Tryd.prog 31 4) R31_4 := ruleL_ok sGG48 (by kernel_rfl) mm31_4 (fun _ _ => rfl) t31_4
noncomputable def ls31_4 : List (FuncId × Nat × LoopT) := (31, 4, R31_4) :: ls34_2
theorem ls31_4_ok : LoopsOK Tryd.prog ls31_4 := .cons (by kernel_rfl) ok31_4 ls34_2_ok
noncomputable def GG31_4 : Rules := mkG [37, 27] cs48 ls31_4
theorem sGG31_4 : Sound Tryd.prog tys GG31_4 := mk_sound mixed tysOK names (by kernel_rfl) cs48_ok ls31_4_ok
noncomputable def m31 (prompt : List Dat) (K : List Dat → Prop) : Prop :=
    (∃ y0, 
    (((0 : Nat) = (0 : Nat)) ∧ 
    l31_4 y0 [] false prompt (↑(List.length prompt) : Int) (0 : Int) (fun y1 => K y1)))
def F31 : AM.Form := ⟨[.ro (.int .i32)], []⟩
noncomputable def mm31 (ds : List Dat) (K : AV → AH → Prop) : Prop := m31 ((dat ds 0).toList) (fun rl => K (.sl 0 0 rl.length) ⟨[.seq 21 (.int .i32) rl], []⟩)
theorem t31 (ds : List Dat) (K : AV → AH → Prop) : callA Tryd.prog tys GG31_4 1000 31 (F31.fr ds) (F31.hp ds) (fun v h' => endK Tryd.prog [] .keep (F31.hp ds) (F31.fr ds) v h' K) = mm31 ds K := by kernel_rfl
noncomputable def R31 : CallT := ruleF Tryd.prog [(.ro (.int .i32))] [] F31 mm31
theorem ok31 : CallOK Tryd.prog 31 R31 := ruleF_ok sGG31_4 t31
noncomputable def cs31 : List (FuncId × CallT) := (31, R31) :: cs48
theorem cs31_ok : CallsOK Tryd.prog cs31 := .cons ok31 cs48_ok
noncomputable def GG31 : Rules := mkG [37, 27] cs31 ls31_4
theorem sGG31 : Sound Tryd.prog tys GG31 := mk_sound mixed tysOK names (by kernel_rfl) cs31_ok ls31_4_ok
noncomputable def l42_4 : Nat → List Dat → List Dat → Bool → Int → (List Dat → Prop) → Prop
  | 0, _, _, _, _, _ => False
  | fu + 1, l, prompt, hidden, i, E0 =>
    br (decide (i < (↑(List.length prompt) : Int))) (
     req (decide ((0 : Int) ≤ i) && decide (i < (↑(List.length prompt) : Int))) (
     req (decide (Int.toNat i < List.length prompt)) (
     br (decide (Dat.toInt (List.getD prompt (Int.toNat i) default) = (2 : Int))) (
      req (inR IntKind.i64 (i + (1 : Int))) (((List.length l) = List.length l ∧ l42_4 fu l prompt false (i + (1 : Int)) E0))) (
      br (hidden) (
       req (inR IntKind.i64 (i + (1 : Int))) (((List.length l) = List.length l ∧ l42_4 fu l prompt hidden (i + (1 : Int)) E0))) (
       req (decide ((0 : Int) ≤ i) && decide (i < (↑(List.length prompt) : Int))) (
       req (decide (Int.toNat i < List.length prompt)) (
       br (decide (Dat.toInt (List.getD prompt (Int.toNat i) default) = (1 : Int))) (
        req (inR IntKind.i64 (i + (1 : Int))) (((List.length l) = List.length l ∧ l42_4 fu l prompt true (i + (1 : Int)) E0))) (
        req (decide ((0 : Int) ≤ i) && decide (i < (↑(List.length prompt) : Int))) (
        req (decide (Int.toNat i < List.length prompt)) (
        req (appOK l (0 : Nat) (List.length l) (1 : Nat) (4 : Nat)) (
        req (inR IntKind.i64 (i + (1 : Int))) (((List.length (dapp l (0 : Nat) (List.length l) [Dat.int (Dat.toInt (List.getD prompt (Int.toNat i) default))])) = List.length (dapp l (0 : Nat) (List.length l) [Dat.int (Dat.toInt (List.getD prompt (Int.toNat i) default))]) ∧ l42_4 fu (dapp l (0 : Nat) (List.length l) [Dat.int (Dat.toInt (List.getD prompt (Int.toNat i) default))]) prompt hidden (i + (1 : Int)) E0))))))))))))) (E0 l)
def F42_4 : AM.Form := ⟨mkF 34 [(0, .ro (.int .i32)), (3, .sl 0), (4, .bool), (5, .int .i64)], [.seq 21 (.int .i32)]⟩
noncomputable def mm42_4 (n : Nat) (ds : List Dat) (Q : AExit → List AV → AH → Prop) : Prop := l42_4 n ((dat ds 3).toList) ((dat ds 0).toList) ((dat ds 1).toBool) ((dat ds 2).toInt) (fun rl => Q (AExit.exit 0) (mkAV 34 [(3, .sl 0 0 rl.length)]) ⟨[.seq 21 (.int .i32) rl], []⟩)
theorem t42_4 (n : Nat) (ds : List Dat) (Q : AExit → List AV → AH → Prop) : wpA Tryd.prog tys GG31 1000 42 (theLoop Tryd.prog 42 4) (fun e f' h' => endF Tryd.prog ((fun _ => []) e) ((fun e => match e with | .normal => ⟨[0, 3, 4, 5], []⟩ | .exit 0 => ⟨[3], []⟩ | _ => ⟨[], []⟩) e) ((fun e => match e with | .normal => [(3, .row 21 (.int .i32))] | .exit 0 => [(3, .row 21 (.int .i32))] | _ => []) e) (F42_4.hp ds) f' h' fun f2 h2 => match e with
      | .normal => locL F42_4 (mm42_4 n) f2 h2 Q
      | e => Q e f2 h2) (F42_4.fr ds) (F42_4.hp ds) = mm42_4 (n + 1) ds Q := by kernel_rfl
noncomputable def R42_4 : LoopT := headF Tryd.prog [] ⟨[0, 3, 4, 5], []⟩ [(3, .row 21 (.int .i32))] fun f h Q => ∃ n, locL F42_4 (mm42_4 n) f h Q
theorem ok42_4 : LoopOK Tryd.prog (theLoop Tryd.prog 42 4) R42_4 := ruleL_ok sGG31 (by kernel_rfl) mm42_4 (fun _ _ => rfl) t42_4
noncomputable def ls42_4 : List (FuncId × Nat × LoopT) := (42, 4, R42_4) :: ls31_4
theorem ls42_4_ok : LoopsOK Tryd.prog ls42_4 := .cons (by kernel_rfl) ok42_4 ls31_4_ok
noncomputable def GG42_4 : Rules := mkG [37, 27] cs31 ls42_4
theorem sGG42_4 : Sound Tryd.prog tys GG42_4 := mk_sound mixed tysOK names (by kernel_rfl) cs31_ok ls42_4_ok
noncomputable def m42 (prompt : List Dat) (K : List Dat → Prop) : Prop :=
    (∃ y0, 
    (((0 : Nat) = (0 : Nat)) ∧ 
    l42_4 y0 [] prompt false (0 : Int) (fun y1 => K y1)))
def F42 : AM.Form := ⟨[.ro (.int .i32)], []⟩
noncomputable def mm42 (ds : List Dat) (K : AV → AH → Prop) : Prop := m42 ((dat ds 0).toList) (fun rl => K (.sl 0 0 rl.length) ⟨[.seq 21 (.int .i32) rl], []⟩)
theorem t42 (ds : List Dat) (K : AV → AH → Prop) : callA Tryd.prog tys GG42_4 1000 42 (F42.fr ds) (F42.hp ds) (fun v h' => endK Tryd.prog [] .keep (F42.hp ds) (F42.fr ds) v h' K) = mm42 ds K := by kernel_rfl
noncomputable def R42 : CallT := ruleF Tryd.prog [(.ro (.int .i32))] [] F42 mm42
theorem ok42 : CallOK Tryd.prog 42 R42 := ruleF_ok sGG42_4 t42
noncomputable def cs42 : List (FuncId × CallT) := (42, R42) :: cs31
theorem cs42_ok : CallsOK Tryd.prog cs42 := .cons ok42 cs31_ok
noncomputable def GG42 : Rules := mkG [37, 27] cs42 ls42_4
theorem sGG42 : Sound Tryd.prog tys GG42 := mk_sound mixed tysOK names (by kernel_rfl) cs42_ok ls42_4_ok
noncomputable def m54 (r : Int) (K : Bool → Prop) : Prop :=
    m13 r (fun y0 => 
     br (decide (y0 = (0 : Int))) (
      m17 r (fun y1 => 
       br (!y1) (K (!strEq (Utf8.encode r) { data := #[(239 : UInt8), (191 : UInt8), (189 : UInt8)] })) (K false))) (K false))
def F54 : AM.Form := ⟨[.int .i32], []⟩
noncomputable def mm54 (ds : List Dat) (K : AV → AH → Prop) : Prop := m54 ((dat ds 0).toInt) (fun rb => K (.c (.bool rb)) ⟨[], []⟩)
theorem t54 (ds : List Dat) (K : AV → AH → Prop) : callA Tryd.prog tys GG42 1000 54 (F54.fr ds) (F54.hp ds) (fun v h' => endK Tryd.prog [] .keep (F54.hp ds) (F54.fr ds) v h' K) = mm54 ds K := by kernel_rfl
noncomputable def R54 : CallT := ruleF Tryd.prog [.keep] [] F54 mm54
theorem ok54 : CallOK Tryd.prog 54 R54 := ruleF_ok sGG42 t54
noncomputable def cs54 : List (FuncId × CallT) := (54, R54) :: cs42
theorem cs54_ok : CallsOK Tryd.prog cs54 := .cons ok54 cs42_ok
noncomputable def GG54 : Rules := mkG [37, 27] cs54 ls42_4
theorem sGG54 : Sound Tryd.prog tys GG54 := mk_sound mixed tysOK names (by kernel_rfl) cs54_ok ls42_4_ok
end Go.Proofs.YthegkipclogoeaaDoor

set_option linter.unusedVariables false
set_option maxRecDepth 100000
namespace Go.Proofs.YthegkipclogoeaaDoor
open Go.AM Go.LTxt Go.LMem Go.RowKit
noncomputable def m20 (s : List Dat) (K : List Dat → Prop) : Prop :=
    br (decide (List.length s = (0 : Nat))) (
     ((K []) ∧ (
      req (appOK [] (0 : Nat) (0 : Nat) (List.length s) (32 : Nat)) (K (dapp [] (0 : Nat) (0 : Nat) s))))) (
     req (appOK [] (0 : Nat) (0 : Nat) (List.length s) (32 : Nat)) (K (dapp [] (0 : Nat) (0 : Nat) s)))
def F20 : AM.Form := ⟨[.ro (.pair .str (.pair (.int .i64) (.pair (.int .i64) .unit)))], []⟩
noncomputable def mm20 (ds : List Dat) (K : AV → AH → Prop) : Prop := m20 ((dat ds 0).toList) (fun rl => K (.sl 0 0 rl.length) ⟨[.seq 37 (.pair .str (.pair (.int .i64) (.pair (.int .i64) .unit))) rl], []⟩)
theorem t20 (ds : List Dat) (K : AV → AH → Prop) : callA Tryd.prog tys GG54 1000 20 (F20.fr ds) (F20.hp ds) (fun v h' => endK Tryd.prog [] (.row 37 (.pair .str (.pair (.int .i64) (.pair (.int .i64) .unit)))) (F20.hp ds) (F20.fr ds) v h' K) = mm20 ds K := by kernel_rfl
noncomputable def R20 : CallT := ruleF Tryd.prog [(.ro (.pair .str (.pair (.int .i64) (.pair (.int .i64) .unit))))] [] F20 mm20
theorem ok20 : CallOK Tryd.prog 20 R20 := ruleF_ok sGG54 t20
noncomputable def cs20 : List (FuncId × CallT) := (20, R20) :: cs54
theorem cs20_ok : CallsOK Tryd.prog cs20 := .cons ok20 cs54_ok
noncomputable def GG20 : Rules := mkG [37, 27] cs20 ls42_4
theorem sGG20 : Sound Tryd.prog tys GG20 := mk_sound mixed tysOK names (by kernel_rfl) cs20_ok ls42_4_ok
noncomputable def l21_2 : Nat → List Dat → Int → (List Dat → Int → Prop) → Prop
  | 0, _, _, _ => False
  | fu + 1, row, n, E0 =>
    br (decide ((0 : Int) < n)) (
     req (inR IntKind.i64 (n - (1 : Int))) (
     req (decide ((0 : Int) ≤ n - (1 : Int)) && decide (n - (1 : Int) < (↑(List.length row) : Int))) (
     ((
      req (decide (Int.toNat (n - (1 : Int)) < List.length row)) (
      m47 (fun y0 y1 y2 => 
       br (!(strEq (Dat.toStr (Dat.fst (List.getD row (Int.toNat (n - (1 : Int))) default))) y0 && (decide (Dat.toInt (Dat.fst (Dat.snd (List.getD row (Int.toNat (n - (1 : Int))) default))) = y1) && (decide (Dat.toInt (Dat.fst (Dat.snd (Dat.snd (List.getD row (Int.toNat (n - (1 : Int))) default)))) = y2) && true)))) (E0 row n) (
        req (inR IntKind.i64 (n - (1 : Int))) (l21_2 fu row (n - (1 : Int)) E0))))) ∧ (
      ((
       m47 (fun y3 y4 y5 => 
        req (decide (Int.toNat (n - (1 : Int)) < List.length row)) (
        br (!(strEq (Dat.toStr (Dat.fst (List.getD row (Int.toNat (n - (1 : Int))) default))) y3 && (decide (Dat.toInt (Dat.fst (Dat.snd (List.getD row (Int.toNat (n - (1 : Int))) default))) = y4) && (decide (Dat.toInt (Dat.fst (Dat.snd (Dat.snd (List.getD row (Int.toNat (n - (1 : Int))) default)))) = y5) && true)))) (E0 row n) (
         req (inR IntKind.i64 (n - (1 : Int))) (l21_2 fu row (n - (1 : Int)) E0))))) ∧ (True))))))) (E0 row n)
def F21_2 : AM.Form := ⟨mkF 22 [(0, .ro (.pair .str (.pair (.int .i64) (.pair (.int .i64) .unit)))), (3, .int .i64)], []⟩
noncomputable def mm21_2 (n : Nat) (ds : List Dat) (Q : AExit → List AV → AH → Prop) : Prop := l21_2 n ((dat ds 0).toList) ((dat ds 1).toInt) (fun rxs rn => Q (AExit.exit 0) (mkAV 22 [(0, .ro (.pair .str (.pair (.int .i64) (.pair (.int .i64) .unit))) rxs), (3, .c (.int .i64 rn))]) ⟨[], []⟩)
theorem t21_2 (n : Nat) (ds : List Dat) (Q : AExit → List AV → AH → Prop) : wpA Tryd.prog tys GG20 1000 21 (theLoop Tryd.prog 21 2) (fun e f' h' => endF Tryd.prog ((fun _ => []) e) ((fun e => match e with | .normal => ⟨[0, 3], []⟩ | .exit 0 => ⟨[0, 3], []⟩ | _ => ⟨[], []⟩) e) ((fun e => match e with | .normal => [] | .exit 0 => [] | _ => []) e) (F21_2.hp ds) f' h' fun f2 h2 => match e with
      | .normal => locL F21_2 (mm21_2 n) f2 h2 Q
      | e => Q e f2 h2) (F21_2.fr ds) (F21_2.hp ds) = mm21_2 (n + 1) ds Q := by kernel_rfl
noncomputable def R21_2 : LoopT := headF Tryd.prog [] ⟨[0, 3], []⟩ [] fun f h Q => ∃ n, locL F21_2 (mm21_2 n) f h Q
theorem ok21_2 : LoopOK Tryd.prog (theLoop Tryd.prog 21 2) R21_2 := ruleL_ok sGG20 (by kernel_rfl) mm21_2 (fun _ _ => rfl) t21_2
noncomputable def ls21_2 : List (FuncId × Nat × LoopT) := (21, 2, R21_2) :: ls42_4
theorem ls21_2_ok : LoopsOK Tryd.prog ls21_2 := .cons (by kernel_rfl) ok21_2 ls42_4_ok
noncomputable def GG21_2 : Rules := mkG [37, 27] cs20 ls21_2
theorem sGG21_2 : Sound Tryd.prog tys GG21_2 := mk_sound mixed tysOK names (by kernel_rfl) cs20_ok ls21_2_ok
noncomputable def m21 (row : List Dat) (K : List Dat → Prop) : Prop :=
    (∃ y0, 
    l21_2 y0 row (↑(List.length row) : Int) (fun y1 y2 => 
     req (decide ((0 : Int) ≤ (0 : Int)) && decide ((0 : Int) ≤ y2) && decide (y2 ≤ y2) && decide (y2 ≤ (↑(List.length y1) : Int))) (
     m20 (List.take (Int.toNat y2 - (0 : Nat)) y1) (fun y3 => K y3))))
def F21 : AM.Form := ⟨[.ro (.pair .str (.pair (.int .i64) (.pair (.int .i64) .unit)))], []⟩
noncomputable def mm21 (ds : List Dat) (K : AV → AH → Prop) : Prop := m21 ((dat ds 0).toList) (fun rl => K (.sl 0 0 rl.length) ⟨[.seq 37 (.pair .str (.pair (.int .i64) (.pair (.int .i64) .unit))) rl], []⟩)
theorem t21 (ds : List Dat) (K : AV → AH → Prop) : callA Tryd.prog tys GG21_2 1000 21 (F21.fr ds) (F21.hp ds) (fun v h' => endK Tryd.prog [] .keep (F21.hp ds) (F21.fr ds) v h' K) = mm21 ds K := by kernel_rfl
noncomputable def R21 : CallT := ruleF Tryd.prog [(.ro (.pair .str (.pair (.int .i64) (.pair (.int .i64) .unit))))] [] F21 mm21
theorem ok21 : CallOK Tryd.prog 21 R21 := ruleF_ok sGG21_2 t21
noncomputable def cs21 : List (FuncId × CallT) := (21, R21) :: cs20
theorem cs21_ok : CallsOK Tryd.prog cs21 := .cons ok21 cs20_ok
noncomputable def GG21 : Rules := mkG [37, 27] cs21 ls21_2
theorem sGG21 : Sound Tryd.prog tys GG21 := mk_sound mixed tysOK names (by kernel_rfl) cs21_ok ls21_2_ok
noncomputable def l25_2 : Nat → List Dat → Int → (List Dat → Int → Prop) → Prop
  | 0, _, _, _ => False
  | fu + 1, row, n, E0 =>
    br (decide ((0 : Int) < n)) (
     req (inR IntKind.i64 (n - (1 : Int))) (
     req (decide ((0 : Int) ≤ n - (1 : Int)) && decide (n - (1 : Int) < (↑(List.length row) : Int))) (
     ((
      req (decide (Int.toNat (n - (1 : Int)) < List.length row)) (
      m48 (fun y0 y1 y2 => 
       br (strEq (Dat.toStr (Dat.fst (List.getD row (Int.toNat (n - (1 : Int))) default))) y0 && (decide (Dat.toInt (Dat.fst (Dat.snd (List.getD row (Int.toNat (n - (1 : Int))) default))) = y1) && (decide (Dat.toInt (Dat.fst (Dat.snd (Dat.snd (List.getD row (Int.toNat (n - (1 : Int))) default)))) = y2) && true))) (
        req (inR IntKind.i64 (n - (1 : Int))) (l25_2 fu row (n - (1 : Int)) E0)) (E0 row n)))) ∧ (
      ((
       m48 (fun y3 y4 y5 => 
        req (decide (Int.toNat (n - (1 : Int)) < List.length row)) (
        br (strEq (Dat.toStr (Dat.fst (List.getD row (Int.toNat (n - (1 : Int))) default))) y3 && (decide (Dat.toInt (Dat.fst (Dat.snd (List.getD row (Int.toNat (n - (1 : Int))) default))) = y4) && (decide (Dat.toInt (Dat.fst (Dat.snd (Dat.snd (List.getD row (Int.toNat (n - (1 : Int))) default)))) = y5) && true))) (
         req (inR IntKind.i64 (n - (1 : Int))) (l25_2 fu row (n - (1 : Int)) E0)) (E0 row n)))) ∧ (True))))))) (
     ((E0 row n) ∧ (
      ((E0 row n) ∧ (True)))))
def F25_2 : AM.Form := ⟨mkF 25 [(0, .ro (.pair .str (.pair (.int .i64) (.pair (.int .i64) .unit)))), (3, .int .i64)], []⟩
noncomputable def mm25_2 (n : Nat) (ds : List Dat) (Q : AExit → List AV → AH → Prop) : Prop := l25_2 n ((dat ds 0).toList) ((dat ds 1).toInt) (fun rxs rn => Q (AExit.exit 0) (mkAV 25 [(0, .ro (.pair .str (.pair (.int .i64) (.pair (.int .i64) .unit))) rxs), (3, .c (.int .i64 rn))]) ⟨[], []⟩)
theorem t25_2 (n : Nat) (ds : List Dat) (Q : AExit → List AV → AH → Prop) : wpA Tryd.prog tys GG21 1000 25 (theLoop Tryd.prog 25 2) (fun e f' h' => endF Tryd.prog ((fun _ => []) e) ((fun e => match e with | .normal => ⟨[0, 3], []⟩ | .exit 0 => ⟨[0, 3], []⟩ | _ => ⟨[], []⟩) e) ((fun e => match e with | .normal => [] | .exit 0 => [] | _ => []) e) (F25_2.hp ds) f' h' fun f2 h2 => match e with
      | .normal => locL F25_2 (mm25_2 n) f2 h2 Q
      | e => Q e f2 h2) (F25_2.fr ds) (F25_2.hp ds) = mm25_2 (n + 1) ds Q := by kernel_rfl
noncomputable def R25_2 : LoopT := headF Tryd.prog [] ⟨[0, 3], []⟩ [] fun f h Q => ∃ n, locL F25_2 (mm25_2 n) f h Q
theorem ok25_2 : LoopOK Tryd.prog (theLoop Tryd.prog 25 2) R25_2 := ruleL_ok sGG21 (by kernel_rfl) mm25_2 (fun _ _ => rfl) t25_2
noncomputable def ls25_2 : List (FuncId × Nat × LoopT) := (25, 2, R25_2) :: ls21_2
theorem ls25_2_ok : LoopsOK Tryd.prog ls25_2 := .cons (by kernel_rfl) ok25_2 ls21_2_ok
noncomputable def GG25_2 : Rules := mkG [37, 27] cs21 ls25_2
theorem sGG25_2 : Sound Tryd.prog tys GG25_2 := mk_sound mixed tysOK names (by kernel_rfl) cs21_ok ls25_2_ok
noncomputable def m25 (row : List Dat) (K : List Dat → Prop) : Prop :=
    (∃ y0, 
    l25_2 y0 row (↑(List.length row) : Int) (fun y1 y2 => 
     req (decide ((0 : Int) ≤ (0 : Int)) && decide ((0 : Int) ≤ y2) && decide (y2 ≤ (↑(List.length y1) : Int))) (
     req (decide (List.length (List.take (Int.toNat y2 - (0 : Nat)) y1) * (32 : Nat) ≤ (140737488351232 : Nat))) (K (List.take (Int.toNat y2 - (0 : Nat)) y1)))))
def F25 : AM.Form := ⟨[.ro (.pair .str (.pair (.int .i64) (.pair (.int .i64) .unit)))], []⟩
noncomputable def mm25 (ds : List Dat) (K : AV → AH → Prop) : Prop := m25 ((dat ds 0).toList) (fun rl => K (.sl 0 0 rl.length) ⟨[.seq 37 (.pair .str (.pair (.int .i64) (.pair (.int .i64) .unit))) rl], []⟩)
theorem t25 (ds : List Dat) (K : AV → AH → Prop) : callA Tryd.prog tys GG25_2 1000 25 (F25.fr ds) (F25.hp ds) (fun v h' => endK Tryd.prog [] .keep (F25.hp ds) (F25.fr ds) v h' K) = mm25 ds K := by kernel_rfl
noncomputable def R25 : CallT := ruleF Tryd.prog [(.ro (.pair .str (.pair (.int .i64) (.pair (.int .i64) .unit))))] [] F25 mm25
theorem ok25 : CallOK Tryd.prog 25 R25 := ruleF_ok sGG25_2 t25
noncomputable def cs25 : List (FuncId × CallT) := (25, R25) :: cs21
theorem cs25_ok : CallsOK Tryd.prog cs25 := .cons ok25 cs21_ok
noncomputable def GG25 : Rules := mkG [37, 27] cs25 ls25_2
theorem sGG25 : Sound Tryd.prog tys GG25 := mk_sound mixed tysOK names (by kernel_rfl) cs25_ok ls25_2_ok
noncomputable def l15_4 : Nat → List Dat → List Dat → Int → Int → (Prop) → (Bool → Prop) → Prop
  | 0, _, _, _, _, _, _ => False
  | fu + 1, s1, s2, n, n2, E0, R_ =>
    br (decide (n2 < n)) (
     req (decide ((0 : Int) ≤ n2) && decide (n2 < (↑(List.length s1) : Int))) (
     req (decide (Int.toNat n2 < List.length s1)) (
     req (decide ((0 : Int) ≤ n2) && decide (n2 < (↑(List.length s2) : Int))) (
     req (decide (Int.toNat n2 < List.length s2)) (
     br (!(strEq (Dat.toStr (Dat.fst (List.getD s1 (Int.toNat n2) default))) (Dat.toStr (Dat.fst (List.getD s2 (Int.toNat n2) default))) && (decide (Dat.toInt (Dat.fst (Dat.snd (List.getD s1 (Int.toNat n2) default))) = Dat.toInt (Dat.fst (Dat.snd (List.getD s2 (Int.toNat n2) default)))) && (decide (Dat.toInt (Dat.fst (Dat.snd (Dat.snd (List.getD s1 (Int.toNat n2) default)))) = Dat.toInt (Dat.fst (Dat.snd (Dat.snd (List.getD s2 (Int.toNat n2) default))))) && true)))) (R_ false) (
      req (inR IntKind.i64 (n2 + (1 : Int))) (l15_4 fu s1 s2 n (n2 + (1 : Int)) E0 R_))))))) (E0)
def F15_4 : AM.Form := ⟨mkF 26 [(0, .ro (.pair .str (.pair (.int .i64) (.pair (.int .i64) .unit)))), (1, .ro (.pair .str (.pair (.int .i64) (.pair (.int .i64) .unit)))), (12, .int .i64), (13, .int .i64)], []⟩
noncomputable def mm15_4 (n : Nat) (ds : List Dat) (Q : AExit → List AV → AH → Prop) : Prop := l15_4 n ((dat ds 0).toList) ((dat ds 1).toList) ((dat ds 2).toInt) ((dat ds 3).toInt) (Q (AExit.exit 0) (mkAV 26 []) ⟨[], []⟩) (fun rb => Q AExit.ret (mkAV 26 [(4, .c (.bool rb))]) ⟨[], []⟩)
theorem t15_4 (n : Nat) (ds : List Dat) (Q : AExit → List AV → AH → Prop) : wpA Tryd.prog tys GG25 1000 15 (theLoop Tryd.prog 15 4) (fun e f' h' => endF Tryd.prog ((fun _ => []) e) ((fun e => match e with | .normal => ⟨[0, 1, 12, 13], []⟩ | .exit 0 => ⟨[], []⟩ | .ret => ⟨[4], []⟩ | _ => ⟨[], []⟩) e) ((fun e => match e with | .normal => [] | .exit 0 => [] | .ret => [] | _ => []) e) (F15_4.hp ds) f' h' fun f2 h2 => match e with
      | .normal => locL F15_4 (mm15_4 n) f2 h2 Q
      | e => Q e f2 h2) (F15_4.fr ds) (F15_4.hp ds) = mm15_4 (n + 1) ds Q := by kernel_rfl
noncomputable def R15_4 : LoopT := headF Tryd.prog [] ⟨[0, 1, 12, 13], []⟩ [] fun f h Q => ∃ n, locL F15_4 (mm15_4 n) f h Q
theorem ok15_4 : LoopOK Tryd.prog (theLoop Tryd.prog 15 4) R15_4 := ruleL_ok sGG25 (by kernel_rfl) mm15_4 (fun _ _ => rfl) t15_4
noncomputable def ls15_4 : List (FuncId × Nat × LoopT) := (15, 4, R15_4) :: ls25_2
theorem ls15_4_ok : LoopsOK Tryd.prog ls15_4 := .cons (by kernel_rfl) ok15_4 ls25_2_ok
noncomputable def GG15_4 : Rules := mkG [37, 27] cs25 ls15_4
theorem sGG15_4 : Sound Tryd.prog tys GG15_4 := mk_sound mixed tysOK names (by kernel_rfl) cs25_ok ls15_4_ok
noncomputable def m15 (s1 : List Dat) (s2 : List Dat) (K : Bool → Prop) : Prop :=
    br (!decide ((↑(List.length s1) : Int) = (↑(List.length s2) : Int))) (K false) (
     (∃ y0, 
     l15_4 y0 s1 s2 (↑(List.length s1) : Int) (0 : Int) (K true) (fun y1 => K y1)))
def F15 : AM.Form := ⟨[.ro (.pair .str (.pair (.int .i64) (.pair (.int .i64) .unit))), .ro (.pair .str (.pair (.int .i64) (.pair (.int .i64) .unit)))], []⟩
noncomputable def mm15 (ds : List Dat) (K : AV → AH → Prop) : Prop := m15 ((dat ds 0).toList) ((dat ds 1).toList) (fun rb => K (.c (.bool rb)) ⟨[], []⟩)
theorem t15 (ds : List Dat) (K : AV → AH → Prop) : callA Tryd.prog tys GG15_4 1000 15 (F15.fr ds) (F15.hp ds) (fun v h' => endK Tryd.prog [] .keep (F15.hp ds) (F15.fr ds) v h' K) = mm15 ds K := by kernel_rfl
noncomputable def R15 : CallT := ruleF Tryd.prog [(.ro (.pair .str (.pair (.int .i64) (.pair (.int .i64) .unit)))), (.ro (.pair .str (.pair (.int .i64) (.pair (.int .i64) .unit))))] [] F15 mm15
theorem ok15 : CallOK Tryd.prog 15 R15 := ruleF_ok sGG15_4 t15
noncomputable def cs15 : List (FuncId × CallT) := (15, R15) :: cs25
theorem cs15_ok : CallsOK Tryd.prog cs15 := .cons ok15 cs25_ok
noncomputable def GG15 : Rules := mkG [37, 27] cs15 ls15_4
theorem sGG15 : Sound Tryd.prog tys GG15 := mk_sound mixed tysOK names (by kernel_rfl) cs15_ok ls15_4_ok
noncomputable def m18 (s : List Dat) (K : List Dat → Prop) : Prop :=
    br (decide (List.length s = (0 : Nat))) (
     ((K []) ∧ (
      req (appOK [] (0 : Nat) (0 : Nat) (List.length s) (4 : Nat)) (K (dapp [] (0 : Nat) (0 : Nat) s))))) (
     req (appOK [] (0 : Nat) (0 : Nat) (List.length s) (4 : Nat)) (K (dapp [] (0 : Nat) (0 : Nat) s)))
def F18 : AM.Form := ⟨[.ro (.int .i32)], []⟩
noncomputable def mm18 (ds : List Dat) (K : AV → AH → Prop) : Prop := m18 ((dat ds 0).toList) (fun rl => K (.sl 0 0 rl.length) ⟨[.seq 21 (.int .i32) rl], []⟩)
theorem t18 (ds : List Dat) (K : AV → AH → Prop) : callA Tryd.prog tys GG15 1000 18 (F18.fr ds) (F18.hp ds) (fun v h' => endK Tryd.prog [] (.row 21 (.int .i32)) (F18.hp ds) (F18.fr ds) v h' K) = mm18 ds K := by kernel_rfl
noncomputable def R18 : CallT := ruleF Tryd.prog [(.ro (.int .i32))] [] F18 mm18
theorem ok18 : CallOK Tryd.prog 18 R18 := ruleF_ok sGG15 t18
noncomputable def cs18 : List (FuncId × CallT) := (18, R18) :: cs15
theorem cs18_ok : CallsOK Tryd.prog cs18 := .cons ok18 cs15_ok
noncomputable def GG18 : Rules := mkG [37, 27] cs18 ls15_4
theorem sGG18 : Sound Tryd.prog tys GG18 := mk_sound mixed tysOK names (by kernel_rfl) cs18_ok ls15_4_ok
noncomputable def l53_2 : Nat → List Dat → Int → Int → Int → (Prop) → (Int → Prop) → Prop
  | 0, _, _, _, _, _, _ => False
  | fu + 1, s, v', n, n2, E0, R_ =>
    br (decide (n2 < n)) (
     req (decide ((0 : Int) ≤ n2) && decide (n2 < (↑(List.length s) : Int))) (
     req (decide (Int.toNat n2 < List.length s)) (
     br (decide (v' = Dat.toInt (List.getD s (Int.toNat n2) default))) (R_ n2) (
      req (inR IntKind.i64 (n2 + (1 : Int))) (l53_2 fu s v' n (n2 + (1 : Int)) E0 R_))))) (E0)
def F53_2 : AM.Form := ⟨mkF 19 [(0, .ro (.int .i32)), (1, .int .i32), (7, .int .i64), (8, .int .i64)], []⟩
noncomputable def mm53_2 (n : Nat) (ds : List Dat) (Q : AExit → List AV → AH → Prop) : Prop := l53_2 n ((dat ds 0).toList) ((dat ds 1).toInt) ((dat ds 2).toInt) ((dat ds 3).toInt) (Q (AExit.exit 0) (mkAV 19 []) ⟨[], []⟩) (fun rn => Q AExit.ret (mkAV 19 [(4, .c (.int .i64 rn))]) ⟨[], []⟩)
theorem t53_2 (n : Nat) (ds : List Dat) (Q : AExit → List AV → AH → Prop) : wpA Tryd.prog tys GG18 1000 53 (theLoop Tryd.prog 53 2) (fun e f' h' => endF Tryd.prog ((fun _ => []) e) ((fun e => match e with | .normal => ⟨[0, 1, 7, 8], []⟩ | .exit 0 => ⟨[], []⟩ | .ret => ⟨[4], []⟩ | _ => ⟨[], []⟩) e) ((fun e => match e with | .normal => [] | .exit 0 => [] | .ret => [] | _ => []) e) (F53_2.hp ds) f' h' fun f2 h2 => match e with
      | .normal => locL F53_2 (mm53_2 n) f2 h2 Q
      | e => Q e f2 h2) (F53_2.fr ds) (F53_2.hp ds) = mm53_2 (n + 1) ds Q := by kernel_rfl
noncomputable def R53_2 : LoopT := headF Tryd.prog [] ⟨[0, 1, 7, 8], []⟩ [] fun f h Q => ∃ n, locL F53_2 (mm53_2 n) f h Q
theorem ok53_2 : LoopOK Tryd.prog (theLoop Tryd.prog 53 2) R53_2 := ruleL_ok sGG18 (by kernel_rfl) mm53_2 (fun _ _ => rfl) t53_2
noncomputable def ls53_2 : List (FuncId × Nat × LoopT) := (53, 2, R53_2) :: ls15_4
theorem ls53_2_ok : LoopsOK Tryd.prog ls53_2 := .cons (by kernel_rfl) ok53_2 ls15_4_ok
noncomputable def GG53_2 : Rules := mkG [37, 27] cs18 ls53_2
theorem sGG53_2 : Sound Tryd.prog tys GG53_2 := mk_sound mixed tysOK names (by kernel_rfl) cs18_ok ls53_2_ok
noncomputable def m53 (s : List Dat) (v' : Int) (K : Int → Prop) : Prop :=
    (∃ y0, 
    l53_2 y0 s v' (↑(List.length s) : Int) (0 : Int) (K (-1 : Int)) (fun y1 => K y1))
def F53 : AM.Form := ⟨[.ro (.int .i32), .int .i32], []⟩
noncomputable def mm53 (ds : List Dat) (K : AV → AH → Prop) : Prop := m53 ((dat ds 0).toList) ((dat ds 1).toInt) (fun rn => K (.c (.int .i64 rn)) ⟨[], []⟩)
theorem t53 (ds : List Dat) (K : AV → AH → Prop) : callA Tryd.prog tys GG53_2 1000 53 (F53.fr ds) (F53.hp ds) (fun v h' => endK Tryd.prog [] .keep (F53.hp ds) (F53.fr ds) v h' K) = mm53 ds K := by kernel_rfl
noncomputable def R53 : CallT := ruleF Tryd.prog [(.ro (.int .i32)), .keep] [] F53 mm53
theorem ok53 : CallOK Tryd.prog 53 R53 := ruleF_ok sGG53_2 t53
noncomputable def cs53 : List (FuncId × CallT) := (53, R53) :: cs18
theorem cs53_ok : CallsOK Tryd.prog cs53 := .cons ok53 cs18_ok
noncomputable def GG53 : Rules := mkG [37, 27] cs53 ls53_2
theorem sGG53 : Sound Tryd.prog tys GG53 := mk_sound mixed tysOK names (by kernel_rfl) cs53_ok ls53_2_ok
end Go.Proofs.YthegkipclogoeaaDoor

set_option linter.unusedVariables false
set_option maxRecDepth 100000
namespace Go.Proofs.YthegkipclogoeaaDoor
open Go.AM Go.LTxt Go.LMem Go.RowKit
noncomputable def l40_2 : Nat → List Dat → Int → Int → (List Dat → Int → Prop) → (List Dat → Prop) → Prop
  | 0, _, _, _, _, _ => False
  | fu + 1, l, r, i, E0, R_ =>
    br (decide ((0 : Int) ≤ i)) (
     req (decide ((0 : Int) ≤ i) && decide (i < (↑(List.length l) : Int))) (
     req (decide ((0 : Nat) + Int.toNat i < List.length l)) (
     br (strEq (Dat.toStr (Dat.fst (List.getD l ((0 : Nat) + Int.toNat i) default))) { data := #[] }) (
      req (inR IntKind.i64 (i - (1 : Int))) (((List.length l) = List.length l ∧ l40_2 fu l r (i - (1 : Int)) E0 R_))) (
      req (decide ((0 : Int) ≤ i) && decide (i < (↑(List.length l) : Int))) (
      req (decide ((0 : Nat) + Int.toNat i < List.length l)) (
      br (decide ((↑(ByteArray.size (Dat.toStr (Dat.fst (List.getD l ((0 : Nat) + Int.toNat i) default)))) : Int) ≤ (32 : Int))) (
       req (decide ((0 : Int) ≤ i) && decide (i < (↑(List.length l) : Int))) (
       req (decide ((0 : Nat) + Int.toNat i < List.length l)) (
       req (decide (ByteArray.size (Dat.toStr (Dat.fst (List.getD l ((0 : Nat) + Int.toNat i) default))) + ByteArray.size (Utf8.encode r) ≤ (9223372036854775807 : Nat))) (
       req (decide ((0 : Int) ≤ i) && decide (i < (↑(List.length l) : Int))) (
       req (decide ((0 : Nat) + Int.toNat i < List.length l)) (
       req (decide ((0 : Nat) + List.length l ≤ List.length (List.set l ((0 : Nat) + Int.toNat i) (Dat.pair (Dat.str (Dat.toStr (Dat.fst (List.getD l ((0 : Nat) + Int.toNat i) default)) ++ Utf8.encode r)) (Dat.pair (Dat.int (Dat.toInt (Dat.fst (Dat.snd (List.getD l ((0 : Nat) + Int.toNat i) default))))) (Dat.pair (Dat.int (Dat.toInt (Dat.fst (Dat.snd (Dat.snd (List.getD l ((0 : Nat) + Int.toNat i) default)))))) (Dat.int (0 : Int)))))))) (R_ (dcut (List.set l ((0 : Nat) + Int.toNat i) (Dat.pair (Dat.str (Dat.toStr (Dat.fst (List.getD l ((0 : Nat) + Int.toNat i) default)) ++ Utf8.encode r)) (Dat.pair (Dat.int (Dat.toInt (Dat.fst (Dat.snd (List.getD l ((0 : Nat) + Int.toNat i) default))))) (Dat.pair (Dat.int (Dat.toInt (Dat.fst (Dat.snd (Dat.snd (List.getD l ((0 : Nat) + Int.toNat i) default)))))) (Dat.int (0 : Int)))))) (0 : Nat) (List.length l))))))))) (
       req (decide ((0 : Nat) + List.length l ≤ List.length l)) (R_ (dcut l (0 : Nat) (List.length l)))))))))) (E0 l r)
def F40_2 : AM.Form := ⟨mkF 44 [(0, .sl 0), (1, .int .i32), (5, .int .i64)], [.seq 37 (.pair .str (.pair (.int .i64) (.pair (.int .i64) .unit)))]⟩
noncomputable def mm40_2 (n : Nat) (ds : List Dat) (Q : AExit → List AV → AH → Prop) : Prop := l40_2 n ((dat ds 2).toList) ((dat ds 0).toInt) ((dat ds 1).toInt) (fun rl rn => Q (AExit.exit 0) (mkAV 44 [(0, .sl 0 0 rl.length), (1, .c (.int .i32 rn))]) ⟨[.seq 37 (.pair .str (.pair (.int .i64) (.pair (.int .i64) .unit))) rl], []⟩) (fun rl => Q AExit.ret (mkAV 44 [(4, .sl 0 0 rl.length)]) ⟨[.seq 37 (.pair .str (.pair (.int .i64) (.pair (.int .i64) .unit))) rl], []⟩)
theorem t40_2 (n : Nat) (ds : List Dat) (Q : AExit → List AV → AH → Prop) : wpA Tryd.prog tys GG53 1000 40 (theLoop Tryd.prog 40 2) (fun e f' h' => endF Tryd.prog ((fun _ => []) e) ((fun e => match e with | .normal => ⟨[0, 1, 5], []⟩ | .exit 0 => ⟨[0, 1], []⟩ | .ret => ⟨[4], []⟩ | _ => ⟨[], []⟩) e) ((fun e => match e with | .normal => [] | .exit 0 => [] | .ret => [(4, .cut 37 (.pair .str (.pair (.int .i64) (.pair (.int .i64) .unit))))] | _ => []) e) (F40_2.hp ds) f' h' fun f2 h2 => match e with
      | .normal => locL F40_2 (mm40_2 n) f2 h2 Q
      | e => Q e f2 h2) (F40_2.fr ds) (F40_2.hp ds) = mm40_2 (n + 1) ds Q := by kernel_rfl
noncomputable def R40_2 : LoopT := headF Tryd.prog [] ⟨[0, 1, 5], []⟩ [] fun f h Q => ∃ n, locL F40_2 (mm40_2 n) f h Q
theorem ok40_2 : LoopOK Tryd.prog (theLoop Tryd.prog 40 2) R40_2 := ruleL_ok sGG53 (by kernel_rfl) mm40_2 (fun _ _ => rfl) t40_2
noncomputable def ls40_2 : List (FuncId × Nat × LoopT) := (40, 2, R40_2) :: ls53_2
theorem ls40_2_ok : LoopsOK Tryd.prog ls40_2 := .cons (by kernel_rfl) ok40_2 ls53_2_ok
noncomputable def GG40_2 : Rules := mkG [37, 27] cs53 ls40_2
theorem sGG40_2 : Sound Tryd.prog tys GG40_2 := mk_sound mixed tysOK names (by kernel_rfl) cs53_ok ls40_2_ok
noncomputable def m40 (l : List Dat) (r : Int) (K : List Dat → Prop) : Prop :=
    req (inR IntKind.i64 ((↑(List.length l) : Int) - (1 : Int))) (
    (∃ y0, 
    ((List.length l = List.length l) ∧ 
    l40_2 y0 l r ((↑(List.length l) : Int) - (1 : Int)) (fun y1 y2 => 
     req (decide ((1 : Nat) + ByteArray.size (Utf8.encode y2) ≤ (9223372036854775807 : Nat))) (
     req (appOK y1 (0 : Nat) (List.length y1) (1 : Nat) (32 : Nat)) (K (dapp y1 (0 : Nat) (List.length y1) [Dat.pair (Dat.str ({ data := #[(32 : UInt8)] } ++ Utf8.encode y2)) (Dat.pair (Dat.int (1 : Int)) (Dat.pair (Dat.int (0 : Int)) (Dat.int (0 : Int))))])))) (fun y3 => K y3))))
def F40 : AM.Form := ⟨[.sl 0, .int .i32], [.seq 37 (.pair .str (.pair (.int .i64) (.pair (.int .i64) .unit)))]⟩
noncomputable def mm40 (ds : List Dat) (K : AV → AH → Prop) : Prop := m40 ((dat ds 1).toList) ((dat ds 0).toInt) (fun rl => K (.sl 1 0 rl.length) ⟨[.dead, .seq 37 (.pair .str (.pair (.int .i64) (.pair (.int .i64) .unit))) rl], []⟩)
theorem t40 (ds : List Dat) (K : AV → AH → Prop) : callA Tryd.prog tys GG40_2 1000 40 (F40.fr ds) (F40.hp ds) (fun v h' => endK Tryd.prog [] (.row 37 (.pair .str (.pair (.int .i64) (.pair (.int .i64) .unit)))) (F40.hp ds) (F40.fr ds) v h' K) = mm40 ds K := by kernel_rfl
noncomputable def R40 : CallT := ruleF Tryd.prog [.keep, .keep] [] F40 mm40
theorem ok40 : CallOK Tryd.prog 40 R40 := ruleF_ok sGG40_2 t40
noncomputable def cs40 : List (FuncId × CallT) := (40, R40) :: cs53
theorem cs40_ok : CallsOK Tryd.prog cs40 := .cons ok40 cs53_ok
noncomputable def GG40 : Rules := mkG [37, 27] cs40 ls40_2
theorem sGG40 : Sound Tryd.prog tys GG40 := mk_sound mixed tysOK names (by kernel_rfl) cs40_ok ls40_2_ok
end Go.Proofs.YthegkipclogoeaaDoor

set_option linter.unusedVariables false
set_option maxRecDepth 100000
namespace Go.Proofs.YthegkipclogoeaaDoor
open Go.AM Go.LTxt Go.LMem Go.RowKit
noncomputable def l28_4 : Nat → List Dat → List Dat → Int → Int → (Prop) → (Bool → Prop) → Prop
  | 0, _, _, _, _, _, _ => False
  | fu + 1, s1, s2, n, n2, E0, R_ =>
    br (decide (n2 < n)) (
     req (decide ((0 : Int) ≤ n2) && decide (n2 < (↑(List.length s1) : Int))) (
     req (decide (Int.toNat n2 < List.length s1)) (
     req (decide ((0 : Int) ≤ n2) && decide (n2 < (↑(List.length s2) : Int))) (
     req (decide (Int.toNat n2 < List.length s2)) (
     br (!strEq (Dat.toStr (List.getD s1 (Int.toNat n2) default)) (Dat.toStr (List.getD s2 (Int.toNat n2) default))) (R_ false) (
      req (inR IntKind.i64 (n2 + (1 : Int))) (l28_4 fu s1 s2 n (n2 + (1 : Int)) E0 R_))))))) (E0)
def F28_4 : AM.Form := ⟨mkF 26 [(0, .ro .str), (1, .ro .str), (12, .int .i64), (13, .int .i64)], []⟩
noncomputable def mm28_4 (n : Nat) (ds : List Dat) (Q : AExit → List AV → AH → Prop) : Prop := l28_4 n ((dat ds 0).toList) ((dat ds 1).toList) ((dat ds 2).toInt) ((dat ds 3).toInt) (Q (AExit.exit 0) (mkAV 26 []) ⟨[], []⟩) (fun rb => Q AExit.ret (mkAV 26 [(4, .c (.bool rb))]) ⟨[], []⟩)
theorem t28_4 (n : Nat) (ds : List Dat) (Q : AExit → List AV → AH → Prop) : wpA Tryd.prog tys GG40 1000 28 (theLoop Tryd.prog 28 4) (fun e f' h' => endF Tryd.prog ((fun _ => []) e) ((fun e => match e with | .normal => ⟨[0, 1, 12, 13], []⟩ | .exit 0 => ⟨[], []⟩ | .ret => ⟨[4], []⟩ | _ => ⟨[], []⟩) e) ((fun e => match e with | .normal => [] | .exit 0 => [] | .ret => [] | _ => []) e) (F28_4.hp ds) f' h' fun f2 h2 => match e with
      | .normal => locL F28_4 (mm28_4 n) f2 h2 Q
      | e => Q e f2 h2) (F28_4.fr ds) (F28_4.hp ds) = mm28_4 (n + 1) ds Q := by kernel_rfl
noncomputable def R28_4 : LoopT := headF Tryd.prog [] ⟨[0, 1, 12, 13], []⟩ [] fun f h Q => ∃ n, locL F28_4 (mm28_4 n) f h Q
theorem ok28_4 : LoopOK Tryd.prog (theLoop Tryd.prog 28 4) R28_4 := ruleL_ok sGG40 (by kernel_rfl) mm28_4 (fun _ _ => rfl) t28_4
noncomputable def ls28_4 : List (FuncId × Nat × LoopT) := (28, 4, R28_4) :: ls40_2
theorem ls28_4_ok : LoopsOK Tryd.prog ls28_4 := .cons (by kernel_rfl) ok28_4 ls40_2_ok
noncomputable def GG28_4 : Rules := mkG [37, 27] cs40 ls28_4
theorem sGG28_4 : Sound Tryd.prog tys GG28_4 := mk_sound mixed tysOK names (by kernel_rfl) cs40_ok ls28_4_ok
noncomputable def m28 (s1 : List Dat) (s2 : List Dat) (K : Bool → Prop) : Prop :=
    br (!decide ((↑(List.length s1) : Int) = (↑(List.length s2) : Int))) (K false) (
     (∃ y0, 
     l28_4 y0 s1 s2 (↑(List.length s1) : Int) (0 : Int) (K true) (fun y1 => K y1)))
def F28 : AM.Form := ⟨[.ro .str, .ro .str], []⟩
noncomputable def mm28 (ds : List Dat) (K : AV → AH → Prop) : Prop := m28 ((dat ds 0).toList) ((dat ds 1).toList) (fun rb => K (.c (.bool rb)) ⟨[], []⟩)
theorem t28 (ds : List Dat) (K : AV → AH → Prop) : callA Tryd.prog tys GG28_4 1000 28 (F28.fr ds) (F28.hp ds) (fun v h' => endK Tryd.prog [] .keep (F28.hp ds) (F28.fr ds) v h' K) = mm28 ds K := by kernel_rfl
noncomputable def R28 : CallT := ruleF Tryd.prog [(.ro .str), (.ro .str)] [] F28 mm28
theorem ok28 : CallOK Tryd.prog 28 R28 := ruleF_ok sGG28_4 t28
noncomputable def cs28 : List (FuncId × CallT) := (28, R28) :: cs40
theorem cs28_ok : CallsOK Tryd.prog cs28 := .cons ok28 cs40_ok
noncomputable def GG28 : Rules := mkG [37, 27] cs28 ls28_4
theorem sGG28 : Sound Tryd.prog tys GG28 := mk_sound mixed tysOK names (by kernel_rfl) cs28_ok ls28_4_ok
noncomputable def l50_5 : Nat → List Dat → List Dat → Int → (Prop) → (Bool → Prop) → Prop
  | 0, _, _, _, _, _ => False
  | fu + 1, l, l2, i, E0, R_ =>
    br (decide (i < (↑(List.length l) : Int))) (
     req (decide ((0 : Int) ≤ i) && decide (i < (↑(List.length l) : Int))) (
     req (decide ((0 : Nat) + Int.toNat i < List.length l)) (
     req (decide ((0 : Int) ≤ i) && decide (i < (↑(List.length l2) : Int))) (
     req (decide ((0 : Nat) + Int.toNat i < List.length l2)) (
     br (!(strEq (Dat.toStr (Dat.fst (List.getD l ((0 : Nat) + Int.toNat i) default))) (Dat.toStr (Dat.fst (List.getD l2 ((0 : Nat) + Int.toNat i) default))) && (decide (Dat.toInt (Dat.fst (Dat.snd (List.getD l ((0 : Nat) + Int.toNat i) default))) = Dat.toInt (Dat.fst (Dat.snd (List.getD l2 ((0 : Nat) + Int.toNat i) default)))) && (decide (Dat.toInt (Dat.fst (Dat.snd (Dat.snd (List.getD l ((0 : Nat) + Int.toNat i) default)))) = Dat.toInt (Dat.fst (Dat.snd (Dat.snd (List.getD l2 ((0 : Nat) + Int.toNat i) default))))) && true)))) (R_ false) (
      req (inR IntKind.i64 (i + (1 : Int))) (((List.length l) = List.length l ∧ ((List.length l2) = List.length l2 ∧ l50_5 fu l l2 (i + (1 : Int)) E0 R_))))))))) (E0)
def F50_5 : AM.Form := ⟨mkF 30 [(0, .sl 0), (1, .sl 1), (5, .int .i64)], [.seq 37 (.pair .str (.pair (.int .i64) (.pair (.int .i64) .unit))), .seq 37 (.pair .str (.pair (.int .i64) (.pair (.int .i64) .unit)))]⟩
noncomputable def mm50_5 (n : Nat) (ds : List Dat) (Q : AExit → List AV → AH → Prop) : Prop := l50_5 n ((dat ds 1).toList) ((dat ds 2).toList) ((dat ds 0).toInt) (Q (AExit.exit 0) (mkAV 30 []) ⟨[], []⟩) (fun rb => Q AExit.ret (mkAV 30 [(4, .c (.bool rb))]) ⟨[], []⟩)
theorem t50_5 (n : Nat) (ds : List Dat) (Q : AExit → List AV → AH → Prop) : wpA Tryd.prog tys GG28 1000 50 (theLoop Tryd.prog 50 5) (fun e f' h' => endF Tryd.prog ((fun _ => []) e) ((fun e => match e with | .normal => ⟨[0, 1, 5], []⟩ | .exit 0 => ⟨[], []⟩ | .ret => ⟨[4], []⟩ | _ => ⟨[], []⟩) e) ((fun e => match e with | .normal => [] | .exit 0 => [] | .ret => [] | _ => []) e) (F50_5.hp ds) f' h' fun f2 h2 => match e with
      | .normal => locL F50_5 (mm50_5 n) f2 h2 Q
      | e => Q e f2 h2) (F50_5.fr ds) (F50_5.hp ds) = mm50_5 (n + 1) ds Q := by kernel_rfl
noncomputable def R50_5 : LoopT := headF Tryd.prog [] ⟨[0, 1, 5], []⟩ [] fun f h Q => ∃ n, locL F50_5 (mm50_5 n) f h Q
theorem ok50_5 : LoopOK Tryd.prog (theLoop Tryd.prog 50 5) R50_5 := ruleL_ok sGG28 (by kernel_rfl) mm50_5 (fun _ _ => rfl) t50_5
noncomputable def ls50_5 : List (FuncId × Nat × LoopT) := (50, 5, R50_5) :: ls28_4
theorem ls50_5_ok : LoopsOK Tryd.prog ls50_5 := .cons (by kernel_rfl) ok50_5 ls28_4_ok
noncomputable def GG50_5 : Rules := mkG [37, 27] cs28 ls50_5
theorem sGG50_5 : Sound Tryd.prog tys GG50_5 := mk_sound mixed tysOK names (by kernel_rfl) cs28_ok ls50_5_ok
noncomputable def m50 (a : List Dat) (b : List Dat) (K : Bool → Prop) : Prop :=
    m25 a (fun y0 => 
     m25 b (fun y1 => 
      br (!decide ((↑(List.length y0) : Int) = (↑(List.length y1) : Int))) (K false) (
       (∃ y2, 
       ((List.length y0 = List.length y0) ∧ 
       ((List.length y1 = List.length y1) ∧ 
       l50_5 y2 y0 y1 (0 : Int) (K true) (fun y3 => K y3)))))))
def F50 : AM.Form := ⟨[.ro (.pair .str (.pair (.int .i64) (.pair (.int .i64) .unit))), .ro (.pair .str (.pair (.int .i64) (.pair (.int .i64) .unit)))], []⟩
noncomputable def mm50 (ds : List Dat) (K : AV → AH → Prop) : Prop := m50 ((dat ds 0).toList) ((dat ds 1).toList) (fun rb => K (.c (.bool rb)) ⟨[], []⟩)
theorem t50 (ds : List Dat) (K : AV → AH → Prop) : callA Tryd.prog tys GG50_5 1000 50 (F50.fr ds) (F50.hp ds) (fun v h' => endK Tryd.prog [] .keep (F50.hp ds) (F50.fr ds) v h' K) = mm50 ds K := by kernel_rfl
noncomputable def R50 : CallT := ruleF Tryd.prog [(.ro (.pair .str (.pair (.int .i64) (.pair (.int .i64) .unit)))), (.ro (.pair .str (.pair (.int .i64) (.pair (.int .i64) .unit))))] [] F50 mm50
theorem ok50 : CallOK Tryd.prog 50 R50 := ruleF_ok sGG50_5 t50
noncomputable def cs50 : List (FuncId × CallT) := (50, R50) :: cs28
theorem cs50_ok : CallsOK Tryd.prog cs50 := .cons ok50 cs28_ok
noncomputable def GG50 : Rules := mkG [37, 27] cs50 ls50_5
theorem sGG50 : Sound Tryd.prog tys GG50 := mk_sound mixed tysOK names (by kernel_rfl) cs50_ok ls50_5_ok
noncomputable def l49_3 : Nat → List Dat → List Dat → Int → Int → (List Dat → Prop) → Prop
  | 0, _, _, _, _, _ => False
  | fu + 1, l, xs, n, n2, E0 =>
    br (decide (n2 < n)) (
     req (decide ((0 : Int) ≤ n2) && decide (n2 < (↑(List.length xs) : Int))) (
     req (decide (Int.toNat n2 < List.length xs)) (
     m21 (Dat.toList (List.getD xs (Int.toNat n2) default)) (fun y0 => 
      req (decide ((0 : Nat) + List.length y0 ≤ List.length y0)) (
      req (appOK l (0 : Nat) (List.length l) (1 : Nat) (24 : Nat)) (
      req (inR IntKind.i64 (n2 + (1 : Int))) (((List.length (dapp l (0 : Nat) (List.length l) [Dat.list (List.take (List.length y0) y0)])) = List.length (dapp l (0 : Nat) (List.length l) [Dat.list (List.take (List.length y0) y0)]) ∧ l49_3 fu (dapp l (0 : Nat) (List.length l) [Dat.list (List.take (List.length y0) y0)]) xs n (n2 + (1 : Int)) E0)))))))) (E0 l)
def F49_3 : AM.Form := ⟨mkF 37 [(3, .sl 0), (6, .ro (.slice (.pair .str (.pair (.int .i64) (.pair (.int .i64) .unit))))), (7, .int .i64), (8, .int .i64)], [.seq 35 (.slice (.pair .str (.pair (.int .i64) (.pair (.int .i64) .unit))))]⟩
noncomputable def mm49_3 (n : Nat) (ds : List Dat) (Q : AExit → List AV → AH → Prop) : Prop := l49_3 n ((dat ds 3).toList) ((dat ds 0).toList) ((dat ds 1).toInt) ((dat ds 2).toInt) (fun rl => Q (AExit.exit 0) (mkAV 37 [(3, .sl 0 0 rl.length)]) ⟨[.seq 35 (.slice (.pair .str (.pair (.int .i64) (.pair (.int .i64) .unit)))) rl], []⟩)
theorem t49_3 (n : Nat) (ds : List Dat) (Q : AExit → List AV → AH → Prop) : wpA Tryd.prog tys GG50 1000 49 (theLoop Tryd.prog 49 3) (fun e f' h' => endF Tryd.prog ((fun _ => []) e) ((fun e => match e with | .normal => ⟨[3, 6, 7, 8], []⟩ | .exit 0 => ⟨[3], []⟩ | _ => ⟨[], []⟩) e) ((fun e => match e with | .normal => [(3, .row 35 (.slice (.pair .str (.pair (.int .i64) (.pair (.int .i64) .unit)))))] | .exit 0 => [(3, .row 35 (.slice (.pair .str (.pair (.int .i64) (.pair (.int .i64) .unit)))))] | _ => []) e) (F49_3.hp ds) f' h' fun f2 h2 => match e with
      | .normal => locL F49_3 (mm49_3 n) f2 h2 Q
      | e => Q e f2 h2) (F49_3.fr ds) (F49_3.hp ds) = mm49_3 (n + 1) ds Q := by kernel_rfl
noncomputable def R49_3 : LoopT := headF Tryd.prog [] ⟨[3, 6, 7, 8], []⟩ [(3, .row 35 (.slice (.pair .str (.pair (.int .i64) (.pair (.int .i64) .unit)))))] fun f h Q => ∃ n, locL F49_3 (mm49_3 n) f h Q
theorem ok49_3 : LoopOK Tryd.prog (theLoop Tryd.prog 49 3) R49_3 := ruleL_ok sGG50 (by kernel_rfl) mm49_3 (fun _ _ => rfl) t49_3
noncomputable def ls49_3 : List (FuncId × Nat × LoopT) := (49, 3, R49_3) :: ls50_5
theorem ls49_3_ok : LoopsOK Tryd.prog ls49_3 := .cons (by kernel_rfl) ok49_3 ls50_5_ok
noncomputable def GG49_3 : Rules := mkG [37, 27] cs50 ls49_3
theorem sGG49_3 : Sound Tryd.prog tys GG49_3 := mk_sound mixed tysOK names (by kernel_rfl) cs50_ok ls49_3_ok
noncomputable def l49_7 : Nat → List Dat → (List Dat → Prop) → Prop
  | 0, _, _ => False
  | fu + 1, l, E2 =>
    br (decide ((0 : Int) < (↑(List.length l) : Int))) (
     req (inR IntKind.i64 ((↑(List.length l) : Int) - (1 : Int))) (
     req (decide ((0 : Int) ≤ (↑(List.length l) : Int) - (1 : Int)) && decide ((↑(List.length l) : Int) - (1 : Int) < (↑(List.length l) : Int))) (
     req (decide ((0 : Nat) + Int.toNat ((↑(List.length l) : Int) - (1 : Int)) < List.length l)) (
     br (decide ((↑(List.length (Dat.toList (List.getD l ((0 : Nat) + Int.toNat ((↑(List.length l) : Int) - (1 : Int))) default))) : Int) = (0 : Int))) (
      req (inR IntKind.i64 ((↑(List.length l) : Int) - (1 : Int))) (
      req (decide ((0 : Int) ≤ (0 : Int)) && decide ((0 : Int) ≤ (↑(List.length l) : Int) - (1 : Int)) && decide ((↑(List.length l) : Int) - (1 : Int) ≤ (↑(List.length l) : Int))) (
      req (decide ((0 : Nat) + (Int.toNat ((↑(List.length l) : Int) - (1 : Int)) - (0 : Nat)) ≤ List.length l)) (((List.length (dcut l (0 : Nat) (Int.toNat ((↑(List.length l) : Int) - (1 : Int)) - (0 : Nat)))) = List.length (dcut l (0 : Nat) (Int.toNat ((↑(List.length l) : Int) - (1 : Int)) - (0 : Nat))) ∧ l49_7 fu (dcut l (0 : Nat) (Int.toNat ((↑(List.length l) : Int) - (1 : Int)) - (0 : Nat))) E2))))) (
      req (decide ((0 : Nat) + List.length l ≤ List.length l)) (E2 (dcut l (0 : Nat) (List.length l)))))))) (
     req (decide ((0 : Nat) + List.length l ≤ List.length l)) (E2 (dcut l (0 : Nat) (List.length l))))
def F49_7 : AM.Form := ⟨mkF 37 [(3, .sl 0)], [.seq 35 (.slice (.pair .str (.pair (.int .i64) (.pair (.int .i64) .unit))))]⟩
noncomputable def mm49_7 (n : Nat) (ds : List Dat) (Q : AExit → List AV → AH → Prop) : Prop := l49_7 n ((dat ds 0).toList) (fun rl => Q (AExit.exit 2) (mkAV 37 [(3, .sl 0 0 rl.length)]) ⟨[.seq 35 (.slice (.pair .str (.pair (.int .i64) (.pair (.int .i64) .unit)))) rl], []⟩)
theorem t49_7 (n : Nat) (ds : List Dat) (Q : AExit → List AV → AH → Prop) : wpA Tryd.prog tys GG49_3 1000 49 (theLoop Tryd.prog 49 7) (fun e f' h' => endF Tryd.prog ((fun _ => []) e) ((fun e => match e with | .normal => ⟨[3], []⟩ | .exit 2 => ⟨[3], []⟩ | _ => ⟨[], []⟩) e) ((fun e => match e with | .normal => [(3, .cut 35 (.slice (.pair .str (.pair (.int .i64) (.pair (.int .i64) .unit)))))] | .exit 2 => [(3, .cut 35 (.slice (.pair .str (.pair (.int .i64) (.pair (.int .i64) .unit)))))] | _ => []) e) (F49_7.hp ds) f' h' fun f2 h2 => match e with
      | .normal => locL F49_7 (mm49_7 n) f2 h2 Q
      | e => Q e f2 h2) (F49_7.fr ds) (F49_7.hp ds) = mm49_7 (n + 1) ds Q := by kernel_rfl
noncomputable def R49_7 : LoopT := headF Tryd.prog [] ⟨[3], []⟩ [(3, .cut 35 (.slice (.pair .str (.pair (.int .i64) (.pair (.int .i64) .unit)))))] fun f h Q => ∃ n, locL F49_7 (mm49_7 n) f h Q
theorem ok49_7 : LoopOK Tryd.prog (theLoop Tryd.prog 49 7) R49_7 := ruleL_ok sGG49_3 (by kernel_rfl) mm49_7 (fun _ _ => rfl) t49_7
noncomputable def ls49_7 : List (FuncId × Nat × LoopT) := (49, 7, R49_7) :: ls49_3
theorem ls49_7_ok : LoopsOK Tryd.prog ls49_7 := .cons (by kernel_rfl) ok49_7 ls49_3_ok
noncomputable def GG49_7 : Rules := mkG [37, 27] cs50 ls49_7
theorem sGG49_7 : Sound Tryd.prog tys GG49_7 := mk_sound mixed tysOK names (by kernel_rfl) cs50_ok ls49_7_ok
noncomputable def m49 (rows : List Dat) (K : List Dat → Prop) : Prop :=
    (∃ y0, 
    (((0 : Nat) = (0 : Nat)) ∧ 
    l49_3 y0 [] rows (↑(List.length rows) : Int) (0 : Int) (fun y1 => 
     req (decide ((0 : Nat) + List.length y1 ≤ List.length y1)) (
     (∃ y2, 
     ((List.length (dcut y1 (0 : Nat) (List.length y1)) = List.length (dcut y1 (0 : Nat) (List.length y1))) ∧ 
     l49_7 y2 (dcut y1 (0 : Nat) (List.length y1)) (fun y3 => K y3)))))))
def F49 : AM.Form := ⟨[.ro (.slice (.pair .str (.pair (.int .i64) (.pair (.int .i64) .unit))))], []⟩
noncomputable def mm49 (ds : List Dat) (K : AV → AH → Prop) : Prop := m49 ((dat ds 0).toList) (fun rl => K (.sl 0 0 rl.length) ⟨[.seq 35 (.slice (.pair .str (.pair (.int .i64) (.pair (.int .i64) .unit)))) rl], []⟩)
theorem t49 (ds : List Dat) (K : AV → AH → Prop) : callA Tryd.prog tys GG49_7 1000 49 (F49.fr ds) (F49.hp ds) (fun v h' => endK Tryd.prog [] .keep (F49.hp ds) (F49.fr ds) v h' K) = mm49 ds K := by kernel_rfl
noncomputable def R49 : CallT := ruleF Tryd.prog [(.ro (.slice (.pair .str (.pair (.int .i64) (.pair (.int .i64) .unit)))))] [] F49 mm49
theorem ok49 : CallOK Tryd.prog 49 R49 := ruleF_ok sGG49_7 t49
noncomputable def cs49 : List (FuncId × CallT) := (49, R49) :: cs50
theorem cs49_ok : CallsOK Tryd.prog cs49 := .cons ok49 cs50_ok
noncomputable def GG49 : Rules := mkG [37, 27] cs49 ls49_7
theorem sGG49 : Sound Tryd.prog tys GG49 := mk_sound mixed tysOK names (by kernel_rfl) cs49_ok ls49_7_ok
end Go.Proofs.YthegkipclogoeaaDoor

set_option linter.unusedVariables false
set_option maxRecDepth 100000
namespace Go.Proofs.YthegkipclogoeaaDoor
open Go.AM Go.LTxt Go.LMem Go.RowKit
structure C27 where
  row : Int
  col : Int
structure C37 where
  text : ByteArray
  width : Int
  attr : Int
noncomputable def p37_r8 (c : C27) (c2 : C27) (c3 : C37) (v : Int) (ls : List Dat) (l : List Dat) (cells : List Dat) (cursor : Int) (i : Int) (xs : List Dat) (n : Int) (n2 : Int) (E0 : C27 → C27 → C37 → Int → List Dat → List Dat → List Dat → Int → Int → List Dat → Int → Int → Bool → Prop) : Prop :=
    br (decide (C37.width c3 = (2 : Int))) (
     ((
      req (inR IntKind.i64 ((↑(List.length ls + (1 : Nat)) : Int) - (1 : Int))) (
      req (decide ((0 : Int) ≤ (↑(List.length ls + (1 : Nat)) : Int) - (1 : Int)) && decide ((↑(List.length ls + (1 : Nat)) : Int) - (1 : Int) < (↑(List.length ls + (1 : Nat)) : Int))) (
      req (decide ((0 : Nat) + Int.toNat ((↑(List.length ls + (1 : Nat)) : Int) - (1 : Int)) = List.length ls)) (
      req (inR IntKind.i64 (v - (1 : Int))) (E0 c c2 c3 v ls l cells cursor i xs n n2 (decide ((↑(List.length l) : Int) = v - (1 : Int)))))))) ∧ (
      ((
       req (inR IntKind.i64 ((↑(List.length ls + (1 : Nat)) : Int) - (1 : Int))) (
       req (decide ((0 : Int) ≤ (↑(List.length ls + (1 : Nat)) : Int) - (1 : Int)) && decide ((↑(List.length ls + (1 : Nat)) : Int) - (1 : Int) < (↑(List.length ls + (1 : Nat)) : Int))) (
       req (decide ((0 : Nat) + Int.toNat ((↑(List.length ls + (1 : Nat)) : Int) - (1 : Int)) = List.length ls)) (
       req (inR IntKind.i64 (v - (1 : Int))) (E0 c c2 c3 v ls l cells cursor i xs n n2 (decide ((↑(List.length l) : Int) = v - (1 : Int)))))))) ∧ (True))))) (
     ((E0 c c2 c3 v ls l cells cursor i xs n n2 false) ∧ (
      ((E0 c c2 c3 v ls l cells cursor i xs n n2 false) ∧ (True)))))
def F37_r8 : AM.Form := ⟨mkF 105 [(0, .ro (.pair .str (.pair (.int .i64) (.pair (.int .i64) .unit)))), (2, .int .i64), (4, .p 0 0), (7, .p 1 0), (8, .p 2 0), (9, .p 5 0), (10, .fn 55 [.p 2 0]), (11, .fn 56 [.p 2 0, .p 0 0]), (12, .int .i64), (13, .p 6 0), (19, .ro (.pair .str (.pair (.int .i64) (.pair (.int .i64) .unit)))), (20, .int .i64), (21, .int .i64)], [.cells 3 [.int .i64], .cells 27 [.int .i64, .int .i64], .cells 25 [.sl 3], .mix 35 (.pair .str (.pair (.int .i64) (.pair (.int .i64) .unit))) (.sl 4), .seq 37 (.pair .str (.pair (.int .i64) (.pair (.int .i64) .unit))), .cells 27 [.int .i64, .int .i64], .cells 37 [.str, .int .i64, .int .i64]]⟩
noncomputable def mm37_r8 (ds : List Dat) (Q : AExit → List AV → AH → Prop) : Prop := p37_r8 ⟨(dat ds 7).toInt, (dat ds 8).toInt⟩ ⟨(dat ds 11).toInt, (dat ds 12).toInt⟩ ⟨(dat ds 13).toStr, (dat ds 14).toInt, (dat ds 15).toInt⟩ ((dat ds 6).toInt) ((dat ds 9).toList) ((dat ds 10).toList) ((dat ds 0).toList) ((dat ds 1).toInt) ((dat ds 2).toInt) ((dat ds 3).toList) ((dat ds 4).toInt) ((dat ds 5).toInt) (fun rc rc2 rc3 rv rls rl rxs rn rn2 rxs2 rn3 rn4 rb => Q .normal (mkAV 105 [(0, .ro (.pair .str (.pair (.int .i64) (.pair (.int .i64) .unit))) rxs), (2, .c (.int .i64 rn)), (4, .p 0 0), (7, .p 1 0), (8, .p 2 0), (9, .p 5 0), (10, .fn 55 [.p 2 0]), (11, .fn 56 [.p 2 0, .p 0 0]), (12, .c (.int .i64 rn2)), (13, .p 6 0), (19, .ro (.pair .str (.pair (.int .i64) (.pair (.int .i64) .unit))) rxs2), (20, .c (.int .i64 rn3)), (21, .c (.int .i64 rn4)), (38, .c (.bool rb))]) ⟨[.cells 3 [.c (.int .i64 rv)], .cells 27 [.c (.int .i64 rc.row), .c (.int .i64 rc.col)], .cells 25 [.sl 3 0 (rls.length + 1)], .mix 35 (.pair .str (.pair (.int .i64) (.pair (.int .i64) .unit))) rls (.sl 4 0 rl.length), .seq 37 (.pair .str (.pair (.int .i64) (.pair (.int .i64) .unit))) rl, .cells 27 [.c (.int .i64 rc2.row), .c (.int .i64 rc2.col)], .cells 37 [.c (.string rc3.text), .c (.int .i64 rc3.width), .c (.int .i64 rc3.attr)]], []⟩)
theorem t37_r8 (ds : List Dat) (Q : AExit → List AV → AH → Prop) : wpA Tryd.prog tys GG49 1000 37 (theReg Tryd.prog 37 8) (fun e f' h' => endF Tryd.prog ((fun _ => []) e) ((fun _ => ⟨[0, 2, 4, 7, 8, 9, 10, 11, 12, 13, 19, 20, 21, 38], []⟩) e) ((fun _ => []) e) (F37_r8.hp ds) f' h' fun f2 h2 => Q e f2 h2) (F37_r8.fr ds) (F37_r8.hp ds) = mm37_r8 ds Q := by kernel_rfl
noncomputable def R37_r8 : LoopT := headF Tryd.prog [] ⟨[0, 2, 4, 7, 8, 9, 10, 11, 12, 13, 19, 20, 21], []⟩ [] (locL F37_r8 mm37_r8)
theorem ok37_r8 : RegOK Tryd.prog (theReg Tryd.prog 37 8) R37_r8 := ruleP_ok sGG49 (by kernel_rfl) mm37_r8 t37_r8
noncomputable def rs37_r8 : List (FuncId × Nat × LoopT) := (37, 8, R37_r8) :: []
theorem rs37_r8_ok : RegsOK Tryd.prog rs37_r8 := .cons (by kernel_rfl) ok37_r8 .nil
noncomputable def GG37_r8 : Rules := mkG [37, 27] cs49 ls49_7 rs37_r8
theorem sGG37_r8 : Sound Tryd.prog tys GG37_r8 := mk_sound mixed tysOK names (by kernel_rfl) cs49_ok ls49_7_ok rs37_r8_ok
noncomputable def p37_r9 (c : C27) (c2 : C27) (c3 : C37) (v : Int) (ls : List Dat) (l : List Dat) (cells : List Dat) (cursor : Int) (i : Int) (xs : List Dat) (n : Int) (n2 : Int) (E0 : C27 → C27 → C37 → Int → List Dat → List Dat → List Dat → Int → Int → List Dat → Int → Int → Prop) : Prop :=
    req (inR IntKind.i64 ((↑(List.length ls + (1 : Nat)) : Int) - (1 : Int))) (
    req (decide ((0 : Int) ≤ (↑(List.length ls + (1 : Nat)) : Int) - (1 : Int)) && decide ((↑(List.length ls + (1 : Nat)) : Int) - (1 : Int) < (↑(List.length ls + (1 : Nat)) : Int))) (
    req (inR IntKind.i64 ((↑(List.length ls + (1 : Nat)) : Int) - (1 : Int))) (
    req (decide ((0 : Int) ≤ (↑(List.length ls + (1 : Nat)) : Int) - (1 : Int)) && decide ((↑(List.length ls + (1 : Nat)) : Int) - (1 : Int) < (↑(List.length ls + (1 : Nat)) : Int))) (
    ((
     req (decide ((0 : Nat) + Int.toNat ((↑(List.length ls + (1 : Nat)) : Int) - (1 : Int)) = List.length ls)) (
     m47 (fun y0 y1 y2 => 
      req (appOK l (0 : Nat) (List.length l) (1 : Nat) (32 : Nat)) (
      req (decide ((0 : Nat) + Int.toNat ((↑(List.length ls + (1 : Nat)) : Int) - (1 : Int)) = List.length ls)) (E0 c c2 c3 v ls (dapp l (0 : Nat) (List.length l) [Dat.pair (Dat.str y0) (Dat.pair (Dat.int y1) (Dat.pair (Dat.int y2) (Dat.int (0 : Int))))]) cells cursor i xs n n2))))) ∧ (
     ((
      m47 (fun y3 y4 y5 => 
       ((
        req (decide ((0 : Nat) + Int.toNat ((↑(List.length ls + (1 : Nat)) : Int) - (1 : Int)) = List.length ls)) (
        req (appOK l (0 : Nat) (List.length l) (1 : Nat) (32 : Nat)) (
        req (decide ((0 : Nat) + Int.toNat ((↑(List.length ls + (1 : Nat)) : Int) - (1 : Int)) = List.length ls)) (E0 c c2 c3 v ls (dapp l (0 : Nat) (List.length l) [Dat.pair (Dat.str y3) (Dat.pair (Dat.int y4) (Dat.pair (Dat.int y5) (Dat.int (0 : Int))))]) cells cursor i xs n n2)))) ∧ (
        ((
         req (decide ((0 : Nat) + Int.toNat ((↑(List.length ls + (1 : Nat)) : Int) - (1 : Int)) = List.length ls)) (
         req (appOK l (0 : Nat) (List.length l) (1 : Nat) (32 : Nat)) (
         req (decide ((0 : Nat) + Int.toNat ((↑(List.length ls + (1 : Nat)) : Int) - (1 : Int)) = List.length ls)) (E0 c c2 c3 v ls (dapp l (0 : Nat) (List.length l) [Dat.pair (Dat.str y3) (Dat.pair (Dat.int y4) (Dat.pair (Dat.int y5) (Dat.int (0 : Int))))]) cells cursor i xs n n2)))) ∧ (True)))))) ∧ (True))))))))
def F37_r9 : AM.Form := ⟨mkF 105 [(0, .ro (.pair .str (.pair (.int .i64) (.pair (.int .i64) .unit)))), (2, .int .i64), (4, .p 0 0), (7, .p 1 0), (8, .p 2 0), (9, .p 5 0), (10, .fn 55 [.p 2 0]), (11, .fn 56 [.p 2 0, .p 0 0]), (12, .int .i64), (13, .p 6 0), (19, .ro (.pair .str (.pair (.int .i64) (.pair (.int .i64) .unit)))), (20, .int .i64), (21, .int .i64)], [.cells 3 [.int .i64], .cells 27 [.int .i64, .int .i64], .cells 25 [.sl 3], .mix 35 (.pair .str (.pair (.int .i64) (.pair (.int .i64) .unit))) (.sl 4), .seq 37 (.pair .str (.pair (.int .i64) (.pair (.int .i64) .unit))), .cells 27 [.int .i64, .int .i64], .cells 37 [.str, .int .i64, .int .i64]]⟩
noncomputable def mm37_r9 (ds : List Dat) (Q : AExit → List AV → AH → Prop) : Prop := p37_r9 ⟨(dat ds 7).toInt, (dat ds 8).toInt⟩ ⟨(dat ds 11).toInt, (dat ds 12).toInt⟩ ⟨(dat ds 13).toStr, (dat ds 14).toInt, (dat ds 15).toInt⟩ ((dat ds 6).toInt) ((dat ds 9).toList) ((dat ds 10).toList) ((dat ds 0).toList) ((dat ds 1).toInt) ((dat ds 2).toInt) ((dat ds 3).toList) ((dat ds 4).toInt) ((dat ds 5).toInt) (fun rc rc2 rc3 rv rls rl rxs rn rn2 rxs2 rn3 rn4 => Q .normal (mkAV 105 [(0, .ro (.pair .str (.pair (.int .i64) (.pair (.int .i64) .unit))) rxs), (2, .c (.int .i64 rn)), (4, .p 0 0), (7, .p 1 0), (8, .p 2 0), (9, .p 5 0), (10, .fn 55 [.p 2 0]), (11, .fn 56 [.p 2 0, .p 0 0]), (12, .c (.int .i64 rn2)), (13, .p 6 0), (19, .ro (.pair .str (.pair (.int .i64) (.pair (.int .i64) .unit))) rxs2), (20, .c (.int .i64 rn3)), (21, .c (.int .i64 rn4))]) ⟨[.cells 3 [.c (.int .i64 rv)], .cells 27 [.c (.int .i64 rc.row), .c (.int .i64 rc.col)], .cells 25 [.sl 3 0 (rls.length + 1)], .mix 35 (.pair .str (.pair (.int .i64) (.pair (.int .i64) .unit))) rls (.sl 4 0 rl.length), .seq 37 (.pair .str (.pair (.int .i64) (.pair (.int .i64) .unit))) rl, .cells 27 [.c (.int .i64 rc2.row), .c (.int .i64 rc2.col)], .cells 37 [.c (.string rc3.text), .c (.int .i64 rc3.width), .c (.int .i64 rc3.attr)]], []⟩)
theorem t37_r9 (ds : List Dat) (Q : AExit → List AV → AH → Prop) : wpA Tryd.prog tys GG37_r8 1000 37 (theReg Tryd.prog 37 9) (fun e f' h' => endF Tryd.prog ((fun _ => []) e) ((fun _ => ⟨[0, 2, 4, 7, 8, 9, 10, 11, 12, 13, 19, 20, 21], []⟩) e) ((fun _ => []) e) (F37_r9.hp ds) f' h' fun f2 h2 => Q e f2 h2) (F37_r9.fr ds) (F37_r9.hp ds) = mm37_r9 ds Q := by kernel_rfl
noncomputable def R37_r9 : LoopT := headF Tryd.prog [] ⟨[0, 2, 4, 7, 8, 9, 10, 11, 12, 13, 19, 20, 21], []⟩ [] (locL F37_r9 mm37_r9)
theorem ok37_r9 : RegOK Tryd.prog (theReg Tryd.prog 37 9) R37_r9 := ruleP_ok sGG37_r8 (by kernel_rfl) mm37_r9 t37_r9
noncomputable def rs37_r9 : List (FuncId × Nat × LoopT) := (37, 9, R37_r9) :: rs37_r8
theorem rs37_r9_ok : RegsOK Tryd.prog rs37_r9 := .cons (by kernel_rfl) ok37_r9 rs37_r8_ok
noncomputable def GG37_r9 : Rules := mkG [37, 27] cs49 ls49_7 rs37_r9
theorem sGG37_r9 : Sound Tryd.prog tys GG37_r9 := mk_sound mixed tysOK names (by kernel_rfl) cs49_ok ls49_7_ok rs37_r9_ok
noncomputable def p37_r10 (c : C27) (c2 : C27) (c3 : C37) (v : Int) (ls : List Dat) (l : List Dat) (cells : List Dat) (cursor : Int) (i : Int) (xs : List Dat) (n : Int) (n2 : Int) (E0 : C27 → C27 → C37 → Int → List Dat → List Dat → List Dat → Int → Int → List Dat → Int → Int → Bool → Prop) : Prop :=
    ((
     req (inR IntKind.i64 ((↑(List.length ls + (1 : Nat)) : Int) - (1 : Int))) (
     req (decide ((0 : Int) ≤ (↑(List.length ls + (1 : Nat)) : Int) - (1 : Int)) && decide ((↑(List.length ls + (1 : Nat)) : Int) - (1 : Int) < (↑(List.length ls + (1 : Nat)) : Int))) (
     req (decide ((0 : Nat) + Int.toNat ((↑(List.length ls + (1 : Nat)) : Int) - (1 : Int)) = List.length ls)) (E0 c c2 c3 v ls l cells cursor i xs n n2 (decide ((↑(List.length l) : Int) = v)))))) ∧ (
     ((
      req (inR IntKind.i64 ((↑(List.length ls + (1 : Nat)) : Int) - (1 : Int))) (
      req (decide ((0 : Int) ≤ (↑(List.length ls + (1 : Nat)) : Int) - (1 : Int)) && decide ((↑(List.length ls + (1 : Nat)) : Int) - (1 : Int) < (↑(List.length ls + (1 : Nat)) : Int))) (
      req (decide ((0 : Nat) + Int.toNat ((↑(List.length ls + (1 : Nat)) : Int) - (1 : Int)) = List.length ls)) (E0 c c2 c3 v ls l cells cursor i xs n n2 (decide ((↑(List.length l) : Int) = v)))))) ∧ (True))))
def F37_r10 : AM.Form := ⟨mkF 105 [(0, .ro (.pair .str (.pair (.int .i64) (.pair (.int .i64) .unit)))), (2, .int .i64), (4, .p 0 0), (7, .p 1 0), (8, .p 2 0), (9, .p 5 0), (10, .fn 55 [.p 2 0]), (11, .fn 56 [.p 2 0, .p 0 0]), (12, .int .i64), (13, .p 6 0), (19, .ro (.pair .str (.pair (.int .i64) (.pair (.int .i64) .unit)))), (20, .int .i64), (21, .int .i64)], [.cells 3 [.int .i64], .cells 27 [.int .i64, .int .i64], .cells 25 [.sl 3], .mix 35 (.pair .str (.pair (.int .i64) (.pair (.int .i64) .unit))) (.sl 4), .seq 37 (.pair .str (.pair (.int .i64) (.pair (.int .i64) .unit))), .cells 27 [.int .i64, .int .i64], .cells 37 [.str, .int .i64, .int .i64]]⟩
noncomputable def mm37_r10 (ds : List Dat) (Q : AExit → List AV → AH → Prop) : Prop := p37_r10 ⟨(dat ds 7).toInt, (dat ds 8).toInt⟩ ⟨(dat ds 11).toInt, (dat ds 12).toInt⟩ ⟨(dat ds 13).toStr, (dat ds 14).toInt, (dat ds 15).toInt⟩ ((dat ds 6).toInt) ((dat ds 9).toList) ((dat ds 10).toList) ((dat ds 0).toList) ((dat ds 1).toInt) ((dat ds 2).toInt) ((dat ds 3).toList) ((dat ds 4).toInt) ((dat ds 5).toInt) (fun rc rc2 rc3 rv rls rl rxs rn rn2 rxs2 rn3 rn4 rb => Q .normal (mkAV 105 [(0, .ro (.pair .str (.pair (.int .i64) (.pair (.int .i64) .unit))) rxs), (2, .c (.int .i64 rn)), (4, .p 0 0), (7, .p 1 0), (8, .p 2 0), (9, .p 5 0), (10, .fn 55 [.p 2 0]), (11, .fn 56 [.p 2 0, .p 0 0]), (12, .c (.int .i64 rn2)), (13, .p 6 0), (19, .ro (.pair .str (.pair (.int .i64) (.pair (.int .i64) .unit))) rxs2), (20, .c (.int .i64 rn3)), (21, .c (.int .i64 rn4)), (55, .c (.bool rb))]) ⟨[.cells 3 [.c (.int .i64 rv)], .cells 27 [.c (.int .i64 rc.row), .c (.int .i64 rc.col)], .cells 25 [.sl 3 0 (rls.length + 1)], .mix 35 (.pair .str (.pair (.int .i64) (.pair (.int .i64) .unit))) rls (.sl 4 0 rl.length), .seq 37 (.pair .str (.pair (.int .i64) (.pair (.int .i64) .unit))) rl, .cells 27 [.c (.int .i64 rc2.row), .c (.int .i64 rc2.col)], .cells 37 [.c (.string rc3.text), .c (.int .i64 rc3.width), .c (.int .i64 rc3.attr)]], []⟩)
theorem t37_r10 (ds : List Dat) (Q : AExit → List AV → AH → Prop) : wpA Tryd.prog tys GG37_r9 1000 37 (theReg Tryd.prog 37 10) (fun e f' h' => endF Tryd.prog ((fun _ => []) e) ((fun _ => ⟨[0, 2, 4, 7, 8, 9, 10, 11, 12, 13, 19, 20, 21, 55], []⟩) e) ((fun _ => []) e) (F37_r10.hp ds) f' h' fun f2 h2 => Q e f2 h2) (F37_r10.fr ds) (F37_r10.hp ds) = mm37_r10 ds Q := by kernel_rfl
noncomputable def R37_r10 : LoopT := headF Tryd.prog [] ⟨[0, 2, 4, 7, 8, 9, 10, 11, 12, 13, 19, 20, 21], []⟩ [] (locL F37_r10 mm37_r10)
theorem ok37_r10 : RegOK Tryd.prog (theReg Tryd.prog 37 10) R37_r10 := ruleP_ok sGG37_r9 (by kernel_rfl) mm37_r10 t37_r10
noncomputable def rs37_r10 : List (FuncId × Nat × LoopT) := (37, 10, R37_r10) :: rs37_r9
theorem rs37_r10_ok : RegsOK Tryd.prog rs37_r10 := .cons (by kernel_rfl) ok37_r10 rs37_r9_ok
noncomputable def GG37_r10 : Rules := mkG [37, 27] cs49 ls49_7 rs37_r10
theorem sGG37_r10 : Sound Tryd.prog tys GG37_r10 := mk_sound mixed tysOK names (by kernel_rfl) cs49_ok ls49_7_ok rs37_r10_ok
noncomputable def p37_r13 (c : C27) (c2 : C27) (c3 : C37) (v : Int) (ls : List Dat) (l : List Dat) (cells : List Dat) (cursor : Int) (xs : List Dat) (n : Int) (n2 : Int) (E0 : C27 → C27 → C37 → Int → List Dat → List Dat → List Dat → Int → List Dat → Int → Int → Prop) : Prop :=
    ((
     req (inR IntKind.i64 ((↑(List.length ls + (1 : Nat)) : Int) - (1 : Int))) (
     req (inR IntKind.i64 ((↑(List.length ls + (1 : Nat)) : Int) - (1 : Int))) (
     req (decide ((0 : Int) ≤ (↑(List.length ls + (1 : Nat)) : Int) - (1 : Int)) && decide ((↑(List.length ls + (1 : Nat)) : Int) - (1 : Int) < (↑(List.length ls + (1 : Nat)) : Int))) (
     req (decide ((0 : Nat) + Int.toNat ((↑(List.length ls + (1 : Nat)) : Int) - (1 : Int)) = List.length ls)) (E0 c ({ row := (↑(List.length ls + (1 : Nat)) : Int) - (1 : Int), col := (↑(List.length l) : Int) } : C27) c3 v ls l cells cursor xs n n2))))) ∧ (
     ((
      req (inR IntKind.i64 ((↑(List.length ls + (1 : Nat)) : Int) - (1 : Int))) (
      req (decide ((0 : Int) ≤ (↑(List.length ls + (1 : Nat)) : Int) - (1 : Int)) && decide ((↑(List.length ls + (1 : Nat)) : Int) - (1 : Int) < (↑(List.length ls + (1 : Nat)) : Int))) (
      req (inR IntKind.i64 ((↑(List.length ls + (1 : Nat)) : Int) - (1 : Int))) (
      req (decide ((0 : Nat) + Int.toNat ((↑(List.length ls + (1 : Nat)) : Int) - (1 : Int)) = List.length ls)) (E0 c ({ row := (↑(List.length ls + (1 : Nat)) : Int) - (1 : Int), col := (↑(List.length l) : Int) } : C27) c3 v ls l cells cursor xs n n2))))) ∧ (True))))
def F37_r13 : AM.Form := ⟨mkF 105 [(0, .ro (.pair .str (.pair (.int .i64) (.pair (.int .i64) .unit)))), (2, .int .i64), (4, .p 0 0), (7, .p 1 0), (8, .p 2 0), (9, .p 5 0), (10, .fn 55 [.p 2 0]), (11, .fn 56 [.p 2 0, .p 0 0]), (13, .p 6 0), (19, .ro (.pair .str (.pair (.int .i64) (.pair (.int .i64) .unit)))), (20, .int .i64), (21, .int .i64)], [.cells 3 [.int .i64], .cells 27 [.int .i64, .int .i64], .cells 25 [.sl 3], .mix 35 (.pair .str (.pair (.int .i64) (.pair (.int .i64) .unit))) (.sl 4), .seq 37 (.pair .str (.pair (.int .i64) (.pair (.int .i64) .unit))), .cells 27 [.int .i64, .int .i64], .cells 37 [.str, .int .i64, .int .i64]]⟩
noncomputable def mm37_r13 (ds : List Dat) (Q : AExit → List AV → AH → Prop) : Prop := p37_r13 ⟨(dat ds 6).toInt, (dat ds 7).toInt⟩ ⟨(dat ds 10).toInt, (dat ds 11).toInt⟩ ⟨(dat ds 12).toStr, (dat ds 13).toInt, (dat ds 14).toInt⟩ ((dat ds 5).toInt) ((dat ds 8).toList) ((dat ds 9).toList) ((dat ds 0).toList) ((dat ds 1).toInt) ((dat ds 2).toList) ((dat ds 3).toInt) ((dat ds 4).toInt) (fun rc rc2 rc3 rv rls rl rxs rn rxs2 rn2 rn3 => Q .normal (mkAV 105 [(0, .ro (.pair .str (.pair (.int .i64) (.pair (.int .i64) .unit))) rxs), (2, .c (.int .i64 rn)), (4, .p 0 0), (7, .p 1 0), (8, .p 2 0), (9, .p 5 0), (10, .fn 55 [.p 2 0]), (11, .fn 56 [.p 2 0, .p 0 0]), (13, .p 6 0), (19, .ro (.pair .str (.pair (.int .i64) (.pair (.int .i64) .unit))) rxs2), (20, .c (.int .i64 rn2)), (21, .c (.int .i64 rn3))]) ⟨[.cells 3 [.c (.int .i64 rv)], .cells 27 [.c (.int .i64 rc.row), .c (.int .i64 rc.col)], .cells 25 [.sl 3 0 (rls.length + 1)], .mix 35 (.pair .str (.pair (.int .i64) (.pair (.int .i64) .unit))) rls (.sl 4 0 rl.length), .seq 37 (.pair .str (.pair (.int .i64) (.pair (.int .i64) .unit))) rl, .cells 27 [.c (.int .i64 rc2.row), .c (.int .i64 rc2.col)], .cells 37 [.c (.string rc3.text), .c (.int .i64 rc3.width), .c (.int .i64 rc3.attr)]], []⟩)
theorem t37_r13 (ds : List Dat) (Q : AExit → List AV → AH → Prop) : wpA Tryd.prog tys GG37_r10 1000 37 (theReg Tryd.prog 37 13) (fun e f' h' => endF Tryd.prog ((fun _ => []) e) ((fun _ => ⟨[0, 2, 4, 7, 8, 9, 10, 11, 13, 19, 20, 21], []⟩) e) ((fun _ => []) e) (F37_r13.hp ds) f' h' fun f2 h2 => Q e f2 h2) (F37_r13.fr ds) (F37_r13.hp ds) = mm37_r13 ds Q := by kernel_rfl
noncomputable def R37_r13 : LoopT := headF Tryd.prog [] ⟨[0, 2, 4, 7, 8, 9, 10, 11, 13, 19, 20, 21], []⟩ [] (locL F37_r13 mm37_r13)
theorem ok37_r13 : RegOK Tryd.prog (theReg Tryd.prog 37 13) R37_r13 := ruleP_ok sGG37_r10 (by kernel_rfl) mm37_r13 t37_r13
noncomputable def rs37_r13 : List (FuncId × Nat × LoopT) := (37, 13, R37_r13) :: rs37_r10
theorem rs37_r13_ok : RegsOK Tryd.prog rs37_r13 := .cons (by kernel_rfl) ok37_r13 rs37_r10_ok
noncomputable def GG37_r13 : Rules := mkG [37, 27] cs49 ls49_7 rs37_r13
theorem sGG37_r13 : Sound Tryd.prog tys GG37_r13 := mk_sound mixed tysOK names (by kernel_rfl) cs49_ok ls49_7_ok rs37_r13_ok
noncomputable def p37_r14 (c : C27) (c2 : C27) (c3 : C37) (v : Int) (ls : List Dat) (l : List Dat) (cells : List Dat) (cursor : Int) (xs : List Dat) (n : Int) (n2 : Int) (E0 : C27 → C27 → C37 → Int → List Dat → List Dat → List Dat → Int → List Dat → Int → Int → Prop) : Prop :=
    ((
     req (inR IntKind.i64 ((↑(List.length ls + (1 : Nat)) : Int) - (1 : Int))) (
     req (decide ((0 : Int) ≤ (↑(List.length ls + (1 : Nat)) : Int) - (1 : Int)) && decide ((↑(List.length ls + (1 : Nat)) : Int) - (1 : Int) < (↑(List.length ls + (1 : Nat)) : Int))) (
     ((
      req (inR IntKind.i64 ((↑(List.length ls + (1 : Nat)) : Int) - (1 : Int))) (
      req (decide ((0 : Int) ≤ (↑(List.length ls + (1 : Nat)) : Int) - (1 : Int)) && decide ((↑(List.length ls + (1 : Nat)) : Int) - (1 : Int) < (↑(List.length ls + (1 : Nat)) : Int))) (
      ((
       req (decide ((0 : Nat) + Int.toNat ((↑(List.length ls + (1 : Nat)) : Int) - (1 : Int)) = List.length ls)) (
       req (appOK l (0 : Nat) (List.length l) (1 : Nat) (32 : Nat)) (
       req (decide ((0 : Nat) + Int.toNat ((↑(List.length ls + (1 : Nat)) : Int) - (1 : Int)) = List.length ls)) (E0 c c2 c3 v ls (dapp l (0 : Nat) (List.length l) [Dat.pair (Dat.str (C37.text c3)) (Dat.pair (Dat.int (C37.width c3)) (Dat.pair (Dat.int (C37.attr c3)) (Dat.int (0 : Int))))]) cells cursor xs n n2)))) ∧ (
       ((
        req (decide ((0 : Nat) + Int.toNat ((↑(List.length ls + (1 : Nat)) : Int) - (1 : Int)) = List.length ls)) (
        req (appOK l (0 : Nat) (List.length l) (1 : Nat) (32 : Nat)) (
        req (decide ((0 : Nat) + Int.toNat ((↑(List.length ls + (1 : Nat)) : Int) - (1 : Int)) = List.length ls)) (E0 c c2 c3 v ls (dapp l (0 : Nat) (List.length l) [Dat.pair (Dat.str (C37.text c3)) (Dat.pair (Dat.int (C37.width c3)) (Dat.pair (Dat.int (C37.attr c3)) (Dat.int (0 : Int))))]) cells cursor xs n n2)))) ∧ (True))))))) ∧ (
      ((
       ((
        req (inR IntKind.i64 ((↑(List.length ls + (1 : Nat)) : Int) - (1 : Int))) (
        req (decide ((0 : Int) ≤ (↑(List.length ls + (1 : Nat)) : Int) - (1 : Int)) && decide ((↑(List.length ls + (1 : Nat)) : Int) - (1 : Int) < (↑(List.length ls + (1 : Nat)) : Int))) (
        ((
         req (decide ((0 : Nat) + Int.toNat ((↑(List.length ls + (1 : Nat)) : Int) - (1 : Int)) = List.length ls)) (
         req (appOK l (0 : Nat) (List.length l) (1 : Nat) (32 : Nat)) (
         req (decide ((0 : Nat) + Int.toNat ((↑(List.length ls + (1 : Nat)) : Int) - (1 : Int)) = List.length ls)) (E0 c c2 c3 v ls (dapp l (0 : Nat) (List.length l) [Dat.pair (Dat.str (C37.text c3)) (Dat.pair (Dat.int (C37.width c3)) (Dat.pair (Dat.int (C37.attr c3)) (Dat.int (0 : Int))))]) cells cursor xs n n2)))) ∧ (
         ((
          req (decide ((0 : Nat) + Int.toNat ((↑(List.length ls + (1 : Nat)) : Int) - (1 : Int)) = List.length ls)) (
          req (appOK l (0 : Nat) (List.length l) (1 : Nat) (32 : Nat)) (
          req (decide ((0 : Nat) + Int.toNat ((↑(List.length ls + (1 : Nat)) : Int) - (1 : Int)) = List.length ls)) (E0 c c2 c3 v ls (dapp l (0 : Nat) (List.length l) [Dat.pair (Dat.str (C37.text c3)) (Dat.pair (Dat.int (C37.width c3)) (Dat.pair (Dat.int (C37.attr c3)) (Dat.int (0 : Int))))]) cells cursor xs n n2)))) ∧ (True))))))) ∧ (
        ((
         req (inR IntKind.i64 ((↑(List.length ls + (1 : Nat)) : Int) - (1 : Int))) (
         req (decide ((0 : Int) ≤ (↑(List.length ls + (1 : Nat)) : Int) - (1 : Int)) && decide ((↑(List.length ls + (1 : Nat)) : Int) - (1 : Int) < (↑(List.length ls + (1 : Nat)) : Int))) (
         req (decide ((0 : Nat) + Int.toNat ((↑(List.length ls + (1 : Nat)) : Int) - (1 : Int)) = List.length ls)) (
         req (appOK l (0 : Nat) (List.length l) (1 : Nat) (32 : Nat)) (
         req (decide ((0 : Nat) + Int.toNat ((↑(List.length ls + (1 : Nat)) : Int) - (1 : Int)) = List.length ls)) (E0 c c2 c3 v ls (dapp l (0 : Nat) (List.length l) [Dat.pair (Dat.str (C37.text c3)) (Dat.pair (Dat.int (C37.width c3)) (Dat.pair (Dat.int (C37.attr c3)) (Dat.int (0 : Int))))]) cells cursor xs n n2)))))) ∧ (True))))) ∧ (True))))))) ∧ (
     ((
      ((
       req (inR IntKind.i64 ((↑(List.length ls + (1 : Nat)) : Int) - (1 : Int))) (
       req (decide ((0 : Int) ≤ (↑(List.length ls + (1 : Nat)) : Int) - (1 : Int)) && decide ((↑(List.length ls + (1 : Nat)) : Int) - (1 : Int) < (↑(List.length ls + (1 : Nat)) : Int))) (
       ((
        req (inR IntKind.i64 ((↑(List.length ls + (1 : Nat)) : Int) - (1 : Int))) (
        req (decide ((0 : Int) ≤ (↑(List.length ls + (1 : Nat)) : Int) - (1 : Int)) && decide ((↑(List.length ls + (1 : Nat)) : Int) - (1 : Int) < (↑(List.length ls + (1 : Nat)) : Int))) (
        ((
         req (decide ((0 : Nat) + Int.toNat ((↑(List.length ls + (1 : Nat)) : Int) - (1 : Int)) = List.length ls)) (
         req (appOK l (0 : Nat) (List.length l) (1 : Nat) (32 : Nat)) (
         req (decide ((0 : Nat) + Int.toNat ((↑(List.length ls + (1 : Nat)) : Int) - (1 : Int)) = List.length ls)) (E0 c c2 c3 v ls (dapp l (0 : Nat) (List.length l) [Dat.pair (Dat.str (C37.text c3)) (Dat.pair (Dat.int (C37.width c3)) (Dat.pair (Dat.int (C37.attr c3)) (Dat.int (0 : Int))))]) cells cursor xs n n2)))) ∧ (
         ((
          req (decide ((0 : Nat) + Int.toNat ((↑(List.length ls + (1 : Nat)) : Int) - (1 : Int)) = List.length ls)) (
          req (appOK l (0 : Nat) (List.length l) (1 : Nat) (32 : Nat)) (
          req (decide ((0 : Nat) + Int.toNat ((↑(List.length ls + (1 : Nat)) : Int) - (1 : Int)) = List.length ls)) (E0 c c2 c3 v ls (dapp l (0 : Nat) (List.length l) [Dat.pair (Dat.str (C37.text c3)) (Dat.pair (Dat.int (C37.width c3)) (Dat.pair (Dat.int (C37.attr c3)) (Dat.int (0 : Int))))]) cells cursor xs n n2)))) ∧ (True))))))) ∧ (
        ((
         req (inR IntKind.i64 ((↑(List.length ls + (1 : Nat)) : Int) - (1 : Int))) (
         req (decide ((0 : Int) ≤ (↑(List.length ls + (1 : Nat)) : Int) - (1 : Int)) && decide ((↑(List.length ls + (1 : Nat)) : Int) - (1 : Int) < (↑(List.length ls + (1 : Nat)) : Int))) (
         req (decide ((0 : Nat) + Int.toNat ((↑(List.length ls + (1 : Nat)) : Int) - (1 : Int)) = List.length ls)) (
         req (appOK l (0 : Nat) (List.length l) (1 : Nat) (32 : Nat)) (
         req (decide ((0 : Nat) + Int.toNat ((↑(List.length ls + (1 : Nat)) : Int) - (1 : Int)) = List.length ls)) (E0 c c2 c3 v ls (dapp l (0 : Nat) (List.length l) [Dat.pair (Dat.str (C37.text c3)) (Dat.pair (Dat.int (C37.width c3)) (Dat.pair (Dat.int (C37.attr c3)) (Dat.int (0 : Int))))]) cells cursor xs n n2)))))) ∧ (True))))))) ∧ (
       ((
        req (inR IntKind.i64 ((↑(List.length ls + (1 : Nat)) : Int) - (1 : Int))) (
        req (decide ((0 : Int) ≤ (↑(List.length ls + (1 : Nat)) : Int) - (1 : Int)) && decide ((↑(List.length ls + (1 : Nat)) : Int) - (1 : Int) < (↑(List.length ls + (1 : Nat)) : Int))) (
        req (inR IntKind.i64 ((↑(List.length ls + (1 : Nat)) : Int) - (1 : Int))) (
        req (decide ((0 : Int) ≤ (↑(List.length ls + (1 : Nat)) : Int) - (1 : Int)) && decide ((↑(List.length ls + (1 : Nat)) : Int) - (1 : Int) < (↑(List.length ls + (1 : Nat)) : Int))) (
        req (decide ((0 : Nat) + Int.toNat ((↑(List.length ls + (1 : Nat)) : Int) - (1 : Int)) = List.length ls)) (
        req (appOK l (0 : Nat) (List.length l) (1 : Nat) (32 : Nat)) (
        req (decide ((0 : Nat) + Int.toNat ((↑(List.length ls + (1 : Nat)) : Int) - (1 : Int)) = List.length ls)) (E0 c c2 c3 v ls (dapp l (0 : Nat) (List.length l) [Dat.pair (Dat.str (C37.text c3)) (Dat.pair (Dat.int (C37.width c3)) (Dat.pair (Dat.int (C37.attr c3)) (Dat.int (0 : Int))))]) cells cursor xs n n2)))))))) ∧ (True))))) ∧ (True))))
def F37_r14 : AM.Form := ⟨mkF 105 [(0, .ro (.pair .str (.pair (.int .i64) (.pair (.int .i64) .unit)))), (2, .int .i64), (4, .p 0 0), (7, .p 1 0), (8, .p 2 0), (9, .p 5 0), (10, .fn 55 [.p 2 0]), (11, .fn 56 [.p 2 0, .p 0 0]), (13, .p 6 0), (19, .ro (.pair .str (.pair (.int .i64) (.pair (.int .i64) .unit)))), (20, .int .i64), (21, .int .i64)], [.cells 3 [.int .i64], .cells 27 [.int .i64, .int .i64], .cells 25 [.sl 3], .mix 35 (.pair .str (.pair (.int .i64) (.pair (.int .i64) .unit))) (.sl 4), .seq 37 (.pair .str (.pair (.int .i64) (.pair (.int .i64) .unit))), .cells 27 [.int .i64, .int .i64], .cells 37 [.str, .int .i64, .int .i64]]⟩
noncomputable def mm37_r14 (ds : List Dat) (Q : AExit → List AV → AH → Prop) : Prop := p37_r14 ⟨(dat ds 6).toInt, (dat ds 7).toInt⟩ ⟨(dat ds 10).toInt, (dat ds 11).toInt⟩ ⟨(dat ds 12).toStr, (dat ds 13).toInt, (dat ds 14).toInt⟩ ((dat ds 5).toInt) ((dat ds 8).toList) ((dat ds 9).toList) ((dat ds 0).toList) ((dat ds 1).toInt) ((dat ds 2).toList) ((dat ds 3).toInt) ((dat ds 4).toInt) (fun rc rc2 rc3 rv rls rl rxs rn rxs2 rn2 rn3 => Q .normal (mkAV 105 [(0, .ro (.pair .str (.pair (.int .i64) (.pair (.int .i64) .unit))) rxs), (2, .c (.int .i64 rn)), (4, .p 0 0), (7, .p 1 0), (8, .p 2 0), (9, .p 5 0), (10, .fn 55 [.p 2 0]), (11, .fn 56 [.p 2 0, .p 0 0]), (13, .p 6 0), (19, .ro (.pair .str (.pair (.int .i64) (.pair (.int .i64) .unit))) rxs2), (20, .c (.int .i64 rn2)), (21, .c (.int .i64 rn3))]) ⟨[.cells 3 [.c (.int .i64 rv)], .cells 27 [.c (.int .i64 rc.row), .c (.int .i64 rc.col)], .cells 25 [.sl 3 0 (rls.length + 1)], .mix 35 (.pair .str (.pair (.int .i64) (.pair (.int .i64) .unit))) rls (.sl 4 0 rl.length), .seq 37 (.pair .str (.pair (.int .i64) (.pair (.int .i64) .unit))) rl, .cells 27 [.c (.int .i64 rc2.row), .c (.int .i64 rc2.col)], .cells 37 [.c (.string rc3.text), .c (.int .i64 rc3.width), .c (.int .i64 rc3.attr)]], []⟩)
theorem t37_r14 (ds : List Dat) (Q : AExit → List AV → AH → Prop) : wpA Tryd.prog tys GG37_r13 1000 37 (theReg Tryd.prog 37 14) (fun e f' h' => endF Tryd.prog ((fun _ => []) e) ((fun _ => ⟨[0, 2, 4, 7, 8, 9, 10, 11, 13, 19, 20, 21], []⟩) e) ((fun _ => []) e) (F37_r14.hp ds) f' h' fun f2 h2 => Q e f2 h2) (F37_r14.fr ds) (F37_r14.hp ds) = mm37_r14 ds Q := by kernel_rfl
noncomputable def R37_r14 : LoopT := headF Tryd.prog [] ⟨[0, 2, 4, 7, 8, 9, 10, 11, 13, 19, 20, 21], []⟩ [] (locL F37_r14 mm37_r14)
theorem ok37_r14 : RegOK Tryd.prog (theReg Tryd.prog 37 14) R37_r14 := ruleP_ok sGG37_r13 (by kernel_rfl) mm37_r14 t37_r14
noncomputable def rs37_r14 : List (FuncId × Nat × LoopT) := (37, 14, R37_r14) :: rs37_r13
theorem rs37_r14_ok : RegsOK Tryd.prog rs37_r14 := .cons (by kernel_rfl) ok37_r14 rs37_r13_ok
noncomputable def GG37_r14 : Rules := mkG [37, 27] cs49 ls49_7 rs37_r14
theorem sGG37_r14 : Sound Tryd.prog tys GG37_r14 := mk_sound mixed tysOK names (by kernel_rfl) cs49_ok ls49_7_ok rs37_r14_ok
noncomputable def l37_6 : Nat → C27 → C27 → Int → List Dat → List Dat → List Dat → Int → List Dat → Int → Int → (C27 → C27 → Int → List Dat → List Dat → List Dat → Int → Prop) → Prop
  | 0, _, _, _, _, _, _, _, _, _, _, _ => False
  | fu + 1, c, c2, v, ls, l, cells, cursor, xs, n, n2, E0 =>
    br (decide (n2 < n)) (
     req (decide ((0 : Int) ≤ n2) && decide (n2 < (↑(List.length xs) : Int))) (
     req (decide (Int.toNat n2 < List.length xs)) (
     ((List.length ls + (1 : Nat) = List.length ls + (1 : Nat)) ∧ 
     ((List.length l = List.length l) ∧ 
     p37_r8 { row := C27.row c, col := C27.col c } { row := C27.row c2, col := C27.col c2 } { text := Dat.toStr (Dat.fst (List.getD xs (Int.toNat n2) default)), width := Dat.toInt (Dat.fst (Dat.snd (List.getD xs (Int.toNat n2) default))), attr := Dat.toInt (Dat.fst (Dat.snd (Dat.snd (List.getD xs (Int.toNat n2) default)))) } v ls l cells cursor n2 xs n n2 (fun y0 y1 y2 y3 y4 y5 y6 y7 y8 y9 y10 y11 y12 => 
      br (y12) (
       ((List.length y4 + (1 : Nat) = List.length y4 + (1 : Nat)) ∧ 
       ((List.length y5 = List.length y5) ∧ 
       p37_r9 { row := C27.row y0, col := C27.col y0 } { row := C27.row y1, col := C27.col y1 } { text := C37.text y2, width := C37.width y2, attr := C37.attr y2 } y3 y4 y5 y6 y7 y8 y9 y10 y11 (fun y13 y14 y15 y16 y17 y18 y19 y20 y21 y22 y23 y24 => 
        ((List.length y17 + (1 : Nat) = List.length y17 + (1 : Nat)) ∧ 
        ((List.length y18 = List.length y18) ∧ 
        p37_r10 { row := C27.row y13, col := C27.col y13 } { row := C27.row y14, col := C27.col y14 } { text := C37.text y15, width := C37.width y15, attr := C37.attr y15 } y16 y17 y18 y19 y20 y21 y22 y23 y24 (fun y25 y26 y27 y28 y29 y30 y31 y32 y33 y34 y35 y36 y37 => 
         br (y37) (
          req (decide ((0 : Int) ≤ (0 : Int)) && decide ((0 : Int) ≤ y28) && decide (y28 * (↑(32 : Nat) : Int) ≤ (140737488351232 : Int))) (
          req (decide (List.length y29 + (1 : Nat) = List.length y29 + (1 : Nat)) && decide ((List.length y29 + (1 : Nat) + (1 : Nat)) * (24 : Nat) ≤ (140737488351232 : Nat))) (
          req (decide ((0 : Nat) + List.length y30 ≤ List.length y30)) (
          br (decide (y33 = y32)) (
           ((List.length (y29 ++ [Dat.list (List.take (List.length y30) y30)]) + (1 : Nat) = List.length (y29 ++ [Dat.list (List.take (List.length y30) y30)]) + (1 : Nat)) ∧ 
           (((0 : Nat) = (0 : Nat)) ∧ 
           p37_r13 { row := C27.row y25, col := C27.col y25 } { row := C27.row y26, col := C27.col y26 } { text := C37.text y27, width := C37.width y27, attr := C37.attr y27 } y28 (y29 ++ [Dat.list (List.take (List.length y30) y30)]) [] y31 y32 y34 y35 y36 (fun y38 y39 y40 y41 y42 y43 y44 y45 y46 y47 y48 => 
            ((List.length y42 + (1 : Nat) = List.length y42 + (1 : Nat)) ∧ 
            ((List.length y43 = List.length y43) ∧ 
            p37_r14 { row := C27.row y38, col := C27.col y38 } { row := C27.row y39, col := C27.col y39 } { text := C37.text y40, width := C37.width y40, attr := C37.attr y40 } y41 y42 y43 y44 y45 y46 y47 y48 (fun y49 y50 y51 y52 y53 y54 y55 y56 y57 y58 y59 => 
             req (inR IntKind.i64 (y59 + (1 : Int))) (((List.length y53 + (1 : Nat)) = List.length y53 + 1 ∧ ((List.length y54) = List.length y54 ∧ l37_6 fu y49 y50 y52 y53 y54 y55 y56 y57 y58 (y59 + (1 : Int)) E0)))))))))) (
           ((List.length (y29 ++ [Dat.list (List.take (List.length y30) y30)]) + (1 : Nat) = List.length (y29 ++ [Dat.list (List.take (List.length y30) y30)]) + (1 : Nat)) ∧ 
           (((0 : Nat) = (0 : Nat)) ∧ 
           p37_r14 { row := C27.row y25, col := C27.col y25 } { row := C27.row y26, col := C27.col y26 } { text := C37.text y27, width := C37.width y27, attr := C37.attr y27 } y28 (y29 ++ [Dat.list (List.take (List.length y30) y30)]) [] y31 y32 y34 y35 y36 (fun y60 y61 y62 y63 y64 y65 y66 y67 y68 y69 y70 => 
            req (inR IntKind.i64 (y70 + (1 : Int))) (((List.length y64 + (1 : Nat)) = List.length y64 + 1 ∧ ((List.length y65) = List.length y65 ∧ l37_6 fu y60 y61 y63 y64 y65 y66 y67 y68 y69 (y70 + (1 : Int)) E0))))))))))) (
          br (decide (y33 = y32)) (
           ((List.length y29 + (1 : Nat) = List.length y29 + (1 : Nat)) ∧ 
           ((List.length y30 = List.length y30) ∧ 
           p37_r13 { row := C27.row y25, col := C27.col y25 } { row := C27.row y26, col := C27.col y26 } { text := C37.text y27, width := C37.width y27, attr := C37.attr y27 } y28 y29 y30 y31 y32 y34 y35 y36 (fun y71 y72 y73 y74 y75 y76 y77 y78 y79 y80 y81 => 
            ((List.length y75 + (1 : Nat) = List.length y75 + (1 : Nat)) ∧ 
            ((List.length y76 = List.length y76) ∧ 
            p37_r14 { row := C27.row y71, col := C27.col y71 } { row := C27.row y72, col := C27.col y72 } { text := C37.text y73, width := C37.width y73, attr := C37.attr y73 } y74 y75 y76 y77 y78 y79 y80 y81 (fun y82 y83 y84 y85 y86 y87 y88 y89 y90 y91 y92 => 
             req (inR IntKind.i64 (y92 + (1 : Int))) (((List.length y86 + (1 : Nat)) = List.length y86 + 1 ∧ ((List.length y87) = List.length y87 ∧ l37_6 fu y82 y83 y85 y86 y87 y88 y89 y90 y91 (y92 + (1 : Int)) E0)))))))))) (
           ((List.length y29 + (1 : Nat) = List.length y29 + (1 : Nat)) ∧ 
           ((List.length y30 = List.length y30) ∧ 
           p37_r14 { row := C27.row y25, col := C27.col y25 } { row := C27.row y26, col := C27.col y26 } { text := C37.text y27, width := C37.width y27, attr := C37.attr y27 } y28 y29 y30 y31 y32 y34 y35 y36 (fun y93 y94 y95 y96 y97 y98 y99 y100 y101 y102 y103 => 
            req (inR IntKind.i64 (y103 + (1 : Int))) (((List.length y97 + (1 : Nat)) = List.length y97 + 1 ∧ ((List.length y98) = List.length y98 ∧ l37_6 fu y93 y94 y96 y97 y98 y99 y100 y101 y102 (y103 + (1 : Int)) E0))))))))))))))) (
       ((List.length y4 + (1 : Nat) = List.length y4 + (1 : Nat)) ∧ 
       ((List.length y5 = List.length y5) ∧ 
       p37_r10 { row := C27.row y0, col := C27.col y0 } { row := C27.row y1, col := C27.col y1 } { text := C37.text y2, width := C37.width y2, attr := C37.attr y2 } y3 y4 y5 y6 y7 y8 y9 y10 y11 (fun y104 y105 y106 y107 y108 y109 y110 y111 y112 y113 y114 y115 y116 => 
        br (y116) (
         req (decide ((0 : Int) ≤ (0 : Int)) && decide ((0 : Int) ≤ y107) && decide (y107 * (↑(32 : Nat) : Int) ≤ (140737488351232 : Int))) (
         req (decide (List.length y108 + (1 : Nat) = List.length y108 + (1 : Nat)) && decide ((List.length y108 + (1 : Nat) + (1 : Nat)) * (24 : Nat) ≤ (140737488351232 : Nat))) (
         req (decide ((0 : Nat) + List.length y109 ≤ List.length y109)) (
         br (decide (y112 = y111)) (
          ((List.length (y108 ++ [Dat.list (List.take (List.length y109) y109)]) + (1 : Nat) = List.length (y108 ++ [Dat.list (List.take (List.length y109) y109)]) + (1 : Nat)) ∧ 
          (((0 : Nat) = (0 : Nat)) ∧ 
          p37_r13 { row := C27.row y104, col := C27.col y104 } { row := C27.row y105, col := C27.col y105 } { text := C37.text y106, width := C37.width y106, attr := C37.attr y106 } y107 (y108 ++ [Dat.list (List.take (List.length y109) y109)]) [] y110 y111 y113 y114 y115 (fun y117 y118 y119 y120 y121 y122 y123 y124 y125 y126 y127 => 
           ((List.length y121 + (1 : Nat) = List.length y121 + (1 : Nat)) ∧ 
           ((List.length y122 = List.length y122) ∧ 
           p37_r14 { row := C27.row y117, col := C27.col y117 } { row := C27.row y118, col := C27.col y118 } { text := C37.text y119, width := C37.width y119, attr := C37.attr y119 } y120 y121 y122 y123 y124 y125 y126 y127 (fun y128 y129 y130 y131 y132 y133 y134 y135 y136 y137 y138 => 
            req (inR IntKind.i64 (y138 + (1 : Int))) (((List.length y132 + (1 : Nat)) = List.length y132 + 1 ∧ ((List.length y133) = List.length y133 ∧ l37_6 fu y128 y129 y131 y132 y133 y134 y135 y136 y137 (y138 + (1 : Int)) E0)))))))))) (
          ((List.length (y108 ++ [Dat.list (List.take (List.length y109) y109)]) + (1 : Nat) = List.length (y108 ++ [Dat.list (List.take (List.length y109) y109)]) + (1 : Nat)) ∧ 
          (((0 : Nat) = (0 : Nat)) ∧ 
          p37_r14 { row := C27.row y104, col := C27.col y104 } { row := C27.row y105, col := C27.col y105 } { text := C37.text y106, width := C37.width y106, attr := C37.attr y106 } y107 (y108 ++ [Dat.list (List.take (List.length y109) y109)]) [] y110 y111 y113 y114 y115 (fun y139 y140 y141 y142 y143 y144 y145 y146 y147 y148 y149 => 
           req (inR IntKind.i64 (y149 + (1 : Int))) (((List.length y143 + (1 : Nat)) = List.length y143 + 1 ∧ ((List.length y144) = List.length y144 ∧ l37_6 fu y139 y140 y142 y143 y144 y145 y146 y147 y148 (y149 + (1 : Int)) E0))))))))))) (
         br (decide (y112 = y111)) (
          ((List.length y108 + (1 : Nat) = List.length y108 + (1 : Nat)) ∧ 
          ((List.length y109 = List.length y109) ∧ 
          p37_r13 { row := C27.row y104, col := C27.col y104 } { row := C27.row y105, col := C27.col y105 } { text := C37.text y106, width := C37.width y106, attr := C37.attr y106 } y107 y108 y109 y110 y111 y113 y114 y115 (fun y150 y151 y152 y153 y154 y155 y156 y157 y158 y159 y160 => 
           ((List.length y154 + (1 : Nat) = List.length y154 + (1 : Nat)) ∧ 
           ((List.length y155 = List.length y155) ∧ 
           p37_r14 { row := C27.row y150, col := C27.col y150 } { row := C27.row y151, col := C27.col y151 } { text := C37.text y152, width := C37.width y152, attr := C37.attr y152 } y153 y154 y155 y156 y157 y158 y159 y160 (fun y161 y162 y163 y164 y165 y166 y167 y168 y169 y170 y171 => 
            req (inR IntKind.i64 (y171 + (1 : Int))) (((List.length y165 + (1 : Nat)) = List.length y165 + 1 ∧ ((List.length y166) = List.length y166 ∧ l37_6 fu y161 y162 y164 y165 y166 y167 y168 y169 y170 (y171 + (1 : Int)) E0)))))))))) (
          ((List.length y108 + (1 : Nat) = List.length y108 + (1 : Nat)) ∧ 
          ((List.length y109 = List.length y109) ∧ 
          p37_r14 { row := C27.row y104, col := C27.col y104 } { row := C27.row y105, col := C27.col y105 } { text := C37.text y106, width := C37.width y106, attr := C37.attr y106 } y107 y108 y109 y110 y111 y113 y114 y115 (fun y172 y173 y174 y175 y176 y177 y178 y179 y180 y181 y182 => 
           req (inR IntKind.i64 (y182 + (1 : Int))) (((List.length y176 + (1 : Nat)) = List.length y176 + 1 ∧ ((List.length y177) = List.length y177 ∧ l37_6 fu y172 y173 y175 y176 y177 y178 y179 y180 y181 (y182 + (1 : Int)) E0)))))))))))))))))) (E0 c c2 v ls l cells cursor)
def F37_6 : AM.Form := ⟨mkF 105 [(0, .ro (.pair .str (.pair (.int .i64) (.pair (.int .i64) .unit)))), (2, .int .i64), (4, .p 0 0), (7, .p 1 0), (8, .p 2 0), (9, .p 5 0), (10, .fn 55 [.p 2 0]), (11, .fn 56 [.p 2 0, .p 0 0]), (19, .ro (.pair .str (.pair (.int .i64) (.pair (.int .i64) .unit)))), (20, .int .i64), (21, .int .i64)], [.cells 3 [.int .i64], .cells 27 [.int .i64, .int .i64], .cells 25 [.sl 3], .mix 35 (.pair .str (.pair (.int .i64) (.pair (.int .i64) .unit))) (.sl 4), .seq 37 (.pair .str (.pair (.int .i64) (.pair (.int .i64) .unit))), .cells 27 [.int .i64, .int .i64]]⟩
noncomputable def mm37_6 (n : Nat) (ds : List Dat) (Q : AExit → List AV → AH → Prop) : Prop := l37_6 n ⟨(dat ds 6).toInt, (dat ds 7).toInt⟩ ⟨(dat ds 10).toInt, (dat ds 11).toInt⟩ ((dat ds 5).toInt) ((dat ds 8).toList) ((dat ds 9).toList) ((dat ds 0).toList) ((dat ds 1).toInt) ((dat ds 2).toList) ((dat ds 3).toInt) ((dat ds 4).toInt) (fun rc rc2 rv rls rl rxs rn => Q (AExit.exit 0) (mkAV 105 [(0, .ro (.pair .str (.pair (.int .i64) (.pair (.int .i64) .unit))) rxs), (2, .c (.int .i64 rn)), (4, .p 0 0), (7, .p 1 0), (8, .p 2 0), (9, .p 5 0), (10, .fn 55 [.p 2 0]), (11, .fn 56 [.p 2 0, .p 0 0])]) ⟨[.cells 3 [.c (.int .i64 rv)], .cells 27 [.c (.int .i64 rc.row), .c (.int .i64 rc.col)], .cells 25 [.sl 3 0 (rls.length + 1)], .mix 35 (.pair .str (.pair (.int .i64) (.pair (.int .i64) .unit))) rls (.sl 4 0 rl.length), .seq 37 (.pair .str (.pair (.int .i64) (.pair (.int .i64) .unit))) rl, .cells 27 [.c (.int .i64 rc2.row), .c (.int .i64 rc2.col)]], []⟩)
theorem t37_6 (n : Nat) (ds : List Dat) (Q : AExit → List AV → AH → Prop) : wpA Tryd.prog tys GG37_r14 1000 37 (theLoop Tryd.prog 37 6) (fun e f' h' => endF Tryd.prog ((fun _ => []) e) ((fun e => match e with | .normal => ⟨[0, 2, 4, 7, 8, 9, 10, 11, 19, 20, 21], []⟩ | .exit 0 => ⟨[0, 2, 4, 7, 8, 9, 10, 11], []⟩ | _ => ⟨[], []⟩) e) ((fun e => match e with | .normal => [] | .exit 0 => [] | _ => []) e) (F37_6.hp ds) f' h' fun f2 h2 => match e with
      | .normal => locL F37_6 (mm37_6 n) f2 h2 Q
      | e => Q e f2 h2) (F37_6.fr ds) (F37_6.hp ds) = mm37_6 (n + 1) ds Q := by kernel_rfl
noncomputable def R37_6 : LoopT := headF Tryd.prog [] ⟨[0, 2, 4, 7, 8, 9, 10, 11, 19, 20, 21], []⟩ [] fun f h Q => ∃ n, locL F37_6 (mm37_6 n) f h Q
theorem ok37_6 : LoopOK Tryd.prog (theLoop Tryd.prog 37 6) R37_6 := ruleL_ok sGG37_r14 (by kernel_rfl) mm37_6 (fun _ _ => rfl) t37_6
noncomputable def ls37_6 : List (FuncId × Nat × LoopT) := (37, 6, R37_6) :: ls49_7
theorem ls37_6_ok : LoopsOK Tryd.prog ls37_6 := .cons (by kernel_rfl) ok37_6 ls49_7_ok
noncomputable def GG37_6 : Rules := mkG [37, 27] cs49 ls37_6 rs37_r14
theorem sGG37_6 : Sound Tryd.prog tys GG37_6 := mk_sound mixed tysOK names (by kernel_rfl) cs49_ok ls37_6_ok rs37_r14_ok
noncomputable def p37_r17 (c : C27) (c2 : C27) (v : Int) (ls : List Dat) (l : List Dat) (E0 : C27 → C27 → Int → List Dat → List Dat → Bool → Prop) : Prop :=
    ((
     req (inR IntKind.i64 ((↑(List.length ls + (1 : Nat)) : Int) - (1 : Int))) (
     req (decide ((0 : Int) ≤ (↑(List.length ls + (1 : Nat)) : Int) - (1 : Int)) && decide ((↑(List.length ls + (1 : Nat)) : Int) - (1 : Int) < (↑(List.length ls + (1 : Nat)) : Int))) (
     req (decide ((0 : Nat) + Int.toNat ((↑(List.length ls + (1 : Nat)) : Int) - (1 : Int)) = List.length ls)) (E0 c c2 v ls l (decide ((↑(List.length l) : Int) = v)))))) ∧ (
     ((
      req (inR IntKind.i64 ((↑(List.length ls + (1 : Nat)) : Int) - (1 : Int))) (
      req (decide ((0 : Int) ≤ (↑(List.length ls + (1 : Nat)) : Int) - (1 : Int)) && decide ((↑(List.length ls + (1 : Nat)) : Int) - (1 : Int) < (↑(List.length ls + (1 : Nat)) : Int))) (
      req (decide ((0 : Nat) + Int.toNat ((↑(List.length ls + (1 : Nat)) : Int) - (1 : Int)) = List.length ls)) (E0 c c2 v ls l (decide ((↑(List.length l) : Int) = v)))))) ∧ (True))))
def F37_r17 : AM.Form := ⟨mkF 105 [(4, .p 0 0), (7, .p 1 0), (8, .p 2 0), (9, .p 5 0), (10, .fn 55 [.p 2 0]), (11, .fn 56 [.p 2 0, .p 0 0])], [.cells 3 [.int .i64], .cells 27 [.int .i64, .int .i64], .cells 25 [.sl 3], .mix 35 (.pair .str (.pair (.int .i64) (.pair (.int .i64) .unit))) (.sl 4), .seq 37 (.pair .str (.pair (.int .i64) (.pair (.int .i64) .unit))), .cells 27 [.int .i64, .int .i64]]⟩
noncomputable def mm37_r17 (ds : List Dat) (Q : AExit → List AV → AH → Prop) : Prop := p37_r17 ⟨(dat ds 1).toInt, (dat ds 2).toInt⟩ ⟨(dat ds 5).toInt, (dat ds 6).toInt⟩ ((dat ds 0).toInt) ((dat ds 3).toList) ((dat ds 4).toList) (fun rc rc2 rv rls rl rb => Q .normal (mkAV 105 [(4, .p 0 0), (7, .p 1 0), (8, .p 2 0), (9, .p 5 0), (10, .fn 55 [.p 2 0]), (11, .fn 56 [.p 2 0, .p 0 0]), (91, .c (.bool rb))]) ⟨[.cells 3 [.c (.int .i64 rv)], .cells 27 [.c (.int .i64 rc.row), .c (.int .i64 rc.col)], .cells 25 [.sl 3 0 (rls.length + 1)], .mix 35 (.pair .str (.pair (.int .i64) (.pair (.int .i64) .unit))) rls (.sl 4 0 rl.length), .seq 37 (.pair .str (.pair (.int .i64) (.pair (.int .i64) .unit))) rl, .cells 27 [.c (.int .i64 rc2.row), .c (.int .i64 rc2.col)]], []⟩)
theorem t37_r17 (ds : List Dat) (Q : AExit → List AV → AH → Prop) : wpA Tryd.prog tys GG37_6 1000 37 (theReg Tryd.prog 37 17) (fun e f' h' => endF Tryd.prog ((fun _ => []) e) ((fun _ => ⟨[4, 7, 8, 9, 10, 11, 91], []⟩) e) ((fun _ => []) e) (F37_r17.hp ds) f' h' fun f2 h2 => Q e f2 h2) (F37_r17.fr ds) (F37_r17.hp ds) = mm37_r17 ds Q := by kernel_rfl
noncomputable def R37_r17 : LoopT := headF Tryd.prog [] ⟨[4, 7, 8, 9, 10, 11], []⟩ [] (locL F37_r17 mm37_r17)
theorem ok37_r17 : RegOK Tryd.prog (theReg Tryd.prog 37 17) R37_r17 := ruleP_ok sGG37_6 (by kernel_rfl) mm37_r17 t37_r17
noncomputable def rs37_r17 : List (FuncId × Nat × LoopT) := (37, 17, R37_r17) :: rs37_r14
theorem rs37_r17_ok : RegsOK Tryd.prog rs37_r17 := .cons (by kernel_rfl) ok37_r17 rs37_r14_ok
noncomputable def GG37_r17 : Rules := mkG [37, 27] cs49 ls37_6 rs37_r17
theorem sGG37_r17 : Sound Tryd.prog tys GG37_r17 := mk_sound mixed tysOK names (by kernel_rfl) cs49_ok ls37_6_ok rs37_r17_ok
noncomputable def p37_r19 (c : C27) (c2 : C27) (ls : List Dat) (l : List Dat) (E0 : C27 → C27 → List Dat → List Dat → Prop) : Prop :=
    ((
     req (inR IntKind.i64 ((↑(List.length ls + (1 : Nat)) : Int) - (1 : Int))) (
     req (inR IntKind.i64 ((↑(List.length ls + (1 : Nat)) : Int) - (1 : Int))) (
     req (decide ((0 : Int) ≤ (↑(List.length ls + (1 : Nat)) : Int) - (1 : Int)) && decide ((↑(List.length ls + (1 : Nat)) : Int) - (1 : Int) < (↑(List.length ls + (1 : Nat)) : Int))) (
     req (decide ((0 : Nat) + Int.toNat ((↑(List.length ls + (1 : Nat)) : Int) - (1 : Int)) = List.length ls)) (E0 c ({ row := (↑(List.length ls + (1 : Nat)) : Int) - (1 : Int), col := (↑(List.length l) : Int) } : C27) ls l))))) ∧ (
     ((
      req (inR IntKind.i64 ((↑(List.length ls + (1 : Nat)) : Int) - (1 : Int))) (
      req (decide ((0 : Int) ≤ (↑(List.length ls + (1 : Nat)) : Int) - (1 : Int)) && decide ((↑(List.length ls + (1 : Nat)) : Int) - (1 : Int) < (↑(List.length ls + (1 : Nat)) : Int))) (
      req (inR IntKind.i64 ((↑(List.length ls + (1 : Nat)) : Int) - (1 : Int))) (
      req (decide ((0 : Nat) + Int.toNat ((↑(List.length ls + (1 : Nat)) : Int) - (1 : Int)) = List.length ls)) (E0 c ({ row := (↑(List.length ls + (1 : Nat)) : Int) - (1 : Int), col := (↑(List.length l) : Int) } : C27) ls l))))) ∧ (True))))
def F37_r19 : AM.Form := ⟨mkF 105 [(7, .p 0 0), (8, .p 1 0), (9, .p 4 0), (10, .fn 55 [.p 1 0])], [.cells 27 [.int .i64, .int .i64], .cells 25 [.sl 2], .mix 35 (.pair .str (.pair (.int .i64) (.pair (.int .i64) .unit))) (.sl 3), .seq 37 (.pair .str (.pair (.int .i64) (.pair (.int .i64) .unit))), .cells 27 [.int .i64, .int .i64]]⟩
noncomputable def mm37_r19 (ds : List Dat) (Q : AExit → List AV → AH → Prop) : Prop := p37_r19 ⟨(dat ds 0).toInt, (dat ds 1).toInt⟩ ⟨(dat ds 4).toInt, (dat ds 5).toInt⟩ ((dat ds 2).toList) ((dat ds 3).toList) (fun rc rc2 rls rl => Q .normal (mkAV 105 [(7, .p 0 0), (8, .p 1 0), (9, .p 4 0)]) ⟨[.cells 27 [.c (.int .i64 rc.row), .c (.int .i64 rc.col)], .cells 25 [.sl 2 0 (rls.length + 1)], .mix 35 (.pair .str (.pair (.int .i64) (.pair (.int .i64) .unit))) rls (.sl 3 0 rl.length), .seq 37 (.pair .str (.pair (.int .i64) (.pair (.int .i64) .unit))) rl, .cells 27 [.c (.int .i64 rc2.row), .c (.int .i64 rc2.col)]], []⟩)
theorem t37_r19 (ds : List Dat) (Q : AExit → List AV → AH → Prop) : wpA Tryd.prog tys GG37_r17 1000 37 (theReg Tryd.prog 37 19) (fun e f' h' => endF Tryd.prog ((fun _ => []) e) ((fun _ => ⟨[7, 8, 9], []⟩) e) ((fun _ => []) e) (F37_r19.hp ds) f' h' fun f2 h2 => Q e f2 h2) (F37_r19.fr ds) (F37_r19.hp ds) = mm37_r19 ds Q := by kernel_rfl
noncomputable def R37_r19 : LoopT := headF Tryd.prog [] ⟨[7, 8, 9, 10], []⟩ [] (locL F37_r19 mm37_r19)
theorem ok37_r19 : RegOK Tryd.prog (theReg Tryd.prog 37 19) R37_r19 := ruleP_ok sGG37_r17 (by kernel_rfl) mm37_r19 t37_r19
noncomputable def rs37_r19 : List (FuncId × Nat × LoopT) := (37, 19, R37_r19) :: rs37_r17
theorem rs37_r19_ok : RegsOK Tryd.prog rs37_r19 := .cons (by kernel_rfl) ok37_r19 rs37_r17_ok
noncomputable def GG37_r19 : Rules := mkG [37, 27] cs49 ls37_6 rs37_r19
theorem sGG37_r19 : Sound Tryd.prog tys GG37_r19 := mk_sound mixed tysOK names (by kernel_rfl) cs49_ok ls37_6_ok rs37_r19_ok
noncomputable def m37 (cells : List Dat) (cols : Int) (cursor : Int) (K : List Dat → List Dat → Int → Int → Prop) : Prop :=
    req (decide ((0 : Int) ≤ (0 : Int)) && decide ((0 : Int) ≤ cols) && decide (cols * (↑(32 : Nat) : Int) ≤ (140737488351232 : Int))) (
    (∃ y0, 
    (((1 : Nat) = (1 : Nat)) ∧ 
    (((0 : Nat) = (0 : Nat)) ∧ 
    l37_6 y0 { row := (0 : Int), col := (0 : Int) } { row := (0 : Int), col := (0 : Int) } cols [] [] cells cursor cells (↑(List.length cells) : Int) (0 : Int) (fun y1 y2 y3 y4 y5 y6 y7 => 
     br (decide (y7 = (↑(List.length y6) : Int))) (
      ((List.length y4 + (1 : Nat) = List.length y4 + (1 : Nat)) ∧ 
      ((List.length y5 = List.length y5) ∧ 
      p37_r17 { row := C27.row y1, col := C27.col y1 } { row := C27.row y2, col := C27.col y2 } y3 y4 y5 (fun y8 y9 y10 y11 y12 y13 => 
       br (y13) (
        req (decide ((0 : Int) ≤ (0 : Int)) && decide ((0 : Int) ≤ y10) && decide (y10 * (↑(32 : Nat) : Int) ≤ (140737488351232 : Int))) (
        req (decide (List.length y11 + (1 : Nat) = List.length y11 + (1 : Nat)) && decide ((List.length y11 + (1 : Nat) + (1 : Nat)) * (24 : Nat) ≤ (140737488351232 : Nat))) (
        req (decide ((0 : Nat) + List.length y12 ≤ List.length y12)) (
        ((List.length (y11 ++ [Dat.list (List.take (List.length y12) y12)]) + (1 : Nat) = List.length (y11 ++ [Dat.list (List.take (List.length y12) y12)]) + (1 : Nat)) ∧ 
        (((0 : Nat) = (0 : Nat)) ∧ 
        p37_r19 { row := C27.row y8, col := C27.col y8 } { row := C27.row y9, col := C27.col y9 } (y11 ++ [Dat.list (List.take (List.length y12) y12)]) [] (fun y14 y15 y16 y17 => K y16 y17 (C27.row y15) (C27.col y15)))))))) (
        ((List.length y11 + (1 : Nat) = List.length y11 + (1 : Nat)) ∧ 
        ((List.length y12 = List.length y12) ∧ 
        p37_r19 { row := C27.row y8, col := C27.col y8 } { row := C27.row y9, col := C27.col y9 } y11 y12 (fun y18 y19 y20 y21 => K y20 y21 (C27.row y19) (C27.col y19))))))))) (K y4 y5 (C27.row y2) (C27.col y2)))))))
def F37 : AM.Form := ⟨[.ro (.pair .str (.pair (.int .i64) (.pair (.int .i64) .unit))), .int .i64, .int .i64], []⟩
noncomputable def mm37 (ds : List Dat) (K : AV → AH → Prop) : Prop := m37 ((dat ds 0).toList) ((dat ds 1).toInt) ((dat ds 2).toInt) (fun rls rl rn rn2 => K (.tup [.sl 0 0 (rls.length + 1), .agg [.c (.int .i64 rn), .c (.int .i64 rn2)]]) ⟨[.mix 35 (.pair .str (.pair (.int .i64) (.pair (.int .i64) .unit))) rls (.sl 1 0 rl.length), .seq 37 (.pair .str (.pair (.int .i64) (.pair (.int .i64) .unit))) rl], []⟩)
theorem t37 (ds : List Dat) (K : AV → AH → Prop) : callA Tryd.prog tys GG37_r19 1000 37 (F37.fr ds) (F37.hp ds) (fun v h' => endK Tryd.prog [] .keep (F37.hp ds) (F37.fr ds) v h' K) = mm37 ds K := by kernel_rfl
noncomputable def R37 : CallT := ruleF Tryd.prog [(.ro (.pair .str (.pair (.int .i64) (.pair (.int .i64) .unit)))), .keep, .keep] [] F37 mm37
theorem ok37 : CallOK Tryd.prog 37 R37 := ruleF_ok sGG37_r19 t37
noncomputable def cs37 : List (FuncId × CallT) := (37, R37) :: cs49
theorem cs37_ok : CallsOK Tryd.prog cs37 := .cons ok37 cs49_ok
noncomputable def GG37 : Rules := mkG [37, 27] cs37 ls37_6 rs37_r19
theorem sGG37 : Sound Tryd.prog tys GG37 := mk_sound mixed tysOK names (by kernel_rfl) cs37_ok ls37_6_ok rs37_r19_ok
end Go.Proofs.YthegkipclogoeaaDoor

set_option linter.unusedVariables false
set_option maxRecDepth 100000
namespace Go.Proofs.YthegkipclogoeaaDoor
open Go.AM Go.LTxt Go.LMem Go.RowKit
noncomputable def l16_10 : Nat → List Dat → Int → List Dat → Int → Int → (List Dat → Int → List Dat → Int → Int → Prop) → Prop
  | 0, _, _, _, _, _, _ => False
  | fu + 1, l, col, xs, n, n2, E3 =>
    req (inR IntKind.i64 (Int.tmod col (8 : Int) + (↑(List.length l) : Int))) (
    br (!decide (Int.tmod (Int.tmod col (8 : Int) + (↑(List.length l) : Int)) (8 : Int) = (0 : Int))) (
     req (appOK l (0 : Nat) (List.length l) (1 : Nat) (32 : Nat)) (((List.length (dapp l (0 : Nat) (List.length l) [Dat.pair (Dat.str { data := #[(32 : UInt8)] }) (Dat.pair (Dat.int (1 : Int)) (Dat.pair (Dat.int (0 : Int)) (Dat.int (0 : Int))))])) = List.length (dapp l (0 : Nat) (List.length l) [Dat.pair (Dat.str { data := #[(32 : UInt8)] }) (Dat.pair (Dat.int (1 : Int)) (Dat.pair (Dat.int (0 : Int)) (Dat.int (0 : Int))))]) ∧ l16_10 fu (dapp l (0 : Nat) (List.length l) [Dat.pair (Dat.str { data := #[(32 : UInt8)] }) (Dat.pair (Dat.int (1 : Int)) (Dat.pair (Dat.int (0 : Int)) (Dat.int (0 : Int))))]) col xs n n2 E3))) (E3 l col xs n n2))
def F16_10 : AM.Form := ⟨mkF 87 [(1, .int .i64), (5, .p 0 0), (6, .fn 39 [.p 0 0]), (12, .ro (.int .i32)), (13, .int .i64), (14, .int .i64)], [.cells 35 [.sl 1], .seq 37 (.pair .str (.pair (.int .i64) (.pair (.int .i64) .unit)))]⟩
noncomputable def mm16_10 (n : Nat) (ds : List Dat) (Q : AExit → List AV → AH → Prop) : Prop := l16_10 n ((dat ds 4).toList) ((dat ds 0).toInt) ((dat ds 1).toList) ((dat ds 2).toInt) ((dat ds 3).toInt) (fun rl rn rxs rn2 rn3 => Q (AExit.exit 3) (mkAV 87 [(1, .c (.int .i64 rn)), (5, .p 0 0), (6, .fn 39 [.p 0 0]), (12, .ro (.int .i32) rxs), (13, .c (.int .i64 rn2)), (14, .c (.int .i64 rn3))]) ⟨[.cells 35 [.sl 1 0 rl.length], .seq 37 (.pair .str (.pair (.int .i64) (.pair (.int .i64) .unit))) rl], []⟩)
theorem t16_10 (n : Nat) (ds : List Dat) (Q : AExit → List AV → AH → Prop) : wpA Tryd.prog tys GG37 1000 16 (theLoop Tryd.prog 16 10) (fun e f' h' => endF Tryd.prog ((fun _ => []) e) ((fun e => match e with | .normal => ⟨[1, 5, 6, 12, 13, 14], []⟩ | .exit 3 => ⟨[1, 5, 6, 12, 13, 14], []⟩ | _ => ⟨[], []⟩) e) ((fun e => match e with | .normal => [] | .exit 3 => [] | _ => []) e) (F16_10.hp ds) f' h' fun f2 h2 => match e with
      | .normal => locL F16_10 (mm16_10 n) f2 h2 Q
      | e => Q e f2 h2) (F16_10.fr ds) (F16_10.hp ds) = mm16_10 (n + 1) ds Q := by kernel_rfl
noncomputable def R16_10 : LoopT := headF Tryd.prog [] ⟨[1, 5, 6, 12, 13, 14], []⟩ [] fun f h Q => ∃ n, locL F16_10 (mm16_10 n) f h Q
theorem ok16_10 : LoopOK Tryd.prog (theLoop Tryd.prog 16 10) R16_10 := ruleL_ok sGG37 (by kernel_rfl) mm16_10 (fun _ _ => rfl) t16_10
noncomputable def ls16_10 : List (FuncId × Nat × LoopT) := (16, 10, R16_10) :: ls37_6
theorem ls16_10_ok : LoopsOK Tryd.prog ls16_10 := .cons (by kernel_rfl) ok16_10 ls37_6_ok
noncomputable def GG16_10 : Rules := mkG [37, 27] cs37 ls16_10
theorem sGG16_10 : Sound Tryd.prog tys GG16_10 := mk_sound mixed tysOK names (by kernel_rfl) cs37_ok ls16_10_ok
noncomputable def l16_5 : Nat → List Dat → Int → List Dat → Int → Int → (List Dat → Prop) → Prop
  | 0, _, _, _, _, _, _ => False
  | fu + 1, l, col, xs, n, n2, E0 =>
    br (decide (n2 < n)) (
     req (decide ((0 : Int) ≤ n2) && decide (n2 < (↑(List.length xs) : Int))) (
     req (decide (Int.toNat n2 < List.length xs)) (
     br (decide (Dat.toInt (List.getD xs (Int.toNat n2) default) = (9 : Int))) (
      req (appOK l (0 : Nat) (List.length l) (1 : Nat) (32 : Nat)) (
      (∃ y0, 
      ((List.length (dapp l (0 : Nat) (List.length l) [Dat.pair (Dat.str { data := #[(32 : UInt8)] }) (Dat.pair (Dat.int (1 : Int)) (Dat.pair (Dat.int (0 : Int)) (Dat.int (0 : Int))))]) = List.length (dapp l (0 : Nat) (List.length l) [Dat.pair (Dat.str { data := #[(32 : UInt8)] }) (Dat.pair (Dat.int (1 : Int)) (Dat.pair (Dat.int (0 : Int)) (Dat.int (0 : Int))))])) ∧ 
      l16_10 y0 (dapp l (0 : Nat) (List.length l) [Dat.pair (Dat.str { data := #[(32 : UInt8)] }) (Dat.pair (Dat.int (1 : Int)) (Dat.pair (Dat.int (0 : Int)) (Dat.int (0 : Int))))]) col xs n n2 (fun y1 y2 y3 y4 y5 => 
       req (inR IntKind.i64 (y5 + (1 : Int))) (((List.length y1) = List.length y1 ∧ l16_5 fu y1 y2 y3 y4 (y5 + (1 : Int)) E0))))))) (
      br (decide ((0 : Int) ≤ Dat.toInt (List.getD xs (Int.toNat n2) default))) (
       br (decide (Dat.toInt (List.getD xs (Int.toNat n2) default) < (32 : Int))) (
        req (appOK l (0 : Nat) (List.length l) (1 : Nat) (32 : Nat)) (
        req (appOK (dapp l (0 : Nat) (List.length l) [Dat.pair (Dat.str (Dat.toStr (List.getD ([Dat.str { data := #[(94 : UInt8)] }] ++ [Dat.str (Utf8.encode (bitsV BinOp.xor IntKind.i32 (Dat.toInt (List.getD xs (Int.toNat n2) default)) (64 : Int)))]) (0 : Nat) default))) (Dat.pair (Dat.int (1 : Int)) (Dat.pair (Dat.int (0 : Int)) (Dat.int (0 : Int))))]) (0 : Nat) (List.length (dapp l (0 : Nat) (List.length l) [Dat.pair (Dat.str (Dat.toStr (List.getD ([Dat.str { data := #[(94 : UInt8)] }] ++ [Dat.str (Utf8.encode (bitsV BinOp.xor IntKind.i32 (Dat.toInt (List.getD xs (Int.toNat n2) default)) (64 : Int)))]) (0 : Nat) default))) (Dat.pair (Dat.int (1 : Int)) (Dat.pair (Dat.int (0 : Int)) (Dat.int (0 : Int))))])) (1 : Nat) (32 : Nat)) (
        req (inR IntKind.i64 (n2 + (1 : Int))) (((List.length (dapp (dapp l (0 : Nat) (List.length l) [Dat.pair (Dat.str (Dat.toStr (List.getD ([Dat.str { data := #[(94 : UInt8)] }] ++ [Dat.str (Utf8.encode (bitsV BinOp.xor IntKind.i32 (Dat.toInt (List.getD xs (Int.toNat n2) default)) (64 : Int)))]) (0 : Nat) default))) (Dat.pair (Dat.int (1 : Int)) (Dat.pair (Dat.int (0 : Int)) (Dat.int (0 : Int))))]) (0 : Nat) (List.length (dapp l (0 : Nat) (List.length l) [Dat.pair (Dat.str (Dat.toStr (List.getD ([Dat.str { data := #[(94 : UInt8)] }] ++ [Dat.str (Utf8.encode (bitsV BinOp.xor IntKind.i32 (Dat.toInt (List.getD xs (Int.toNat n2) default)) (64 : Int)))]) (0 : Nat) default))) (Dat.pair (Dat.int (1 : Int)) (Dat.pair (Dat.int (0 : Int)) (Dat.int (0 : Int))))])) [Dat.pair (Dat.str (Dat.toStr (List.getD ([Dat.str { data := #[(94 : UInt8)] }] ++ [Dat.str (Utf8.encode (bitsV BinOp.xor IntKind.i32 (Dat.toInt (List.getD xs (Int.toNat n2) default)) (64 : Int)))]) (1 : Nat) default))) (Dat.pair (Dat.int (1 : Int)) (Dat.pair (Dat.int (0 : Int)) (Dat.int (0 : Int))))])) = List.length (dapp (dapp l (0 : Nat) (List.length l) [Dat.pair (Dat.str (Dat.toStr (List.getD ([Dat.str { data := #[(94 : UInt8)] }] ++ [Dat.str (Utf8.encode (bitsV BinOp.xor IntKind.i32 (Dat.toInt (List.getD xs (Int.toNat n2) default)) (64 : Int)))]) (0 : Nat) default))) (Dat.pair (Dat.int (1 : Int)) (Dat.pair (Dat.int (0 : Int)) (Dat.int (0 : Int))))]) (0 : Nat) (List.length (dapp l (0 : Nat) (List.length l) [Dat.pair (Dat.str (Dat.toStr (List.getD ([Dat.str { data := #[(94 : UInt8)] }] ++ [Dat.str (Utf8.encode (bitsV BinOp.xor IntKind.i32 (Dat.toInt (List.getD xs (Int.toNat n2) default)) (64 : Int)))]) (0 : Nat) default))) (Dat.pair (Dat.int (1 : Int)) (Dat.pair (Dat.int (0 : Int)) (Dat.int (0 : Int))))])) [Dat.pair (Dat.str (Dat.toStr (List.getD ([Dat.str { data := #[(94 : UInt8)] }] ++ [Dat.str (Utf8.encode (bitsV BinOp.xor IntKind.i32 (Dat.toInt (List.getD xs (Int.toNat n2) default)) (64 : Int)))]) (1 : Nat) default))) (Dat.pair (Dat.int (1 : Int)) (Dat.pair (Dat.int (0 : Int)) (Dat.int (0 : Int))))]) ∧ l16_5 fu (dapp (dapp l (0 : Nat) (List.length l) [Dat.pair (Dat.str (Dat.toStr (List.getD ([Dat.str { data := #[(94 : UInt8)] }] ++ [Dat.str (Utf8.encode (bitsV BinOp.xor IntKind.i32 (Dat.toInt (List.getD xs (Int.toNat n2) default)) (64 : Int)))]) (0 : Nat) default))) (Dat.pair (Dat.int (1 : Int)) (Dat.pair (Dat.int (0 : Int)) (Dat.int (0 : Int))))]) (0 : Nat) (List.length (dapp l (0 : Nat) (List.length l) [Dat.pair (Dat.str (Dat.toStr (List.getD ([Dat.str { data := #[(94 : UInt8)] }] ++ [Dat.str (Utf8.encode (bitsV BinOp.xor IntKind.i32 (Dat.toInt (List.getD xs (Int.toNat n2) default)) (64 : Int)))]) (0 : Nat) default))) (Dat.pair (Dat.int (1 : Int)) (Dat.pair (Dat.int (0 : Int)) (Dat.int (0 : Int))))])) [Dat.pair (Dat.str (Dat.toStr (List.getD ([Dat.str { data := #[(94 : UInt8)] }] ++ [Dat.str (Utf8.encode (bitsV BinOp.xor IntKind.i32 (Dat.toInt (List.getD xs (Int.toNat n2) default)) (64 : Int)))]) (1 : Nat) default))) (Dat.pair (Dat.int (1 : Int)) (Dat.pair (Dat.int (0 : Int)) (Dat.int (0 : Int))))]) col xs n (n2 + (1 : Int)) E0))))) (
        br (decide (Dat.toInt (List.getD xs (Int.toNat n2) default) = (127 : Int))) (
         req (appOK l (0 : Nat) (List.length l) (1 : Nat) (32 : Nat)) (
         req (appOK (dapp l (0 : Nat) (List.length l) [Dat.pair (Dat.str (Dat.toStr (List.getD ([Dat.str { data := #[(94 : UInt8)] }] ++ [Dat.str (Utf8.encode (bitsV BinOp.xor IntKind.i32 (Dat.toInt (List.getD xs (Int.toNat n2) default)) (64 : Int)))]) (0 : Nat) default))) (Dat.pair (Dat.int (1 : Int)) (Dat.pair (Dat.int (0 : Int)) (Dat.int (0 : Int))))]) (0 : Nat) (List.length (dapp l (0 : Nat) (List.length l) [Dat.pair (Dat.str (Dat.toStr (List.getD ([Dat.str { data := #[(94 : UInt8)] }] ++ [Dat.str (Utf8.encode (bitsV BinOp.xor IntKind.i32 (Dat.toInt (List.getD xs (Int.toNat n2) default)) (64 : Int)))]) (0 : Nat) default))) (Dat.pair (Dat.int (1 : Int)) (Dat.pair (Dat.int (0 : Int)) (Dat.int (0 : Int))))])) (1 : Nat) (32 : Nat)) (
         req (inR IntKind.i64 (n2 + (1 : Int))) (((List.length (dapp (dapp l (0 : Nat) (List.length l) [Dat.pair (Dat.str (Dat.toStr (List.getD ([Dat.str { data := #[(94 : UInt8)] }] ++ [Dat.str (Utf8.encode (bitsV BinOp.xor IntKind.i32 (Dat.toInt (List.getD xs (Int.toNat n2) default)) (64 : Int)))]) (0 : Nat) default))) (Dat.pair (Dat.int (1 : Int)) (Dat.pair (Dat.int (0 : Int)) (Dat.int (0 : Int))))]) (0 : Nat) (List.length (dapp l (0 : Nat) (List.length l) [Dat.pair (Dat.str (Dat.toStr (List.getD ([Dat.str { data := #[(94 : UInt8)] }] ++ [Dat.str (Utf8.encode (bitsV BinOp.xor IntKind.i32 (Dat.toInt (List.getD xs (Int.toNat n2) default)) (64 : Int)))]) (0 : Nat) default))) (Dat.pair (Dat.int (1 : Int)) (Dat.pair (Dat.int (0 : Int)) (Dat.int (0 : Int))))])) [Dat.pair (Dat.str (Dat.toStr (List.getD ([Dat.str { data := #[(94 : UInt8)] }] ++ [Dat.str (Utf8.encode (bitsV BinOp.xor IntKind.i32 (Dat.toInt (List.getD xs (Int.toNat n2) default)) (64 : Int)))]) (1 : Nat) default))) (Dat.pair (Dat.int (1 : Int)) (Dat.pair (Dat.int (0 : Int)) (Dat.int (0 : Int))))])) = List.length (dapp (dapp l (0 : Nat) (List.length l) [Dat.pair (Dat.str (Dat.toStr (List.getD ([Dat.str { data := #[(94 : UInt8)] }] ++ [Dat.str (Utf8.encode (bitsV BinOp.xor IntKind.i32 (Dat.toInt (List.getD xs (Int.toNat n2) default)) (64 : Int)))]) (0 : Nat) default))) (Dat.pair (Dat.int (1 : Int)) (Dat.pair (Dat.int (0 : Int)) (Dat.int (0 : Int))))]) (0 : Nat) (List.length (dapp l (0 : Nat) (List.length l) [Dat.pair (Dat.str (Dat.toStr (List.getD ([Dat.str { data := #[(94 : UInt8)] }] ++ [Dat.str (Utf8.encode (bitsV BinOp.xor IntKind.i32 (Dat.toInt (List.getD xs (Int.toNat n2) default)) (64 : Int)))]) (0 : Nat) default))) (Dat.pair (Dat.int (1 : Int)) (Dat.pair (Dat.int (0 : Int)) (Dat.int (0 : Int))))])) [Dat.pair (Dat.str (Dat.toStr (List.getD ([Dat.str { data := #[(94 : UInt8)] }] ++ [Dat.str (Utf8.encode (bitsV BinOp.xor IntKind.i32 (Dat.toInt (List.getD xs (Int.toNat n2) default)) (64 : Int)))]) (1 : Nat) default))) (Dat.pair (Dat.int (1 : Int)) (Dat.pair (Dat.int (0 : Int)) (Dat.int (0 : Int))))]) ∧ l16_5 fu (dapp (dapp l (0 : Nat) (List.length l) [Dat.pair (Dat.str (Dat.toStr (List.getD ([Dat.str { data := #[(94 : UInt8)] }] ++ [Dat.str (Utf8.encode (bitsV BinOp.xor IntKind.i32 (Dat.toInt (List.getD xs (Int.toNat n2) default)) (64 : Int)))]) (0 : Nat) default))) (Dat.pair (Dat.int (1 : Int)) (Dat.pair (Dat.int (0 : Int)) (Dat.int (0 : Int))))]) (0 : Nat) (List.length (dapp l (0 : Nat) (List.length l) [Dat.pair (Dat.str (Dat.toStr (List.getD ([Dat.str { data := #[(94 : UInt8)] }] ++ [Dat.str (Utf8.encode (bitsV BinOp.xor IntKind.i32 (Dat.toInt (List.getD xs (Int.toNat n2) default)) (64 : Int)))]) (0 : Nat) default))) (Dat.pair (Dat.int (1 : Int)) (Dat.pair (Dat.int (0 : Int)) (Dat.int (0 : Int))))])) [Dat.pair (Dat.str (Dat.toStr (List.getD ([Dat.str { data := #[(94 : UInt8)] }] ++ [Dat.str (Utf8.encode (bitsV BinOp.xor IntKind.i32 (Dat.toInt (List.getD xs (Int.toNat n2) default)) (64 : Int)))]) (1 : Nat) default))) (Dat.pair (Dat.int (1 : Int)) (Dat.pair (Dat.int (0 : Int)) (Dat.int (0 : Int))))]) col xs n (n2 + (1 : Int)) E0))))) (
         m33 (Dat.toInt (List.getD xs (Int.toNat n2) default)) (fun y6 => 
          br (!y6) (
           req (appOK l (0 : Nat) (List.length l) (1 : Nat) (32 : Nat)) (
           req (inR IntKind.i64 (n2 + (1 : Int))) (((List.length (dapp l (0 : Nat) (List.length l) [Dat.pair (Dat.str { data := #[(239 : UInt8), (191 : UInt8), (189 : UInt8)] }) (Dat.pair (Dat.int (1 : Int)) (Dat.pair (Dat.int (0 : Int)) (Dat.int (0 : Int))))])) = List.length (dapp l (0 : Nat) (List.length l) [Dat.pair (Dat.str { data := #[(239 : UInt8), (191 : UInt8), (189 : UInt8)] }) (Dat.pair (Dat.int (1 : Int)) (Dat.pair (Dat.int (0 : Int)) (Dat.int (0 : Int))))]) ∧ l16_5 fu (dapp l (0 : Nat) (List.length l) [Dat.pair (Dat.str { data := #[(239 : UInt8), (191 : UInt8), (189 : UInt8)] }) (Dat.pair (Dat.int (1 : Int)) (Dat.pair (Dat.int (0 : Int)) (Dat.int (0 : Int))))]) col xs n (n2 + (1 : Int)) E0)))) (
           m17 (Dat.toInt (List.getD xs (Int.toNat n2) default)) (fun y7 => 
            br (y7) (
             req (appOK l (0 : Nat) (List.length l) (1 : Nat) (32 : Nat)) (
             req (inR IntKind.i64 (n2 + (1 : Int))) (((List.length (dapp l (0 : Nat) (List.length l) [Dat.pair (Dat.str { data := #[(239 : UInt8), (191 : UInt8), (189 : UInt8)] }) (Dat.pair (Dat.int (1 : Int)) (Dat.pair (Dat.int (0 : Int)) (Dat.int (0 : Int))))])) = List.length (dapp l (0 : Nat) (List.length l) [Dat.pair (Dat.str { data := #[(239 : UInt8), (191 : UInt8), (189 : UInt8)] }) (Dat.pair (Dat.int (1 : Int)) (Dat.pair (Dat.int (0 : Int)) (Dat.int (0 : Int))))]) ∧ l16_5 fu (dapp l (0 : Nat) (List.length l) [Dat.pair (Dat.str { data := #[(239 : UInt8), (191 : UInt8), (189 : UInt8)] }) (Dat.pair (Dat.int (1 : Int)) (Dat.pair (Dat.int (0 : Int)) (Dat.int (0 : Int))))]) col xs n (n2 + (1 : Int)) E0)))) (
             m13 (Dat.toInt (List.getD xs (Int.toNat n2) default)) (fun y8 => 
              br (decide (y8 = (0 : Int))) (
               ((List.length l = List.length l) ∧ 
               m40 l (Dat.toInt (List.getD xs (Int.toNat n2) default)) (fun y9 => 
                req (inR IntKind.i64 (n2 + (1 : Int))) (((List.length y9) = List.length y9 ∧ l16_5 fu y9 col xs n (n2 + (1 : Int)) E0))))) (
               m13 (Dat.toInt (List.getD xs (Int.toNat n2) default)) (fun y10 => 
                br (decide (y10 = (2 : Int))) (
                 req (appOK l (0 : Nat) (List.length l) (List.length (List.take (2 : Nat) ([Dat.pair (Dat.str (Utf8.encode (Dat.toInt (List.getD xs (Int.toNat n2) default)))) (Dat.pair (Dat.int (2 : Int)) (Dat.pair (Dat.int (0 : Int)) (Dat.int (0 : Int))))] ++ [Dat.pair (Dat.str { data := #[] }) (Dat.pair (Dat.int (0 : Int)) (Dat.pair (Dat.int (0 : Int)) (Dat.int (0 : Int))))]))) (32 : Nat)) (
                 req (inR IntKind.i64 (n2 + (1 : Int))) (((List.length (dapp l (0 : Nat) (List.length l) (List.take (2 : Nat) ([Dat.pair (Dat.str (Utf8.encode (Dat.toInt (List.getD xs (Int.toNat n2) default)))) (Dat.pair (Dat.int (2 : Int)) (Dat.pair (Dat.int (0 : Int)) (Dat.int (0 : Int))))] ++ [Dat.pair (Dat.str { data := #[] }) (Dat.pair (Dat.int (0 : Int)) (Dat.pair (Dat.int (0 : Int)) (Dat.int (0 : Int))))])))) = List.length (dapp l (0 : Nat) (List.length l) (List.take (2 : Nat) ([Dat.pair (Dat.str (Utf8.encode (Dat.toInt (List.getD xs (Int.toNat n2) default)))) (Dat.pair (Dat.int (2 : Int)) (Dat.pair (Dat.int (0 : Int)) (Dat.int (0 : Int))))] ++ [Dat.pair (Dat.str { data := #[] }) (Dat.pair (Dat.int (0 : Int)) (Dat.pair (Dat.int (0 : Int)) (Dat.int (0 : Int))))]))) ∧ l16_5 fu (dapp l (0 : Nat) (List.length l) (List.take (2 : Nat) ([Dat.pair (Dat.str (Utf8.encode (Dat.toInt (List.getD xs (Int.toNat n2) default)))) (Dat.pair (Dat.int (2 : Int)) (Dat.pair (Dat.int (0 : Int)) (Dat.int (0 : Int))))] ++ [Dat.pair (Dat.str { data := #[] }) (Dat.pair (Dat.int (0 : Int)) (Dat.pair (Dat.int (0 : Int)) (Dat.int (0 : Int))))]))) col xs n (n2 + (1 : Int)) E0)))) (
                 req (appOK l (0 : Nat) (List.length l) (1 : Nat) (32 : Nat)) (
                 req (inR IntKind.i64 (n2 + (1 : Int))) (((List.length (dapp l (0 : Nat) (List.length l) [Dat.pair (Dat.str (Utf8.encode (Dat.toInt (List.getD xs (Int.toNat n2) default)))) (Dat.pair (Dat.int (1 : Int)) (Dat.pair (Dat.int (0 : Int)) (Dat.int (0 : Int))))])) = List.length (dapp l (0 : Nat) (List.length l) [Dat.pair (Dat.str (Utf8.encode (Dat.toInt (List.getD xs (Int.toNat n2) default)))) (Dat.pair (Dat.int (1 : Int)) (Dat.pair (Dat.int (0 : Int)) (Dat.int (0 : Int))))]) ∧ l16_5 fu (dapp l (0 : Nat) (List.length l) [Dat.pair (Dat.str (Utf8.encode (Dat.toInt (List.getD xs (Int.toNat n2) default)))) (Dat.pair (Dat.int (1 : Int)) (Dat.pair (Dat.int (0 : Int)) (Dat.int (0 : Int))))]) col xs n (n2 + (1 : Int)) E0)))))))))))))) (
       br (decide (Dat.toInt (List.getD xs (Int.toNat n2) default) = (127 : Int))) (
        req (appOK l (0 : Nat) (List.length l) (1 : Nat) (32 : Nat)) (
        req (appOK (dapp l (0 : Nat) (List.length l) [Dat.pair (Dat.str (Dat.toStr (List.getD ([Dat.str { data := #[(94 : UInt8)] }] ++ [Dat.str (Utf8.encode (bitsV BinOp.xor IntKind.i32 (Dat.toInt (List.getD xs (Int.toNat n2) default)) (64 : Int)))]) (0 : Nat) default))) (Dat.pair (Dat.int (1 : Int)) (Dat.pair (Dat.int (0 : Int)) (Dat.int (0 : Int))))]) (0 : Nat) (List.length (dapp l (0 : Nat) (List.length l) [Dat.pair (Dat.str (Dat.toStr (List.getD ([Dat.str { data := #[(94 : UInt8)] }] ++ [Dat.str (Utf8.encode (bitsV BinOp.xor IntKind.i32 (Dat.toInt (List.getD xs (Int.toNat n2) default)) (64 : Int)))]) (0 : Nat) default))) (Dat.pair (Dat.int (1 : Int)) (Dat.pair (Dat.int (0 : Int)) (Dat.int (0 : Int))))])) (1 : Nat) (32 : Nat)) (
        req (inR IntKind.i64 (n2 + (1 : Int))) (((List.length (dapp (dapp l (0 : Nat) (List.length l) [Dat.pair (Dat.str (Dat.toStr (List.getD ([Dat.str { data := #[(94 : UInt8)] }] ++ [Dat.str (Utf8.encode (bitsV BinOp.xor IntKind.i32 (Dat.toInt (List.getD xs (Int.toNat n2) default)) (64 : Int)))]) (0 : Nat) default))) (Dat.pair (Dat.int (1 : Int)) (Dat.pair (Dat.int (0 : Int)) (Dat.int (0 : Int))))]) (0 : Nat) (List.length (dapp l (0 : Nat) (List.length l) [Dat.pair (Dat.str (Dat.toStr (List.getD ([Dat.str { data := #[(94 : UInt8)] }] ++ [Dat.str (Utf8.encode (bitsV BinOp.xor IntKind.i32 (Dat.toInt (List.getD xs (Int.toNat n2) default)) (64 : Int)))]) (0 : Nat) default))) (Dat.pair (Dat.int (1 : Int)) (Dat.pair (Dat.int (0 : Int)) (Dat.int (0 : Int))))])) [Dat.pair (Dat.str (Dat.toStr (List.getD ([Dat.str { data := #[(94 : UInt8)] }] ++ [Dat.str (Utf8.encode (bitsV BinOp.xor IntKind.i32 (Dat.toInt (List.getD xs (Int.toNat n2) default)) (64 : Int)))]) (1 : Nat) default))) (Dat.pair (Dat.int (1 : Int)) (Dat.pair (Dat.int (0 : Int)) (Dat.int (0 : Int))))])) = List.length (dapp (dapp l (0 : Nat) (List.length l) [Dat.pair (Dat.str (Dat.toStr (List.getD ([Dat.str { data := #[(94 : UInt8)] }] ++ [Dat.str (Utf8.encode (bitsV BinOp.xor IntKind.i32 (Dat.toInt (List.getD xs (Int.toNat n2) default)) (64 : Int)))]) (0 : Nat) default))) (Dat.pair (Dat.int (1 : Int)) (Dat.pair (Dat.int (0 : Int)) (Dat.int (0 : Int))))]) (0 : Nat) (List.length (dapp l (0 : Nat) (List.length l) [Dat.pair (Dat.str (Dat.toStr (List.getD ([Dat.str { data := #[(94 : UInt8)] }] ++ [Dat.str (Utf8.encode (bitsV BinOp.xor IntKind.i32 (Dat.toInt (List.getD xs (Int.toNat n2) default)) (64 : Int)))]) (0 : Nat) default))) (Dat.pair (Dat.int (1 : Int)) (Dat.pair (Dat.int (0 : Int)) (Dat.int (0 : Int))))])) [Dat.pair (Dat.str (Dat.toStr (List.getD ([Dat.str { data := #[(94 : UInt8)] }] ++ [Dat.str (Utf8.encode (bitsV BinOp.xor IntKind.i32 (Dat.toInt (List.getD xs (Int.toNat n2) default)) (64 : Int)))]) (1 : Nat) default))) (Dat.pair (Dat.int (1 : Int)) (Dat.pair (Dat.int (0 : Int)) (Dat.int (0 : Int))))]) ∧ l16_5 fu (dapp (dapp l (0 : Nat) (List.length l) [Dat.pair (Dat.str (Dat.toStr (List.getD ([Dat.str { data := #[(94 : UInt8)] }] ++ [Dat.str (Utf8.encode (bitsV BinOp.xor IntKind.i32 (Dat.toInt (List.getD xs (Int.toNat n2) default)) (64 : Int)))]) (0 : Nat) default))) (Dat.pair (Dat.int (1 : Int)) (Dat.pair (Dat.int (0 : Int)) (Dat.int (0 : Int))))]) (0 : Nat) (List.length (dapp l (0 : Nat) (List.length l) [Dat.pair (Dat.str (Dat.toStr (List.getD ([Dat.str { data := #[(94 : UInt8)] }] ++ [Dat.str (Utf8.encode (bitsV BinOp.xor IntKind.i32 (Dat.toInt (List.getD xs (Int.toNat n2) default)) (64 : Int)))]) (0 : Nat) default))) (Dat.pair (Dat.int (1 : Int)) (Dat.pair (Dat.int (0 : Int)) (Dat.int (0 : Int))))])) [Dat.pair (Dat.str (Dat.toStr (List.getD ([Dat.str { data := #[(94 : UInt8)] }] ++ [Dat.str (Utf8.encode (bitsV BinOp.xor IntKind.i32 (Dat.toInt (List.getD xs (Int.toNat n2) default)) (64 : Int)))]) (1 : Nat) default))) (Dat.pair (Dat.int (1 : Int)) (Dat.pair (Dat.int (0 : Int)) (Dat.int (0 : Int))))]) col xs n (n2 + (1 : Int)) E0))))) (
        m33 (Dat.toInt (List.getD xs (Int.toNat n2) default)) (fun y11 => 
         br (!y11) (
          req (appOK l (0 : Nat) (List.length l) (1 : Nat) (32 : Nat)) (
          req (inR IntKind.i64 (n2 + (1 : Int))) (((List.length (dapp l (0 : Nat) (List.length l) [Dat.pair (Dat.str { data := #[(239 : UInt8), (191 : UInt8), (189 : UInt8)] }) (Dat.pair (Dat.int (1 : Int)) (Dat.pair (Dat.int (0 : Int)) (Dat.int (0 : Int))))])) = List.length (dapp l (0 : Nat) (List.length l) [Dat.pair (Dat.str { data := #[(239 : UInt8), (191 : UInt8), (189 : UInt8)] }) (Dat.pair (Dat.int (1 : Int)) (Dat.pair (Dat.int (0 : Int)) (Dat.int (0 : Int))))]) ∧ l16_5 fu (dapp l (0 : Nat) (List.length l) [Dat.pair (Dat.str { data := #[(239 : UInt8), (191 : UInt8), (189 : UInt8)] }) (Dat.pair (Dat.int (1 : Int)) (Dat.pair (Dat.int (0 : Int)) (Dat.int (0 : Int))))]) col xs n (n2 + (1 : Int)) E0)))) (
          m17 (Dat.toInt (List.getD xs (Int.toNat n2) default)) (fun y12 => 
           br (y12) (
            req (appOK l (0 : Nat) (List.length l) (1 : Nat) (32 : Nat)) (
            req (inR IntKind.i64 (n2 + (1 : Int))) (((List.length (dapp l (0 : Nat) (List.length l) [Dat.pair (Dat.str { data := #[(239 : UInt8), (191 : UInt8), (189 : UInt8)] }) (Dat.pair (Dat.int (1 : Int)) (Dat.pair (Dat.int (0 : Int)) (Dat.int (0 : Int))))])) = List.length (dapp l (0 : Nat) (List.length l) [Dat.pair (Dat.str { data := #[(239 : UInt8), (191 : UInt8), (189 : UInt8)] }) (Dat.pair (Dat.int (1 : Int)) (Dat.pair (Dat.int (0 : Int)) (Dat.int (0 : Int))))]) ∧ l16_5 fu (dapp l (0 : Nat) (List.length l) [Dat.pair (Dat.str { data := #[(239 : UInt8), (191 : UInt8), (189 : UInt8)] }) (Dat.pair (Dat.int (1 : Int)) (Dat.pair (Dat.int (0 : Int)) (Dat.int (0 : Int))))]) col xs n (n2 + (1 : Int)) E0)))) (
            m13 (Dat.toInt (List.getD xs (Int.toNat n2) default)) (fun y13 => 
             br (decide (y13 = (0 : Int))) (
              ((List.length l = List.length l) ∧ 
              m40 l (Dat.toInt (List.getD xs (Int.toNat n2) default)) (fun y14 => 
               req (inR IntKind.i64 (n2 + (1 : Int))) (((List.length y14) = List.length y14 ∧ l16_5 fu y14 col xs n (n2 + (1 : Int)) E0))))) (
              m13 (Dat.toInt (List.getD xs (Int.toNat n2) default)) (fun y15 => 
               br (decide (y15 = (2 : Int))) (
                req (appOK l (0 : Nat) (List.length l) (List.length (List.take (2 : Nat) ([Dat.pair (Dat.str (Utf8.encode (Dat.toInt (List.getD xs (Int.toNat n2) default)))) (Dat.pair (Dat.int (2 : Int)) (Dat.pair (Dat.int (0 : Int)) (Dat.int (0 : Int))))] ++ [Dat.pair (Dat.str { data := #[] }) (Dat.pair (Dat.int (0 : Int)) (Dat.pair (Dat.int (0 : Int)) (Dat.int (0 : Int))))]))) (32 : Nat)) (
                req (inR IntKind.i64 (n2 + (1 : Int))) (((List.length (dapp l (0 : Nat) (List.length l) (List.take (2 : Nat) ([Dat.pair (Dat.str (Utf8.encode (Dat.toInt (List.getD xs (Int.toNat n2) default)))) (Dat.pair (Dat.int (2 : Int)) (Dat.pair (Dat.int (0 : Int)) (Dat.int (0 : Int))))] ++ [Dat.pair (Dat.str { data := #[] }) (Dat.pair (Dat.int (0 : Int)) (Dat.pair (Dat.int (0 : Int)) (Dat.int (0 : Int))))])))) = List.length (dapp l (0 : Nat) (List.length l) (List.take (2 : Nat) ([Dat.pair (Dat.str (Utf8.encode (Dat.toInt (List.getD xs (Int.toNat n2) default)))) (Dat.pair (Dat.int (2 : Int)) (Dat.pair (Dat.int (0 : Int)) (Dat.int (0 : Int))))] ++ [Dat.pair (Dat.str { data := #[] }) (Dat.pair (Dat.int (0 : Int)) (Dat.pair (Dat.int (0 : Int)) (Dat.int (0 : Int))))]))) ∧ l16_5 fu (dapp l (0 : Nat) (List.length l) (List.take (2 : Nat) ([Dat.pair (Dat.str (Utf8.encode (Dat.toInt (List.getD xs (Int.toNat n2) default)))) (Dat.pair (Dat.int (2 : Int)) (Dat.pair (Dat.int (0 : Int)) (Dat.int (0 : Int))))] ++ [Dat.pair (Dat.str { data := #[] }) (Dat.pair (Dat.int (0 : Int)) (Dat.pair (Dat.int (0 : Int)) (Dat.int (0 : Int))))]))) col xs n (n2 + (1 : Int)) E0)))) (
                req (appOK l (0 : Nat) (List.length l) (1 : Nat) (32 : Nat)) (
                req (inR IntKind.i64 (n2 + (1 : Int))) (((List.length (dapp l (0 : Nat) (List.length l) [Dat.pair (Dat.str (Utf8.encode (Dat.toInt (List.getD xs (Int.toNat n2) default)))) (Dat.pair (Dat.int (1 : Int)) (Dat.pair (Dat.int (0 : Int)) (Dat.int (0 : Int))))])) = List.length (dapp l (0 : Nat) (List.length l) [Dat.pair (Dat.str (Utf8.encode (Dat.toInt (List.getD xs (Int.toNat n2) default)))) (Dat.pair (Dat.int (1 : Int)) (Dat.pair (Dat.int (0 : Int)) (Dat.int (0 : Int))))]) ∧ l16_5 fu (dapp l (0 : Nat) (List.length l) [Dat.pair (Dat.str (Utf8.encode (Dat.toInt (List.getD xs (Int.toNat n2) default)))) (Dat.pair (Dat.int (1 : Int)) (Dat.pair (Dat.int (0 : Int)) (Dat.int (0 : Int))))]) col xs n (n2 + (1 : Int)) E0))))))))))))))))) (E0 l)
def F16_5 : AM.Form := ⟨mkF 87 [(1, .int .i64), (5, .p 0 0), (6, .fn 39 [.p 0 0]), (12, .ro (.int .i32)), (13, .int .i64), (14, .int .i64)], [.cells 35 [.sl 1], .seq 37 (.pair .str (.pair (.int .i64) (.pair (.int .i64) .unit)))]⟩
noncomputable def mm16_5 (n : Nat) (ds : List Dat) (Q : AExit → List AV → AH → Prop) : Prop := l16_5 n ((dat ds 4).toList) ((dat ds 0).toInt) ((dat ds 1).toList) ((dat ds 2).toInt) ((dat ds 3).toInt) (fun rl => Q (AExit.exit 0) (mkAV 87 [(5, .p 0 0)]) ⟨[.cells 35 [.sl 1 0 rl.length], .seq 37 (.pair .str (.pair (.int .i64) (.pair (.int .i64) .unit))) rl], []⟩)
theorem t16_5 (n : Nat) (ds : List Dat) (Q : AExit → List AV → AH → Prop) : wpA Tryd.prog tys GG16_10 1000 16 (theLoop Tryd.prog 16 5) (fun e f' h' => endF Tryd.prog ((fun _ => []) e) ((fun e => match e with | .normal => ⟨[1, 5, 6, 12, 13, 14], []⟩ | .exit 0 => ⟨[5], []⟩ | _ => ⟨[], []⟩) e) ((fun e => match e with | .normal => [] | .exit 0 => [] | _ => []) e) (F16_5.hp ds) f' h' fun f2 h2 => match e with
      | .normal => locL F16_5 (mm16_5 n) f2 h2 Q
      | e => Q e f2 h2) (F16_5.fr ds) (F16_5.hp ds) = mm16_5 (n + 1) ds Q := by kernel_rfl
noncomputable def R16_5 : LoopT := headF Tryd.prog [] ⟨[1, 5, 6, 12, 13, 14], []⟩ [] fun f h Q => ∃ n, locL F16_5 (mm16_5 n) f h Q
theorem ok16_5 : LoopOK Tryd.prog (theLoop Tryd.prog 16 5) R16_5 := ruleL_ok sGG16_10 (by kernel_rfl) mm16_5 (fun _ _ => rfl) t16_5
noncomputable def ls16_5 : List (FuncId × Nat × LoopT) := (16, 5, R16_5) :: ls16_10
theorem ls16_5_ok : LoopsOK Tryd.prog ls16_5 := .cons (by kernel_rfl) ok16_5 ls16_10_ok
noncomputable def GG16_5 : Rules := mkG [37, 27] cs37 ls16_5
theorem sGG16_5 : Sound Tryd.prog tys GG16_5 := mk_sound mixed tysOK names (by kernel_rfl) cs37_ok ls16_5_ok
noncomputable def m16 (l : List Dat) (col : Int) (K : List Dat → Prop) : Prop :=
    (∃ y0, 
    (((0 : Nat) = (0 : Nat)) ∧ 
    l16_5 y0 [] (if true = true then max col (0 : Int) else min col (0 : Int)) l (↑(List.length l) : Int) (0 : Int) (fun y1 => K y1)))
def F16 : AM.Form := ⟨[.ro (.int .i32), .int .i64], []⟩
noncomputable def mm16 (ds : List Dat) (K : AV → AH → Prop) : Prop := m16 ((dat ds 0).toList) ((dat ds 1).toInt) (fun rl => K (.sl 0 0 rl.length) ⟨[.seq 37 (.pair .str (.pair (.int .i64) (.pair (.int .i64) .unit))) rl], []⟩)
theorem t16 (ds : List Dat) (K : AV → AH → Prop) : callA Tryd.prog tys GG16_5 1000 16 (F16.fr ds) (F16.hp ds) (fun v h' => endK Tryd.prog [] .keep (F16.hp ds) (F16.fr ds) v h' K) = mm16 ds K := by kernel_rfl
noncomputable def R16 : CallT := ruleF Tryd.prog [(.ro (.int .i32)), .keep] [] F16 mm16
theorem ok16 : CallOK Tryd.prog 16 R16 := ruleF_ok sGG16_5 t16
noncomputable def cs16 : List (FuncId × CallT) := (16, R16) :: cs37
theorem cs16_ok : CallsOK Tryd.prog cs16 := .cons ok16 cs37_ok
noncomputable def GG16 : Rules := mkG [37, 27] cs16 ls16_5
theorem sGG16 : Sound Tryd.prog tys GG16 := mk_sound mixed tysOK names (by kernel_rfl) cs16_ok ls16_5_ok
end Go.Proofs.YthegkipclogoeaaDoor

set_option linter.unusedVariables false
set_option maxRecDepth 100000
namespace Go.Proofs.YthegkipclogoeaaDoor
open Go.AM Go.LTxt Go.LMem Go.RowKit
noncomputable def l57_3 : Nat → List Dat → Int → Int → (List Dat → Prop) → Prop
  | 0, _, _, _, _ => False
  | fu + 1, l, n, n2, E0 =>
    br (decide (n2 < n)) (
     req (decide ((0 : Int) ≤ n2) && decide (n2 < (↑(List.length l) : Int))) (
     req (decide ((0 : Nat) + Int.toNat n2 < List.length l)) (
     br (decide (Dat.toInt (Dat.fst (Dat.snd (List.getD l ((0 : Nat) + Int.toNat n2) default))) = (2 : Int))) (
      req (inR IntKind.i64 (n2 + (1 : Int))) (
      br (decide ((↑(List.length l) : Int) ≤ n2 + (1 : Int))) (
       m47 (fun y0 y1 y2 => 
        req (decide ((0 : Int) ≤ n2) && decide (n2 < (↑(List.length l) : Int))) (
        req (decide ((0 : Nat) + Int.toNat n2 < List.length l)) (
        req (inR IntKind.i64 (n2 + (1 : Int))) (((List.length l) = List.length (List.set l ((0 : Nat) + Int.toNat n2) (Dat.pair (Dat.str y0) (Dat.pair (Dat.int y1) (Dat.pair (Dat.int y2) (Dat.int (0 : Int)))))) ∧ ((List.length l) = List.length (List.set l ((0 : Nat) + Int.toNat n2) (Dat.pair (Dat.str y0) (Dat.pair (Dat.int y1) (Dat.pair (Dat.int y2) (Dat.int (0 : Int)))))) ∧ l57_3 fu (List.set l ((0 : Nat) + Int.toNat n2) (Dat.pair (Dat.str y0) (Dat.pair (Dat.int y1) (Dat.pair (Dat.int y2) (Dat.int (0 : Int)))))) n (n2 + (1 : Int)) E0))))))) (
       req (inR IntKind.i64 (n2 + (1 : Int))) (
       req (decide ((0 : Int) ≤ n2 + (1 : Int)) && decide (n2 + (1 : Int) < (↑(List.length l) : Int))) (
       req (decide ((0 : Nat) + Int.toNat (n2 + (1 : Int)) < List.length l)) (
       br (!decide (Dat.toInt (Dat.fst (Dat.snd (List.getD l ((0 : Nat) + Int.toNat (n2 + (1 : Int))) default))) = (0 : Int))) (
        m47 (fun y3 y4 y5 => 
         req (decide ((0 : Int) ≤ n2) && decide (n2 < (↑(List.length l) : Int))) (
         req (decide ((0 : Nat) + Int.toNat n2 < List.length l)) (
         req (inR IntKind.i64 (n2 + (1 : Int))) (((List.length l) = List.length (List.set l ((0 : Nat) + Int.toNat n2) (Dat.pair (Dat.str y3) (Dat.pair (Dat.int y4) (Dat.pair (Dat.int y5) (Dat.int (0 : Int)))))) ∧ ((List.length l) = List.length (List.set l ((0 : Nat) + Int.toNat n2) (Dat.pair (Dat.str y3) (Dat.pair (Dat.int y4) (Dat.pair (Dat.int y5) (Dat.int (0 : Int)))))) ∧ l57_3 fu (List.set l ((0 : Nat) + Int.toNat n2) (Dat.pair (Dat.str y3) (Dat.pair (Dat.int y4) (Dat.pair (Dat.int y5) (Dat.int (0 : Int)))))) n (n2 + (1 : Int)) E0))))))) (
        br (decide (Dat.toInt (Dat.fst (Dat.snd (List.getD l ((0 : Nat) + Int.toNat n2) default))) = (0 : Int))) (
         br (decide (n2 = (0 : Int))) (
          m47 (fun y6 y7 y8 => 
           req (decide ((0 : Int) ≤ n2) && decide (n2 < (↑(List.length l) : Int))) (
           req (decide ((0 : Nat) + Int.toNat n2 < List.length l)) (
           req (inR IntKind.i64 (n2 + (1 : Int))) (((List.length l) = List.length (List.set l ((0 : Nat) + Int.toNat n2) (Dat.pair (Dat.str y6) (Dat.pair (Dat.int y7) (Dat.pair (Dat.int y8) (Dat.int (0 : Int)))))) ∧ ((List.length l) = List.length (List.set l ((0 : Nat) + Int.toNat n2) (Dat.pair (Dat.str y6) (Dat.pair (Dat.int y7) (Dat.pair (Dat.int y8) (Dat.int (0 : Int)))))) ∧ l57_3 fu (List.set l ((0 : Nat) + Int.toNat n2) (Dat.pair (Dat.str y6) (Dat.pair (Dat.int y7) (Dat.pair (Dat.int y8) (Dat.int (0 : Int)))))) n (n2 + (1 : Int)) E0))))))) (
          req (inR IntKind.i64 (n2 - (1 : Int))) (
          req (decide ((0 : Int) ≤ n2 - (1 : Int)) && decide (n2 - (1 : Int) < (↑(List.length l) : Int))) (
          req (decide ((0 : Nat) + Int.toNat (n2 - (1 : Int)) < List.length l)) (
          br (!decide (Dat.toInt (Dat.fst (Dat.snd (List.getD l ((0 : Nat) + Int.toNat (n2 - (1 : Int))) default))) = (2 : Int))) (
           m47 (fun y9 y10 y11 => 
            req (decide ((0 : Int) ≤ n2) && decide (n2 < (↑(List.length l) : Int))) (
            req (decide ((0 : Nat) + Int.toNat n2 < List.length l)) (
            req (inR IntKind.i64 (n2 + (1 : Int))) (((List.length l) = List.length (List.set l ((0 : Nat) + Int.toNat n2) (Dat.pair (Dat.str y9) (Dat.pair (Dat.int y10) (Dat.pair (Dat.int y11) (Dat.int (0 : Int)))))) ∧ ((List.length l) = List.length (List.set l ((0 : Nat) + Int.toNat n2) (Dat.pair (Dat.str y9) (Dat.pair (Dat.int y10) (Dat.pair (Dat.int y11) (Dat.int (0 : Int)))))) ∧ l57_3 fu (List.set l ((0 : Nat) + Int.toNat n2) (Dat.pair (Dat.str y9) (Dat.pair (Dat.int y10) (Dat.pair (Dat.int y11) (Dat.int (0 : Int)))))) n (n2 + (1 : Int)) E0))))))) (
           req (inR IntKind.i64 (n2 + (1 : Int))) (((List.length l) = List.length l ∧ ((List.length l) = List.length l ∧ l57_3 fu l n (n2 + (1 : Int)) E0))))))))) (
         req (inR IntKind.i64 (n2 + (1 : Int))) (((List.length l) = List.length l ∧ ((List.length l) = List.length l ∧ l57_3 fu l n (n2 + (1 : Int)) E0))))))))))) (
      br (decide (Dat.toInt (Dat.fst (Dat.snd (List.getD l ((0 : Nat) + Int.toNat n2) default))) = (0 : Int))) (
       br (decide (n2 = (0 : Int))) (
        m47 (fun y12 y13 y14 => 
         req (decide ((0 : Int) ≤ n2) && decide (n2 < (↑(List.length l) : Int))) (
         req (decide ((0 : Nat) + Int.toNat n2 < List.length l)) (
         req (inR IntKind.i64 (n2 + (1 : Int))) (((List.length l) = List.length (List.set l ((0 : Nat) + Int.toNat n2) (Dat.pair (Dat.str y12) (Dat.pair (Dat.int y13) (Dat.pair (Dat.int y14) (Dat.int (0 : Int)))))) ∧ ((List.length l) = List.length (List.set l ((0 : Nat) + Int.toNat n2) (Dat.pair (Dat.str y12) (Dat.pair (Dat.int y13) (Dat.pair (Dat.int y14) (Dat.int (0 : Int)))))) ∧ l57_3 fu (List.set l ((0 : Nat) + Int.toNat n2) (Dat.pair (Dat.str y12) (Dat.pair (Dat.int y13) (Dat.pair (Dat.int y14) (Dat.int (0 : Int)))))) n (n2 + (1 : Int)) E0))))))) (
        req (inR IntKind.i64 (n2 - (1 : Int))) (
        req (decide ((0 : Int) ≤ n2 - (1 : Int)) && decide (n2 - (1 : Int) < (↑(List.length l) : Int))) (
        req (decide ((0 : Nat) + Int.toNat (n2 - (1 : Int)) < List.length l)) (
        br (!decide (Dat.toInt (Dat.fst (Dat.snd (List.getD l ((0 : Nat) + Int.toNat (n2 - (1 : Int))) default))) = (2 : Int))) (
         m47 (fun y15 y16 y17 => 
          req (decide ((0 : Int) ≤ n2) && decide (n2 < (↑(List.length l) : Int))) (
          req (decide ((0 : Nat) + Int.toNat n2 < List.length l)) (
          req (inR IntKind.i64 (n2 + (1 : Int))) (((List.length l) = List.length (List.set l ((0 : Nat) + Int.toNat n2) (Dat.pair (Dat.str y15) (Dat.pair (Dat.int y16) (Dat.pair (Dat.int y17) (Dat.int (0 : Int)))))) ∧ ((List.length l) = List.length (List.set l ((0 : Nat) + Int.toNat n2) (Dat.pair (Dat.str y15) (Dat.pair (Dat.int y16) (Dat.pair (Dat.int y17) (Dat.int (0 : Int)))))) ∧ l57_3 fu (List.set l ((0 : Nat) + Int.toNat n2) (Dat.pair (Dat.str y15) (Dat.pair (Dat.int y16) (Dat.pair (Dat.int y17) (Dat.int (0 : Int)))))) n (n2 + (1 : Int)) E0))))))) (
         req (inR IntKind.i64 (n2 + (1 : Int))) (((List.length l) = List.length l ∧ ((List.length l) = List.length l ∧ l57_3 fu l n (n2 + (1 : Int)) E0))))))))) (
       req (inR IntKind.i64 (n2 + (1 : Int))) (((List.length l) = List.length l ∧ ((List.length l) = List.length l ∧ l57_3 fu l n (n2 + (1 : Int)) E0)))))))) (E0 l)
def F57_3 : AM.Form := ⟨mkF 57 [(0, .sl 0), (7, .sl 0), (8, .int .i64), (9, .int .i64)], [.seq 37 (.pair .str (.pair (.int .i64) (.pair (.int .i64) .unit)))]⟩
noncomputable def mm57_3 (n : Nat) (ds : List Dat) (Q : AExit → List AV → AH → Prop) : Prop := l57_3 n ((dat ds 2).toList) ((dat ds 0).toInt) ((dat ds 1).toInt) (fun rl => Q (AExit.exit 0) (mkAV 57 [(0, .sl 0 0 rl.length)]) ⟨[.seq 37 (.pair .str (.pair (.int .i64) (.pair (.int .i64) .unit))) rl], []⟩)
theorem t57_3 (n : Nat) (ds : List Dat) (Q : AExit → List AV → AH → Prop) : wpA Tryd.prog tys GG16 1000 57 (theLoop Tryd.prog 57 3) (fun e f' h' => endF Tryd.prog ((fun _ => []) e) ((fun e => match e with | .normal => ⟨[0, 7, 8, 9], []⟩ | .exit 0 => ⟨[0], []⟩ | _ => ⟨[], []⟩) e) ((fun e => match e with | .normal => [] | .exit 0 => [] | _ => []) e) (F57_3.hp ds) f' h' fun f2 h2 => match e with
      | .normal => locL F57_3 (mm57_3 n) f2 h2 Q
      | e => Q e f2 h2) (F57_3.fr ds) (F57_3.hp ds) = mm57_3 (n + 1) ds Q := by kernel_rfl
noncomputable def R57_3 : LoopT := headF Tryd.prog [] ⟨[0, 7, 8, 9], []⟩ [] fun f h Q => ∃ n, locL F57_3 (mm57_3 n) f h Q
theorem ok57_3 : LoopOK Tryd.prog (theLoop Tryd.prog 57 3) R57_3 := ruleL_ok sGG16 (by kernel_rfl) mm57_3 (fun _ _ => rfl) t57_3
noncomputable def ls57_3 : List (FuncId × Nat × LoopT) := (57, 3, R57_3) :: ls16_5
theorem ls57_3_ok : LoopsOK Tryd.prog ls57_3 := .cons (by kernel_rfl) ok57_3 ls16_5_ok
noncomputable def GG57_3 : Rules := mkG [37, 27] cs16 ls57_3
theorem sGG57_3 : Sound Tryd.prog tys GG57_3 := mk_sound mixed tysOK names (by kernel_rfl) cs16_ok ls57_3_ok
noncomputable def m57 (l : List Dat) (K : List Dat → Prop) : Prop :=
    m20 l (fun y0 => 
     (∃ y1, 
     ((List.length y0 = List.length y0) ∧ 
     ((List.length y0 = List.length y0) ∧ 
     l57_3 y1 y0 (↑(List.length y0) : Int) (0 : Int) (fun y2 => K y2)))))
def F57 : AM.Form := ⟨[.ro (.pair .str (.pair (.int .i64) (.pair (.int .i64) .unit)))], []⟩
noncomputable def mm57 (ds : List Dat) (K : AV → AH → Prop) : Prop := m57 ((dat ds 0).toList) (fun rl => K (.sl 0 0 rl.length) ⟨[.seq 37 (.pair .str (.pair (.int .i64) (.pair (.int .i64) .unit))) rl], []⟩)
theorem t57 (ds : List Dat) (K : AV → AH → Prop) : callA Tryd.prog tys GG57_3 1000 57 (F57.fr ds) (F57.hp ds) (fun v h' => endK Tryd.prog [] .keep (F57.hp ds) (F57.fr ds) v h' K) = mm57 ds K := by kernel_rfl
noncomputable def R57 : CallT := ruleF Tryd.prog [(.ro (.pair .str (.pair (.int .i64) (.pair (.int .i64) .unit))))] [] F57 mm57
theorem ok57 : CallOK Tryd.prog 57 R57 := ruleF_ok sGG57_3 t57
noncomputable def cs57 : List (FuncId × CallT) := (57, R57) :: cs16
theorem cs57_ok : CallsOK Tryd.prog cs57 := .cons ok57 cs16_ok
noncomputable def GG57 : Rules := mkG [37, 27] cs57 ls57_3
theorem sGG57 : Sound Tryd.prog tys GG57 := mk_sound mixed tysOK names (by kernel_rfl) cs57_ok ls57_3_ok
noncomputable def m38 (cells : List Dat) (cols : Int) (at' : Int) (K : List Dat → Int → Prop) : Prop :=
    br (decide (at' = (↑(List.length cells) : Int))) (
     req (inR IntKind.i64 ((↑(List.length cells) : Int) + (1 : Int))) (
     br (decide ((↑(List.length cells) : Int) + (1 : Int) ≤ cols)) (K cells at') (
      req (inR IntKind.i64 (Int.tdiv cols (2 : Int))) (
      req (!decide (Int.tdiv cols (2 : Int) = (0 : Int))) (
      req (inR IntKind.i64 (Int.tdiv at' (Int.tdiv cols (2 : Int)))) (
      req (inR IntKind.i64 (Int.tdiv at' (Int.tdiv cols (2 : Int)) - (1 : Int))) (
      req (inR IntKind.i64 ((Int.tdiv at' (Int.tdiv cols (2 : Int)) - (1 : Int)) * Int.tdiv cols (2 : Int))) (
      req (inR IntKind.i64 ((if true = true then max ((Int.tdiv at' (Int.tdiv cols (2 : Int)) - (1 : Int)) * Int.tdiv cols (2 : Int)) (0 : Int) else min ((Int.tdiv at' (Int.tdiv cols (2 : Int)) - (1 : Int)) * Int.tdiv cols (2 : Int)) (0 : Int)) + cols)) (
      req (decide ((0 : Int) ≤ if true = true then max ((Int.tdiv at' (Int.tdiv cols (2 : Int)) - (1 : Int)) * Int.tdiv cols (2 : Int)) (0 : Int) else min ((Int.tdiv at' (Int.tdiv cols (2 : Int)) - (1 : Int)) * Int.tdiv cols (2 : Int)) (0 : Int)) && decide ((if true = true then max ((Int.tdiv at' (Int.tdiv cols (2 : Int)) - (1 : Int)) * Int.tdiv cols (2 : Int)) (0 : Int) else min ((Int.tdiv at' (Int.tdiv cols (2 : Int)) - (1 : Int)) * Int.tdiv cols (2 : Int)) (0 : Int)) ≤ if false = true then max ((if true = true then max ((Int.tdiv at' (Int.tdiv cols (2 : Int)) - (1 : Int)) * Int.tdiv cols (2 : Int)) (0 : Int) else min ((Int.tdiv at' (Int.tdiv cols (2 : Int)) - (1 : Int)) * Int.tdiv cols (2 : Int)) (0 : Int)) + cols) (↑(List.length cells) : Int) else min ((if true = true then max ((Int.tdiv at' (Int.tdiv cols (2 : Int)) - (1 : Int)) * Int.tdiv cols (2 : Int)) (0 : Int) else min ((Int.tdiv at' (Int.tdiv cols (2 : Int)) - (1 : Int)) * Int.tdiv cols (2 : Int)) (0 : Int)) + cols) (↑(List.length cells) : Int)) && decide ((if false = true then max ((if true = true then max ((Int.tdiv at' (Int.tdiv cols (2 : Int)) - (1 : Int)) * Int.tdiv cols (2 : Int)) (0 : Int) else min ((Int.tdiv at' (Int.tdiv cols (2 : Int)) - (1 : Int)) * Int.tdiv cols (2 : Int)) (0 : Int)) + cols) (↑(List.length cells) : Int) else min ((if true = true then max ((Int.tdiv at' (Int.tdiv cols (2 : Int)) - (1 : Int)) * Int.tdiv cols (2 : Int)) (0 : Int) else min ((Int.tdiv at' (Int.tdiv cols (2 : Int)) - (1 : Int)) * Int.tdiv cols (2 : Int)) (0 : Int)) + cols) (↑(List.length cells) : Int)) ≤ if false = true then max ((if true = true then max ((Int.tdiv at' (Int.tdiv cols (2 : Int)) - (1 : Int)) * Int.tdiv cols (2 : Int)) (0 : Int) else min ((Int.tdiv at' (Int.tdiv cols (2 : Int)) - (1 : Int)) * Int.tdiv cols (2 : Int)) (0 : Int)) + cols) (↑(List.length cells) : Int) else min ((if true = true then max ((Int.tdiv at' (Int.tdiv cols (2 : Int)) - (1 : Int)) * Int.tdiv cols (2 : Int)) (0 : Int) else min ((Int.tdiv at' (Int.tdiv cols (2 : Int)) - (1 : Int)) * Int.tdiv cols (2 : Int)) (0 : Int)) + cols) (↑(List.length cells) : Int)) && decide ((if false = true then max ((if true = true then max ((Int.tdiv at' (Int.tdiv cols (2 : Int)) - (1 : Int)) * Int.tdiv cols (2 : Int)) (0 : Int) else min ((Int.tdiv at' (Int.tdiv cols (2 : Int)) - (1 : Int)) * Int.tdiv cols (2 : Int)) (0 : Int)) + cols) (↑(List.length cells) : Int) else min ((if true = true then max ((Int.tdiv at' (Int.tdiv cols (2 : Int)) - (1 : Int)) * Int.tdiv cols (2 : Int)) (0 : Int) else min ((Int.tdiv at' (Int.tdiv cols (2 : Int)) - (1 : Int)) * Int.tdiv cols (2 : Int)) (0 : Int)) + cols) (↑(List.length cells) : Int)) ≤ (↑(List.length cells) : Int))) (
      m57 (List.take (Int.toNat (if false = true then max ((if true = true then max ((Int.tdiv at' (Int.tdiv cols (2 : Int)) - (1 : Int)) * Int.tdiv cols (2 : Int)) (0 : Int) else min ((Int.tdiv at' (Int.tdiv cols (2 : Int)) - (1 : Int)) * Int.tdiv cols (2 : Int)) (0 : Int)) + cols) (↑(List.length cells) : Int) else min ((if true = true then max ((Int.tdiv at' (Int.tdiv cols (2 : Int)) - (1 : Int)) * Int.tdiv cols (2 : Int)) (0 : Int) else min ((Int.tdiv at' (Int.tdiv cols (2 : Int)) - (1 : Int)) * Int.tdiv cols (2 : Int)) (0 : Int)) + cols) (↑(List.length cells) : Int)) - Int.toNat (if true = true then max ((Int.tdiv at' (Int.tdiv cols (2 : Int)) - (1 : Int)) * Int.tdiv cols (2 : Int)) (0 : Int) else min ((Int.tdiv at' (Int.tdiv cols (2 : Int)) - (1 : Int)) * Int.tdiv cols (2 : Int)) (0 : Int))) (List.drop (Int.toNat (if true = true then max ((Int.tdiv at' (Int.tdiv cols (2 : Int)) - (1 : Int)) * Int.tdiv cols (2 : Int)) (0 : Int) else min ((Int.tdiv at' (Int.tdiv cols (2 : Int)) - (1 : Int)) * Int.tdiv cols (2 : Int)) (0 : Int))) cells)) (fun y0 => 
       br (decide ((0 : Int) < if true = true then max ((Int.tdiv at' (Int.tdiv cols (2 : Int)) - (1 : Int)) * Int.tdiv cols (2 : Int)) (0 : Int) else min ((Int.tdiv at' (Int.tdiv cols (2 : Int)) - (1 : Int)) * Int.tdiv cols (2 : Int)) (0 : Int))) (
        br (decide ((0 : Int) < (↑(List.length y0) : Int))) (
         req (decide ((0 : Int) ≤ (0 : Int)) && decide ((0 : Int) < (↑(List.length y0) : Int))) (
         req (decide ((0 : Nat) < List.length y0)) (
         br (decide ((if false = true then max ((if true = true then max ((Int.tdiv at' (Int.tdiv cols (2 : Int)) - (1 : Int)) * Int.tdiv cols (2 : Int)) (0 : Int) else min ((Int.tdiv at' (Int.tdiv cols (2 : Int)) - (1 : Int)) * Int.tdiv cols (2 : Int)) (0 : Int)) + cols) (↑(List.length cells) : Int) else min ((if true = true then max ((Int.tdiv at' (Int.tdiv cols (2 : Int)) - (1 : Int)) * Int.tdiv cols (2 : Int)) (0 : Int) else min ((Int.tdiv at' (Int.tdiv cols (2 : Int)) - (1 : Int)) * Int.tdiv cols (2 : Int)) (0 : Int)) + cols) (↑(List.length cells) : Int)) < (↑(List.length cells) : Int))) (
          req (inR IntKind.i64 ((↑(List.length y0) : Int) - (1 : Int))) (
          req (decide ((0 : Int) ≤ (↑(List.length y0) : Int) - (1 : Int)) && decide ((↑(List.length y0) : Int) - (1 : Int) < (↑(List.length y0) : Int))) (
          req (decide ((0 : Nat) + Int.toNat ((↑(List.length y0) : Int) - (1 : Int)) < List.length (List.set y0 (0 : Nat) (Dat.pair (Dat.str { data := #[(60 : UInt8)] }) (Dat.pair (Dat.int (1 : Int)) (Dat.pair (Dat.int (0 : Int)) (Dat.int (0 : Int)))))))) (
          req (decide ((0 : Nat) + List.length y0 ≤ List.length (List.set (List.set y0 (0 : Nat) (Dat.pair (Dat.str { data := #[(60 : UInt8)] }) (Dat.pair (Dat.int (1 : Int)) (Dat.pair (Dat.int (0 : Int)) (Dat.int (0 : Int)))))) ((0 : Nat) + Int.toNat ((↑(List.length y0) : Int) - (1 : Int))) (Dat.pair (Dat.str { data := #[(62 : UInt8)] }) (Dat.pair (Dat.int (1 : Int)) (Dat.pair (Dat.int (0 : Int)) (Dat.int (0 : Int)))))))) (
          m57 (List.take (List.length y0) (List.set (List.set y0 (0 : Nat) (Dat.pair (Dat.str { data := #[(60 : UInt8)] }) (Dat.pair (Dat.int (1 : Int)) (Dat.pair (Dat.int (0 : Int)) (Dat.int (0 : Int)))))) ((0 : Nat) + Int.toNat ((↑(List.length y0) : Int) - (1 : Int))) (Dat.pair (Dat.str { data := #[(62 : UInt8)] }) (Dat.pair (Dat.int (1 : Int)) (Dat.pair (Dat.int (0 : Int)) (Dat.int (0 : Int))))))) (fun y1 => 
           req (inR IntKind.i64 (at' - if true = true then max ((Int.tdiv at' (Int.tdiv cols (2 : Int)) - (1 : Int)) * Int.tdiv cols (2 : Int)) (0 : Int) else min ((Int.tdiv at' (Int.tdiv cols (2 : Int)) - (1 : Int)) * Int.tdiv cols (2 : Int)) (0 : Int))) (
           req (decide ((0 : Nat) + List.length y1 ≤ List.length y1)) (K (List.take (List.length y1) y1) (at' - if true = true then max ((Int.tdiv at' (Int.tdiv cols (2 : Int)) - (1 : Int)) * Int.tdiv cols (2 : Int)) (0 : Int) else min ((Int.tdiv at' (Int.tdiv cols (2 : Int)) - (1 : Int)) * Int.tdiv cols (2 : Int)) (0 : Int)))))))))) (
          req (decide ((0 : Nat) + List.length y0 ≤ List.length (List.set y0 (0 : Nat) (Dat.pair (Dat.str { data := #[(60 : UInt8)] }) (Dat.pair (Dat.int (1 : Int)) (Dat.pair (Dat.int (0 : Int)) (Dat.int (0 : Int)))))))) (
          m57 (List.take (List.length y0) (List.set y0 (0 : Nat) (Dat.pair (Dat.str { data := #[(60 : UInt8)] }) (Dat.pair (Dat.int (1 : Int)) (Dat.pair (Dat.int (0 : Int)) (Dat.int (0 : Int))))))) (fun y2 => 
           req (inR IntKind.i64 (at' - if true = true then max ((Int.tdiv at' (Int.tdiv cols (2 : Int)) - (1 : Int)) * Int.tdiv cols (2 : Int)) (0 : Int) else min ((Int.tdiv at' (Int.tdiv cols (2 : Int)) - (1 : Int)) * Int.tdiv cols (2 : Int)) (0 : Int))) (
           req (decide ((0 : Nat) + List.length y2 ≤ List.length y2)) (K (List.take (List.length y2) y2) (at' - if true = true then max ((Int.tdiv at' (Int.tdiv cols (2 : Int)) - (1 : Int)) * Int.tdiv cols (2 : Int)) (0 : Int) else min ((Int.tdiv at' (Int.tdiv cols (2 : Int)) - (1 : Int)) * Int.tdiv cols (2 : Int)) (0 : Int)))))))))) (
         br (decide ((if false = true then max ((if true = true then max ((Int.tdiv at' (Int.tdiv cols (2 : Int)) - (1 : Int)) * Int.tdiv cols (2 : Int)) (0 : Int) else min ((Int.tdiv at' (Int.tdiv cols (2 : Int)) - (1 : Int)) * Int.tdiv cols (2 : Int)) (0 : Int)) + cols) (↑(List.length cells) : Int) else min ((if true = true then max ((Int.tdiv at' (Int.tdiv cols (2 : Int)) - (1 : Int)) * Int.tdiv cols (2 : Int)) (0 : Int) else min ((Int.tdiv at' (Int.tdiv cols (2 : Int)) - (1 : Int)) * Int.tdiv cols (2 : Int)) (0 : Int)) + cols) (↑(List.length cells) : Int)) < (↑(List.length cells) : Int))) (
          req (inR IntKind.i64 ((↑(List.length y0) : Int) - (1 : Int))) (
          req (decide ((0 : Int) ≤ (↑(List.length y0) : Int) - (1 : Int)) && decide ((↑(List.length y0) : Int) - (1 : Int) < (↑(List.length y0) : Int))) (
          req (decide ((0 : Nat) + Int.toNat ((↑(List.length y0) : Int) - (1 : Int)) < List.length y0)) (
          req (decide ((0 : Nat) + List.length y0 ≤ List.length (List.set y0 ((0 : Nat) + Int.toNat ((↑(List.length y0) : Int) - (1 : Int))) (Dat.pair (Dat.str { data := #[(62 : UInt8)] }) (Dat.pair (Dat.int (1 : Int)) (Dat.pair (Dat.int (0 : Int)) (Dat.int (0 : Int)))))))) (
          m57 (List.take (List.length y0) (List.set y0 ((0 : Nat) + Int.toNat ((↑(List.length y0) : Int) - (1 : Int))) (Dat.pair (Dat.str { data := #[(62 : UInt8)] }) (Dat.pair (Dat.int (1 : Int)) (Dat.pair (Dat.int (0 : Int)) (Dat.int (0 : Int))))))) (fun y3 => 
           req (inR IntKind.i64 (at' - if true = true then max ((Int.tdiv at' (Int.tdiv cols (2 : Int)) - (1 : Int)) * Int.tdiv cols (2 : Int)) (0 : Int) else min ((Int.tdiv at' (Int.tdiv cols (2 : Int)) - (1 : Int)) * Int.tdiv cols (2 : Int)) (0 : Int))) (
           req (decide ((0 : Nat) + List.length y3 ≤ List.length y3)) (K (List.take (List.length y3) y3) (at' - if true = true then max ((Int.tdiv at' (Int.tdiv cols (2 : Int)) - (1 : Int)) * Int.tdiv cols (2 : Int)) (0 : Int) else min ((Int.tdiv at' (Int.tdiv cols (2 : Int)) - (1 : Int)) * Int.tdiv cols (2 : Int)) (0 : Int)))))))))) (
          req (decide ((0 : Nat) + List.length y0 ≤ List.length y0)) (
          m57 (List.take (List.length y0) y0) (fun y4 => 
           req (inR IntKind.i64 (at' - if true = true then max ((Int.tdiv at' (Int.tdiv cols (2 : Int)) - (1 : Int)) * Int.tdiv cols (2 : Int)) (0 : Int) else min ((Int.tdiv at' (Int.tdiv cols (2 : Int)) - (1 : Int)) * Int.tdiv cols (2 : Int)) (0 : Int))) (
           req (decide ((0 : Nat) + List.length y4 ≤ List.length y4)) (K (List.take (List.length y4) y4) (at' - if true = true then max ((Int.tdiv at' (Int.tdiv cols (2 : Int)) - (1 : Int)) * Int.tdiv cols (2 : Int)) (0 : Int) else min ((Int.tdiv at' (Int.tdiv cols (2 : Int)) - (1 : Int)) * Int.tdiv cols (2 : Int)) (0 : Int))))))))) (
        br (decide ((if false = true then max ((if true = true then max ((Int.tdiv at' (Int.tdiv cols (2 : Int)) - (1 : Int)) * Int.tdiv cols (2 : Int)) (0 : Int) else min ((Int.tdiv at' (Int.tdiv cols (2 : Int)) - (1 : Int)) * Int.tdiv cols (2 : Int)) (0 : Int)) + cols) (↑(List.length cells) : Int) else min ((if true = true then max ((Int.tdiv at' (Int.tdiv cols (2 : Int)) - (1 : Int)) * Int.tdiv cols (2 : Int)) (0 : Int) else min ((Int.tdiv at' (Int.tdiv cols (2 : Int)) - (1 : Int)) * Int.tdiv cols (2 : Int)) (0 : Int)) + cols) (↑(List.length cells) : Int)) < (↑(List.length cells) : Int))) (
         req (inR IntKind.i64 ((↑(List.length y0) : Int) - (1 : Int))) (
         req (decide ((0 : Int) ≤ (↑(List.length y0) : Int) - (1 : Int)) && decide ((↑(List.length y0) : Int) - (1 : Int) < (↑(List.length y0) : Int))) (
         req (decide ((0 : Nat) + Int.toNat ((↑(List.length y0) : Int) - (1 : Int)) < List.length y0)) (
         req (decide ((0 : Nat) + List.length y0 ≤ List.length (List.set y0 ((0 : Nat) + Int.toNat ((↑(List.length y0) : Int) - (1 : Int))) (Dat.pair (Dat.str { data := #[(62 : UInt8)] }) (Dat.pair (Dat.int (1 : Int)) (Dat.pair (Dat.int (0 : Int)) (Dat.int (0 : Int)))))))) (
         m57 (List.take (List.length y0) (List.set y0 ((0 : Nat) + Int.toNat ((↑(List.length y0) : Int) - (1 : Int))) (Dat.pair (Dat.str { data := #[(62 : UInt8)] }) (Dat.pair (Dat.int (1 : Int)) (Dat.pair (Dat.int (0 : Int)) (Dat.int (0 : Int))))))) (fun y5 => 
          req (inR IntKind.i64 (at' - if true = true then max ((Int.tdiv at' (Int.tdiv cols (2 : Int)) - (1 : Int)) * Int.tdiv cols (2 : Int)) (0 : Int) else min ((Int.tdiv at' (Int.tdiv cols (2 : Int)) - (1 : Int)) * Int.tdiv cols (2 : Int)) (0 : Int))) (
          req (decide ((0 : Nat) + List.length y5 ≤ List.length y5)) (K (List.take (List.length y5) y5) (at' - if true = true then max ((Int.tdiv at' (Int.tdiv cols (2 : Int)) - (1 : Int)) * Int.tdiv cols (2 : Int)) (0 : Int) else min ((Int.tdiv at' (Int.tdiv cols (2 : Int)) - (1 : Int)) * Int.tdiv cols (2 : Int)) (0 : Int)))))))))) (
         req (decide ((0 : Nat) + List.length y0 ≤ List.length y0)) (
         m57 (List.take (List.length y0) y0) (fun y6 => 
          req (inR IntKind.i64 (at' - if true = true then max ((Int.tdiv at' (Int.tdiv cols (2 : Int)) - (1 : Int)) * Int.tdiv cols (2 : Int)) (0 : Int) else min ((Int.tdiv at' (Int.tdiv cols (2 : Int)) - (1 : Int)) * Int.tdiv cols (2 : Int)) (0 : Int))) (
          req (decide ((0 : Nat) + List.length y6 ≤ List.length y6)) (K (List.take (List.length y6) y6) (at' - if true = true then max ((Int.tdiv at' (Int.tdiv cols (2 : Int)) - (1 : Int)) * Int.tdiv cols (2 : Int)) (0 : Int) else min ((Int.tdiv at' (Int.tdiv cols (2 : Int)) - (1 : Int)) * Int.tdiv cols (2 : Int)) (0 : Int))))))))))))))))))) (
     br (decide ((↑(List.length cells) : Int) ≤ cols)) (K cells at') (
      req (inR IntKind.i64 (Int.tdiv cols (2 : Int))) (
      req (!decide (Int.tdiv cols (2 : Int) = (0 : Int))) (
      req (inR IntKind.i64 (Int.tdiv at' (Int.tdiv cols (2 : Int)))) (
      req (inR IntKind.i64 (Int.tdiv at' (Int.tdiv cols (2 : Int)) - (1 : Int))) (
      req (inR IntKind.i64 ((Int.tdiv at' (Int.tdiv cols (2 : Int)) - (1 : Int)) * Int.tdiv cols (2 : Int))) (
      req (inR IntKind.i64 ((if true = true then max ((Int.tdiv at' (Int.tdiv cols (2 : Int)) - (1 : Int)) * Int.tdiv cols (2 : Int)) (0 : Int) else min ((Int.tdiv at' (Int.tdiv cols (2 : Int)) - (1 : Int)) * Int.tdiv cols (2 : Int)) (0 : Int)) + cols)) (
      req (decide ((0 : Int) ≤ if true = true then max ((Int.tdiv at' (Int.tdiv cols (2 : Int)) - (1 : Int)) * Int.tdiv cols (2 : Int)) (0 : Int) else min ((Int.tdiv at' (Int.tdiv cols (2 : Int)) - (1 : Int)) * Int.tdiv cols (2 : Int)) (0 : Int)) && decide ((if true = true then max ((Int.tdiv at' (Int.tdiv cols (2 : Int)) - (1 : Int)) * Int.tdiv cols (2 : Int)) (0 : Int) else min ((Int.tdiv at' (Int.tdiv cols (2 : Int)) - (1 : Int)) * Int.tdiv cols (2 : Int)) (0 : Int)) ≤ if false = true then max ((if true = true then max ((Int.tdiv at' (Int.tdiv cols (2 : Int)) - (1 : Int)) * Int.tdiv cols (2 : Int)) (0 : Int) else min ((Int.tdiv at' (Int.tdiv cols (2 : Int)) - (1 : Int)) * Int.tdiv cols (2 : Int)) (0 : Int)) + cols) (↑(List.length cells) : Int) else min ((if true = true then max ((Int.tdiv at' (Int.tdiv cols (2 : Int)) - (1 : Int)) * Int.tdiv cols (2 : Int)) (0 : Int) else min ((Int.tdiv at' (Int.tdiv cols (2 : Int)) - (1 : Int)) * Int.tdiv cols (2 : Int)) (0 : Int)) + cols) (↑(List.length cells) : Int)) && decide ((if false = true then max ((if true = true then max ((Int.tdiv at' (Int.tdiv cols (2 : Int)) - (1 : Int)) * Int.tdiv cols (2 : Int)) (0 : Int) else min ((Int.tdiv at' (Int.tdiv cols (2 : Int)) - (1 : Int)) * Int.tdiv cols (2 : Int)) (0 : Int)) + cols) (↑(List.length cells) : Int) else min ((if true = true then max ((Int.tdiv at' (Int.tdiv cols (2 : Int)) - (1 : Int)) * Int.tdiv cols (2 : Int)) (0 : Int) else min ((Int.tdiv at' (Int.tdiv cols (2 : Int)) - (1 : Int)) * Int.tdiv cols (2 : Int)) (0 : Int)) + cols) (↑(List.length cells) : Int)) ≤ if false = true then max ((if true = true then max ((Int.tdiv at' (Int.tdiv cols (2 : Int)) - (1 : Int)) * Int.tdiv cols (2 : Int)) (0 : Int) else min ((Int.tdiv at' (Int.tdiv cols (2 : Int)) - (1 : Int)) * Int.tdiv cols (2 : Int)) (0 : Int)) + cols) (↑(List.length cells) : Int) else min ((if true = true then max ((Int.tdiv at' (Int.tdiv cols (2 : Int)) - (1 : Int)) * Int.tdiv cols (2 : Int)) (0 : Int) else min ((Int.tdiv at' (Int.tdiv cols (2 : Int)) - (1 : Int)) * Int.tdiv cols (2 : Int)) (0 : Int)) + cols) (↑(List.length cells) : Int)) && decide ((if false = true then max ((if true = true then max ((Int.tdiv at' (Int.tdiv cols (2 : Int)) - (1 : Int)) * Int.tdiv cols (2 : Int)) (0 : Int) else min ((Int.tdiv at' (Int.tdiv cols (2 : Int)) - (1 : Int)) * Int.tdiv cols (2 : Int)) (0 : Int)) + cols) (↑(List.length cells) : Int) else min ((if true = true then max ((Int.tdiv at' (Int.tdiv cols (2 : Int)) - (1 : Int)) * Int.tdiv cols (2 : Int)) (0 : Int) else min ((Int.tdiv at' (Int.tdiv cols (2 : Int)) - (1 : Int)) * Int.tdiv cols (2 : Int)) (0 : Int)) + cols) (↑(List.length cells) : Int)) ≤ (↑(List.length cells) : Int))) (
      m57 (List.take (Int.toNat (if false = true then max ((if true = true then max ((Int.tdiv at' (Int.tdiv cols (2 : Int)) - (1 : Int)) * Int.tdiv cols (2 : Int)) (0 : Int) else min ((Int.tdiv at' (Int.tdiv cols (2 : Int)) - (1 : Int)) * Int.tdiv cols (2 : Int)) (0 : Int)) + cols) (↑(List.length cells) : Int) else min ((if true = true then max ((Int.tdiv at' (Int.tdiv cols (2 : Int)) - (1 : Int)) * Int.tdiv cols (2 : Int)) (0 : Int) else min ((Int.tdiv at' (Int.tdiv cols (2 : Int)) - (1 : Int)) * Int.tdiv cols (2 : Int)) (0 : Int)) + cols) (↑(List.length cells) : Int)) - Int.toNat (if true = true then max ((Int.tdiv at' (Int.tdiv cols (2 : Int)) - (1 : Int)) * Int.tdiv cols (2 : Int)) (0 : Int) else min ((Int.tdiv at' (Int.tdiv cols (2 : Int)) - (1 : Int)) * Int.tdiv cols (2 : Int)) (0 : Int))) (List.drop (Int.toNat (if true = true then max ((Int.tdiv at' (Int.tdiv cols (2 : Int)) - (1 : Int)) * Int.tdiv cols (2 : Int)) (0 : Int) else min ((Int.tdiv at' (Int.tdiv cols (2 : Int)) - (1 : Int)) * Int.tdiv cols (2 : Int)) (0 : Int))) cells)) (fun y7 => 
       br (decide ((0 : Int) < if true = true then max ((Int.tdiv at' (Int.tdiv cols (2 : Int)) - (1 : Int)) * Int.tdiv cols (2 : Int)) (0 : Int) else min ((Int.tdiv at' (Int.tdiv cols (2 : Int)) - (1 : Int)) * Int.tdiv cols (2 : Int)) (0 : Int))) (
        br (decide ((0 : Int) < (↑(List.length y7) : Int))) (
         req (decide ((0 : Int) ≤ (0 : Int)) && decide ((0 : Int) < (↑(List.length y7) : Int))) (
         req (decide ((0 : Nat) < List.length y7)) (
         br (decide ((if false = true then max ((if true = true then max ((Int.tdiv at' (Int.tdiv cols (2 : Int)) - (1 : Int)) * Int.tdiv cols (2 : Int)) (0 : Int) else min ((Int.tdiv at' (Int.tdiv cols (2 : Int)) - (1 : Int)) * Int.tdiv cols (2 : Int)) (0 : Int)) + cols) (↑(List.length cells) : Int) else min ((if true = true then max ((Int.tdiv at' (Int.tdiv cols (2 : Int)) - (1 : Int)) * Int.tdiv cols (2 : Int)) (0 : Int) else min ((Int.tdiv at' (Int.tdiv cols (2 : Int)) - (1 : Int)) * Int.tdiv cols (2 : Int)) (0 : Int)) + cols) (↑(List.length cells) : Int)) < (↑(List.length cells) : Int))) (
          req (inR IntKind.i64 ((↑(List.length y7) : Int) - (1 : Int))) (
          req (decide ((0 : Int) ≤ (↑(List.length y7) : Int) - (1 : Int)) && decide ((↑(List.length y7) : Int) - (1 : Int) < (↑(List.length y7) : Int))) (
          req (decide ((0 : Nat) + Int.toNat ((↑(List.length y7) : Int) - (1 : Int)) < List.length (List.set y7 (0 : Nat) (Dat.pair (Dat.str { data := #[(60 : UInt8)] }) (Dat.pair (Dat.int (1 : Int)) (Dat.pair (Dat.int (0 : Int)) (Dat.int (0 : Int)))))))) (
          req (decide ((0 : Nat) + List.length y7 ≤ List.length (List.set (List.set y7 (0 : Nat) (Dat.pair (Dat.str { data := #[(60 : UInt8)] }) (Dat.pair (Dat.int (1 : Int)) (Dat.pair (Dat.int (0 : Int)) (Dat.int (0 : Int)))))) ((0 : Nat) + Int.toNat ((↑(List.length y7) : Int) - (1 : Int))) (Dat.pair (Dat.str { data := #[(62 : UInt8)] }) (Dat.pair (Dat.int (1 : Int)) (Dat.pair (Dat.int (0 : Int)) (Dat.int (0 : Int)))))))) (
          m57 (List.take (List.length y7) (List.set (List.set y7 (0 : Nat) (Dat.pair (Dat.str { data := #[(60 : UInt8)] }) (Dat.pair (Dat.int (1 : Int)) (Dat.pair (Dat.int (0 : Int)) (Dat.int (0 : Int)))))) ((0 : Nat) + Int.toNat ((↑(List.length y7) : Int) - (1 : Int))) (Dat.pair (Dat.str { data := #[(62 : UInt8)] }) (Dat.pair (Dat.int (1 : Int)) (Dat.pair (Dat.int (0 : Int)) (Dat.int (0 : Int))))))) (fun y8 => 
           req (inR IntKind.i64 (at' - if true = true then max ((Int.tdiv at' (Int.tdiv cols (2 : Int)) - (1 : Int)) * Int.tdiv cols (2 : Int)) (0 : Int) else min ((Int.tdiv at' (Int.tdiv cols (2 : Int)) - (1 : Int)) * Int.tdiv cols (2 : Int)) (0 : Int))) (
           req (decide ((0 : Nat) + List.length y8 ≤ List.length y8)) (K (List.take (List.length y8) y8) (at' - if true = true then max ((Int.tdiv at' (Int.tdiv cols (2 : Int)) - (1 : Int)) * Int.tdiv cols (2 : Int)) (0 : Int) else min ((Int.tdiv at' (Int.tdiv cols (2 : Int)) - (1 : Int)) * Int.tdiv cols (2 : Int)) (0 : Int)))))))))) (
          req (decide ((0 : Nat) + List.length y7 ≤ List.length (List.set y7 (0 : Nat) (Dat.pair (Dat.str { data := #[(60 : UInt8)] }) (Dat.pair (Dat.int (1 : Int)) (Dat.pair (Dat.int (0 : Int)) (Dat.int (0 : Int)))))))) (
          m57 (List.take (List.length y7) (List.set y7 (0 : Nat) (Dat.pair (Dat.str { data := #[(60 : UInt8)] }) (Dat.pair (Dat.int (1 : Int)) (Dat.pair (Dat.int (0 : Int)) (Dat.int (0 : Int))))))) (fun y9 => 
           req (inR IntKind.i64 (at' - if true = true then max ((Int.tdiv at' (Int.tdiv cols (2 : Int)) - (1 : Int)) * Int.tdiv cols (2 : Int)) (0 : Int) else min ((Int.tdiv at' (Int.tdiv cols (2 : Int)) - (1 : Int)) * Int.tdiv cols (2 : Int)) (0 : Int))) (
           req (decide ((0 : Nat) + List.length y9 ≤ List.length y9)) (K (List.take (List.length y9) y9) (at' - if true = true then max ((Int.tdiv at' (Int.tdiv cols (2 : Int)) - (1 : Int)) * Int.tdiv cols (2 : Int)) (0 : Int) else min ((Int.tdiv at' (Int.tdiv cols (2 : Int)) - (1 : Int)) * Int.tdiv cols (2 : Int)) (0 : Int)))))))))) (
         br (decide ((if false = true then max ((if true = true then max ((Int.tdiv at' (Int.tdiv cols (2 : Int)) - (1 : Int)) * Int.tdiv cols (2 : Int)) (0 : Int) else min ((Int.tdiv at' (Int.tdiv cols (2 : Int)) - (1 : Int)) * Int.tdiv cols (2 : Int)) (0 : Int)) + cols) (↑(List.length cells) : Int) else min ((if true = true then max ((Int.tdiv at' (Int.tdiv cols (2 : Int)) - (1 : Int)) * Int.tdiv cols (2 : Int)) (0 : Int) else min ((Int.tdiv at' (Int.tdiv cols (2 : Int)) - (1 : Int)) * Int.tdiv cols (2 : Int)) (0 : Int)) + cols) (↑(List.length cells) : Int)) < (↑(List.length cells) : Int))) (
          req (inR IntKind.i64 ((↑(List.length y7) : Int) - (1 : Int))) (
          req (decide ((0 : Int) ≤ (↑(List.length y7) : Int) - (1 : Int)) && decide ((↑(List.length y7) : Int) - (1 : Int) < (↑(List.length y7) : Int))) (
          req (decide ((0 : Nat) + Int.toNat ((↑(List.length y7) : Int) - (1 : Int)) < List.length y7)) (
          req (decide ((0 : Nat) + List.length y7 ≤ List.length (List.set y7 ((0 : Nat) + Int.toNat ((↑(List.length y7) : Int) - (1 : Int))) (Dat.pair (Dat.str { data := #[(62 : UInt8)] }) (Dat.pair (Dat.int (1 : Int)) (Dat.pair (Dat.int (0 : Int)) (Dat.int (0 : Int)))))))) (
          m57 (List.take (List.length y7) (List.set y7 ((0 : Nat) + Int.toNat ((↑(List.length y7) : Int) - (1 : Int))) (Dat.pair (Dat.str { data := #[(62 : UInt8)] }) (Dat.pair (Dat.int (1 : Int)) (Dat.pair (Dat.int (0 : Int)) (Dat.int (0 : Int))))))) (fun y10 => 
           req (inR IntKind.i64 (at' - if true = true then max ((Int.tdiv at' (Int.tdiv cols (2 : Int)) - (1 : Int)) * Int.tdiv cols (2 : Int)) (0 : Int) else min ((Int.tdiv at' (Int.tdiv cols (2 : Int)) - (1 : Int)) * Int.tdiv cols (2 : Int)) (0 : Int))) (
           req (decide ((0 : Nat) + List.length y10 ≤ List.length y10)) (K (List.take (List.length y10) y10) (at' - if true = true then max ((Int.tdiv at' (Int.tdiv cols (2 : Int)) - (1 : Int)) * Int.tdiv cols (2 : Int)) (0 : Int) else min ((Int.tdiv at' (Int.tdiv cols (2 : Int)) - (1 : Int)) * Int.tdiv cols (2 : Int)) (0 : Int)))))))))) (
          req (decide ((0 : Nat) + List.length y7 ≤ List.length y7)) (
          m57 (List.take (List.length y7) y7) (fun y11 => 
           req (inR IntKind.i64 (at' - if true = true then max ((Int.tdiv at' (Int.tdiv cols (2 : Int)) - (1 : Int)) * Int.tdiv cols (2 : Int)) (0 : Int) else min ((Int.tdiv at' (Int.tdiv cols (2 : Int)) - (1 : Int)) * Int.tdiv cols (2 : Int)) (0 : Int))) (
           req (decide ((0 : Nat) + List.length y11 ≤ List.length y11)) (K (List.take (List.length y11) y11) (at' - if true = true then max ((Int.tdiv at' (Int.tdiv cols (2 : Int)) - (1 : Int)) * Int.tdiv cols (2 : Int)) (0 : Int) else min ((Int.tdiv at' (Int.tdiv cols (2 : Int)) - (1 : Int)) * Int.tdiv cols (2 : Int)) (0 : Int))))))))) (
        br (decide ((if false = true then max ((if true = true then max ((Int.tdiv at' (Int.tdiv cols (2 : Int)) - (1 : Int)) * Int.tdiv cols (2 : Int)) (0 : Int) else min ((Int.tdiv at' (Int.tdiv cols (2 : Int)) - (1 : Int)) * Int.tdiv cols (2 : Int)) (0 : Int)) + cols) (↑(List.length cells) : Int) else min ((if true = true then max ((Int.tdiv at' (Int.tdiv cols (2 : Int)) - (1 : Int)) * Int.tdiv cols (2 : Int)) (0 : Int) else min ((Int.tdiv at' (Int.tdiv cols (2 : Int)) - (1 : Int)) * Int.tdiv cols (2 : Int)) (0 : Int)) + cols) (↑(List.length cells) : Int)) < (↑(List.length cells) : Int))) (
         req (inR IntKind.i64 ((↑(List.length y7) : Int) - (1 : Int))) (
         req (decide ((0 : Int) ≤ (↑(List.length y7) : Int) - (1 : Int)) && decide ((↑(List.length y7) : Int) - (1 : Int) < (↑(List.length y7) : Int))) (
         req (decide ((0 : Nat) + Int.toNat ((↑(List.length y7) : Int) - (1 : Int)) < List.length y7)) (
         req (decide ((0 : Nat) + List.length y7 ≤ List.length (List.set y7 ((0 : Nat) + Int.toNat ((↑(List.length y7) : Int) - (1 : Int))) (Dat.pair (Dat.str { data := #[(62 : UInt8)] }) (Dat.pair (Dat.int (1 : Int)) (Dat.pair (Dat.int (0 : Int)) (Dat.int (0 : Int)))))))) (
         m57 (List.take (List.length y7) (List.set y7 ((0 : Nat) + Int.toNat ((↑(List.length y7) : Int) - (1 : Int))) (Dat.pair (Dat.str { data := #[(62 : UInt8)] }) (Dat.pair (Dat.int (1 : Int)) (Dat.pair (Dat.int (0 : Int)) (Dat.int (0 : Int))))))) (fun y12 => 
          req (inR IntKind.i64 (at' - if true = true then max ((Int.tdiv at' (Int.tdiv cols (2 : Int)) - (1 : Int)) * Int.tdiv cols (2 : Int)) (0 : Int) else min ((Int.tdiv at' (Int.tdiv cols (2 : Int)) - (1 : Int)) * Int.tdiv cols (2 : Int)) (0 : Int))) (
          req (decide ((0 : Nat) + List.length y12 ≤ List.length y12)) (K (List.take (List.length y12) y12) (at' - if true = true then max ((Int.tdiv at' (Int.tdiv cols (2 : Int)) - (1 : Int)) * Int.tdiv cols (2 : Int)) (0 : Int) else min ((Int.tdiv at' (Int.tdiv cols (2 : Int)) - (1 : Int)) * Int.tdiv cols (2 : Int)) (0 : Int)))))))))) (
         req (decide ((0 : Nat) + List.length y7 ≤ List.length y7)) (
         m57 (List.take (List.length y7) y7) (fun y13 => 
          req (inR IntKind.i64 (at' - if true = true then max ((Int.tdiv at' (Int.tdiv cols (2 : Int)) - (1 : Int)) * Int.tdiv cols (2 : Int)) (0 : Int) else min ((Int.tdiv at' (Int.tdiv cols (2 : Int)) - (1 : Int)) * Int.tdiv cols (2 : Int)) (0 : Int))) (
          req (decide ((0 : Nat) + List.length y13 ≤ List.length y13)) (K (List.take (List.length y13) y13) (at' - if true = true then max ((Int.tdiv at' (Int.tdiv cols (2 : Int)) - (1 : Int)) * Int.tdiv cols (2 : Int)) (0 : Int) else min ((Int.tdiv at' (Int.tdiv cols (2 : Int)) - (1 : Int)) * Int.tdiv cols (2 : Int)) (0 : Int))))))))))))))))))
def F38 : AM.Form := ⟨[.ro (.pair .str (.pair (.int .i64) (.pair (.int .i64) .unit))), .int .i64, .int .i64], []⟩
noncomputable def mm38 (ds : List Dat) (K : AV → AH → Prop) : Prop := m38 ((dat ds 0).toList) ((dat ds 1).toInt) ((dat ds 2).toInt) (fun rxs rn => K (.tup [.ro (.pair .str (.pair (.int .i64) (.pair (.int .i64) .unit))) rxs, .c (.int .i64 rn)]) ⟨[], []⟩)
theorem t38 (ds : List Dat) (K : AV → AH → Prop) : callA Tryd.prog tys GG57 1000 38 (F38.fr ds) (F38.hp ds) (fun v h' => endK Tryd.prog [] (.tup [.ro (.pair .str (.pair (.int .i64) (.pair (.int .i64) .unit))), .keep]) (F38.hp ds) (F38.fr ds) v h' K) = mm38 ds K := by kernel_rfl
noncomputable def R38 : CallT := ruleF Tryd.prog [(.ro (.pair .str (.pair (.int .i64) (.pair (.int .i64) .unit)))), .keep, .keep] [] F38 mm38
theorem ok38 : CallOK Tryd.prog 38 R38 := ruleF_ok sGG57 t38
noncomputable def cs38 : List (FuncId × CallT) := (38, R38) :: cs57
theorem cs38_ok : CallsOK Tryd.prog cs38 := .cons ok38 cs57_ok
noncomputable def GG38 : Rules := mkG [37, 27] cs38 ls57_3
theorem sGG38 : Sound Tryd.prog tys GG38 := mk_sound mixed tysOK names (by kernel_rfl) cs38_ok ls57_3_ok
end Go.Proofs.YthegkipclogoeaaDoor

set_option linter.unusedVariables false
set_option maxRecDepth 100000
namespace Go.Proofs.YthegkipclogoeaaDoor
open Go.AM Go.LTxt Go.LMem Go.RowKit
structure C24 where
  prompt : List Dat
  line : List Dat
  point : Int
  rows : Int
  cols : Int
  across : Bool
noncomputable def l36_3 : Nat → C24 → List Dat → List Dat → (C24 → List Dat → List Dat → Prop) → Prop
  | 0, _, _, _, _ => False
  | fu + 1, c, l, seen, E0 =>
    m53 seen (10 : Int) (fun y0 => 
     br (decide (y0 < (0 : Int))) (E0 c l seen) (
      req (decide ((0 : Int) ≤ (0 : Int)) && decide ((0 : Int) ≤ y0) && decide (y0 ≤ (↑(List.length seen) : Int))) (
      m16 (List.take (Int.toNat y0 - (0 : Nat)) seen) (0 : Int) (fun y1 => 
       req (decide ((0 : Nat) + List.length y1 ≤ List.length y1)) (
       req (appOK l (0 : Nat) (List.length l) (1 : Nat) (24 : Nat)) (
       req (inR IntKind.i64 (y0 + (1 : Int))) (
       req (decide ((0 : Int) ≤ y0 + (1 : Int)) && decide (y0 + (1 : Int) ≤ (↑(List.length seen) : Int)) && decide ((↑(List.length seen) : Int) ≤ (↑(List.length seen) : Int))) (((List.length (dapp l (0 : Nat) (List.length l) [Dat.list (List.take (List.length y1) y1)])) = List.length (dapp l (0 : Nat) (List.length l) [Dat.list (List.take (List.length y1) y1)]) ∧ l36_3 fu c (dapp l (0 : Nat) (List.length l) [Dat.list (List.take (List.length y1) y1)]) (List.take (List.length seen - Int.toNat (y0 + (1 : Int))) (List.drop (Int.toNat (y0 + (1 : Int))) seen)) E0)))))))))
def F36_3 : AM.Form := ⟨mkF 67 [(1, .p 0 0), (5, .sl 1), (6, .ro (.int .i32))], [.cells 24 [.ro (.int .i32), .ro (.int .i32), .int .i64, .int .i64, .int .i64, .bool], .seq 35 (.slice (.pair .str (.pair (.int .i64) (.pair (.int .i64) .unit))))]⟩
noncomputable def mm36_3 (n : Nat) (ds : List Dat) (Q : AExit → List AV → AH → Prop) : Prop := l36_3 n ⟨(dat ds 1).toList, (dat ds 2).toList, (dat ds 3).toInt, (dat ds 4).toInt, (dat ds 5).toInt, (dat ds 6).toBool⟩ ((dat ds 7).toList) ((dat ds 0).toList) (fun rc rl rxs => Q (AExit.exit 0) (mkAV 67 [(1, .p 0 0), (5, .sl 1 0 rl.length), (6, .ro (.int .i32) rxs)]) ⟨[.cells 24 [.ro (.int .i32) rc.prompt, .ro (.int .i32) rc.line, .c (.int .i64 rc.point), .c (.int .i64 rc.rows), .c (.int .i64 rc.cols), .c (.bool rc.across)], .seq 35 (.slice (.pair .str (.pair (.int .i64) (.pair (.int .i64) .unit)))) rl], []⟩)
theorem t36_3 (n : Nat) (ds : List Dat) (Q : AExit → List AV → AH → Prop) : wpA Tryd.prog tys GG38 1000 36 (theLoop Tryd.prog 36 3) (fun e f' h' => endF Tryd.prog ((fun _ => []) e) ((fun e => match e with | .normal => ⟨[1, 5, 6], []⟩ | .exit 0 => ⟨[1, 5, 6], []⟩ | _ => ⟨[], []⟩) e) ((fun e => match e with | .normal => [(5, .row 35 (.slice (.pair .str (.pair (.int .i64) (.pair (.int .i64) .unit))))), (6, .ro (.int .i32))] | .exit 0 => [(5, .row 35 (.slice (.pair .str (.pair (.int .i64) (.pair (.int .i64) .unit))))), (6, .ro (.int .i32))] | _ => []) e) (F36_3.hp ds) f' h' fun f2 h2 => match e with
      | .normal => locL F36_3 (mm36_3 n) f2 h2 Q
      | e => Q e f2 h2) (F36_3.fr ds) (F36_3.hp ds) = mm36_3 (n + 1) ds Q := by kernel_rfl
noncomputable def R36_3 : LoopT := headF Tryd.prog [] ⟨[1, 5, 6], []⟩ [(5, .row 35 (.slice (.pair .str (.pair (.int .i64) (.pair (.int .i64) .unit))))), (6, .ro (.int .i32))] fun f h Q => ∃ n, locL F36_3 (mm36_3 n) f h Q
theorem ok36_3 : LoopOK Tryd.prog (theLoop Tryd.prog 36 3) R36_3 := ruleL_ok sGG38 (by kernel_rfl) mm36_3 (fun _ _ => rfl) t36_3
noncomputable def ls36_3 : List (FuncId × Nat × LoopT) := (36, 3, R36_3) :: ls57_3
theorem ls36_3_ok : LoopsOK Tryd.prog ls36_3 := .cons (by kernel_rfl) ok36_3 ls57_3_ok
noncomputable def GG36_3 : Rules := mkG [37, 27] cs38 ls36_3
theorem sGG36_3 : Sound Tryd.prog tys GG36_3 := mk_sound mixed tysOK names (by kernel_rfl) cs38_ok ls36_3_ok
noncomputable def p36_r9 (l : List Dat) (all : List Dat) (at' : Int) (E0 : List Dat → List Dat → List Dat → Int → Prop) : Prop :=
    m16 all (0 : Int) (fun y0 => E0 l y0 all at')
def F36_r9 : AM.Form := ⟨mkF 67 [(5, .sl 0), (8, .ro (.int .i32)), (9, .int .i64)], [.seq 35 (.slice (.pair .str (.pair (.int .i64) (.pair (.int .i64) .unit))))]⟩
noncomputable def mm36_r9 (ds : List Dat) (Q : AExit → List AV → AH → Prop) : Prop := p36_r9 ((dat ds 2).toList) ((dat ds 0).toList) ((dat ds 1).toInt) (fun rl rl2 rxs rn => Q .normal (mkAV 67 [(5, .sl 0 0 rl.length), (8, .ro (.int .i32) rxs), (9, .c (.int .i64 rn)), (10, .sl 1 0 rl2.length)]) ⟨[.seq 35 (.slice (.pair .str (.pair (.int .i64) (.pair (.int .i64) .unit)))) rl, .seq 37 (.pair .str (.pair (.int .i64) (.pair (.int .i64) .unit))) rl2], []⟩)
theorem t36_r9 (ds : List Dat) (Q : AExit → List AV → AH → Prop) : wpA Tryd.prog tys GG36_3 1000 36 (theReg Tryd.prog 36 9) (fun e f' h' => endF Tryd.prog ((fun _ => []) e) ((fun _ => ⟨[5, 8, 9, 10], []⟩) e) ((fun _ => []) e) (F36_r9.hp ds) f' h' fun f2 h2 => Q e f2 h2) (F36_r9.fr ds) (F36_r9.hp ds) = mm36_r9 ds Q := by kernel_rfl
noncomputable def R36_r9 : LoopT := headF Tryd.prog [] ⟨[5, 8, 9], []⟩ [(8, .ro (.int .i32))] (locL F36_r9 mm36_r9)
theorem ok36_r9 : RegOK Tryd.prog (theReg Tryd.prog 36 9) R36_r9 := ruleP_ok sGG36_3 (by kernel_rfl) mm36_r9 t36_r9
noncomputable def rs36_r9 : List (FuncId × Nat × LoopT) := (36, 9, R36_r9) :: []
theorem rs36_r9_ok : RegsOK Tryd.prog rs36_r9 := .cons (by kernel_rfl) ok36_r9 .nil
noncomputable def GG36_r9 : Rules := mkG [37, 27] cs38 ls36_3 rs36_r9
theorem sGG36_r9 : Sound Tryd.prog tys GG36_r9 := mk_sound mixed tysOK names (by kernel_rfl) cs38_ok ls36_3_ok rs36_r9_ok
noncomputable def l36_12 : Nat → List Dat → List Dat → List Dat → Int → (List Dat → List Dat → List Dat → Int → Prop) → Prop
  | 0, _, _, _, _, _ => False
  | fu + 1, l, l2, all, at', E2 =>
    br (decide ((0 : Int) < at')) (
     req (decide ((0 : Int) ≤ at') && decide (at' < (↑(List.length all) : Int))) (
     req (decide (Int.toNat at' < List.length all)) (
     m54 (Dat.toInt (List.getD all (Int.toNat at') default)) (fun y0 => 
      br (y0) (
       req (inR IntKind.i64 (at' - (1 : Int))) (((List.length l) = List.length l ∧ ((List.length l2) = List.length l2 ∧ l36_12 fu l l2 all (at' - (1 : Int)) E2)))) (E2 l l2 all at'))))) (E2 l l2 all at')
def F36_12 : AM.Form := ⟨mkF 67 [(5, .sl 0), (8, .ro (.int .i32)), (9, .int .i64), (10, .sl 1)], [.seq 35 (.slice (.pair .str (.pair (.int .i64) (.pair (.int .i64) .unit)))), .seq 37 (.pair .str (.pair (.int .i64) (.pair (.int .i64) .unit)))]⟩
noncomputable def mm36_12 (n : Nat) (ds : List Dat) (Q : AExit → List AV → AH → Prop) : Prop := l36_12 n ((dat ds 2).toList) ((dat ds 3).toList) ((dat ds 0).toList) ((dat ds 1).toInt) (fun rl rl2 rxs rn => Q (AExit.exit 2) (mkAV 67 [(5, .sl 0 0 rl.length), (8, .ro (.int .i32) rxs), (9, .c (.int .i64 rn)), (10, .sl 1 0 rl2.length)]) ⟨[.seq 35 (.slice (.pair .str (.pair (.int .i64) (.pair (.int .i64) .unit)))) rl, .seq 37 (.pair .str (.pair (.int .i64) (.pair (.int .i64) .unit))) rl2], []⟩)
theorem t36_12 (n : Nat) (ds : List Dat) (Q : AExit → List AV → AH → Prop) : wpA Tryd.prog tys GG36_r9 1000 36 (theLoop Tryd.prog 36 12) (fun e f' h' => endF Tryd.prog ((fun _ => []) e) ((fun e => match e with | .normal => ⟨[5, 8, 9, 10], []⟩ | .exit 2 => ⟨[5, 8, 9, 10], []⟩ | _ => ⟨[], []⟩) e) ((fun e => match e with | .normal => [] | .exit 2 => [] | _ => []) e) (F36_12.hp ds) f' h' fun f2 h2 => match e with
      | .normal => locL F36_12 (mm36_12 n) f2 h2 Q
      | e => Q e f2 h2) (F36_12.fr ds) (F36_12.hp ds) = mm36_12 (n + 1) ds Q := by kernel_rfl
noncomputable def R36_12 : LoopT := headF Tryd.prog [] ⟨[5, 8, 9, 10], []⟩ [] fun f h Q => ∃ n, locL F36_12 (mm36_12 n) f h Q
theorem ok36_12 : LoopOK Tryd.prog (theLoop Tryd.prog 36 12) R36_12 := ruleL_ok sGG36_r9 (by kernel_rfl) mm36_12 (fun _ _ => rfl) t36_12
noncomputable def ls36_12 : List (FuncId × Nat × LoopT) := (36, 12, R36_12) :: ls36_3
theorem ls36_12_ok : LoopsOK Tryd.prog ls36_12 := .cons (by kernel_rfl) ok36_12 ls36_3_ok
noncomputable def GG36_12 : Rules := mkG [37, 27] cs38 ls36_12 rs36_r9
theorem sGG36_12 : Sound Tryd.prog tys GG36_12 := mk_sound mixed tysOK names (by kernel_rfl) cs38_ok ls36_12_ok rs36_r9_ok
noncomputable def m36 (s : List Dat) (s2 : List Dat) (s3 : Int) (s4 : Int) (s5 : Int) (s6 : Bool) (K : List Dat → List Dat → Int → Prop) : Prop :=
    m31 s (fun y0 => 
     req (decide ((0 : Nat) + List.length y0 ≤ List.length y0)) (
     (∃ y1, 
     (((0 : Nat) = (0 : Nat)) ∧ 
     l36_3 y1 { prompt := s, line := s2, point := s3, rows := s4, cols := s5, across := s6 } [] (List.take (List.length y0) y0) (fun y2 y3 y4 => 
      m18 y4 (fun y5 => 
       req (appOK y5 (0 : Nat) (List.length y5) (List.length (C24.line y2)) (4 : Nat)) (
       req (inR IntKind.i64 ((↑(List.length y4) : Int) + C24.point y2)) (
       req (decide ((0 : Nat) + List.length (dapp y5 (0 : Nat) (List.length y5) (C24.line y2)) ≤ List.length (dapp y5 (0 : Nat) (List.length y5) (C24.line y2)))) (
       ((List.length y3 = List.length y3) ∧ 
       p36_r9 y3 (List.take (List.length (dapp y5 (0 : Nat) (List.length y5) (C24.line y2))) (dapp y5 (0 : Nat) (List.length y5) (C24.line y2))) ((↑(List.length y4) : Int) + C24.point y2) (fun y6 y7 y8 y9 => 
        br (decide ((↑(List.length y8) : Int) ≤ y9)) (K y6 y7 (↑(List.length y7) : Int)) (
         (∃ y10, 
         ((List.length y6 = List.length y6) ∧ 
         ((List.length y7 = List.length y7) ∧ 
         l36_12 y10 y6 y7 y8 y9 (fun y11 y12 y13 y14 => 
          req (decide ((0 : Int) ≤ (0 : Int)) && decide ((0 : Int) ≤ y14) && decide (y14 ≤ (↑(List.length y13) : Int))) (
          m16 (List.take (Int.toNat y14 - (0 : Nat)) y13) (0 : Int) (fun y15 => K y11 y12 (↑(List.length y15) : Int)))))))))))))))))))
def F36 : AM.Form := ⟨[.agg [.ro (.int .i32), .ro (.int .i32), .int .i64, .int .i64, .int .i64, .bool]], []⟩
noncomputable def mm36 (ds : List Dat) (K : AV → AH → Prop) : Prop := m36 ((dat ds 0).toList) ((dat ds 1).toList) ((dat ds 2).toInt) ((dat ds 3).toInt) ((dat ds 4).toInt) ((dat ds 5).toBool) (fun rl rl2 rn => K (.tup [.sl 0 0 rl.length, .sl 1 0 rl2.length, .c (.int .i64 rn)]) ⟨[.seq 35 (.slice (.pair .str (.pair (.int .i64) (.pair (.int .i64) .unit)))) rl, .seq 37 (.pair .str (.pair (.int .i64) (.pair (.int .i64) .unit))) rl2], []⟩)
theorem t36 (ds : List Dat) (K : AV → AH → Prop) : callA Tryd.prog tys GG36_12 1000 36 (F36.fr ds) (F36.hp ds) (fun v h' => endK Tryd.prog [] .keep (F36.hp ds) (F36.fr ds) v h' K) = mm36 ds K := by kernel_rfl
noncomputable def R36 : CallT := ruleF Tryd.prog [(.agg [(.ro (.int .i32)), (.ro (.int .i32)), .keep, .keep, .keep, .keep])] [] F36 mm36
theorem ok36 : CallOK Tryd.prog 36 R36 := ruleF_ok sGG36_12 t36
noncomputable def cs36 : List (FuncId × CallT) := (36, R36) :: cs38
theorem cs36_ok : CallsOK Tryd.prog cs36 := .cons ok36 cs38_ok
noncomputable def GG36 : Rules := mkG [37, 27] cs36 ls36_12 rs36_r9
theorem sGG36 : Sound Tryd.prog tys GG36 := mk_sound mixed tysOK names (by kernel_rfl) cs36_ok ls36_12_ok rs36_r9_ok
end Go.Proofs.YthegkipclogoeaaDoor

set_option linter.unusedVariables false
set_option maxRecDepth 100000
namespace Go.Proofs.YthegkipclogoeaaDoor
open Go.AM Go.LTxt Go.LMem Go.RowKit
noncomputable def l14_7 : Nat → C24 → C27 → List Dat → List Dat → List Dat → Int → Int → Int → (C24 → C27 → List Dat → List Dat → Int → Prop) → Prop
  | 0, _, _, _, _, _, _, _, _, _ => False
  | fu + 1, c, c2, l, l2, l3, at', n, n2, E0 =>
    br (decide (n2 < n)) (
     req (decide ((0 : Int) ≤ n2) && decide (n2 < (↑(List.length l3) : Int))) (
     req (decide ((0 : Nat) + Int.toNat n2 < List.length l3)) (
     m37 (Dat.toList (List.getD l3 ((0 : Nat) + Int.toNat n2) default)) (C24.cols c) (-1 : Int) (fun y0 y1 y2 y3 => 
      req (decide ((0 : Nat) + List.length y1 ≤ List.length y1)) (
      req (decide ((0 : Nat) + (List.length y0 + (1 : Nat)) ≤ List.length (y0 ++ [Dat.list (List.take (List.length y1) y1)]))) (
      req (appOK l2 (0 : Nat) (List.length l2) (List.length (List.take (List.length y0 + (1 : Nat)) (y0 ++ [Dat.list (List.take (List.length y1) y1)]))) (24 : Nat)) (
      req (inR IntKind.i64 (n2 + (1 : Int))) (((List.length l) = List.length l ∧ ((List.length (dapp l2 (0 : Nat) (List.length l2) (List.take (List.length y0 + (1 : Nat)) (y0 ++ [Dat.list (List.take (List.length y1) y1)])))) = List.length (dapp l2 (0 : Nat) (List.length l2) (List.take (List.length y0 + (1 : Nat)) (y0 ++ [Dat.list (List.take (List.length y1) y1)]))) ∧ ((List.length l3) = List.length l3 ∧ l14_7 fu c c2 l (dapp l2 (0 : Nat) (List.length l2) (List.take (List.length y0 + (1 : Nat)) (y0 ++ [Dat.list (List.take (List.length y1) y1)]))) l3 at' n (n2 + (1 : Int)) E0))))))))))) (E0 c c2 l l2 at')
def F14_7 : AM.Form := ⟨mkF 83 [(1, .p 0 0), (3, .p 1 0), (7, .sl 2), (8, .int .i64), (9, .sl 3), (30, .sl 4), (31, .int .i64), (32, .int .i64)], [.cells 24 [.ro (.int .i32), .ro (.int .i32), .int .i64, .int .i64, .int .i64, .bool], .cells 27 [.int .i64, .int .i64], .seq 37 (.pair .str (.pair (.int .i64) (.pair (.int .i64) .unit))), .seq 35 (.slice (.pair .str (.pair (.int .i64) (.pair (.int .i64) .unit)))), .seq 35 (.slice (.pair .str (.pair (.int .i64) (.pair (.int .i64) .unit))))]⟩
noncomputable def mm14_7 (n : Nat) (ds : List Dat) (Q : AExit → List AV → AH → Prop) : Prop := l14_7 n ⟨(dat ds 3).toList, (dat ds 4).toList, (dat ds 5).toInt, (dat ds 6).toInt, (dat ds 7).toInt, (dat ds 8).toBool⟩ ⟨(dat ds 9).toInt, (dat ds 10).toInt⟩ ((dat ds 11).toList) ((dat ds 12).toList) ((dat ds 13).toList) ((dat ds 0).toInt) ((dat ds 1).toInt) ((dat ds 2).toInt) (fun rc rc2 rl rl2 rn => Q (AExit.exit 0) (mkAV 83 [(1, .p 0 0), (3, .p 1 0), (7, .sl 2 0 rl.length), (8, .c (.int .i64 rn)), (9, .sl 3 0 rl2.length)]) ⟨[.cells 24 [.ro (.int .i32) rc.prompt, .ro (.int .i32) rc.line, .c (.int .i64 rc.point), .c (.int .i64 rc.rows), .c (.int .i64 rc.cols), .c (.bool rc.across)], .cells 27 [.c (.int .i64 rc2.row), .c (.int .i64 rc2.col)], .seq 37 (.pair .str (.pair (.int .i64) (.pair (.int .i64) .unit))) rl, .seq 35 (.slice (.pair .str (.pair (.int .i64) (.pair (.int .i64) .unit)))) rl2], []⟩)
theorem t14_7 (n : Nat) (ds : List Dat) (Q : AExit → List AV → AH → Prop) : wpA Tryd.prog tys GG36 1000 14 (theLoop Tryd.prog 14 7) (fun e f' h' => endF Tryd.prog ((fun _ => []) e) ((fun e => match e with | .normal => ⟨[1, 3, 7, 8, 9, 30, 31, 32], []⟩ | .exit 0 => ⟨[1, 3, 7, 8, 9], []⟩ | _ => ⟨[], []⟩) e) ((fun e => match e with | .normal => [(9, .row 35 (.slice (.pair .str (.pair (.int .i64) (.pair (.int .i64) .unit)))))] | .exit 0 => [(9, .row 35 (.slice (.pair .str (.pair (.int .i64) (.pair (.int .i64) .unit)))))] | _ => []) e) (F14_7.hp ds) f' h' fun f2 h2 => match e with
      | .normal => locL F14_7 (mm14_7 n) f2 h2 Q
      | e => Q e f2 h2) (F14_7.fr ds) (F14_7.hp ds) = mm14_7 (n + 1) ds Q := by kernel_rfl
noncomputable def R14_7 : LoopT := headF Tryd.prog [] ⟨[1, 3, 7, 8, 9, 30, 31, 32], []⟩ [(9, .row 35 (.slice (.pair .str (.pair (.int .i64) (.pair (.int .i64) .unit)))))] fun f h Q => ∃ n, locL F14_7 (mm14_7 n) f h Q
theorem ok14_7 : LoopOK Tryd.prog (theLoop Tryd.prog 14 7) R14_7 := ruleL_ok sGG36 (by kernel_rfl) mm14_7 (fun _ _ => rfl) t14_7
noncomputable def ls14_7 : List (FuncId × Nat × LoopT) := (14, 7, R14_7) :: ls36_12
theorem ls14_7_ok : LoopsOK Tryd.prog ls14_7 := .cons (by kernel_rfl) ok14_7 ls36_12_ok
noncomputable def GG14_7 : Rules := mkG [37, 27] cs36 ls14_7
theorem sGG14_7 : Sound Tryd.prog tys GG14_7 := mk_sound mixed tysOK names (by kernel_rfl) cs36_ok ls14_7_ok
noncomputable def m14 (s : List Dat) (s2 : List Dat) (s3 : Int) (s4 : Int) (s5 : Int) (s6 : Bool) (K : List Dat → Int → Int → Int → Prop) : Prop :=
    m35 s s2 s3 s4 s5 s6 (fun y0 => 
     br (!decide (y0 = (0 : Int))) (K [] (0 : Int) (0 : Int) y0) (
      m36 s s2 s3 s4 s5 s6 (fun y1 y2 y3 => 
       (∃ y4, 
       ((List.length y2 = List.length y2) ∧ 
       (((0 : Nat) = (0 : Nat)) ∧ 
       ((List.length y1 = List.length y1) ∧ 
       l14_7 y4 { prompt := s, line := s2, point := s3, rows := s4, cols := s5, across := s6 } { row := (0 : Int), col := (0 : Int) } y2 [] y1 y3 (↑(List.length y1) : Int) (0 : Int) (fun y5 y6 y7 y8 y9 => 
        br (C24.across y5) (
         req (decide ((0 : Nat) + List.length y7 ≤ List.length y7)) (
         m38 (List.take (List.length y7) y7) (C24.cols y5) y9 (fun y10 y11 => 
          req (appOK y8 (0 : Nat) (List.length y8) (1 : Nat) (24 : Nat)) (K (dapp y8 (0 : Nat) (List.length y8) [Dat.list y10]) (↑(List.length y8) : Int) y11 (0 : Int))))) (
         req (decide ((0 : Nat) + List.length y7 ≤ List.length y7)) (
         m37 (List.take (List.length y7) y7) (C24.cols y5) y9 (fun y12 y13 y14 y15 => 
          req (inR IntKind.i64 (y14 + (↑(List.length y8) : Int))) (
          req (decide ((0 : Nat) + List.length y13 ≤ List.length y13)) (
          req (decide ((0 : Nat) + (List.length y12 + (1 : Nat)) ≤ List.length (y12 ++ [Dat.list (List.take (List.length y13) y13)]))) (
          req (appOK y8 (0 : Nat) (List.length y8) (List.length (List.take (List.length y12 + (1 : Nat)) (y12 ++ [Dat.list (List.take (List.length y13) y13)]))) (24 : Nat)) (K (dapp y8 (0 : Nat) (List.length y8) (List.take (List.length y12 + (1 : Nat)) (y12 ++ [Dat.list (List.take (List.length y13) y13)]))) (y14 + (↑(List.length y8) : Int)) y15 (0 : Int))))))))))))))))
def F14 : AM.Form := ⟨[.agg [.ro (.int .i32), .ro (.int .i32), .int .i64, .int .i64, .int .i64, .bool]], []⟩
noncomputable def mm14 (ds : List Dat) (K : AV → AH → Prop) : Prop := m14 ((dat ds 0).toList) ((dat ds 1).toList) ((dat ds 2).toInt) ((dat ds 3).toInt) ((dat ds 4).toInt) ((dat ds 5).toBool) (fun rl rn rn2 rn3 => K (.tup [.sl 0 0 rl.length, .agg [.c (.int .i64 rn), .c (.int .i64 rn2)], .c (.int .i64 rn3)]) ⟨[.seq 35 (.slice (.pair .str (.pair (.int .i64) (.pair (.int .i64) .unit)))) rl], []⟩)
theorem t14 (ds : List Dat) (K : AV → AH → Prop) : callA Tryd.prog tys GG14_7 1000 14 (F14.fr ds) (F14.hp ds) (fun v h' => endK Tryd.prog [] (.tup [.row 35 (.slice (.pair .str (.pair (.int .i64) (.pair (.int .i64) .unit)))), .keep, .keep]) (F14.hp ds) (F14.fr ds) v h' K) = mm14 ds K := by kernel_rfl
noncomputable def R14 : CallT := ruleF Tryd.prog [(.agg [(.ro (.int .i32)), (.ro (.int .i32)), .keep, .keep, .keep, .keep])] [] F14 mm14
theorem ok14 : CallOK Tryd.prog 14 R14 := ruleF_ok sGG14_7 t14
noncomputable def cs14 : List (FuncId × CallT) := (14, R14) :: cs36
theorem cs14_ok : CallsOK Tryd.prog cs14 := .cons ok14 cs36_ok
noncomputable def GG14 : Rules := mkG [37, 27] cs14 ls14_7
theorem sGG14 : Sound Tryd.prog tys GG14 := mk_sound mixed tysOK names (by kernel_rfl) cs14_ok ls14_7_ok
structure C29 where
  rows : List Dat
  cursorRow : Int
  cursorCol : Int
  above : Int
noncomputable def l10_7 : Nat → C29 → C29 → List Dat → Int → Int → (C29 → C29 → Prop) → Prop
  | 0, _, _, _, _, _, _ => False
  | fu + 1, c, c2, l, n, n2, E0 =>
    br (decide (n2 < n)) (
     req (decide ((0 : Int) ≤ n2) && decide (n2 < (↑(List.length l) : Int))) (
     req (decide ((0 : Nat) + Int.toNat n2 < List.length l)) (
     m21 (Dat.toList (List.getD l ((0 : Nat) + Int.toNat n2) default)) (fun y0 => 
      req (decide ((0 : Nat) + List.length y0 ≤ List.length y0)) (
      req (appOK (C29.rows c2) (0 : Nat) (List.length (C29.rows c2)) (1 : Nat) (24 : Nat)) (
      req (inR IntKind.i64 (n2 + (1 : Int))) (
      req (decide ((0 : Nat) + List.length l ≤ List.length l)) (((List.length (dcut l (0 : Nat) (List.length l))) = List.length (dcut l (0 : Nat) (List.length l)) ∧ ((List.length (C29.rows c)) = List.length (C29.rows c) ∧ ((List.length (dapp (C29.rows c2) (0 : Nat) (List.length (C29.rows c2)) [Dat.list (List.take (List.length y0) y0)])) = List.length (dapp (C29.rows c2) (0 : Nat) (List.length (C29.rows c2)) [Dat.list (List.take (List.length y0) y0)]) ∧ l10_7 fu c { c2 with rows := dapp (C29.rows c2) (0 : Nat) (List.length (C29.rows c2)) [Dat.list (List.take (List.length y0) y0)] } (dcut l (0 : Nat) (List.length l)) n (n2 + (1 : Int)) E0))))))))))) (E0 c c2)
def F10_7 : AM.Form := ⟨mkF 63 [(2, .p 0 0), (7, .p 2 0), (48, .sl 4), (49, .int .i64), (50, .int .i64)], [.cells 29 [.sl 1, .int .i64, .int .i64, .int .i64], .seq 35 (.slice (.pair .str (.pair (.int .i64) (.pair (.int .i64) .unit)))), .cells 29 [.sl 3, .int .i64, .int .i64, .int .i64], .seq 35 (.slice (.pair .str (.pair (.int .i64) (.pair (.int .i64) .unit)))), .seq 35 (.slice (.pair .str (.pair (.int .i64) (.pair (.int .i64) .unit))))]⟩
noncomputable def mm10_7 (n : Nat) (ds : List Dat) (Q : AExit → List AV → AH → Prop) : Prop := l10_7 n ⟨(dat ds 5).toList, (dat ds 2).toInt, (dat ds 3).toInt, (dat ds 4).toInt⟩ ⟨(dat ds 9).toList, (dat ds 6).toInt, (dat ds 7).toInt, (dat ds 8).toInt⟩ ((dat ds 10).toList) ((dat ds 0).toInt) ((dat ds 1).toInt) (fun rc rc2 => Q (AExit.exit 0) (mkAV 63 [(2, .p 0 0), (7, .p 2 0)]) ⟨[.cells 29 [.sl 1 0 rc.rows.length, .c (.int .i64 rc.cursorRow), .c (.int .i64 rc.cursorCol), .c (.int .i64 rc.above)], .seq 35 (.slice (.pair .str (.pair (.int .i64) (.pair (.int .i64) .unit)))) rc.rows, .cells 29 [.sl 3 0 rc2.rows.length, .c (.int .i64 rc2.cursorRow), .c (.int .i64 rc2.cursorCol), .c (.int .i64 rc2.above)], .seq 35 (.slice (.pair .str (.pair (.int .i64) (.pair (.int .i64) .unit)))) rc2.rows], []⟩)
theorem t10_7 (n : Nat) (ds : List Dat) (Q : AExit → List AV → AH → Prop) : wpA Tryd.prog tys GG14 1000 10 (theLoop Tryd.prog 10 7) (fun e f' h' => endF Tryd.prog ((fun _ => []) e) ((fun e => match e with | .normal => ⟨[2, 7, 48, 49, 50], []⟩ | .exit 0 => ⟨[2, 7], []⟩ | _ => ⟨[], []⟩) e) ((fun e => match e with | .normal => [(48, .cut 35 (.slice (.pair .str (.pair (.int .i64) (.pair (.int .i64) .unit)))))] | .exit 0 => [] | _ => []) e) (F10_7.hp ds) f' h' fun f2 h2 => match e with
      | .normal => locL F10_7 (mm10_7 n) f2 h2 Q
      | e => Q e f2 h2) (F10_7.fr ds) (F10_7.hp ds) = mm10_7 (n + 1) ds Q := by kernel_rfl
noncomputable def R10_7 : LoopT := headF Tryd.prog [] ⟨[2, 7, 48, 49, 50], []⟩ [(48, .cut 35 (.slice (.pair .str (.pair (.int .i64) (.pair (.int .i64) .unit)))))] fun f h Q => ∃ n, locL F10_7 (mm10_7 n) f h Q
theorem ok10_7 : LoopOK Tryd.prog (theLoop Tryd.prog 10 7) R10_7 := ruleL_ok sGG14 (by kernel_rfl) mm10_7 (fun _ _ => rfl) t10_7
noncomputable def ls10_7 : List (FuncId × Nat × LoopT) := (10, 7, R10_7) :: ls14_7
theorem ls10_7_ok : LoopsOK Tryd.prog ls10_7 := .cons (by kernel_rfl) ok10_7 ls14_7_ok
noncomputable def GG10_7 : Rules := mkG [37, 27] cs14 ls10_7
theorem sGG10_7 : Sound Tryd.prog tys GG10_7 := mk_sound mixed tysOK names (by kernel_rfl) cs14_ok ls10_7_ok
noncomputable def m10 (s : List Dat) (s2 : List Dat) (s3 : Int) (s4 : Int) (s5 : Int) (s6 : Bool) (K : List Dat → Int → Int → Int → Int → Prop) : Prop :=
    m14 s s2 s3 s4 s5 s6 (fun y0 y1 y2 y3 => 
     br (!decide (y3 = (0 : Int))) (K [] (0 : Int) (0 : Int) (0 : Int) y3) (
      req (inR IntKind.i64 (y1 - s4)) (
      req (inR IntKind.i64 (y1 - s4 + (1 : Int))) (
      req (inR IntKind.i64 (y1 - if true = true then max (y1 - s4 + (1 : Int)) (0 : Int) else min (y1 - s4 + (1 : Int)) (0 : Int))) (
      req (inR IntKind.i64 ((if true = true then max (y1 - s4 + (1 : Int)) (0 : Int) else min (y1 - s4 + (1 : Int)) (0 : Int)) + s4)) (
      req (decide ((0 : Int) ≤ if true = true then max (y1 - s4 + (1 : Int)) (0 : Int) else min (y1 - s4 + (1 : Int)) (0 : Int)) && decide ((if true = true then max (y1 - s4 + (1 : Int)) (0 : Int) else min (y1 - s4 + (1 : Int)) (0 : Int)) ≤ if false = true then max ((if true = true then max (y1 - s4 + (1 : Int)) (0 : Int) else min (y1 - s4 + (1 : Int)) (0 : Int)) + s4) (↑(List.length y0) : Int) else min ((if true = true then max (y1 - s4 + (1 : Int)) (0 : Int) else min (y1 - s4 + (1 : Int)) (0 : Int)) + s4) (↑(List.length y0) : Int)) && decide ((if false = true then max ((if true = true then max (y1 - s4 + (1 : Int)) (0 : Int) else min (y1 - s4 + (1 : Int)) (0 : Int)) + s4) (↑(List.length y0) : Int) else min ((if true = true then max (y1 - s4 + (1 : Int)) (0 : Int) else min (y1 - s4 + (1 : Int)) (0 : Int)) + s4) (↑(List.length y0) : Int)) ≤ (↑(List.length y0) : Int))) (
      req (decide ((0 : Nat) + Int.toNat (if true = true then max (y1 - s4 + (1 : Int)) (0 : Int) else min (y1 - s4 + (1 : Int)) (0 : Int)) + (Int.toNat (if false = true then max ((if true = true then max (y1 - s4 + (1 : Int)) (0 : Int) else min (y1 - s4 + (1 : Int)) (0 : Int)) + s4) (↑(List.length y0) : Int) else min ((if true = true then max (y1 - s4 + (1 : Int)) (0 : Int) else min (y1 - s4 + (1 : Int)) (0 : Int)) + s4) (↑(List.length y0) : Int)) - Int.toNat (if true = true then max (y1 - s4 + (1 : Int)) (0 : Int) else min (y1 - s4 + (1 : Int)) (0 : Int))) ≤ List.length y0)) (
      (∃ y4, 
      ((List.length (dcut y0 ((0 : Nat) + Int.toNat (if true = true then max (y1 - s4 + (1 : Int)) (0 : Int) else min (y1 - s4 + (1 : Int)) (0 : Int))) (Int.toNat (if false = true then max ((if true = true then max (y1 - s4 + (1 : Int)) (0 : Int) else min (y1 - s4 + (1 : Int)) (0 : Int)) + s4) (↑(List.length y0) : Int) else min ((if true = true then max (y1 - s4 + (1 : Int)) (0 : Int) else min (y1 - s4 + (1 : Int)) (0 : Int)) + s4) (↑(List.length y0) : Int)) - Int.toNat (if true = true then max (y1 - s4 + (1 : Int)) (0 : Int) else min (y1 - s4 + (1 : Int)) (0 : Int)))) = List.length (dcut y0 ((0 : Nat) + Int.toNat (if true = true then max (y1 - s4 + (1 : Int)) (0 : Int) else min (y1 - s4 + (1 : Int)) (0 : Int))) (Int.toNat (if false = true then max ((if true = true then max (y1 - s4 + (1 : Int)) (0 : Int) else min (y1 - s4 + (1 : Int)) (0 : Int)) + s4) (↑(List.length y0) : Int) else min ((if true = true then max (y1 - s4 + (1 : Int)) (0 : Int) else min (y1 - s4 + (1 : Int)) (0 : Int)) + s4) (↑(List.length y0) : Int)) - Int.toNat (if true = true then max (y1 - s4 + (1 : Int)) (0 : Int) else min (y1 - s4 + (1 : Int)) (0 : Int))))) ∧ 
      (((0 : Nat) = (0 : Nat)) ∧ 
      (((0 : Nat) = (0 : Nat)) ∧ 
      l10_7 y4 { rows := [], cursorRow := (0 : Int), cursorCol := (0 : Int), above := (0 : Int) } { rows := [], cursorRow := y1 - if true = true then max (y1 - s4 + (1 : Int)) (0 : Int) else min (y1 - s4 + (1 : Int)) (0 : Int), cursorCol := y2, above := if true = true then max (y1 - s4 + (1 : Int)) (0 : Int) else min (y1 - s4 + (1 : Int)) (0 : Int) } (dcut y0 ((0 : Nat) + Int.toNat (if true = true then max (y1 - s4 + (1 : Int)) (0 : Int) else min (y1 - s4 + (1 : Int)) (0 : Int))) (Int.toNat (if false = true then max ((if true = true then max (y1 - s4 + (1 : Int)) (0 : Int) else min (y1 - s4 + (1 : Int)) (0 : Int)) + s4) (↑(List.length y0) : Int) else min ((if true = true then max (y1 - s4 + (1 : Int)) (0 : Int) else min (y1 - s4 + (1 : Int)) (0 : Int)) + s4) (↑(List.length y0) : Int)) - Int.toNat (if true = true then max (y1 - s4 + (1 : Int)) (0 : Int) else min (y1 - s4 + (1 : Int)) (0 : Int)))) (↑(Int.toNat (if false = true then max ((if true = true then max (y1 - s4 + (1 : Int)) (0 : Int) else min (y1 - s4 + (1 : Int)) (0 : Int)) + s4) (↑(List.length y0) : Int) else min ((if true = true then max (y1 - s4 + (1 : Int)) (0 : Int) else min (y1 - s4 + (1 : Int)) (0 : Int)) + s4) (↑(List.length y0) : Int)) - Int.toNat (if true = true then max (y1 - s4 + (1 : Int)) (0 : Int) else min (y1 - s4 + (1 : Int)) (0 : Int))) : Int) (0 : Int) (fun y5 y6 => K (C29.rows y6) (C29.cursorRow y6) (C29.cursorCol y6) (C29.above y6) (0 : Int))))))))))))))
def F10 : AM.Form := ⟨[.agg [.ro (.int .i32), .ro (.int .i32), .int .i64, .int .i64, .int .i64, .bool]], []⟩
noncomputable def mm10 (ds : List Dat) (K : AV → AH → Prop) : Prop := m10 ((dat ds 0).toList) ((dat ds 1).toList) ((dat ds 2).toInt) ((dat ds 3).toInt) ((dat ds 4).toInt) ((dat ds 5).toBool) (fun rl rn rn2 rn3 rn4 => K (.tup [.agg [.sl 0 0 rl.length, .c (.int .i64 rn), .c (.int .i64 rn2), .c (.int .i64 rn3)], .c (.int .i64 rn4)]) ⟨[.seq 35 (.slice (.pair .str (.pair (.int .i64) (.pair (.int .i64) .unit)))) rl], []⟩)
theorem t10 (ds : List Dat) (K : AV → AH → Prop) : callA Tryd.prog tys GG10_7 1000 10 (F10.fr ds) (F10.hp ds) (fun v h' => endK Tryd.prog [] (.tup [.agg [.row 35 (.slice (.pair .str (.pair (.int .i64) (.pair (.int .i64) .unit)))), .keep, .keep, .keep], .keep]) (F10.hp ds) (F10.fr ds) v h' K) = mm10 ds K := by kernel_rfl
noncomputable def R10 : CallT := ruleF Tryd.prog [(.agg [(.ro (.int .i32)), (.ro (.int .i32)), .keep, .keep, .keep, .keep])] [] F10 mm10
theorem ok10 : CallOK Tryd.prog 10 R10 := ruleF_ok sGG10_7 t10
noncomputable def cs10 : List (FuncId × CallT) := (10, R10) :: cs14
theorem cs10_ok : CallsOK Tryd.prog cs10 := .cons ok10 cs14_ok
noncomputable def GG10 : Rules := mkG [37, 27] cs10 ls10_7
theorem sGG10 : Sound Tryd.prog tys GG10 := mk_sound mixed tysOK names (by kernel_rfl) cs10_ok ls10_7_ok
end Go.Proofs.YthegkipclogoeaaDoor

set_option linter.unusedVariables false
set_option maxRecDepth 100000
namespace Go.Proofs.YthegkipclogoeaaDoor
open Go.AM Go.LTxt Go.LMem Go.RowKit
noncomputable def l66_1 : Nat → ByteArray → Int → (ByteArray → Prop) → Prop
  | 0, _, _, _ => False
  | fu + 1, s, c, E0 =>
    br (decide ((0 : Int) < (↑(ByteArray.size s) : Int))) (
     req (inR IntKind.i64 ((↑(ByteArray.size s) : Int) - (1 : Int))) (
     req (decide ((0 : Int) ≤ (↑(ByteArray.size s) : Int) - (1 : Int)) && decide ((↑(ByteArray.size s) : Int) - (1 : Int) < (↑(ByteArray.size s) : Int))) (
     br (decide ((↑(UInt8.toNat (List.getD (Array.toList (ByteArray.data s)) (Int.toNat ((↑(ByteArray.size s) : Int) - (1 : Int))) (0 : UInt8))) : Int) = c)) (
      req (inR IntKind.i64 ((↑(ByteArray.size s) : Int) - (1 : Int))) (
      req (decide ((0 : Int) ≤ (0 : Int)) && decide ((0 : Int) ≤ (↑(ByteArray.size s) : Int) - (1 : Int)) && decide ((↑(ByteArray.size s) : Int) - (1 : Int) ≤ (↑(ByteArray.size s) : Int))) (l66_1 fu (subS s (0 : Nat) (Int.toNat ((↑(ByteArray.size s) : Int) - (1 : Int)))) c E0))) (E0 s)))) (E0 s)
def F66_1 : AM.Form := ⟨mkF 23 [(0, .str), (1, .int .u8)], []⟩
noncomputable def mm66_1 (n : Nat) (ds : List Dat) (Q : AExit → List AV → AH → Prop) : Prop := l66_1 n ((dat ds 0).toStr) ((dat ds 1).toInt) (fun rs => Q (AExit.exit 0) (mkAV 23 [(0, .c (.string rs))]) ⟨[], []⟩)
theorem t66_1 (n : Nat) (ds : List Dat) (Q : AExit → List AV → AH → Prop) : wpA Tryd.prog tys GG10 1000 66 (theLoop Tryd.prog 66 1) (fun e f' h' => endF Tryd.prog ((fun _ => []) e) ((fun e => match e with | .normal => ⟨[0, 1], []⟩ | .exit 0 => ⟨[0], []⟩ | _ => ⟨[], []⟩) e) ((fun e => match e with | .normal => [] | .exit 0 => [] | _ => []) e) (F66_1.hp ds) f' h' fun f2 h2 => match e with
      | .normal => locL F66_1 (mm66_1 n) f2 h2 Q
      | e => Q e f2 h2) (F66_1.fr ds) (F66_1.hp ds) = mm66_1 (n + 1) ds Q := by kernel_rfl
noncomputable def R66_1 : LoopT := headF Tryd.prog [] ⟨[0, 1], []⟩ [] fun f h Q => ∃ n, locL F66_1 (mm66_1 n) f h Q
theorem ok66_1 : LoopOK Tryd.prog (theLoop Tryd.prog 66 1) R66_1 := ruleL_ok sGG10 (by kernel_rfl) mm66_1 (fun _ _ => rfl) t66_1
noncomputable def ls66_1 : List (FuncId × Nat × LoopT) := (66, 1, R66_1) :: ls10_7
theorem ls66_1_ok : LoopsOK Tryd.prog ls66_1 := .cons (by kernel_rfl) ok66_1 ls10_7_ok
noncomputable def GG66_1 : Rules := mkG [37, 27] cs10 ls66_1
theorem sGG66_1 : Sound Tryd.prog tys GG66_1 := mk_sound mixed tysOK names (by kernel_rfl) cs10_ok ls66_1_ok
noncomputable def m66 (s : ByteArray) (c : Int) (K : ByteArray → Prop) : Prop :=
    (∃ y0, 
    l66_1 y0 s c (fun y1 => K y1))
def F66 : AM.Form := ⟨[.str, .int .u8], []⟩
noncomputable def mm66 (ds : List Dat) (K : AV → AH → Prop) : Prop := m66 ((dat ds 0).toStr) ((dat ds 1).toInt) (fun rs => K (.c (.string rs)) ⟨[], []⟩)
theorem t66 (ds : List Dat) (K : AV → AH → Prop) : callA Tryd.prog tys GG66_1 1000 66 (F66.fr ds) (F66.hp ds) (fun v h' => endK Tryd.prog [] .keep (F66.hp ds) (F66.fr ds) v h' K) = mm66 ds K := by kernel_rfl
noncomputable def R66 : CallT := ruleF Tryd.prog [.keep, .keep] [] F66 mm66
theorem ok66 : CallOK Tryd.prog 66 R66 := ruleF_ok sGG66_1 t66
noncomputable def cs66 : List (FuncId × CallT) := (66, R66) :: cs10
theorem cs66_ok : CallsOK Tryd.prog cs66 := .cons ok66 cs10_ok
noncomputable def GG66 : Rules := mkG [37, 27] cs66 ls66_1
theorem sGG66 : Sound Tryd.prog tys GG66 := mk_sound mixed tysOK names (by kernel_rfl) cs66_ok ls66_1_ok
noncomputable def l29_7 : Nat → List Dat → ByteArray → List Dat → Int → Int → List Dat → Int → Int → (List Dat → ByteArray → List Dat → Int → Int → Prop) → Prop
  | 0, _, _, _, _, _, _, _, _, _ => False
  | fu + 1, l, s, xs, n, n2, xs2, n3, n4, E2 =>
    br (decide (n4 < n3)) (
     req (decide ((0 : Int) ≤ n4) && decide (n4 < (↑(List.length xs2) : Int))) (
     req (decide (Int.toNat n4 < List.length xs2)) (
     req (decide (ByteArray.size s + ByteArray.size (Dat.toStr (Dat.fst (List.getD xs2 (Int.toNat n4) default))) ≤ (9223372036854775807 : Nat))) (
     req (inR IntKind.i64 (n4 + (1 : Int))) (((List.length l) = List.length l ∧ l29_7 fu l (s ++ Dat.toStr (Dat.fst (List.getD xs2 (Int.toNat n4) default))) xs n n2 xs2 n3 (n4 + (1 : Int)) E2)))))) (E2 l s xs n n2)
def F29_7 : AM.Form := ⟨mkF 34 [(3, .sl 0), (6, .str), (10, .ro (.slice (.pair .str (.pair (.int .i64) (.pair (.int .i64) .unit))))), (11, .int .i64), (12, .int .i64), (16, .ro (.pair .str (.pair (.int .i64) (.pair (.int .i64) .unit)))), (17, .int .i64), (18, .int .i64)], [.seq 9 .str]⟩
noncomputable def mm29_7 (n : Nat) (ds : List Dat) (Q : AExit → List AV → AH → Prop) : Prop := l29_7 n ((dat ds 7).toList) ((dat ds 0).toStr) ((dat ds 1).toList) ((dat ds 2).toInt) ((dat ds 3).toInt) ((dat ds 4).toList) ((dat ds 5).toInt) ((dat ds 6).toInt) (fun rl rs rxs rn rn2 => Q (AExit.exit 2) (mkAV 34 [(3, .sl 0 0 rl.length), (6, .c (.string rs)), (10, .ro (.slice (.pair .str (.pair (.int .i64) (.pair (.int .i64) .unit)))) rxs), (11, .c (.int .i64 rn)), (12, .c (.int .i64 rn2))]) ⟨[.seq 9 .str rl], []⟩)
theorem t29_7 (n : Nat) (ds : List Dat) (Q : AExit → List AV → AH → Prop) : wpA Tryd.prog tys GG66 1000 29 (theLoop Tryd.prog 29 7) (fun e f' h' => endF Tryd.prog ((fun _ => []) e) ((fun e => match e with | .normal => ⟨[3, 6, 10, 11, 12, 16, 17, 18], []⟩ | .exit 2 => ⟨[3, 6, 10, 11, 12], []⟩ | _ => ⟨[], []⟩) e) ((fun e => match e with | .normal => [(3, .row 9 .str)] | .exit 2 => [(3, .row 9 .str)] | _ => []) e) (F29_7.hp ds) f' h' fun f2 h2 => match e with
      | .normal => locL F29_7 (mm29_7 n) f2 h2 Q
      | e => Q e f2 h2) (F29_7.fr ds) (F29_7.hp ds) = mm29_7 (n + 1) ds Q := by kernel_rfl
noncomputable def R29_7 : LoopT := headF Tryd.prog [] ⟨[3, 6, 10, 11, 12, 16, 17, 18], []⟩ [(3, .row 9 .str)] fun f h Q => ∃ n, locL F29_7 (mm29_7 n) f h Q
theorem ok29_7 : LoopOK Tryd.prog (theLoop Tryd.prog 29 7) R29_7 := ruleL_ok sGG66 (by kernel_rfl) mm29_7 (fun _ _ => rfl) t29_7
noncomputable def ls29_7 : List (FuncId × Nat × LoopT) := (29, 7, R29_7) :: ls66_1
theorem ls29_7_ok : LoopsOK Tryd.prog ls29_7 := .cons (by kernel_rfl) ok29_7 ls66_1_ok
noncomputable def GG29_7 : Rules := mkG [37, 27] cs66 ls29_7
theorem sGG29_7 : Sound Tryd.prog tys GG29_7 := mk_sound mixed tysOK names (by kernel_rfl) cs66_ok ls29_7_ok
noncomputable def l29_3 : Nat → List Dat → List Dat → Int → Int → (List Dat → Prop) → Prop
  | 0, _, _, _, _, _ => False
  | fu + 1, l, xs, n, n2, E0 =>
    br (decide (n2 < n)) (
     req (decide ((0 : Int) ≤ n2) && decide (n2 < (↑(List.length xs) : Int))) (
     req (decide (Int.toNat n2 < List.length xs)) (
     (∃ y0, 
     ((List.length l = List.length l) ∧ 
     l29_7 y0 l { data := #[] } xs n n2 (Dat.toList (List.getD xs (Int.toNat n2) default)) (↑(List.length (Dat.toList (List.getD xs (Int.toNat n2) default))) : Int) (0 : Int) (fun y1 y2 y3 y4 y5 => 
      br (strEq y2 { data := #[] }) (
       req (appOK y1 (0 : Nat) (List.length y1) (1 : Nat) (16 : Nat)) (
       req (inR IntKind.i64 (y5 + (1 : Int))) (((List.length (dapp y1 (0 : Nat) (List.length y1) [Dat.str y2])) = List.length (dapp y1 (0 : Nat) (List.length y1) [Dat.str y2]) ∧ l29_3 fu (dapp y1 (0 : Nat) (List.length y1) [Dat.str y2]) y3 y4 (y5 + (1 : Int)) E0)))) (
       m66 y2 (↑(32 : Nat) : Int) (fun y6 => 
        req (appOK y1 (0 : Nat) (List.length y1) (1 : Nat) (16 : Nat)) (
        req (inR IntKind.i64 (y5 + (1 : Int))) (((List.length (dapp y1 (0 : Nat) (List.length y1) [Dat.str y6])) = List.length (dapp y1 (0 : Nat) (List.length y1) [Dat.str y6]) ∧ l29_3 fu (dapp y1 (0 : Nat) (List.length y1) [Dat.str y6]) y3 y4 (y5 + (1 : Int)) E0))))))))))) (E0 l)
def F29_3 : AM.Form := ⟨mkF 34 [(3, .sl 0), (10, .ro (.slice (.pair .str (.pair (.int .i64) (.pair (.int .i64) .unit))))), (11, .int .i64), (12, .int .i64)], [.seq 9 .str]⟩
noncomputable def mm29_3 (n : Nat) (ds : List Dat) (Q : AExit → List AV → AH → Prop) : Prop := l29_3 n ((dat ds 3).toList) ((dat ds 0).toList) ((dat ds 1).toInt) ((dat ds 2).toInt) (fun rl => Q (AExit.exit 0) (mkAV 34 [(3, .sl 0 0 rl.length)]) ⟨[.seq 9 .str rl], []⟩)
theorem t29_3 (n : Nat) (ds : List Dat) (Q : AExit → List AV → AH → Prop) : wpA Tryd.prog tys GG29_7 1000 29 (theLoop Tryd.prog 29 3) (fun e f' h' => endF Tryd.prog ((fun _ => []) e) ((fun e => match e with | .normal => ⟨[3, 10, 11, 12], []⟩ | .exit 0 => ⟨[3], []⟩ | _ => ⟨[], []⟩) e) ((fun e => match e with | .normal => [(3, .row 9 .str)] | .exit 0 => [(3, .row 9 .str)] | _ => []) e) (F29_3.hp ds) f' h' fun f2 h2 => match e with
      | .normal => locL F29_3 (mm29_3 n) f2 h2 Q
      | e => Q e f2 h2) (F29_3.fr ds) (F29_3.hp ds) = mm29_3 (n + 1) ds Q := by kernel_rfl
noncomputable def R29_3 : LoopT := headF Tryd.prog [] ⟨[3, 10, 11, 12], []⟩ [(3, .row 9 .str)] fun f h Q => ∃ n, locL F29_3 (mm29_3 n) f h Q
theorem ok29_3 : LoopOK Tryd.prog (theLoop Tryd.prog 29 3) R29_3 := ruleL_ok sGG29_7 (by kernel_rfl) mm29_3 (fun _ _ => rfl) t29_3
noncomputable def ls29_3 : List (FuncId × Nat × LoopT) := (29, 3, R29_3) :: ls29_7
theorem ls29_3_ok : LoopsOK Tryd.prog ls29_3 := .cons (by kernel_rfl) ok29_3 ls29_7_ok
noncomputable def GG29_3 : Rules := mkG [37, 27] cs66 ls29_3
theorem sGG29_3 : Sound Tryd.prog tys GG29_3 := mk_sound mixed tysOK names (by kernel_rfl) cs66_ok ls29_3_ok
noncomputable def m29 (f : List Dat) (f2 : Int) (f3 : Int) (f4 : Int) (K : List Dat → Prop) : Prop :=
    (∃ y0, 
    (((0 : Nat) = (0 : Nat)) ∧ 
    l29_3 y0 [] f (↑(List.length f) : Int) (0 : Int) (fun y1 => K y1)))
def F29 : AM.Form := ⟨[.agg [.ro (.slice (.pair .str (.pair (.int .i64) (.pair (.int .i64) .unit)))), .int .i64, .int .i64, .int .i64]], []⟩
noncomputable def mm29 (ds : List Dat) (K : AV → AH → Prop) : Prop := m29 ((dat ds 0).toList) ((dat ds 1).toInt) ((dat ds 2).toInt) ((dat ds 3).toInt) (fun rl => K (.sl 0 0 rl.length) ⟨[.seq 9 .str rl], []⟩)
theorem t29 (ds : List Dat) (K : AV → AH → Prop) : callA Tryd.prog tys GG29_3 1000 29 (F29.fr ds) (F29.hp ds) (fun v h' => endK Tryd.prog [] .keep (F29.hp ds) (F29.fr ds) v h' K) = mm29 ds K := by kernel_rfl
noncomputable def R29 : CallT := ruleF Tryd.prog [(.agg [(.ro (.slice (.pair .str (.pair (.int .i64) (.pair (.int .i64) .unit))))), .keep, .keep, .keep])] [] F29 mm29
theorem ok29 : CallOK Tryd.prog 29 R29 := ruleF_ok sGG29_3 t29
noncomputable def cs29 : List (FuncId × CallT) := (29, R29) :: cs66
theorem cs29_ok : CallsOK Tryd.prog cs29 := .cons ok29 cs66_ok
noncomputable def GG29 : Rules := mkG [37, 27] cs29 ls29_3
theorem sGG29 : Sound Tryd.prog tys GG29 := mk_sound mixed tysOK names (by kernel_rfl) cs29_ok ls29_3_ok
noncomputable def l30_7 : Nat → C29 → List Dat → Int → ByteArray → Int → (C29 → List Dat → Int → ByteArray → Prop) → Prop
  | 0, _, _, _, _, _, _ => False
  | fu + 1, c, l, i, s, k, E2 =>
    req (decide ((0 : Int) ≤ i) && decide (i < (↑(List.length (C29.rows c)) : Int))) (
    req (decide (Int.toNat i < List.length (C29.rows c))) (
    br (decide (k < (↑(List.length (Dat.toList (List.getD (C29.rows c) (Int.toNat i) default))) : Int))) (
     req (decide ((0 : Int) ≤ i) && decide (i < (↑(List.length (C29.rows c)) : Int))) (
     req (decide (Int.toNat i < List.length (C29.rows c))) (
     req (decide ((0 : Int) ≤ k) && decide (k < (↑(List.length (Dat.toList (List.getD (C29.rows c) (Int.toNat i) default))) : Int))) (
     req (decide (Int.toNat k < List.length (Dat.toList (List.getD (C29.rows c) (Int.toNat i) default)))) (
     req (decide (ByteArray.size s + ByteArray.size (Dat.toStr (Dat.fst (List.getD (Dat.toList (List.getD (C29.rows c) (Int.toNat i) default)) (Int.toNat k) default))) ≤ (9223372036854775807 : Nat))) (
     req (inR IntKind.i64 (k + (1 : Int))) (((List.length l) = List.length l ∧ l30_7 fu c l i (s ++ Dat.toStr (Dat.fst (List.getD (Dat.toList (List.getD (C29.rows c) (Int.toNat i) default)) (Int.toNat k) default))) (k + (1 : Int)) E2)))))))) (E2 c l i s)))
def F30_7 : AM.Form := ⟨mkF 56 [(1, .p 0 0), (3, .sl 1), (4, .int .i64), (5, .str), (6, .int .i64)], [.cells 29 [.ro (.slice (.pair .str (.pair (.int .i64) (.pair (.int .i64) .unit)))), .int .i64, .int .i64, .int .i64], .seq 9 .str]⟩
noncomputable def mm30_7 (n : Nat) (ds : List Dat) (Q : AExit → List AV → AH → Prop) : Prop := l30_7 n ⟨(dat ds 3).toList, (dat ds 4).toInt, (dat ds 5).toInt, (dat ds 6).toInt⟩ ((dat ds 7).toList) ((dat ds 0).toInt) ((dat ds 1).toStr) ((dat ds 2).toInt) (fun rc rl rn rs => Q (AExit.exit 2) (mkAV 56 [(1, .p 0 0), (3, .sl 1 0 rl.length), (4, .c (.int .i64 rn)), (5, .c (.string rs))]) ⟨[.cells 29 [.ro (.slice (.pair .str (.pair (.int .i64) (.pair (.int .i64) .unit)))) rc.rows, .c (.int .i64 rc.cursorRow), .c (.int .i64 rc.cursorCol), .c (.int .i64 rc.above)], .seq 9 .str rl], []⟩)
theorem t30_7 (n : Nat) (ds : List Dat) (Q : AExit → List AV → AH → Prop) : wpA Tryd.prog tys GG29 1000 30 (theLoop Tryd.prog 30 7) (fun e f' h' => endF Tryd.prog ((fun _ => []) e) ((fun e => match e with | .normal => ⟨[1, 3, 4, 5, 6], []⟩ | .exit 2 => ⟨[1, 3, 4, 5], []⟩ | _ => ⟨[], []⟩) e) ((fun e => match e with | .normal => [(3, .row 9 .str)] | .exit 2 => [(3, .row 9 .str)] | _ => []) e) (F30_7.hp ds) f' h' fun f2 h2 => match e with
      | .normal => locL F30_7 (mm30_7 n) f2 h2 Q
      | e => Q e f2 h2) (F30_7.fr ds) (F30_7.hp ds) = mm30_7 (n + 1) ds Q := by kernel_rfl
noncomputable def R30_7 : LoopT := headF Tryd.prog [] ⟨[1, 3, 4, 5, 6], []⟩ [(3, .row 9 .str)] fun f h Q => ∃ n, locL F30_7 (mm30_7 n) f h Q
theorem ok30_7 : LoopOK Tryd.prog (theLoop Tryd.prog 30 7) R30_7 := ruleL_ok sGG29 (by kernel_rfl) mm30_7 (fun _ _ => rfl) t30_7
noncomputable def ls30_7 : List (FuncId × Nat × LoopT) := (30, 7, R30_7) :: ls29_3
theorem ls30_7_ok : LoopsOK Tryd.prog ls30_7 := .cons (by kernel_rfl) ok30_7 ls29_3_ok
noncomputable def GG30_7 : Rules := mkG [37, 27] cs29 ls30_7
theorem sGG30_7 : Sound Tryd.prog tys GG30_7 := mk_sound mixed tysOK names (by kernel_rfl) cs29_ok ls30_7_ok
noncomputable def l30_10 : Nat → C29 → List Dat → Int → ByteArray → (C29 → List Dat → Int → ByteArray → Prop) → Prop
  | 0, _, _, _, _, _ => False
  | fu + 1, c, l, i, s, E4 =>
    br (decide ((0 : Int) < (↑(ByteArray.size s) : Int))) (
     req (inR IntKind.i64 ((↑(ByteArray.size s) : Int) - (1 : Int))) (
     req (decide ((0 : Int) ≤ (↑(ByteArray.size s) : Int) - (1 : Int)) && decide ((↑(ByteArray.size s) : Int) - (1 : Int) < (↑(ByteArray.size s) : Int))) (
     br (decide ((↑(UInt8.toNat (List.getD (Array.toList (ByteArray.data s)) (Int.toNat ((↑(ByteArray.size s) : Int) - (1 : Int))) (0 : UInt8))) : Int) = (32 : Int))) (
      req (inR IntKind.i64 ((↑(ByteArray.size s) : Int) - (1 : Int))) (
      req (decide ((0 : Int) ≤ (0 : Int)) && decide ((0 : Int) ≤ (↑(ByteArray.size s) : Int) - (1 : Int)) && decide ((↑(ByteArray.size s) : Int) - (1 : Int) ≤ (↑(ByteArray.size s) : Int))) (((List.length l) = List.length l ∧ l30_10 fu c l i (subS s (0 : Nat) (Int.toNat ((↑(ByteArray.size s) : Int) - (1 : Int)))) E4)))) (E4 c l i s)))) (E4 c l i s)
def F30_10 : AM.Form := ⟨mkF 56 [(1, .p 0 0), (3, .sl 1), (4, .int .i64), (5, .str)], [.cells 29 [.ro (.slice (.pair .str (.pair (.int .i64) (.pair (.int .i64) .unit)))), .int .i64, .int .i64, .int .i64], .seq 9 .str]⟩
noncomputable def mm30_10 (n : Nat) (ds : List Dat) (Q : AExit → List AV → AH → Prop) : Prop := l30_10 n ⟨(dat ds 2).toList, (dat ds 3).toInt, (dat ds 4).toInt, (dat ds 5).toInt⟩ ((dat ds 6).toList) ((dat ds 0).toInt) ((dat ds 1).toStr) (fun rc rl rn rs => Q (AExit.exit 4) (mkAV 56 [(1, .p 0 0), (3, .sl 1 0 rl.length), (4, .c (.int .i64 rn)), (5, .c (.string rs))]) ⟨[.cells 29 [.ro (.slice (.pair .str (.pair (.int .i64) (.pair (.int .i64) .unit)))) rc.rows, .c (.int .i64 rc.cursorRow), .c (.int .i64 rc.cursorCol), .c (.int .i64 rc.above)], .seq 9 .str rl], []⟩)
theorem t30_10 (n : Nat) (ds : List Dat) (Q : AExit → List AV → AH → Prop) : wpA Tryd.prog tys GG30_7 1000 30 (theLoop Tryd.prog 30 10) (fun e f' h' => endF Tryd.prog ((fun _ => []) e) ((fun e => match e with | .normal => ⟨[1, 3, 4, 5], []⟩ | .exit 4 => ⟨[1, 3, 4, 5], []⟩ | _ => ⟨[], []⟩) e) ((fun e => match e with | .normal => [] | .exit 4 => [] | _ => []) e) (F30_10.hp ds) f' h' fun f2 h2 => match e with
      | .normal => locL F30_10 (mm30_10 n) f2 h2 Q
      | e => Q e f2 h2) (F30_10.fr ds) (F30_10.hp ds) = mm30_10 (n + 1) ds Q := by kernel_rfl
noncomputable def R30_10 : LoopT := headF Tryd.prog [] ⟨[1, 3, 4, 5], []⟩ [] fun f h Q => ∃ n, locL F30_10 (mm30_10 n) f h Q
theorem ok30_10 : LoopOK Tryd.prog (theLoop Tryd.prog 30 10) R30_10 := ruleL_ok sGG30_7 (by kernel_rfl) mm30_10 (fun _ _ => rfl) t30_10
noncomputable def ls30_10 : List (FuncId × Nat × LoopT) := (30, 10, R30_10) :: ls30_7
theorem ls30_10_ok : LoopsOK Tryd.prog ls30_10 := .cons (by kernel_rfl) ok30_10 ls30_7_ok
noncomputable def GG30_10 : Rules := mkG [37, 27] cs29 ls30_10
theorem sGG30_10 : Sound Tryd.prog tys GG30_10 := mk_sound mixed tysOK names (by kernel_rfl) cs29_ok ls30_10_ok
noncomputable def l30_3 : Nat → C29 → List Dat → Int → (C29 → List Dat → Prop) → Prop
  | 0, _, _, _, _ => False
  | fu + 1, c, l, i, E0 =>
    br (decide (i < (↑(List.length (C29.rows c)) : Int))) (
     (∃ y0, 
     ((List.length l = List.length l) ∧ 
     l30_7 y0 { rows := C29.rows c, cursorRow := C29.cursorRow c, cursorCol := C29.cursorCol c, above := C29.above c } l i { data := #[] } (0 : Int) (fun y1 y2 y3 y4 => 
      (∃ y5, 
      ((List.length y2 = List.length y2) ∧ 
      l30_10 y5 { rows := C29.rows y1, cursorRow := C29.cursorRow y1, cursorCol := C29.cursorCol y1, above := C29.above y1 } y2 y3 y4 (fun y6 y7 y8 y9 => 
       req (appOK y7 (0 : Nat) (List.length y7) (1 : Nat) (16 : Nat)) (
       req (inR IntKind.i64 (y8 + (1 : Int))) (((List.length (dapp y7 (0 : Nat) (List.length y7) [Dat.str y9])) = List.length (dapp y7 (0 : Nat) (List.length y7) [Dat.str y9]) ∧ l30_3 fu y6 (dapp y7 (0 : Nat) (List.length y7) [Dat.str y9]) (y8 + (1 : Int)) E0)))))))))) (E0 c l)
def F30_3 : AM.Form := ⟨mkF 56 [(1, .p 0 0), (3, .sl 1), (4, .int .i64)], [.cells 29 [.ro (.slice (.pair .str (.pair (.int .i64) (.pair (.int .i64) .unit)))), .int .i64, .int .i64, .int .i64], .seq 9 .str]⟩
noncomputable def mm30_3 (n : Nat) (ds : List Dat) (Q : AExit → List AV → AH → Prop) : Prop := l30_3 n ⟨(dat ds 1).toList, (dat ds 2).toInt, (dat ds 3).toInt, (dat ds 4).toInt⟩ ((dat ds 5).toList) ((dat ds 0).toInt) (fun rc rl => Q (AExit.exit 0) (mkAV 56 [(1, .p 0 0), (3, .sl 1 0 rl.length)]) ⟨[.cells 29 [.ro (.slice (.pair .str (.pair (.int .i64) (.pair (.int .i64) .unit)))) rc.rows, .c (.int .i64 rc.cursorRow), .c (.int .i64 rc.cursorCol), .c (.int .i64 rc.above)], .seq 9 .str rl], []⟩)
theorem t30_3 (n : Nat) (ds : List Dat) (Q : AExit → List AV → AH → Prop) : wpA Tryd.prog tys GG30_10 1000 30 (theLoop Tryd.prog 30 3) (fun e f' h' => endF Tryd.prog ((fun _ => []) e) ((fun e => match e with | .normal => ⟨[1, 3, 4], []⟩ | .exit 0 => ⟨[1, 3], []⟩ | _ => ⟨[], []⟩) e) ((fun e => match e with | .normal => [(3, .row 9 .str)] | .exit 0 => [(3, .row 9 .str)] | _ => []) e) (F30_3.hp ds) f' h' fun f2 h2 => match e with
      | .normal => locL F30_3 (mm30_3 n) f2 h2 Q
      | e => Q e f2 h2) (F30_3.fr ds) (F30_3.hp ds) = mm30_3 (n + 1) ds Q := by kernel_rfl
noncomputable def R30_3 : LoopT := headF Tryd.prog [] ⟨[1, 3, 4], []⟩ [(3, .row 9 .str)] fun f h Q => ∃ n, locL F30_3 (mm30_3 n) f h Q
theorem ok30_3 : LoopOK Tryd.prog (theLoop Tryd.prog 30 3) R30_3 := ruleL_ok sGG30_10 (by kernel_rfl) mm30_3 (fun _ _ => rfl) t30_3
noncomputable def ls30_3 : List (FuncId × Nat × LoopT) := (30, 3, R30_3) :: ls30_10
theorem ls30_3_ok : LoopsOK Tryd.prog ls30_3 := .cons (by kernel_rfl) ok30_3 ls30_10_ok
noncomputable def GG30_3 : Rules := mkG [37, 27] cs29 ls30_3
theorem sGG30_3 : Sound Tryd.prog tys GG30_3 := mk_sound mixed tysOK names (by kernel_rfl) cs29_ok ls30_3_ok
noncomputable def m30 (f : List Dat) (f2 : Int) (f3 : Int) (f4 : Int) (K : List Dat → Prop) : Prop :=
    (∃ y0, 
    (((0 : Nat) = (0 : Nat)) ∧ 
    l30_3 y0 { rows := f, cursorRow := f2, cursorCol := f3, above := f4 } [] (0 : Int) (fun y1 y2 => K y2)))
def F30 : AM.Form := ⟨[.agg [.ro (.slice (.pair .str (.pair (.int .i64) (.pair (.int .i64) .unit)))), .int .i64, .int .i64, .int .i64]], []⟩
noncomputable def mm30 (ds : List Dat) (K : AV → AH → Prop) : Prop := m30 ((dat ds 0).toList) ((dat ds 1).toInt) ((dat ds 2).toInt) ((dat ds 3).toInt) (fun rl => K (.sl 0 0 rl.length) ⟨[.seq 9 .str rl], []⟩)
theorem t30 (ds : List Dat) (K : AV → AH → Prop) : callA Tryd.prog tys GG30_3 1000 30 (F30.fr ds) (F30.hp ds) (fun v h' => endK Tryd.prog [] .keep (F30.hp ds) (F30.fr ds) v h' K) = mm30 ds K := by kernel_rfl
noncomputable def R30 : CallT := ruleF Tryd.prog [(.agg [(.ro (.slice (.pair .str (.pair (.int .i64) (.pair (.int .i64) .unit))))), .keep, .keep, .keep])] [] F30 mm30
theorem ok30 : CallOK Tryd.prog 30 R30 := ruleF_ok sGG30_3 t30
noncomputable def cs30 : List (FuncId × CallT) := (30, R30) :: cs29
theorem cs30_ok : CallsOK Tryd.prog cs30 := .cons ok30 cs29_ok
noncomputable def GG30 : Rules := mkG [37, 27] cs30 ls30_3
theorem sGG30 : Sound Tryd.prog tys GG30 := mk_sound mixed tysOK names (by kernel_rfl) cs30_ok ls30_3_ok
end Go.Proofs.YthegkipclogoeaaDoor

set_option linter.unusedVariables false
set_option maxRecDepth 100000
namespace Go.Proofs.YthegkipclogoeaaDoor
open Go.AM Go.LTxt Go.LMem Go.RowKit
noncomputable def l23_4 : Nat → List Dat → List Dat → Int → Int → (Prop) → (Bool → Prop) → Prop
  | 0, _, _, _, _, _, _ => False
  | fu + 1, s2, xs, n, n2, E0, R_ =>
    br (decide (n2 < n)) (
     req (decide ((0 : Int) ≤ n2) && decide (n2 < (↑(List.length xs) : Int))) (
     req (decide (Int.toNat n2 < List.length xs)) (
     req (decide ((0 : Int) ≤ n2) && decide (n2 < (↑(List.length s2) : Int))) (
     req (decide (Int.toNat n2 < List.length s2)) (
     m15 (Dat.toList (List.getD xs (Int.toNat n2) default)) (Dat.toList (List.getD s2 (Int.toNat n2) default)) (fun y0 => 
      br (!y0) (R_ false) (
       req (inR IntKind.i64 (n2 + (1 : Int))) (l23_4 fu s2 xs n (n2 + (1 : Int)) E0 R_)))))))) (E0)
def F23_4 : AM.Form := ⟨mkF 32 [(1, .ro (.slice (.pair .str (.pair (.int .i64) (.pair (.int .i64) .unit))))), (2, .fn 15 []), (15, .ro (.slice (.pair .str (.pair (.int .i64) (.pair (.int .i64) .unit))))), (16, .int .i64), (17, .int .i64)], []⟩
noncomputable def mm23_4 (n : Nat) (ds : List Dat) (Q : AExit → List AV → AH → Prop) : Prop := l23_4 n ((dat ds 0).toList) ((dat ds 1).toList) ((dat ds 2).toInt) ((dat ds 3).toInt) (Q (AExit.exit 0) (mkAV 32 []) ⟨[], []⟩) (fun rb => Q AExit.ret (mkAV 32 [(6, .c (.bool rb))]) ⟨[], []⟩)
theorem t23_4 (n : Nat) (ds : List Dat) (Q : AExit → List AV → AH → Prop) : wpA Tryd.prog tys GG30 1000 23 (theLoop Tryd.prog 23 4) (fun e f' h' => endF Tryd.prog ((fun _ => []) e) ((fun e => match e with | .normal => ⟨[1, 2, 15, 16, 17], []⟩ | .exit 0 => ⟨[], []⟩ | .ret => ⟨[6], []⟩ | _ => ⟨[], []⟩) e) ((fun e => match e with | .normal => [] | .exit 0 => [] | .ret => [] | _ => []) e) (F23_4.hp ds) f' h' fun f2 h2 => match e with
      | .normal => locL F23_4 (mm23_4 n) f2 h2 Q
      | e => Q e f2 h2) (F23_4.fr ds) (F23_4.hp ds) = mm23_4 (n + 1) ds Q := by kernel_rfl
noncomputable def R23_4 : LoopT := headF Tryd.prog [] ⟨[1, 2, 15, 16, 17], []⟩ [] fun f h Q => ∃ n, locL F23_4 (mm23_4 n) f h Q
theorem ok23_4 : LoopOK Tryd.prog (theLoop Tryd.prog 23 4) R23_4 := ruleL_ok sGG30 (by kernel_rfl) mm23_4 (fun _ _ => rfl) t23_4
noncomputable def ls23_4 : List (FuncId × Nat × LoopT) := (23, 4, R23_4) :: ls30_3
theorem ls23_4_ok : LoopsOK Tryd.prog ls23_4 := .cons (by kernel_rfl) ok23_4 ls30_3_ok
noncomputable def GG23_4 : Rules := mkG [37, 27] cs30 ls23_4
theorem sGG23_4 : Sound Tryd.prog tys GG23_4 := mk_sound mixed tysOK names (by kernel_rfl) cs30_ok ls23_4_ok
noncomputable def m23 (s1 : List Dat) (s2 : List Dat) (K : Bool → Prop) : Prop :=
    br (!decide ((↑(List.length s1) : Int) = (↑(List.length s2) : Int))) (K false) (
     (∃ y0, 
     l23_4 y0 s2 s1 (↑(List.length s1) : Int) (0 : Int) (K true) (fun y1 => K y1)))
def F23 : AM.Form := ⟨[.ro (.slice (.pair .str (.pair (.int .i64) (.pair (.int .i64) .unit)))), .ro (.slice (.pair .str (.pair (.int .i64) (.pair (.int .i64) .unit)))), .fn 15 []], []⟩
noncomputable def mm23 (ds : List Dat) (K : AV → AH → Prop) : Prop := m23 ((dat ds 0).toList) ((dat ds 1).toList) (fun rb => K (.c (.bool rb)) ⟨[], []⟩)
theorem t23 (ds : List Dat) (K : AV → AH → Prop) : callA Tryd.prog tys GG23_4 1000 23 (F23.fr ds) (F23.hp ds) (fun v h' => endK Tryd.prog [] .keep (F23.hp ds) (F23.fr ds) v h' K) = mm23 ds K := by kernel_rfl
noncomputable def R23 : CallT := ruleF Tryd.prog [(.ro (.slice (.pair .str (.pair (.int .i64) (.pair (.int .i64) .unit))))), (.ro (.slice (.pair .str (.pair (.int .i64) (.pair (.int .i64) .unit))))), .keep] [] F23 mm23
theorem ok23 : CallOK Tryd.prog 23 R23 := ruleF_ok sGG23_4 t23
noncomputable def cs23 : List (FuncId × CallT) := (23, R23) :: cs30
theorem cs23_ok : CallsOK Tryd.prog cs23 := .cons ok23 cs30_ok
noncomputable def GG23 : Rules := mkG [37, 27] cs23 ls23_4
theorem sGG23 : Sound Tryd.prog tys GG23 := mk_sound mixed tysOK names (by kernel_rfl) cs23_ok ls23_4_ok
noncomputable def m26 (a : List Dat) (a2 : Int) (a3 : Int) (a4 : Int) (b : List Dat) (b2 : Int) (b3 : Int) (b4 : Int) (K : Bool → Prop) : Prop :=
    br (decide (a2 = b2) && (decide (a3 = b3) && true)) (
     m49 a (fun y0 => 
      m49 b (fun y1 => 
       req (decide ((0 : Nat) + List.length y0 ≤ List.length y0)) (
       req (decide ((0 : Nat) + List.length y1 ≤ List.length y1)) (
       m23 (List.take (List.length y0) y0) (List.take (List.length y1) y1) (fun y2 => K y2)))))) (K false)
def F26 : AM.Form := ⟨[.agg [.ro (.slice (.pair .str (.pair (.int .i64) (.pair (.int .i64) .unit)))), .int .i64, .int .i64, .int .i64], .agg [.ro (.slice (.pair .str (.pair (.int .i64) (.pair (.int .i64) .unit)))), .int .i64, .int .i64, .int .i64]], []⟩
noncomputable def mm26 (ds : List Dat) (K : AV → AH → Prop) : Prop := m26 ((dat ds 0).toList) ((dat ds 1).toInt) ((dat ds 2).toInt) ((dat ds 3).toInt) ((dat ds 4).toList) ((dat ds 5).toInt) ((dat ds 6).toInt) ((dat ds 7).toInt) (fun rb => K (.c (.bool rb)) ⟨[], []⟩)
theorem t26 (ds : List Dat) (K : AV → AH → Prop) : callA Tryd.prog tys GG23 1000 26 (F26.fr ds) (F26.hp ds) (fun v h' => endK Tryd.prog [] .keep (F26.hp ds) (F26.fr ds) v h' K) = mm26 ds K := by kernel_rfl
noncomputable def R26 : CallT := ruleF Tryd.prog [(.agg [(.ro (.slice (.pair .str (.pair (.int .i64) (.pair (.int .i64) .unit))))), .keep, .keep, .keep]), (.agg [(.ro (.slice (.pair .str (.pair (.int .i64) (.pair (.int .i64) .unit))))), .keep, .keep, .keep])] [] F26 mm26
theorem ok26 : CallOK Tryd.prog 26 R26 := ruleF_ok sGG23 t26
noncomputable def cs26 : List (FuncId × CallT) := (26, R26) :: cs23
theorem cs26_ok : CallsOK Tryd.prog cs26 := .cons ok26 cs23_ok
noncomputable def GG26 : Rules := mkG [37, 27] cs26 ls23_4
theorem sGG26 : Sound Tryd.prog tys GG26 := mk_sound mixed tysOK names (by kernel_rfl) cs26_ok ls23_4_ok
end Go.Proofs.YthegkipclogoeaaDoor

set_option linter.unusedVariables false
set_option maxRecDepth 100000
namespace Go.Proofs.YthegkipclogoeaaDoor
open Go.AM Go.LTxt Go.LMem Go.RowKit
noncomputable def l27_2 : Nat → C29 → C29 → Int → (C29 → C29 → Prop) → (C29 → C29 → Bool → Prop) → Prop
  | 0, _, _, _, _, _ => False
  | fu + 1, c, c2, i, E0, R_ =>
    br (decide (i < (↑(List.length (C29.rows c)) : Int))) (
     br (decide (i < (↑(List.length (C29.rows c)) : Int))) (
      req (decide ((0 : Int) ≤ i) && decide (i < (↑(List.length (C29.rows c)) : Int))) (
      req (decide (Int.toNat i < List.length (C29.rows c))) (
      br (decide (i < (↑(List.length (C29.rows c2)) : Int))) (
       req (decide ((0 : Int) ≤ i) && decide (i < (↑(List.length (C29.rows c2)) : Int))) (
       req (decide (Int.toNat i < List.length (C29.rows c2))) (
       m50 (Dat.toList (List.getD (C29.rows c) (Int.toNat i) default)) (Dat.toList (List.getD (C29.rows c2) (Int.toNat i) default)) (fun y0 => 
        br (!y0) (R_ c c2 false) (
         req (inR IntKind.i64 (i + (1 : Int))) (l27_2 fu c c2 (i + (1 : Int)) E0 R_)))))) (
       m50 (Dat.toList (List.getD (C29.rows c) (Int.toNat i) default)) [] (fun y1 => 
        br (!y1) (R_ c c2 false) (
         req (inR IntKind.i64 (i + (1 : Int))) (l27_2 fu c c2 (i + (1 : Int)) E0 R_))))))) (
      br (decide (i < (↑(List.length (C29.rows c2)) : Int))) (
       req (decide ((0 : Int) ≤ i) && decide (i < (↑(List.length (C29.rows c2)) : Int))) (
       req (decide (Int.toNat i < List.length (C29.rows c2))) (
       m50 [] (Dat.toList (List.getD (C29.rows c2) (Int.toNat i) default)) (fun y2 => 
        br (!y2) (R_ c c2 false) (
         req (inR IntKind.i64 (i + (1 : Int))) (l27_2 fu c c2 (i + (1 : Int)) E0 R_)))))) (
       m50 [] [] (fun y3 => 
        br (!y3) (R_ c c2 false) (
         req (inR IntKind.i64 (i + (1 : Int))) (l27_2 fu c c2 (i + (1 : Int)) E0 R_)))))) (
     br (decide (i < (↑(List.length (C29.rows c2)) : Int))) (
      br (decide (i < (↑(List.length (C29.rows c)) : Int))) (
       req (decide ((0 : Int) ≤ i) && decide (i < (↑(List.length (C29.rows c)) : Int))) (
       req (decide (Int.toNat i < List.length (C29.rows c))) (
       br (decide (i < (↑(List.length (C29.rows c2)) : Int))) (
        req (decide ((0 : Int) ≤ i) && decide (i < (↑(List.length (C29.rows c2)) : Int))) (
        req (decide (Int.toNat i < List.length (C29.rows c2))) (
        m50 (Dat.toList (List.getD (C29.rows c) (Int.toNat i) default)) (Dat.toList (List.getD (C29.rows c2) (Int.toNat i) default)) (fun y4 => 
         br (!y4) (R_ c c2 false) (
          req (inR IntKind.i64 (i + (1 : Int))) (l27_2 fu c c2 (i + (1 : Int)) E0 R_)))))) (
        m50 (Dat.toList (List.getD (C29.rows c) (Int.toNat i) default)) [] (fun y5 => 
         br (!y5) (R_ c c2 false) (
          req (inR IntKind.i64 (i + (1 : Int))) (l27_2 fu c c2 (i + (1 : Int)) E0 R_))))))) (
       br (decide (i < (↑(List.length (C29.rows c2)) : Int))) (
        req (decide ((0 : Int) ≤ i) && decide (i < (↑(List.length (C29.rows c2)) : Int))) (
        req (decide (Int.toNat i < List.length (C29.rows c2))) (
        m50 [] (Dat.toList (List.getD (C29.rows c2) (Int.toNat i) default)) (fun y6 => 
         br (!y6) (R_ c c2 false) (
          req (inR IntKind.i64 (i + (1 : Int))) (l27_2 fu c c2 (i + (1 : Int)) E0 R_)))))) (
        m50 [] [] (fun y7 => 
         br (!y7) (R_ c c2 false) (
          req (inR IntKind.i64 (i + (1 : Int))) (l27_2 fu c c2 (i + (1 : Int)) E0 R_)))))) (E0 c c2))
def F27_2 : AM.Form := ⟨mkF 51 [(2, .p 0 0), (3, .p 1 0), (5, .int .i64)], [.cells 29 [.ro (.slice (.pair .str (.pair (.int .i64) (.pair (.int .i64) .unit)))), .int .i64, .int .i64, .int .i64], .cells 29 [.ro (.slice (.pair .str (.pair (.int .i64) (.pair (.int .i64) .unit)))), .int .i64, .int .i64, .int .i64]]⟩
noncomputable def mm27_2 (n : Nat) (ds : List Dat) (Q : AExit → List AV → AH → Prop) : Prop := l27_2 n ⟨(dat ds 1).toList, (dat ds 2).toInt, (dat ds 3).toInt, (dat ds 4).toInt⟩ ⟨(dat ds 5).toList, (dat ds 6).toInt, (dat ds 7).toInt, (dat ds 8).toInt⟩ ((dat ds 0).toInt) (fun rc rc2 => Q (AExit.exit 0) (mkAV 51 [(2, .p 0 0), (3, .p 1 0)]) ⟨[.cells 29 [.ro (.slice (.pair .str (.pair (.int .i64) (.pair (.int .i64) .unit)))) rc.rows, .c (.int .i64 rc.cursorRow), .c (.int .i64 rc.cursorCol), .c (.int .i64 rc.above)], .cells 29 [.ro (.slice (.pair .str (.pair (.int .i64) (.pair (.int .i64) .unit)))) rc2.rows, .c (.int .i64 rc2.cursorRow), .c (.int .i64 rc2.cursorCol), .c (.int .i64 rc2.above)]], []⟩) (fun rc rc2 rb => Q AExit.ret (mkAV 51 [(2, .p 0 0), (3, .p 1 0), (4, .c (.bool rb))]) ⟨[.cells 29 [.ro (.slice (.pair .str (.pair (.int .i64) (.pair (.int .i64) .unit)))) rc.rows, .c (.int .i64 rc.cursorRow), .c (.int .i64 rc.cursorCol), .c (.int .i64 rc.above)], .cells 29 [.ro (.slice (.pair .str (.pair (.int .i64) (.pair (.int .i64) .unit)))) rc2.rows, .c (.int .i64 rc2.cursorRow), .c (.int .i64 rc2.cursorCol), .c (.int .i64 rc2.above)]], []⟩)
theorem t27_2 (n : Nat) (ds : List Dat) (Q : AExit → List AV → AH → Prop) : wpA Tryd.prog tys GG26 1000 27 (theLoop Tryd.prog 27 2) (fun e f' h' => endF Tryd.prog ((fun _ => []) e) ((fun e => match e with | .normal => ⟨[2, 3, 5], []⟩ | .exit 0 => ⟨[2, 3], []⟩ | .ret => ⟨[2, 3, 4], []⟩ | _ => ⟨[], []⟩) e) ((fun e => match e with | .normal => [] | .exit 0 => [] | .ret => [] | _ => []) e) (F27_2.hp ds) f' h' fun f2 h2 => match e with
      | .normal => locL F27_2 (mm27_2 n) f2 h2 Q
      | e => Q e f2 h2) (F27_2.fr ds) (F27_2.hp ds) = mm27_2 (n + 1) ds Q := by kernel_rfl
noncomputable def R27_2 : LoopT := headF Tryd.prog [] ⟨[2, 3, 5], []⟩ [] fun f h Q => ∃ n, locL F27_2 (mm27_2 n) f h Q
theorem ok27_2 : LoopOK Tryd.prog (theLoop Tryd.prog 27 2) R27_2 := ruleL_ok sGG26 (by kernel_rfl) mm27_2 (fun _ _ => rfl) t27_2
noncomputable def ls27_2 : List (FuncId × Nat × LoopT) := (27, 2, R27_2) :: ls23_4
theorem ls27_2_ok : LoopsOK Tryd.prog ls27_2 := .cons (by kernel_rfl) ok27_2 ls23_4_ok
noncomputable def GG27_2 : Rules := mkG [37, 27] cs26 ls27_2
theorem sGG27_2 : Sound Tryd.prog tys GG27_2 := mk_sound mixed tysOK names (by kernel_rfl) cs26_ok ls27_2_ok
noncomputable def m27 (a : List Dat) (a2 : Int) (a3 : Int) (a4 : Int) (b : List Dat) (b2 : Int) (b3 : Int) (b4 : Int) (K : Bool → Prop) : Prop :=
    (∃ y0, 
    l27_2 y0 { rows := a, cursorRow := a2, cursorCol := a3, above := a4 } { rows := b, cursorRow := b2, cursorCol := b3, above := b4 } (0 : Int) (fun y1 y2 => K (decide (C29.cursorRow y1 = C29.cursorRow y2) && (decide (C29.cursorCol y1 = C29.cursorCol y2) && true))) (fun y3 y4 y5 => K y5))
def F27 : AM.Form := ⟨[.agg [.ro (.slice (.pair .str (.pair (.int .i64) (.pair (.int .i64) .unit)))), .int .i64, .int .i64, .int .i64], .agg [.ro (.slice (.pair .str (.pair (.int .i64) (.pair (.int .i64) .unit)))), .int .i64, .int .i64, .int .i64]], []⟩
noncomputable def mm27 (ds : List Dat) (K : AV → AH → Prop) : Prop := m27 ((dat ds 0).toList) ((dat ds 1).toInt) ((dat ds 2).toInt) ((dat ds 3).toInt) ((dat ds 4).toList) ((dat ds 5).toInt) ((dat ds 6).toInt) ((dat ds 7).toInt) (fun rb => K (.c (.bool rb)) ⟨[], []⟩)
theorem t27 (ds : List Dat) (K : AV → AH → Prop) : callA Tryd.prog tys GG27_2 1000 27 (F27.fr ds) (F27.hp ds) (fun v h' => endK Tryd.prog [] .keep (F27.hp ds) (F27.fr ds) v h' K) = mm27 ds K := by kernel_rfl
noncomputable def R27 : CallT := ruleF Tryd.prog [(.agg [(.ro (.slice (.pair .str (.pair (.int .i64) (.pair (.int .i64) .unit))))), .keep, .keep, .keep]), (.agg [(.ro (.slice (.pair .str (.pair (.int .i64) (.pair (.int .i64) .unit))))), .keep, .keep, .keep])] [] F27 mm27
theorem ok27 : CallOK Tryd.prog 27 R27 := ruleF_ok sGG27_2 t27
noncomputable def cs27 : List (FuncId × CallT) := (27, R27) :: cs26
theorem cs27_ok : CallsOK Tryd.prog cs27 := .cons ok27 cs26_ok
noncomputable def GG27 : Rules := mkG [37, 27] cs27 ls27_2
theorem sGG27 : Sound Tryd.prog tys GG27 := mk_sound mixed tysOK names (by kernel_rfl) cs27_ok ls27_2_ok
end Go.Proofs.YthegkipclogoeaaDoor

set_option linter.unusedVariables false
set_option maxRecDepth 100000
namespace Go.Proofs.YthegkipclogoeaaDoor
open Go.AM Go.LTxt Go.LMem Go.RowKit
noncomputable def m11  (K : Bool → Prop) : Prop :=
    m10 [Dat.int (Int.ofNat (36 : Nat)), Dat.int (Int.ofNat (32 : Nat))] [Dat.int (Int.ofNat (97 : Nat)), Dat.int (Int.ofNat (98 : Nat))] (1 : Int) (24 : Int) (80 : Int) false (fun y0 y1 y2 y3 y4 => 
     br (decide (y4 = (0 : Int))) (
      br (decide ((↑(List.length y0) : Int) = (1 : Int))) (
       req (decide ((0 : Nat) + List.length y0 ≤ List.length y0)) (
       m29 (List.take (List.length y0) y0) y1 y2 y3 (fun y5 => 
        req (decide ((0 : Nat) + List.length y5 ≤ List.length y5)) (
        m28 (List.take (List.length y5) y5) [Dat.str { data := #[(36 : UInt8), (32 : UInt8), (97 : UInt8), (98 : UInt8)] }] (fun y6 => 
         br (y6) (K (decide (y1 = (0 : Int)) && (decide (y2 = (3 : Int)) && true))) (K false)))))) (K false)) (K false))
def F11 : AM.Form := ⟨[], []⟩
noncomputable def mm11 (ds : List Dat) (K : AV → AH → Prop) : Prop := m11  (fun rb => K (.c (.bool rb)) ⟨[], []⟩)
theorem t11 (ds : List Dat) (K : AV → AH → Prop) : callA Tryd.prog tys GG27 1000 11 (F11.fr ds) (F11.hp ds) (fun v h' => endK Tryd.prog [] .keep (F11.hp ds) (F11.fr ds) v h' K) = mm11 ds K := by kernel_rfl
noncomputable def R11 : CallT := ruleF Tryd.prog [] [] F11 mm11
theorem ok11 : CallOK Tryd.prog 11 R11 := ruleF_ok sGG27 t11
noncomputable def cs11 : List (FuncId × CallT) := (11, R11) :: cs27
theorem cs11_ok : CallsOK Tryd.prog cs11 := .cons ok11 cs27_ok
noncomputable def GG11 : Rules := mkG [37, 27] cs11 ls27_2
theorem sGG11 : Sound Tryd.prog tys GG11 := mk_sound mixed tysOK names (by kernel_rfl) cs11_ok ls27_2_ok
noncomputable def m9 (s : List Dat) (s2 : List Dat) (s3 : Int) (s4 : Int) (s5 : Int) (s6 : Bool) (K : Bool → Prop) : Prop :=
    m10 s s2 s3 s4 s5 s6 (fun y0 y1 y2 y3 y4 => 
     m12 s s2 s3 s4 s5 s6 (fun y5 => 
      br (!decide (y5 = y4)) (K false) (
       m11 (fun y6 => 
        br (!y6) (K false) (
         br (!decide (y4 = (0 : Int))) (K true) (
          m31 s (fun y7 => 
           req (decide ((0 : Nat) + List.length y7 ≤ List.length y7)) (
           m10 (List.take (List.length y7) y7) s2 s3 s4 s5 s6 (fun y8 y9 y10 y11 y12 => 
            br (decide (y12 = (0 : Int))) (
             req (decide ((0 : Nat) + List.length y0 ≤ List.length y0)) (
             req (decide ((0 : Nat) + List.length y8 ≤ List.length y8)) (
             m26 (List.take (List.length y0) y0) y1 y2 y3 (List.take (List.length y8) y8) y9 y10 y11 (fun y13 => 
              br (y13) (K (decide (y3 = y11))) (K false))))) (K false))))))))))
def F9 : AM.Form := ⟨[.agg [.ro (.int .i32), .ro (.int .i32), .int .i64, .int .i64, .int .i64, .bool]], []⟩
noncomputable def mm9 (ds : List Dat) (K : AV → AH → Prop) : Prop := m9 ((dat ds 0).toList) ((dat ds 1).toList) ((dat ds 2).toInt) ((dat ds 3).toInt) ((dat ds 4).toInt) ((dat ds 5).toBool) (fun rb => K (.c (.bool rb)) ⟨[], []⟩)
theorem t9 (ds : List Dat) (K : AV → AH → Prop) : callA Tryd.prog tys GG11 1000 9 (F9.fr ds) (F9.hp ds) (fun v h' => endK Tryd.prog [] .keep (F9.hp ds) (F9.fr ds) v h' K) = mm9 ds K := by kernel_rfl
noncomputable def R9 : CallT := ruleF Tryd.prog [(.agg [(.ro (.int .i32)), (.ro (.int .i32)), .keep, .keep, .keep, .keep])] [] F9 mm9
theorem ok9 : CallOK Tryd.prog 9 R9 := ruleF_ok sGG11 t9
noncomputable def cs9 : List (FuncId × CallT) := (9, R9) :: cs11
theorem cs9_ok : CallsOK Tryd.prog cs9 := .cons ok9 cs11_ok
noncomputable def GG9 : Rules := mkG [37, 27] cs9 ls27_2
theorem sGG9 : Sound Tryd.prog tys GG9 := mk_sound mixed tysOK names (by kernel_rfl) cs9_ok ls27_2_ok
end Go.Proofs.YthegkipclogoeaaDoor

