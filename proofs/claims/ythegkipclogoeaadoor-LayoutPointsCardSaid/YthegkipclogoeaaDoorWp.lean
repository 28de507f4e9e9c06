/- LayoutPoints answers true for every input; conditions: the listed tables. -/
import Derived.Test.YthegkipclogoeaaDoorZa
import Derived.Test.YthegkipclogoeaaDoorAmFl
import Derived.Test.YthegkipclogoeaaDoorZq
import Derived.Test.YthegkipclogoeaaDoorCards
import Derived.Test.YthegkipclogoeaaDoorTie
import Derived.Test.YthegkipclogoeaaDoorTb
import Derived.Test.YthegkipclogoeaaDoorLw
import Derived.WalkKit
import Derived.ProofKit
import Derived.OpenShut
import Derived.Deep.DeepHandedRow
import Derived.Lib.LaidTab
set_option linter.unusedVariables false
set_option maxRecDepth 100000
namespace Go.Proofs.YthegkipclogoeaaDoor
open Go.AM Go.LTxt Go.LMem Go.RowKit
noncomputable def p6_r2 (c : C24) (E0 : C24 → Bool → Prop) : Prop :=
    m12 (C24.prompt c) (C24.line c) (C24.point c) (C24.rows c) (C24.cols c) (C24.across c) (fun y0 => 
     br (!decide (y0 = (0 : Int))) (E0 c true) (
      br (decide ((200 : Int) < (↑(List.length (C24.line c)) : Int))) (E0 c true) (
       m11 (fun y1 => E0 c !y1))))
def F6_r2 : AM.Form := ⟨mkF 65 [(1, .p 0 0)], [.cells 24 [.ro (.int .i32), .ro (.int .i32), .int .i64, .int .i64, .int .i64, .bool]]⟩
noncomputable def mm6_r2 (ds : List Dat) (Q : AExit → List AV → AH → Prop) : Prop := p6_r2 ⟨(dat ds 0).toList, (dat ds 1).toList, (dat ds 2).toInt, (dat ds 3).toInt, (dat ds 4).toInt, (dat ds 5).toBool⟩ (fun rc rb => Q .normal (mkAV 65 [(1, .p 0 0), (22, .c (.bool rb))]) ⟨[.cells 24 [.ro (.int .i32) rc.prompt, .ro (.int .i32) rc.line, .c (.int .i64 rc.point), .c (.int .i64 rc.rows), .c (.int .i64 rc.cols), .c (.bool rc.across)]], []⟩)
theorem t6_r2 (ds : List Dat) (Q : AExit → List AV → AH → Prop) : wpA Tryd.prog tys GG9 1000 6 (theReg Tryd.prog 6 2) (fun e f' h' => endF Tryd.prog ((fun _ => []) e) ((fun _ => ⟨[1, 22], []⟩) e) ((fun _ => []) e) (F6_r2.hp ds) f' h' fun f2 h2 => Q e f2 h2) (F6_r2.fr ds) (F6_r2.hp ds) = mm6_r2 ds Q := by kernel_rfl
noncomputable def R6_r2 : LoopT := headF Tryd.prog [] ⟨[1], []⟩ [] (locL F6_r2 mm6_r2)
theorem ok6_r2 : RegOK Tryd.prog (theReg Tryd.prog 6 2) R6_r2 := ruleP_ok sGG9 (by kernel_rfl) mm6_r2 t6_r2
noncomputable def rs6_r2 : List (FuncId × Nat × LoopT) := (6, 2, R6_r2) :: []
theorem rs6_r2_ok : RegsOK Tryd.prog rs6_r2 := .cons (by kernel_rfl) ok6_r2 .nil
noncomputable def GG6_r2 : Rules := mkG [37, 27] cs9 ls27_2 rs6_r2
theorem sGG6_r2 : Sound Tryd.prog tys GG6_r2 := mk_sound mixed tysOK names (by kernel_rfl) cs9_ok ls27_2_ok rs6_r2_ok
noncomputable def p6_r5 (c : C24) (c2 : C27) (E0 : C24 → C27 → Int → Int → Prop) : Prop :=
    req (inR IntKind.i64 ((↑(List.length (C24.line c)) : Int) + (1 : Int))) (E0 c c2 ((↑(List.length (C24.line c)) : Int) + (1 : Int)) (0 : Int))
def F6_r5 : AM.Form := ⟨mkF 65 [(1, .p 0 0), (3, .p 1 0)], [.cells 24 [.ro (.int .i32), .ro (.int .i32), .int .i64, .int .i64, .int .i64, .bool], .cells 27 [.int .i64, .int .i64]]⟩
noncomputable def mm6_r5 (ds : List Dat) (Q : AExit → List AV → AH → Prop) : Prop := p6_r5 ⟨(dat ds 0).toList, (dat ds 1).toList, (dat ds 2).toInt, (dat ds 3).toInt, (dat ds 4).toInt, (dat ds 5).toBool⟩ ⟨(dat ds 6).toInt, (dat ds 7).toInt⟩ (fun rc rc2 rn rn2 => Q .normal (mkAV 65 [(1, .p 0 0), (3, .p 1 0), (28, .c (.int .i64 rn)), (29, .c (.int .i64 rn2))]) ⟨[.cells 24 [.ro (.int .i32) rc.prompt, .ro (.int .i32) rc.line, .c (.int .i64 rc.point), .c (.int .i64 rc.rows), .c (.int .i64 rc.cols), .c (.bool rc.across)], .cells 27 [.c (.int .i64 rc2.row), .c (.int .i64 rc2.col)]], []⟩)
theorem t6_r5 (ds : List Dat) (Q : AExit → List AV → AH → Prop) : wpA Tryd.prog tys GG6_r2 1000 6 (theReg Tryd.prog 6 5) (fun e f' h' => endF Tryd.prog ((fun _ => []) e) ((fun _ => ⟨[1, 3, 28, 29], []⟩) e) ((fun _ => []) e) (F6_r5.hp ds) f' h' fun f2 h2 => Q e f2 h2) (F6_r5.fr ds) (F6_r5.hp ds) = mm6_r5 ds Q := by kernel_rfl
noncomputable def R6_r5 : LoopT := headF Tryd.prog [] ⟨[1, 3], []⟩ [] (locL F6_r5 mm6_r5)
theorem ok6_r5 : RegOK Tryd.prog (theReg Tryd.prog 6 5) R6_r5 := ruleP_ok sGG6_r2 (by kernel_rfl) mm6_r5 t6_r5
noncomputable def rs6_r5 : List (FuncId × Nat × LoopT) := (6, 5, R6_r5) :: rs6_r2
theorem rs6_r5_ok : RegsOK Tryd.prog rs6_r5 := .cons (by kernel_rfl) ok6_r5 rs6_r2_ok
noncomputable def GG6_r5 : Rules := mkG [37, 27] cs9 ls27_2 rs6_r5
theorem sGG6_r5 : Sound Tryd.prog tys GG6_r5 := mk_sound mixed tysOK names (by kernel_rfl) cs9_ok ls27_2_ok rs6_r5_ok
noncomputable def l6_6 : Nat → C24 → C27 → Int → Int → (C24 → C27 → Prop) → (C24 → C27 → Bool → Prop) → Prop
  | 0, _, _, _, _, _, _ => False
  | fu + 1, c, c2, n, n2, E0, R_ =>
    br (decide (n2 < n)) (
     m14 (C24.prompt c) (C24.line c) n2 (C24.rows c) (C24.cols c) (C24.across c) (fun y0 y1 y2 y3 => 
      br (!decide (y3 = (0 : Int))) (R_ { c with point := n2 } c2 false) (
       br (decide (y1 < C27.row c2)) (R_ { c with point := n2 } c2 false) (
        br (decide (y1 = C27.row c2)) (
         br (decide (y2 < C27.col c2)) (R_ { c with point := n2 } c2 false) (
          req (inR IntKind.i64 (n2 + (1 : Int))) (l6_6 fu { c with point := n2 } ({ row := y1, col := y2 } : C27) n (n2 + (1 : Int)) E0 R_))) (
         req (inR IntKind.i64 (n2 + (1 : Int))) (l6_6 fu { c with point := n2 } ({ row := y1, col := y2 } : C27) n (n2 + (1 : Int)) E0 R_)))))) (E0 c c2)
def F6_6 : AM.Form := ⟨mkF 65 [(1, .p 0 0), (3, .p 1 0), (28, .int .i64), (29, .int .i64)], [.cells 24 [.ro (.int .i32), .ro (.int .i32), .int .i64, .int .i64, .int .i64, .bool], .cells 27 [.int .i64, .int .i64]]⟩
noncomputable def mm6_6 (n : Nat) (ds : List Dat) (Q : AExit → List AV → AH → Prop) : Prop := l6_6 n ⟨(dat ds 2).toList, (dat ds 3).toList, (dat ds 4).toInt, (dat ds 5).toInt, (dat ds 6).toInt, (dat ds 7).toBool⟩ ⟨(dat ds 8).toInt, (dat ds 9).toInt⟩ ((dat ds 0).toInt) ((dat ds 1).toInt) (fun rc rc2 => Q (AExit.exit 0) (mkAV 65 [(1, .p 0 0), (3, .p 1 0)]) ⟨[.cells 24 [.ro (.int .i32) rc.prompt, .ro (.int .i32) rc.line, .c (.int .i64 rc.point), .c (.int .i64 rc.rows), .c (.int .i64 rc.cols), .c (.bool rc.across)], .cells 27 [.c (.int .i64 rc2.row), .c (.int .i64 rc2.col)]], []⟩) (fun rc rc2 rb => Q AExit.ret (mkAV 65 [(1, .p 0 0), (2, .c (.bool rb)), (3, .p 1 0)]) ⟨[.cells 24 [.ro (.int .i32) rc.prompt, .ro (.int .i32) rc.line, .c (.int .i64 rc.point), .c (.int .i64 rc.rows), .c (.int .i64 rc.cols), .c (.bool rc.across)], .cells 27 [.c (.int .i64 rc2.row), .c (.int .i64 rc2.col)]], []⟩)
theorem t6_6 (n : Nat) (ds : List Dat) (Q : AExit → List AV → AH → Prop) : wpA Tryd.prog tys GG6_r5 1000 6 (theLoop Tryd.prog 6 6) (fun e f' h' => endF Tryd.prog ((fun _ => []) e) ((fun e => match e with | .normal => ⟨[1, 3, 28, 29], []⟩ | .exit 0 => ⟨[1, 3], []⟩ | .ret => ⟨[1, 2, 3], []⟩ | _ => ⟨[], []⟩) e) ((fun e => match e with | .normal => [] | .exit 0 => [] | .ret => [] | _ => []) e) (F6_6.hp ds) f' h' fun f2 h2 => match e with
      | .normal => locL F6_6 (mm6_6 n) f2 h2 Q
      | e => Q e f2 h2) (F6_6.fr ds) (F6_6.hp ds) = mm6_6 (n + 1) ds Q := by kernel_rfl
noncomputable def R6_6 : LoopT := headF Tryd.prog [] ⟨[1, 3, 28, 29], []⟩ [] fun f h Q => ∃ n, locL F6_6 (mm6_6 n) f h Q
theorem ok6_6 : LoopOK Tryd.prog (theLoop Tryd.prog 6 6) R6_6 := ruleL_ok sGG6_r5 (by kernel_rfl) mm6_6 (fun _ _ => rfl) t6_6
noncomputable def ls6_6 : List (FuncId × Nat × LoopT) := (6, 6, R6_6) :: ls27_2
theorem ls6_6_ok : LoopsOK Tryd.prog ls6_6 := .cons (by kernel_rfl) ok6_6 ls27_2_ok
noncomputable def GG6_6 : Rules := mkG [37, 27] cs9 ls6_6 rs6_r5
theorem sGG6_6 : Sound Tryd.prog tys GG6_6 := mk_sound mixed tysOK names (by kernel_rfl) cs9_ok ls6_6_ok rs6_r5_ok
noncomputable def m6 (s : List Dat) (s2 : List Dat) (s3 : Int) (s4 : Int) (s5 : Int) (s6 : Bool) (K : Bool → Prop) : Prop :=
    p6_r2 { prompt := s, line := s2, point := (0 : Int), rows := s4, cols := s5, across := false } (fun y0 y1 => 
     br (y1) (
      m11 (fun y2 => K y2)) (
      p6_r5 { prompt := C24.prompt y0, line := C24.line y0, point := C24.point y0, rows := C24.rows y0, cols := C24.cols y0, across := C24.across y0 } { row := (-1 : Int), col := (0 : Int) } (fun y3 y4 y5 y6 => 
       (∃ y7, 
       l6_6 y7 { prompt := C24.prompt y3, line := C24.line y3, point := C24.point y3, rows := C24.rows y3, cols := C24.cols y3, across := C24.across y3 } { row := C27.row y4, col := C27.col y4 } y5 y6 (fun y8 y9 => K true) (fun y10 y11 y12 => K y12)))))
def F6 : AM.Form := ⟨[.agg [.ro (.int .i32), .ro (.int .i32), .int .i64, .int .i64, .int .i64, .bool]], []⟩
noncomputable def mm6 (ds : List Dat) (K : AV → AH → Prop) : Prop := m6 ((dat ds 0).toList) ((dat ds 1).toList) ((dat ds 2).toInt) ((dat ds 3).toInt) ((dat ds 4).toInt) ((dat ds 5).toBool) (fun rb => K (.c (.bool rb)) ⟨[], []⟩)
noncomputable def RV6_6_6 (Vl6_6 : Nat → C24 → C27 → Int → Int → (C24 → C27 → Prop) → (C24 → C27 → Bool → Prop) → Prop) : LoopT := headF Tryd.prog [] ⟨[1, 3, 28, 29], []⟩ [] fun f h Q => ∃ n, locL F6_6 (fun ds Q => Vl6_6 n ⟨(dat ds 2).toList, (dat ds 3).toList, (dat ds 4).toInt, (dat ds 5).toInt, (dat ds 6).toInt, (dat ds 7).toBool⟩ ⟨(dat ds 8).toInt, (dat ds 9).toInt⟩ ((dat ds 0).toInt) ((dat ds 1).toInt) (fun rc rc2 => Q (AExit.exit 0) (mkAV 65 [(1, .p 0 0), (3, .p 1 0)]) ⟨[.cells 24 [.ro (.int .i32) rc.prompt, .ro (.int .i32) rc.line, .c (.int .i64 rc.point), .c (.int .i64 rc.rows), .c (.int .i64 rc.cols), .c (.bool rc.across)], .cells 27 [.c (.int .i64 rc2.row), .c (.int .i64 rc2.col)]], []⟩) (fun rc rc2 rb => Q AExit.ret (mkAV 65 [(1, .p 0 0), (2, .c (.bool rb)), (3, .p 1 0)]) ⟨[.cells 24 [.ro (.int .i32) rc.prompt, .ro (.int .i32) rc.line, .c (.int .i64 rc.point), .c (.int .i64 rc.rows), .c (.int .i64 rc.cols), .c (.bool rc.across)], .cells 27 [.c (.int .i64 rc2.row), .c (.int .i64 rc2.col)]], []⟩)) f h Q
theorem okV6_6_6 : LoopOK Tryd.prog (theLoop Tryd.prog 6 6) (RV6_6_6 l6_6) := ok6_6
noncomputable def RV11_6 (Vm11 : (Bool → Prop) → Prop) : CallT := ruleF Tryd.prog [] [] F11 (fun ds K => Vm11  (fun rb => K (.c (.bool rb)) ⟨[], []⟩))
theorem okV11_6 : CallOK Tryd.prog 11 (RV11_6 m11) := ok11
noncomputable def RV6_r2_6 (Vp6_r2 : C24 → (C24 → Bool → Prop) → Prop) : LoopT := headF Tryd.prog [] ⟨[1], []⟩ [] (locL F6_r2 (fun ds Q => Vp6_r2 ⟨(dat ds 0).toList, (dat ds 1).toList, (dat ds 2).toInt, (dat ds 3).toInt, (dat ds 4).toInt, (dat ds 5).toBool⟩ (fun rc rb => Q .normal (mkAV 65 [(1, .p 0 0), (22, .c (.bool rb))]) ⟨[.cells 24 [.ro (.int .i32) rc.prompt, .ro (.int .i32) rc.line, .c (.int .i64 rc.point), .c (.int .i64 rc.rows), .c (.int .i64 rc.cols), .c (.bool rc.across)]], []⟩)))
theorem okV6_r2_6 : RegOK Tryd.prog (theReg Tryd.prog 6 2) (RV6_r2_6 p6_r2) := ok6_r2
noncomputable def RV6_r5_6 (Vp6_r5 : C24 → C27 → (C24 → C27 → Int → Int → Prop) → Prop) : LoopT := headF Tryd.prog [] ⟨[1, 3], []⟩ [] (locL F6_r5 (fun ds Q => Vp6_r5 ⟨(dat ds 0).toList, (dat ds 1).toList, (dat ds 2).toInt, (dat ds 3).toInt, (dat ds 4).toInt, (dat ds 5).toBool⟩ ⟨(dat ds 6).toInt, (dat ds 7).toInt⟩ (fun rc rc2 rn rn2 => Q .normal (mkAV 65 [(1, .p 0 0), (3, .p 1 0), (28, .c (.int .i64 rn)), (29, .c (.int .i64 rn2))]) ⟨[.cells 24 [.ro (.int .i32) rc.prompt, .ro (.int .i32) rc.line, .c (.int .i64 rc.point), .c (.int .i64 rc.rows), .c (.int .i64 rc.cols), .c (.bool rc.across)], .cells 27 [.c (.int .i64 rc2.row), .c (.int .i64 rc2.col)]], []⟩)))
theorem okV6_r5_6 : RegOK Tryd.prog (theReg Tryd.prog 6 5) (RV6_r5_6 p6_r5) := ok6_r5
noncomputable def GV6 (Vl6_6 : Nat → C24 → C27 → Int → Int → (C24 → C27 → Prop) → (C24 → C27 → Bool → Prop) → Prop) (Vm11 : (Bool → Prop) → Prop) (Vp6_r2 : C24 → (C24 → Bool → Prop) → Prop) (Vp6_r5 : C24 → C27 → (C24 → C27 → Int → Int → Prop) → Prop) : Rules := mkG [37, 27] ((11, RV11_6 Vm11) :: cs9) ((6, 6, RV6_6_6 Vl6_6) :: ls6_6) ((6, 2, RV6_r2_6 Vp6_r2) :: (6, 5, RV6_r5_6 Vp6_r5) :: rs6_r5)
noncomputable def mV6 (Vl6_6 : Nat → C24 → C27 → Int → Int → (C24 → C27 → Prop) → (C24 → C27 → Bool → Prop) → Prop) (Vm11 : (Bool → Prop) → Prop) (Vp6_r2 : C24 → (C24 → Bool → Prop) → Prop) (Vp6_r5 : C24 → C27 → (C24 → C27 → Int → Int → Prop) → Prop) (s : List Dat) (s2 : List Dat) (s3 : Int) (s4 : Int) (s5 : Int) (s6 : Bool) (K : Bool → Prop) : Prop :=
    Vp6_r2 { prompt := s, line := s2, point := (0 : Int), rows := s4, cols := s5, across := false } (fun y0 y1 => 
     br (y1) (
      Vm11 (fun y2 => K y2)) (
      Vp6_r5 { prompt := C24.prompt y0, line := C24.line y0, point := C24.point y0, rows := C24.rows y0, cols := C24.cols y0, across := C24.across y0 } { row := (-1 : Int), col := (0 : Int) } (fun y3 y4 y5 y6 => 
       (∃ y7, 
       Vl6_6 y7 { prompt := C24.prompt y3, line := C24.line y3, point := C24.point y3, rows := C24.rows y3, cols := C24.cols y3, across := C24.across y3 } { row := C27.row y4, col := C27.col y4 } y5 y6 (fun y8 y9 => K true) (fun y10 y11 y12 => K y12)))))
noncomputable def mmV6 (Vl6_6 : Nat → C24 → C27 → Int → Int → (C24 → C27 → Prop) → (C24 → C27 → Bool → Prop) → Prop) (Vm11 : (Bool → Prop) → Prop) (Vp6_r2 : C24 → (C24 → Bool → Prop) → Prop) (Vp6_r5 : C24 → C27 → (C24 → C27 → Int → Int → Prop) → Prop) (ds : List Dat) (K : AV → AH → Prop) : Prop := mV6 Vl6_6 Vm11 Vp6_r2 Vp6_r5 ((dat ds 0).toList) ((dat ds 1).toList) ((dat ds 2).toInt) ((dat ds 3).toInt) ((dat ds 4).toInt) ((dat ds 5).toBool) (fun rb => K (.c (.bool rb)) ⟨[], []⟩)
theorem tV6 (Vl6_6 : Nat → C24 → C27 → Int → Int → (C24 → C27 → Prop) → (C24 → C27 → Bool → Prop) → Prop) (Vm11 : (Bool → Prop) → Prop) (Vp6_r2 : C24 → (C24 → Bool → Prop) → Prop) (Vp6_r5 : C24 → C27 → (C24 → C27 → Int → Int → Prop) → Prop) (ds : List Dat) (K : AV → AH → Prop) : callA Tryd.prog tys (GV6 Vl6_6 Vm11 Vp6_r2 Vp6_r5) 1000 6 (F6.fr ds) (F6.hp ds) (fun v h' => endK Tryd.prog [] .keep (F6.hp ds) (F6.fr ds) v h' K) = mmV6 Vl6_6 Vm11 Vp6_r2 Vp6_r5 ds K := by kernel_rfl
noncomputable def GX6 : Rules := GV6 l6_6 m11 p6_r2 p6_r5
theorem sGX6 : Sound Tryd.prog tys GX6 := mk_sound mixed tysOK names (by kernel_rfl) (.cons okV11_6 (cs9_ok)) (.cons (by kernel_rfl) okV6_6_6 (ls6_6_ok)) (.cons (by kernel_rfl) okV6_r2_6 (.cons (by kernel_rfl) okV6_r5_6 (rs6_r5_ok)))
theorem eV6 : mmV6 l6_6 m11 p6_r2 p6_r5 = mm6 := by kernel_rfl
theorem t6 (ds : List Dat) (K : AV → AH → Prop) : callA Tryd.prog tys GX6 1000 6 (F6.fr ds) (F6.hp ds) (fun v h' => endK Tryd.prog [] .keep (F6.hp ds) (F6.fr ds) v h' K) = mm6 ds K := (tV6 l6_6 m11 p6_r2 p6_r5 ds K).trans (congrFun (congrFun eV6 ds) K)
noncomputable def R6 : CallT := ruleF Tryd.prog [(.agg [(.ro (.int .i32)), (.ro (.int .i32)), .keep, .keep, .keep, .keep])] [] F6 mm6
theorem ok6 : CallOK Tryd.prog 6 R6 := ruleF_ok sGX6 t6
noncomputable def cs6 : List (FuncId × CallT) := (6, R6) :: cs9
theorem cs6_ok : CallsOK Tryd.prog cs6 := .cons ok6 cs9_ok
noncomputable def GG6 : Rules := mkG [37, 27] cs6 ls6_6 rs6_r5
theorem sGG6 : Sound Tryd.prog tys GG6 := mk_sound mixed tysOK names (by kernel_rfl) cs6_ok ls6_6_ok rs6_r5_ok
end Go.Proofs.YthegkipclogoeaaDoor

set_option linter.unusedVariables false
set_option linter.unusedSimpArgs false
set_option maxRecDepth 100000
namespace Go.Proofs.YthegkipclogoeaaDoor
open Go.AM Go.LTxt Go.LMem Go.RowKit
/-! ### Places in their order -/
def leS (a b : C27) : Prop := a.row < b.row ∨ (a.row = b.row ∧ a.col ≤ b.col)
theorem leS.refl (a : C27) : leS a a := .inr ⟨rfl, Int.le_refl _⟩
theorem leS.trans {a b c : C27} (h : leS a b) (h2 : leS b c) : leS a c := by
  unfold leS at *
  omega
theorem raw_prep (cols w : Int) (s : List Dat × List Dat) : leS (spotOf s) (spotOf (prep cols w s)) := by
  have h1 : s.2.length ≤ (prep1 cols w s.2).length := by unfold prep1; split <;> simp
  unfold prep
  split
  · refine .inl ?_
    simp only [spotOf, List.length_append, List.length_singleton]
    omega
  · refine .inr ⟨rfl, ?_⟩
    show (s.2.length : Int) ≤ ((prep1 cols w s.2).length : Int)
    omega
theorem prep_lay (cols : Int) (s : List Dat × List Dat) (c : Dat) : leS (spotOf (prep cols (wd c) s)) (spotOf (layS cols s c)) := by
  refine .inr ⟨rfl, ?_⟩
  simp only [spotOf, layS, List.length_append, List.length_singleton]
  omega
/-- the place of a cell, by its number (of what is behind all: behind them) -/
def spotK (cols : Int) : List Dat × List Dat → List Dat → Nat → C27
  | s, [], _ => spotOf (prep cols 1 s)
  | s, c :: r, 0 => spotOf (prep cols (wd c) s)
  | s, c :: r, k + 1 => spotK cols (layS cols s c) r k
theorem spotK_ge (cols : Int) : ∀ (l : List Dat) (s : List Dat × List Dat) (k : Nat), leS (spotOf s) (spotK cols s l k)
  | [], s, k => by simp only [spotK]; exact raw_prep _ _ _
  | c :: r, s, 0 => by simp only [spotK]; exact raw_prep _ _ _
  | c :: r, s, k + 1 => by simp only [spotK]; exact ((raw_prep _ _ _).trans (prep_lay cols s c)).trans (spotK_ge cols r _ k)
theorem spotK_mono (cols : Int) : ∀ (l : List Dat) (s : List Dat × List Dat) (j k : Nat), j ≤ k → leS (spotK cols s l j) (spotK cols s l k)
  | [], s, j, k, h => by simp only [spotK]; exact .refl _
  | c :: r, s, 0, 0, h => .refl _
  | c :: r, s, 0, k + 1, h => by simp only [spotK]; exact (prep_lay cols s c).trans (spotK_ge cols r _ k)
  | c :: r, s, j + 1, 0, h => by omega
  | c :: r, s, j + 1, k + 1, h => by simp only [spotK]; exact spotK_mono cols r _ j k (by omega)
theorem cutF_past {cols cursor : Int} : ∀ (l : List Dat) (k : Nat) (s : List Dat × List Dat) (a : C27), cursor < (k : Int) → (cutF cols cursor k s a l).2 = a
  | [], _, _, _, _ => rfl
  | d :: l, k, s, a, h => by
    simp only [cutF]
    rw [cutF_past l (k + 1) _ _ (by omega), if_neg (by omega)]
theorem cutF_spot {cols : Int} : ∀ (l : List Dat) (k c : Nat) (s : List Dat × List Dat) (a : C27), c < l.length → (cutF cols ((k + c : Nat) : Int) k s a l).2 = spotK cols s l c
  | [], k, c, s, a, h => by simp at h
  | d :: l, k, 0, s, a, h => by
    simp only [cutF, spotK, Nat.add_zero]
    rw [cutF_past l (k + 1) _ _ (by omega), if_pos trivial]
  | d :: l, k, c + 1, s, a, h => by
    simp only [cutF, spotK]
    have := cutF_spot (cols := cols) l (k + 1) c (layS cols s d) (if (k : Int) = ((k + (c + 1) : Nat) : Int) then spotOf (prep cols (wd d) s) else a) (by simpa using h)
    rw [show k + 1 + c = k + (c + 1) by omega] at this
    exact this
theorem spotK_end (cols : Int) : ∀ (l : List Dat) (s : List Dat × List Dat), spotK cols s l l.length = spotOf (prep cols 1 (l.foldl (layS cols) s))
  | [], s => rfl
  | c :: r, s => by simp only [List.length_cons, spotK, List.foldl_cons]; exact spotK_end cols r _
theorem cut_spot {cols : Int} {l : List Dat} {c : Nat} (h : c ≤ l.length) : (cut l cols (c : Int)).2 = spotK cols ([], []) l c := by
  unfold cut cutEnd
  by_cases he : c = l.length
  · subst he
    rw [if_pos rfl, cutF_state, spotK_end]
  · rw [if_neg (by omega)]
    have := cutF_spot (cols := cols) l 0 c ([], []) ⟨0, 0⟩ (by omega)
    rw [Nat.zero_add] at this
    exact this
/-! ### The cursor's cell -/
theorem back_mono (all : List Dat) : ∀ (k j : Nat), j ≤ k → back all j ≤ back all k
  | 0, j, h => by have : j = 0 := by omega
                  subst this; exact Nat.le_refl _
  | k + 1, j, h => by
    by_cases he : j = k + 1
    · subst he; exact Nat.le_refl _
    · have h1 := back_mono all k j (by omega)
      simp only [back]
      split
      · exact h1
      · have := back_le all j; omega
theorem cells_take_mono (l : List Dat) {a b : Nat} (h : a ≤ b) : (cells (l.take a)).length ≤ (cells (l.take b)).length := by
  have e : l.take a ++ (l.take b).drop a = l.take b := by
    have := List.take_append_drop a (l.take b)
    rw [List.take_take, show min a b = a by omega] at this
    exact this
  have := cells_mono (l.take a) ((l.take b).drop a)
  rw [e] at this
  exact this
theorem curF_mono (all : List Dat) {j k : Nat} (h : j ≤ k) : curF all j ≤ curF all k := by
  unfold curF
  by_cases h1 : all.length ≤ j
  · rw [if_pos h1, if_pos (by omega)]
    exact Nat.le_refl _
  · rw [if_neg h1]
    by_cases h2 : all.length ≤ k
    · rw [if_pos h2]
      have := cells_mono (all.take (back all j)) (all.drop (back all j))
      rw [List.take_append_drop] at this
      exact this
    · rw [if_neg h2]
      exact cells_take_mono all (back_mono all k j h)
def atS (s s2 : List Dat) (cols : Int) (p : Nat) : C27 := ⟨(rowsF s s2 (p : Int) cols false).2.1, (rowsF s s2 (p : Int) cols false).2.2⟩
theorem atS_mono {s s2 : List Dat} {cols : Int} {j k : Nat} (h : j ≤ k) : leS (atS s s2 cols j) (atS s s2 cols k) := by
  have e : ∀ p : Nat, atS s s2 cols p = ⟨(spotK cols ([], []) (cells (allS s s2)) (curS s s2 (p : Int))).row + (outS s cols).length, (spotK cols ([], []) (cells (allS s s2)) (curS s s2 (p : Int))).col⟩ := fun p => by
    unfold atS rowsF
    rw [if_neg (by decide)]
    have hs := cut_spot (cols := cols) (l := cells (allS s s2)) (c := curS s s2 (p : Int)) (curF_le _ _)
    show C27.mk ((cut (cells (allS s s2)) cols (curS s s2 (p : Int) : Int)).2.row + (outS s cols).length) (cut (cells (allS s s2)) cols (curS s s2 (p : Int) : Int)).2.col = _
    rw [hs]
  rw [e, e]
  have hm := spotK_mono cols (cells (allS s s2)) ([], []) (curS s s2 (j : Int)) (curS s s2 (k : Int)) (curF_mono _ (by omega))
  unfold leS at hm ⊢
  simp only
  omega
theorem vl6 {c : C24} (hc : chk c.prompt c.line 0 c.rows c.cols = 0) (ha : c.across = false) {E0 : C24 → C27 → Prop} {R : C24 → C27 → Bool → Prop} (hE : ∀ p a, E0 { c with point := p } a) : ∀ (k i : Nat) (p : Int) (a : C27), i + k = c.line.length + 1 → leS a (atS c.prompt c.line c.cols i) → ∃ fu, l6_6 fu { c with point := p } a ((c.line.length : Int) + 1) (i : Int) E0 R
  | 0, i, p, a, hi, hl => by
    refine ⟨1, ?_⟩
    unfold l6_6
    exact brf (decide_eq_false (by omega)) (hE p a)
  | k + 1, i, p, a, hi, hl => by
    obtain ⟨⟨g1, g2, g3, g4⟩, g5, g6, g7, g8⟩ := chk_ok hc
    have hci : chk c.prompt c.line (i : Int) c.rows c.cols = 0 := by
      unfold chk
      rw [if_neg (by omega), if_neg (by omega), if_neg (by omega)]
    obtain ⟨fu, hfu⟩ := vl6 hc ha (R := R) hE k (i + 1) (i : Int) (atS c.prompt c.line c.cols i) (by omega) (atS_mono (by omega))
    refine ⟨fu + 1, ?_⟩
    unfold l6_6
    refine brt (decide_eq_true (by omega)) ?_
    show m14 c.prompt c.line (i : Int) c.rows c.cols c.across _
    rw [ha]
    refine v14 ?_
    rw [if_pos hci]
    have q : inR .i64 ((i : Int) + 1) = true := in64 (by omega) (by omega)
    have e : (i : Int) + 1 = ((i + 1 : Nat) : Int) := by omega
    have h1 : (atS c.prompt c.line c.cols i).row = (rowsF c.prompt c.line (i : Int) c.cols false).2.1 := rfl
    have h2 : (atS c.prompt c.line c.cols i).col = (rowsF c.prompt c.line (i : Int) c.cols false).2.2 := rfl
    unfold leS at hl
    refine brf (by rfl) (brf (decide_eq_false (by omega)) (br_mk (fun hr => ?_) (fun hr => ?_)))
    · have hr := of_decide_eq_true hr
      refine brf (decide_eq_false (by omega)) ?_
      show req (inR IntKind.i64 ((i : Int) + (1 : Int))) _
      rw [rq q, e]
      rw [ha] at hfu
      exact hfu
    · show req (inR IntKind.i64 ((i : Int) + (1 : Int))) _
      rw [rq q, e]
      rw [ha] at hfu
      exact hfu
theorem v6 {s s2 : List Dat} {s3 s4 s5 : Int} {s6 : Bool} {K : Bool → Prop} (h : K true) : m6 s s2 s3 s4 s5 s6 K := by
  unfold m6 p6_r2
  show m12 s s2 0 s4 s5 false _
  refine v12 ?_
  by_cases hc : chk s s2 0 s4 s5 = 0
  · refine brf (by rw [decide_eq_true hc]; rfl) (br_mk (fun _ => ?_) (fun hl => v11 ?_))
    · show br true (m11 (fun y2 => K y2)) _
      rw [br_t]
      exact v11 h
    have hl := of_decide_eq_false hl
    show br (!true) _ (p6_r5 _ _ _)
    rw [show (!true) = false from rfl, br_f]
    unfold p6_r5
    show req (inR IntKind.i64 ((s2.length : Int) + (1 : Int))) _
    have hl' : ¬ (200 : Int) < (s2.length : Int) := hl
    rw [rq (in64 (n := (s2.length : Int) + 1) (by omega) (by omega))]
    refine vl6 (c := ⟨s, s2, 0, s4, s5, false⟩) hc rfl (fun _ _ => h) (s2.length + 1) 0 0 ⟨-1, 0⟩ (by simp) (.inl ?_)
    have := rowsF_row (s := s) (s2 := s2) (s3 := ((0 : Nat) : Int)) (cols := s5) (across := false)
    show (-1 : Int) < (rowsF s s2 ((0 : Nat) : Int) s5 false).2.1
    omega
  · refine brt (by rw [decide_eq_false hc]; rfl) ?_
    show br true (m11 (fun y2 => K y2)) _
    rw [br_t]
    exact v11 h
end Go.Proofs.YthegkipclogoeaaDoor

set_option linter.unusedVariables false
set_option maxRecDepth 100000
namespace Go.Proofs.YthegkipclogoeaaDoor.layoutPoints
open Go.ChangeShapes Go.WideShapes Go.ChangeAt Go.RowKit Go.AM
theorem true6 {s s2 : List Dat} {s3 s4 s5 : Int} {s6 : Bool} : m6 s s2 s3 s4 s5 s6 tb := v6 trivial
theorem rule6 (s s2 : List Dat) (s3 s4 s5 : Int) (s6 : Bool) : R6 [.agg [.ro (.int .i32) s, .ro (.int .i32) s2, .c (.int .i64 s3), .c (.int .i64 s4), .c (.int .i64 s5), .c (.bool s6)]] h0 isTrue = m6 s s2 s3 s4 s5 s6 tb := by kernel_rfl
theorem own : ownKnob Tryd.prog.godebug = none := by kernel_rfl
theorem contract (H : Type) (enc : TypeId × Value → H) (W : World) (base : Nat) (args : Array Value) (ds gs : List (DataW H)) (before : List MemPlace)
    (hval : ∀ (j : Nat) t v, Tryd.f6.params[j]? = some t → args[j]? = some v → Value.okWide Tryd.prog W .any base t v)
    (hW : DataW.Whole enc Tryd.prog Tryd.f6.params.toList Rows.layoutPointsSpec.vars false W args.toList ds gs before) (hL : laidMetH Tryd.prog Rows.layoutPointsRow.laid W) :
    Calls Tryd.prog 6 args W fun e W' => ∃ v, e = .returned v ∧ Rows.layoutPointsSpec.post enc Tryd.prog Tryd.f6 false true false false W args v W' := by
  have one : ∃ d0, ds = [d0] := by
    obtain ⟨p, q, hA, hV, _⟩ := hW
    rw [Tryd.params6] at hA
    obtain ⟨v0, vs0, d0, ds0, p0, q0, hargs0, rfl, rfl, h0, r0⟩ := trodAll_cons hA
    obtain ⟨rfl, rfl, rfl⟩ := trodAll_nil r0
    exact ⟨d0, rfl⟩
  obtain ⟨d0, rfl⟩ := one
  have hgs : gs = [] := by
    obtain ⟨p, q, hA, hV, _⟩ := hW
    obtain ⟨rfl, _⟩ := trodVars_none hV
    rfl
  subst hgs
  refine law_contractR ok6 (tb := 4) (ss := [.pair (.slice (.int .i32)) (.pair (.slice (.int .i32)) (.pair (.int .i64) (.pair (.int .i64) (.pair (.int .i64) (.pair .bool .unit)))))]) (tabs_laid hL) hval hW rfl (by kernel_rfl) (by kernel_rfl) (fun hl => rfl) (by kernel_rfl) (by kernel_rfl) (by kernel_rfl) (fun hF => ?_)
  refine ⟨[.agg [.ro (.int .i32) (toDat (.pair (.slice (.int .i32)) (.pair (.slice (.int .i32)) (.pair (.int .i64) (.pair (.int .i64) (.pair (.int .i64) (.pair .bool .unit)))))) d0).fst.toList, .ro (.int .i32) (toDat (.pair (.slice (.int .i32)) (.pair (.slice (.int .i32)) (.pair (.int .i64) (.pair (.int .i64) (.pair (.int .i64) (.pair .bool .unit)))))) d0).snd.fst.toList, .c (.int .i64 (toDat (.pair (.slice (.int .i32)) (.pair (.slice (.int .i32)) (.pair (.int .i64) (.pair (.int .i64) (.pair (.int .i64) (.pair .bool .unit)))))) d0).snd.snd.fst.toInt), .c (.int .i64 (toDat (.pair (.slice (.int .i32)) (.pair (.slice (.int .i32)) (.pair (.int .i64) (.pair (.int .i64) (.pair (.int .i64) (.pair .bool .unit)))))) d0).snd.snd.snd.fst.toInt), .c (.int .i64 (toDat (.pair (.slice (.int .i32)) (.pair (.slice (.int .i32)) (.pair (.int .i64) (.pair (.int .i64) (.pair (.int .i64) (.pair .bool .unit)))))) d0).snd.snd.snd.snd.fst.toInt), .c (.bool (toDat (.pair (.slice (.int .i32)) (.pair (.slice (.int .i32)) (.pair (.int .i64) (.pair (.int .i64) (.pair (.int .i64) (.pair .bool .unit)))))) d0).snd.snd.snd.snd.snd.fst.toBool)]], by kernel_rfl, ?_⟩
  rw [rule6]
  have hf0 := hF (.pair (.slice (.int .i32)) (.pair (.slice (.int .i32)) (.pair (.int .i64) (.pair (.int .i64) (.pair (.int .i64) (.pair .bool .unit))))), d0) (by simp)
  generalize toDat (.pair (.slice (.int .i32)) (.pair (.slice (.int .i32)) (.pair (.int .i64) (.pair (.int .i64) (.pair (.int .i64) (.pair .bool .unit)))))) d0 = D at hf0 ⊢
  exact true6
theorem laid_met (os : Os) : laidMet Tryd.prog Rows.layoutPointsRow.laid (((laidWorld Rows.layoutPointsRow.laid os).forCall (fun _ _ => 0) ⟨#[], #[.agg #[.slice none 0 0, .slice none 0 0, .int .i64 0, .int .i64 0, .int .i64 0, .bool false]], []⟩)).memory :=
  laidMet_of_run' 8 (by kernel_rfl) (by kernel_rfl)
theorem reads (os : Os) {H : Type} (enc : TypeId × Value → H) : ∃ places, DataW.whole enc Tryd.prog ((laidWorld Rows.layoutPointsRow.laid os).forCall (fun _ _ => 0) ⟨#[], #[.agg #[.slice none 0 0, .slice none 0 0, .int .i64 0, .int .i64 0, .int .i64 0, .bool false]], []⟩).memory Tryd.f6.params.toList Rows.layoutPointsSpec.vars false #[.agg #[.slice none 0 0, .slice none 0 0, .int .i64 0, .int .i64 0, .int .i64 0, .bool false]].toList 8 = some ([.agg [.nil, .nil, .lit (.int .i64 0), .lit (.int .i64 0), .lit (.int .i64 0), .lit (.bool false)]], [], places) :=
  ⟨[], by kernel_rfl⟩
theorem lifted (os : Os) (started : os.Started) (H : Type) (enc : TypeId × Value → H) (F : Stop.Interp) :
    ReturnsInHanded {} Tryd.checked os 6 .any ((OpenSpec.ofChange Rows.layoutPointsSpec).preRow enc Tryd.prog Tryd.f6 Rows.layoutPointsRow.domain false Rows.layoutPointsRow.laid) (((OpenSpec.ofChange Rows.layoutPointsSpec).at F).post enc Tryd.prog Tryd.f6 false true false false) := by
  obtain ⟨places, hx⟩ := reads os enc
  refine returnsInHanded_of_row (C := Tryd.checked) (s := OpenSpec.ofChange Rows.layoutPointsSpec) own started (by kernel_rfl) Tryd.func6
    (witness_row_at (enc := enc) (C := Tryd.checked) false (laidWorld Rows.layoutPointsRow.laid os) #[.agg #[.slice none 0 0, .slice none 0 0, .int .i64 0, .int .i64 0, .int .i64 0, .bool false]] rfl (by kernel_rfl) (by kernel_rfl) (by kernel_rfl)
      (OpenSpec.preRow_of_cond 8 hx (by kernel_rfl) (fun k hk => by cases hk) (by kernel_rfl) (laid_met os))) ?_
  intro W base args ds gs before hval hW _ _ _ hL _ _
  exact contract H enc W base args ds gs before hval hW hL
theorem said : Rows.LayoutPointsSaid :=
  OpenClaim.holds_of_cond 6 Tryd.f6 rfl rfl rfl rfl rfl rfl rfl ⟨rfl, rfl, rfl, rfl, rfl⟩ rfl rfl rfl rfl rfl (by kernel_rfl) Tryd.func6 (by kernel_rfl)
    (of_decide_eq_true (by kernel_rfl)) (by unfold Func.isWrapper; first | (rw [if_pos (by decide +kernel)]; kernel_rfl) | (rw [if_neg (by decide +kernel)]; exact ⟨rfl, rfl⟩))
    (fun os started H enc _ F => by rw [OpenClaim.pre_eq_preRow]; exact lifted os started H enc F)
/-- No parameter wants a stand-in; the program's own looks are off. -/
theorem plain (f : FuncId) (fn : Func) (hf : Tryd.pinned.checked.prog.funcNamed "lanyard/lanyardlaw23.LayoutPoints" = some f) (hfn : Tryd.pinned.checked.prog.funcs[f]? = some fn) :
    false = Tryd.pinned.checked.prog.looks [] ∧ ∀ (j : Nat) t, fn.params[j]? = some t → Tryd.pinned.checked.prog.wantsStandIn t = false := by
  obtain rfl : f = 6 := Option.some.inj ((show Tryd.prog.funcNamed "lanyard/lanyardlaw23.LayoutPoints" = some 6 by kernel_rfl).symm.trans hf) |>.symm
  obtain rfl : fn = Tryd.f6 := (Option.some.inj (Tryd.func6.symm.trans hfn)).symm
  refine ⟨by kernel_rfl, fun j t ht => ?_⟩
  have h1 : (Tryd.f6.params.toList.all fun t => !Tryd.pinned.checked.prog.wantsStandIn t) = true := by kernel_rfl
  have h2 := List.all_eq_true.1 h1 t (Array.mem_toList_iff.2 (Array.mem_of_getElem? ht))
  simpa using h2
theorem card : Rows.LayoutPointsCardSaid :=
  Claim7.holds_tied_plain_at .later [] _ _ _ _ said (fun _ h => by cases h) (by kernel_rfl) (fun _ h => by cases h) layoutPoints_row_tie rfl ⟨rfl, rfl⟩ (by kernel_rfl) rfl plain (by kernel_rfl)
end Go.Proofs.YthegkipclogoeaaDoor.layoutPoints

