/- Layer 21, the pager: functions as definitions over their data. Printed by tools/dec.py. -/
import Derived.Test.YtbhehldefflhpaaDoorPh
set_option linter.unusedVariables false
set_option maxRecDepth 100000
namespace Go.Proofs.YtbhehldefflhpaaDoor
open Go.AM Go.LTxt Go.LMem Go.RowKit
noncomputable def p4_r6 (c : C70) (lines : List Dat) (rows : Int) (keys : List Dat) (E0 : C70 → C36 → Int → List Dat → Prop) : Prop := E0 c ({ lines := lines, at_ := (0 : Int), done := false } : C36) rows keys
def F4_r6 : AM.Form := ⟨mkF 60 [(0, .ro .str), (1, .int .i64), (2, .ro (.int .i32)), (7, .p 0 0)], [.cells 70 [.bool, .ro .str, .int .i64, .int .i64, .int .i64, .bool]]⟩
noncomputable def mm4_r6 (ds : List Dat) (Q : AExit → List AV → AH → Prop) : Prop := p4_r6 ⟨(dat ds 3).toBool, (dat ds 4).toList, (dat ds 5).toInt, (dat ds 6).toInt, (dat ds 7).toInt, (dat ds 8).toBool⟩ ((dat ds 0).toList) ((dat ds 1).toInt) ((dat ds 2).toList) (fun rc rc2 rn rxs => Q .normal (mkAV 60 [(1, .c (.int .i64 rn)), (2, .ro (.int .i32) rxs), (7, .p 0 0), (9, .p 1 0)]) ⟨[.cells 70 [.c (.bool rc.made), .ro .str rc.lines, .c (.int .i64 rc.rows), .c (.int .i64 rc.from_), .c (.int .i64 rc.to_), .c (.bool rc.done)], .cells 36 [.p 0 0, .ro .str rc2.lines, .c (.int .i64 rc2.at_), .c (.bool rc2.done)]], []⟩)
theorem t4_r6 (ds : List Dat) (Q : AExit → List AV → AH → Prop) : wpA Tryd.prog tys GG13 1000 4 (theReg Tryd.prog 4 6) (fun e f' h' => endF Tryd.prog ((fun _ => []) e) ((fun _ => ⟨[1, 2, 7, 9], []⟩) e) ((fun _ => []) e) (F4_r6.hp ds) f' h' fun f2 h2 => Q e f2 h2) (F4_r6.fr ds) (F4_r6.hp ds) = mm4_r6 ds Q := by kernel_rfl
noncomputable def R4_r6 : LoopT := headF Tryd.prog [(0, 1, .ro .str)] ⟨[0, 1, 2, 7], []⟩ [] (locL F4_r6 mm4_r6)
theorem ok4_r6 : RegOK Tryd.prog (theReg Tryd.prog 4 6) R4_r6 := ruleP_ok sGG13 (by kernel_rfl) mm4_r6 t4_r6
noncomputable def rs4_r6 : List (FuncId × Nat × LoopT) := (4, 6, R4_r6) :: rs13_r18
theorem rs4_r6_ok : RegsOK Tryd.prog rs4_r6 := .cons (by kernel_rfl) ok4_r6 rs13_r18_ok
noncomputable def GG4_r6 : Rules := mkG [] cs13 ls23_4 rs4_r6
theorem sGG4_r6 : Sound Tryd.prog tys GG4_r6 := mk_sound mixed tysOK names (by kernel_rfl) cs13_ok ls23_4_ok rs4_r6_ok
noncomputable def l4_10 : Nat → C36 → C70 → Int → List Dat → Int → Int → (C36 → C70 → Prop) → (C36 → C70 → Bool → Prop) → Prop
  | 0, _, _, _, _, _, _, _, _ => False
  | fu + 1, c, c2, rows, xs, n, n2, E0, R_ =>
    br (decide (n2 < n)) (
     req (decide ((0 : Int) ≤ n2) && decide (n2 < (↑(List.length xs) : Int))) (
     req (decide (Int.toNat n2 < List.length xs)) (
     m13 { lines := C36.lines c, at_ := C36.at_ c, done := C36.done c } { made := C70.made c2, lines := C70.lines c2, rows := C70.rows c2, from_ := C70.from_ c2, to_ := C70.to_ c2, done := C70.done c2 } (Dat.toInt (List.getD xs (Int.toNat n2) default)) rows (fun y0 y1 y2 => 
      br (!y2) (R_ y0 y1 false) (
       req (inR IntKind.i64 (n2 + (1 : Int))) (l4_10 fu y0 y1 rows xs n (n2 + (1 : Int)) E0 R_)))))) (E0 c c2)
def F4_10 : AM.Form := ⟨mkF 60 [(1, .int .i64), (9, .p 0 0), (48, .ro (.int .i32)), (49, .int .i64), (50, .int .i64)], [.cells 36 [.p 1 0, .ro .str, .int .i64, .bool], .cells 70 [.bool, .ro .str, .int .i64, .int .i64, .int .i64, .bool]]⟩
noncomputable def mm4_10 (n : Nat) (ds : List Dat) (Q : AExit → List AV → AH → Prop) : Prop := l4_10 n ⟨(dat ds 4).toList, (dat ds 5).toInt, (dat ds 6).toBool⟩ ⟨(dat ds 7).toBool, (dat ds 8).toList, (dat ds 9).toInt, (dat ds 10).toInt, (dat ds 11).toInt, (dat ds 12).toBool⟩ ((dat ds 0).toInt) ((dat ds 1).toList) ((dat ds 2).toInt) ((dat ds 3).toInt) (fun rc rc2 => Q (AExit.exit 0) (mkAV 60 [(9, .p 0 0)]) ⟨[.cells 36 [.p 1 0, .ro .str rc.lines, .c (.int .i64 rc.at_), .c (.bool rc.done)], .cells 70 [.c (.bool rc2.made), .ro .str rc2.lines, .c (.int .i64 rc2.rows), .c (.int .i64 rc2.from_), .c (.int .i64 rc2.to_), .c (.bool rc2.done)]], []⟩) (fun rc rc2 rb => Q AExit.ret (mkAV 60 [(6, .c (.bool rb)), (9, .p 0 0)]) ⟨[.cells 36 [.p 1 0, .ro .str rc.lines, .c (.int .i64 rc.at_), .c (.bool rc.done)], .cells 70 [.c (.bool rc2.made), .ro .str rc2.lines, .c (.int .i64 rc2.rows), .c (.int .i64 rc2.from_), .c (.int .i64 rc2.to_), .c (.bool rc2.done)]], []⟩)
theorem t4_10 (n : Nat) (ds : List Dat) (Q : AExit → List AV → AH → Prop) : wpA Tryd.prog tys GG4_r6 1000 4 (theLoop Tryd.prog 4 10) (fun e f' h' => endF Tryd.prog ((fun _ => []) e) ((fun e => match e with | .normal => ⟨[1, 9, 48, 49, 50], []⟩ | .exit 0 => ⟨[9], []⟩ | .ret => ⟨[6, 9], []⟩ | _ => ⟨[], []⟩) e) ((fun e => match e with | .normal => [] | .exit 0 => [] | .ret => [] | _ => []) e) (F4_10.hp ds) f' h' fun f2 h2 => match e with
      | .normal => locL F4_10 (mm4_10 n) f2 h2 Q
      | e => Q e f2 h2) (F4_10.fr ds) (F4_10.hp ds) = mm4_10 (n + 1) ds Q := by kernel_rfl
noncomputable def R4_10 : LoopT := headF Tryd.prog [] ⟨[1, 9, 48, 49, 50], []⟩ [] fun f h Q => ∃ n, locL F4_10 (mm4_10 n) f h Q
theorem ok4_10 : LoopOK Tryd.prog (theLoop Tryd.prog 4 10) R4_10 := ruleL_ok sGG4_r6 (by kernel_rfl) mm4_10 (fun _ _ => rfl) t4_10
noncomputable def ls4_10 : List (FuncId × Nat × LoopT) := (4, 10, R4_10) :: ls23_4
theorem ls4_10_ok : LoopsOK Tryd.prog ls4_10 := .cons (by kernel_rfl) ok4_10 ls23_4_ok
noncomputable def GG4_10 : Rules := mkG [] cs13 ls4_10 rs4_r6
theorem sGG4_10 : Sound Tryd.prog tys GG4_10 := mk_sound mixed tysOK names (by kernel_rfl) cs13_ok ls4_10_ok rs4_r6_ok
noncomputable def m4 (lines : List Dat) (rows : Int) (keys : List Dat) (K : Bool → Prop) : Prop :=
    m11 lines rows (fun y0 => 
     br (decide (rows < (2 : Int))) (
      m7 (fun y1 => 
       br (y1) (K (decide (y0 = (1 : Int)))) (K false))) (
      br (!decide (y0 = (0 : Int))) (K false) (K false))) (fun y2 y3 => 
     br (decide (rows < (2 : Int))) (
      m7 (fun y4 => 
       br (y4) (K false) (K false))) (
      br (!decide (y3 = (0 : Int))) (K false) (
       m7 (fun y5 => 
        br (!y5) (K false) (
         req (decide ((0 : Nat) + List.length (C70.lines y2) ≤ List.length (C70.lines y2))) (
         p4_r6 { made := C70.made y2, lines := List.take (List.length (C70.lines y2)) (C70.lines y2), rows := C70.rows y2, from_ := C70.from_ y2, to_ := C70.to_ y2, done := C70.done y2 } lines rows keys (fun y6 y7 y8 y9 => 
          req (inR IntKind.i64 (y8 - (1 : Int))) (
          m12 { lines := C36.lines y7, at_ := C36.at_ y7, done := C36.done y7 } { made := C70.made y6, lines := C70.lines y6, rows := C70.rows y6, from_ := C70.from_ y6, to_ := C70.to_ y6, done := C70.done y6 } (y8 - (1 : Int)) (fun y10 y11 y12 => 
           br (!y12) (K false) (
            (∃ y13, 
            l4_10 y13 { lines := C36.lines y10, at_ := C36.at_ y10, done := C36.done y10 } { made := C70.made y11, lines := C70.lines y11, rows := C70.rows y11, from_ := C70.from_ y11, to_ := C70.to_ y11, done := C70.done y11 } y8 y9 (↑(List.length y9) : Int) (0 : Int) (fun y14 y15 => K true) (fun y16 y17 y18 => K y18))))))))))))
def F4 : AM.Form := ⟨[.ro .str, .int .i64, .ro (.int .i32)], []⟩
noncomputable def mm4 (ds : List Dat) (K : AV → AH → Prop) : Prop := m4 ((dat ds 0).toList) ((dat ds 1).toInt) ((dat ds 2).toList) (fun rb => K (.c (.bool rb)) ⟨[], []⟩)
theorem t4 (ds : List Dat) (K : AV → AH → Prop) : callA Tryd.prog tys GG4_10 1000 4 (F4.fr ds) (F4.hp ds) (fun v h' => endK Tryd.prog [] .keep (F4.hp ds) (F4.fr ds) v h' K) = mm4 ds K := by kernel_rfl
noncomputable def R4 : CallT := ruleF Tryd.prog [(.ro .str), .keep, (.ro (.int .i32))] [] F4 mm4
theorem ok4 : CallOK Tryd.prog 4 R4 := ruleF_ok sGG4_10 t4
noncomputable def cs4 : List (FuncId × CallT) := (4, R4) :: cs13
theorem cs4_ok : CallsOK Tryd.prog cs4 := .cons ok4 cs13_ok
noncomputable def GG4 : Rules := mkG [] cs4 ls4_10 rs4_r6
theorem sGG4 : Sound Tryd.prog tys GG4 := mk_sound mixed tysOK names (by kernel_rfl) cs4_ok ls4_10_ok rs4_r6_ok
end Go.Proofs.YtbhehldefflhpaaDoor
