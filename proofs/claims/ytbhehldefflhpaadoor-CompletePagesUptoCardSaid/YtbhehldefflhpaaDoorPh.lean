/- Layer 21, the pager: functions as definitions over their data. Printed by tools/dec.py. -/
import Derived.Test.YtbhehldefflhpaaDoorPg
set_option linter.unusedVariables false
set_option maxRecDepth 100000
namespace Go.Proofs.YtbhehldefflhpaaDoor
open Go.AM Go.LTxt Go.LMem Go.RowKit
noncomputable def p13_r2 (c : C36) (c2 : C70) (r : Int) (E0 : C36 → C70 → Bool → Prop) : Prop :=
    m19 { made := C70.made c2, lines := C70.lines c2, rows := C70.rows c2, from_ := C70.from_ c2, to_ := C70.to_ c2, done := C70.done c2 } r (fun y0 y1 => 
     br (!y1) (
      br (C70.made y0) (E0 c y0 (C70.done y0)) (E0 c y0 false)) (E0 c y0 false))
def F13_r2 : AM.Form := ⟨mkF 92 [(0, .p 0 0), (1, .int .i32)], [.cells 36 [.p 1 0, .ro .str, .int .i64, .bool], .cells 70 [.bool, .ro .str, .int .i64, .int .i64, .int .i64, .bool]]⟩
noncomputable def mm13_r2 (ds : List Dat) (Q : AExit → List AV → AH → Prop) : Prop := p13_r2 ⟨(dat ds 1).toList, (dat ds 2).toInt, (dat ds 3).toBool⟩ ⟨(dat ds 4).toBool, (dat ds 5).toList, (dat ds 6).toInt, (dat ds 7).toInt, (dat ds 8).toInt, (dat ds 9).toBool⟩ ((dat ds 0).toInt) (fun rc rc2 rb => Q .normal (mkAV 92 [(0, .p 0 0), (6, .c (.bool rb))]) ⟨[.cells 36 [.p 1 0, .ro .str rc.lines, .c (.int .i64 rc.at_), .c (.bool rc.done)], .cells 70 [.c (.bool rc2.made), .ro .str rc2.lines, .c (.int .i64 rc2.rows), .c (.int .i64 rc2.from_), .c (.int .i64 rc2.to_), .c (.bool rc2.done)]], []⟩)
theorem t13_r2 (ds : List Dat) (Q : AExit → List AV → AH → Prop) : wpA Tryd.prog tys GG12 1000 13 (theReg Tryd.prog 13 2) (fun e f' h' => endF Tryd.prog ((fun _ => []) e) ((fun _ => ⟨[0, 6], []⟩) e) ((fun _ => []) e) (F13_r2.hp ds) f' h' fun f2 h2 => Q e f2 h2) (F13_r2.fr ds) (F13_r2.hp ds) = mm13_r2 ds Q := by kernel_rfl
noncomputable def R13_r2 : LoopT := headF Tryd.prog [] ⟨[0, 1], []⟩ [] (locL F13_r2 mm13_r2)
theorem ok13_r2 : RegOK Tryd.prog (theReg Tryd.prog 13 2) R13_r2 := ruleP_ok sGG12 (by kernel_rfl) mm13_r2 t13_r2
noncomputable def rs13_r2 : List (FuncId × Nat × LoopT) := (13, 2, R13_r2) :: rs12_r5
theorem rs13_r2_ok : RegsOK Tryd.prog rs13_r2 := .cons (by kernel_rfl) ok13_r2 rs12_r5_ok
noncomputable def GG13_r2 : Rules := mkG [] cs12 ls23_4 rs13_r2
theorem sGG13_r2 : Sound Tryd.prog tys GG13_r2 := mk_sound mixed tysOK names (by kernel_rfl) cs12_ok ls23_4_ok rs13_r2_ok
noncomputable def p13_r7 (c : C36) (c2 : C70) (r : Int) (rows : Int) (E0 : C36 → C70 → Bool → Prop) : Prop :=
    m19 { made := C70.made c2, lines := C70.lines c2, rows := C70.rows c2, from_ := C70.from_ c2, to_ := C70.to_ c2, done := C70.done c2 } r (fun y0 y1 => 
     br (y1) (
      req (inR IntKind.i64 (rows - (1 : Int))) (
      m12 { lines := C36.lines c, at_ := C36.at_ c, done := C36.done c } { made := C70.made y0, lines := C70.lines y0, rows := C70.rows y0, from_ := C70.from_ y0, to_ := C70.to_ y0, done := C70.done y0 } (rows - (1 : Int)) (fun y2 y3 y4 => E0 y2 y3 y4))) (E0 c y0 false))
def F13_r7 : AM.Form := ⟨mkF 92 [(0, .p 0 0), (1, .int .i32), (2, .int .i64)], [.cells 36 [.p 1 0, .ro .str, .int .i64, .bool], .cells 70 [.bool, .ro .str, .int .i64, .int .i64, .int .i64, .bool]]⟩
noncomputable def mm13_r7 (ds : List Dat) (Q : AExit → List AV → AH → Prop) : Prop := p13_r7 ⟨(dat ds 2).toList, (dat ds 3).toInt, (dat ds 4).toBool⟩ ⟨(dat ds 5).toBool, (dat ds 6).toList, (dat ds 7).toInt, (dat ds 8).toInt, (dat ds 9).toInt, (dat ds 10).toBool⟩ ((dat ds 0).toInt) ((dat ds 1).toInt) (fun rc rc2 rb => Q .normal (mkAV 92 [(0, .p 0 0), (6, .c (.bool rb))]) ⟨[.cells 36 [.p 1 0, .ro .str rc.lines, .c (.int .i64 rc.at_), .c (.bool rc.done)], .cells 70 [.c (.bool rc2.made), .ro .str rc2.lines, .c (.int .i64 rc2.rows), .c (.int .i64 rc2.from_), .c (.int .i64 rc2.to_), .c (.bool rc2.done)]], []⟩)
theorem t13_r7 (ds : List Dat) (Q : AExit → List AV → AH → Prop) : wpA Tryd.prog tys GG13_r2 1000 13 (theReg Tryd.prog 13 7) (fun e f' h' => endF Tryd.prog ((fun _ => []) e) ((fun _ => ⟨[0, 6], []⟩) e) ((fun _ => []) e) (F13_r7.hp ds) f' h' fun f2 h2 => Q e f2 h2) (F13_r7.fr ds) (F13_r7.hp ds) = mm13_r7 ds Q := by kernel_rfl
noncomputable def R13_r7 : LoopT := headF Tryd.prog [] ⟨[0, 1, 2], []⟩ [] (locL F13_r7 mm13_r7)
theorem ok13_r7 : RegOK Tryd.prog (theReg Tryd.prog 13 7) R13_r7 := ruleP_ok sGG13_r2 (by kernel_rfl) mm13_r7 t13_r7
noncomputable def rs13_r7 : List (FuncId × Nat × LoopT) := (13, 7, R13_r7) :: rs13_r2
theorem rs13_r7_ok : RegsOK Tryd.prog rs13_r7 := .cons (by kernel_rfl) ok13_r7 rs13_r2_ok
noncomputable def GG13_r7 : Rules := mkG [] cs12 ls23_4 rs13_r7
theorem sGG13_r7 : Sound Tryd.prog tys GG13_r7 := mk_sound mixed tysOK names (by kernel_rfl) cs12_ok ls23_4_ok rs13_r7_ok
noncomputable def p13_r10 (c : C36) (c2 : C70) (r : Int) (E0 : C36 → C70 → Bool → Prop) : Prop :=
    m19 { made := C70.made c2, lines := C70.lines c2, rows := C70.rows c2, from_ := C70.from_ c2, to_ := C70.to_ c2, done := C70.done c2 } r (fun y0 y1 => 
     br (y1) (
      m12 { lines := C36.lines c, at_ := C36.at_ c, done := C36.done c } { made := C70.made y0, lines := C70.lines y0, rows := C70.rows y0, from_ := C70.from_ y0, to_ := C70.to_ y0, done := C70.done y0 } (1 : Int) (fun y2 y3 y4 => E0 y2 y3 y4)) (E0 c y0 false))
def F13_r10 : AM.Form := ⟨mkF 92 [(0, .p 0 0), (1, .int .i32)], [.cells 36 [.p 1 0, .ro .str, .int .i64, .bool], .cells 70 [.bool, .ro .str, .int .i64, .int .i64, .int .i64, .bool]]⟩
noncomputable def mm13_r10 (ds : List Dat) (Q : AExit → List AV → AH → Prop) : Prop := p13_r10 ⟨(dat ds 1).toList, (dat ds 2).toInt, (dat ds 3).toBool⟩ ⟨(dat ds 4).toBool, (dat ds 5).toList, (dat ds 6).toInt, (dat ds 7).toInt, (dat ds 8).toInt, (dat ds 9).toBool⟩ ((dat ds 0).toInt) (fun rc rc2 rb => Q .normal (mkAV 92 [(0, .p 0 0), (6, .c (.bool rb))]) ⟨[.cells 36 [.p 1 0, .ro .str rc.lines, .c (.int .i64 rc.at_), .c (.bool rc.done)], .cells 70 [.c (.bool rc2.made), .ro .str rc2.lines, .c (.int .i64 rc2.rows), .c (.int .i64 rc2.from_), .c (.int .i64 rc2.to_), .c (.bool rc2.done)]], []⟩)
theorem t13_r10 (ds : List Dat) (Q : AExit → List AV → AH → Prop) : wpA Tryd.prog tys GG13_r7 1000 13 (theReg Tryd.prog 13 10) (fun e f' h' => endF Tryd.prog ((fun _ => []) e) ((fun _ => ⟨[0, 6], []⟩) e) ((fun _ => []) e) (F13_r10.hp ds) f' h' fun f2 h2 => Q e f2 h2) (F13_r10.fr ds) (F13_r10.hp ds) = mm13_r10 ds Q := by kernel_rfl
noncomputable def R13_r10 : LoopT := headF Tryd.prog [] ⟨[0, 1], []⟩ [] (locL F13_r10 mm13_r10)
theorem ok13_r10 : RegOK Tryd.prog (theReg Tryd.prog 13 10) R13_r10 := ruleP_ok sGG13_r7 (by kernel_rfl) mm13_r10 t13_r10
noncomputable def rs13_r10 : List (FuncId × Nat × LoopT) := (13, 10, R13_r10) :: rs13_r7
theorem rs13_r10_ok : RegsOK Tryd.prog rs13_r10 := .cons (by kernel_rfl) ok13_r10 rs13_r7_ok
noncomputable def GG13_r10 : Rules := mkG [] cs12 ls23_4 rs13_r10
theorem sGG13_r10 : Sound Tryd.prog tys GG13_r10 := mk_sound mixed tysOK names (by kernel_rfl) cs12_ok ls23_4_ok rs13_r10_ok
noncomputable def p13_r17 (c : C36) (c2 : C70) (r : Int) (E0 : C36 → C70 → Bool → Prop) : Prop :=
    m19 { made := C70.made c2, lines := C70.lines c2, rows := C70.rows c2, from_ := C70.from_ c2, to_ := C70.to_ c2, done := C70.done c2 } r (fun y0 y1 => 
     br (y1) (
      br (C70.made y0) (E0 c y0 (C70.done y0)) (E0 c y0 false)) (E0 c y0 false))
def F13_r17 : AM.Form := ⟨mkF 92 [(0, .p 0 0), (1, .int .i32)], [.cells 36 [.p 1 0, .ro .str, .int .i64, .bool], .cells 70 [.bool, .ro .str, .int .i64, .int .i64, .int .i64, .bool]]⟩
noncomputable def mm13_r17 (ds : List Dat) (Q : AExit → List AV → AH → Prop) : Prop := p13_r17 ⟨(dat ds 1).toList, (dat ds 2).toInt, (dat ds 3).toBool⟩ ⟨(dat ds 4).toBool, (dat ds 5).toList, (dat ds 6).toInt, (dat ds 7).toInt, (dat ds 8).toInt, (dat ds 9).toBool⟩ ((dat ds 0).toInt) (fun rc rc2 rb => Q .normal (mkAV 92 [(0, .p 0 0), (6, .c (.bool rb))]) ⟨[.cells 36 [.p 1 0, .ro .str rc.lines, .c (.int .i64 rc.at_), .c (.bool rc.done)], .cells 70 [.c (.bool rc2.made), .ro .str rc2.lines, .c (.int .i64 rc2.rows), .c (.int .i64 rc2.from_), .c (.int .i64 rc2.to_), .c (.bool rc2.done)]], []⟩)
theorem t13_r17 (ds : List Dat) (Q : AExit → List AV → AH → Prop) : wpA Tryd.prog tys GG13_r10 1000 13 (theReg Tryd.prog 13 17) (fun e f' h' => endF Tryd.prog ((fun _ => []) e) ((fun _ => ⟨[0, 6], []⟩) e) ((fun _ => []) e) (F13_r17.hp ds) f' h' fun f2 h2 => Q e f2 h2) (F13_r17.fr ds) (F13_r17.hp ds) = mm13_r17 ds Q := by kernel_rfl
noncomputable def R13_r17 : LoopT := headF Tryd.prog [] ⟨[0, 1], []⟩ [] (locL F13_r17 mm13_r17)
theorem ok13_r17 : RegOK Tryd.prog (theReg Tryd.prog 13 17) R13_r17 := ruleP_ok sGG13_r10 (by kernel_rfl) mm13_r17 t13_r17
noncomputable def rs13_r17 : List (FuncId × Nat × LoopT) := (13, 17, R13_r17) :: rs13_r10
theorem rs13_r17_ok : RegsOK Tryd.prog rs13_r17 := .cons (by kernel_rfl) ok13_r17 rs13_r10_ok
noncomputable def GG13_r17 : Rules := mkG [] cs12 ls23_4 rs13_r17
theorem sGG13_r17 : Sound Tryd.prog tys GG13_r17 := mk_sound mixed tysOK names (by kernel_rfl) cs12_ok ls23_4_ok rs13_r17_ok
noncomputable def p13_r18 (c : C36) (c2 : C70) (r : Int) (E0 : C36 → C70 → Bool → Prop) : Prop :=
    m19 { made := C70.made c2, lines := C70.lines c2, rows := C70.rows c2, from_ := C70.from_ c2, to_ := C70.to_ c2, done := C70.done c2 } r (fun y0 y1 => 
     br (!y1) (
      br (C70.made y0) (E0 c y0 (!C70.done y0)) (E0 c y0 true)) (E0 c y0 false))
def F13_r18 : AM.Form := ⟨mkF 92 [(0, .p 0 0), (1, .int .i32)], [.cells 36 [.p 1 0, .ro .str, .int .i64, .bool], .cells 70 [.bool, .ro .str, .int .i64, .int .i64, .int .i64, .bool]]⟩
noncomputable def mm13_r18 (ds : List Dat) (Q : AExit → List AV → AH → Prop) : Prop := p13_r18 ⟨(dat ds 1).toList, (dat ds 2).toInt, (dat ds 3).toBool⟩ ⟨(dat ds 4).toBool, (dat ds 5).toList, (dat ds 6).toInt, (dat ds 7).toInt, (dat ds 8).toInt, (dat ds 9).toBool⟩ ((dat ds 0).toInt) (fun rc rc2 rb => Q .normal (mkAV 92 [(0, .p 0 0), (6, .c (.bool rb))]) ⟨[.cells 36 [.p 1 0, .ro .str rc.lines, .c (.int .i64 rc.at_), .c (.bool rc.done)], .cells 70 [.c (.bool rc2.made), .ro .str rc2.lines, .c (.int .i64 rc2.rows), .c (.int .i64 rc2.from_), .c (.int .i64 rc2.to_), .c (.bool rc2.done)]], []⟩)
theorem t13_r18 (ds : List Dat) (Q : AExit → List AV → AH → Prop) : wpA Tryd.prog tys GG13_r17 1000 13 (theReg Tryd.prog 13 18) (fun e f' h' => endF Tryd.prog ((fun _ => []) e) ((fun _ => ⟨[0, 6], []⟩) e) ((fun _ => []) e) (F13_r18.hp ds) f' h' fun f2 h2 => Q e f2 h2) (F13_r18.fr ds) (F13_r18.hp ds) = mm13_r18 ds Q := by kernel_rfl
noncomputable def R13_r18 : LoopT := headF Tryd.prog [] ⟨[0, 1], []⟩ [] (locL F13_r18 mm13_r18)
theorem ok13_r18 : RegOK Tryd.prog (theReg Tryd.prog 13 18) R13_r18 := ruleP_ok sGG13_r17 (by kernel_rfl) mm13_r18 t13_r18
noncomputable def rs13_r18 : List (FuncId × Nat × LoopT) := (13, 18, R13_r18) :: rs13_r17
theorem rs13_r18_ok : RegsOK Tryd.prog rs13_r18 := .cons (by kernel_rfl) ok13_r18 rs13_r17_ok
noncomputable def GG13_r18 : Rules := mkG [] cs12 ls23_4 rs13_r18
theorem sGG13_r18 : Sound Tryd.prog tys GG13_r18 := mk_sound mixed tysOK names (by kernel_rfl) cs12_ok ls23_4_ok rs13_r18_ok
noncomputable def m13 (c : C36) (c2 : C70) (r : Int) (rows : Int) (K : C36 → C70 → Bool → Prop) : Prop :=
    br (C36.done c) (
     p13_r2 { lines := C36.lines c, at_ := C36.at_ c, done := C36.done c } { made := C70.made c2, lines := C70.lines c2, rows := C70.rows c2, from_ := C70.from_ c2, to_ := C70.to_ c2, done := C70.done c2 } r (fun y0 y1 y2 => K y0 y1 y2)) (
     br (decide (r = (32 : Int))) (
      br (decide (r = (32 : Int))) (
       p13_r7 { lines := C36.lines c, at_ := C36.at_ c, done := C36.done c } { made := C70.made c2, lines := C70.lines c2, rows := C70.rows c2, from_ := C70.from_ c2, to_ := C70.to_ c2, done := C70.done c2 } r rows (fun y3 y4 y5 => K y3 y4 y5)) (
       br (decide (r = (10 : Int))) (
        br (decide (r = (10 : Int))) (
         p13_r10 { lines := C36.lines c, at_ := C36.at_ c, done := C36.done c } { made := C70.made c2, lines := C70.lines c2, rows := C70.rows c2, from_ := C70.from_ c2, to_ := C70.to_ c2, done := C70.done c2 } r (fun y6 y7 y8 => K y6 y7 y8)) (
         br (decide (r = (113 : Int))) (
          br (decide (r = (113 : Int))) (
           p13_r17 { lines := C36.lines c, at_ := C36.at_ c, done := true } { made := C70.made c2, lines := C70.lines c2, rows := C70.rows c2, from_ := C70.from_ c2, to_ := C70.to_ c2, done := C70.done c2 } r (fun y9 y10 y11 => K y9 y10 y11)) (
           p13_r18 { lines := C36.lines c, at_ := C36.at_ c, done := C36.done c } { made := C70.made c2, lines := C70.lines c2, rows := C70.rows c2, from_ := C70.from_ c2, to_ := C70.to_ c2, done := C70.done c2 } r (fun y12 y13 y14 => K y12 y13 y14))) (
          br (decide (r = (110 : Int))) (
           br (decide (r = (110 : Int))) (
            p13_r17 { lines := C36.lines c, at_ := C36.at_ c, done := true } { made := C70.made c2, lines := C70.lines c2, rows := C70.rows c2, from_ := C70.from_ c2, to_ := C70.to_ c2, done := C70.done c2 } r (fun y15 y16 y17 => K y15 y16 y17)) (
            p13_r18 { lines := C36.lines c, at_ := C36.at_ c, done := C36.done c } { made := C70.made c2, lines := C70.lines c2, rows := C70.rows c2, from_ := C70.from_ c2, to_ := C70.to_ c2, done := C70.done c2 } r (fun y18 y19 y20 => K y18 y19 y20))) (
           br (decide (r = (81 : Int))) (
            br (decide (r = (81 : Int))) (
             p13_r17 { lines := C36.lines c, at_ := C36.at_ c, done := true } { made := C70.made c2, lines := C70.lines c2, rows := C70.rows c2, from_ := C70.from_ c2, to_ := C70.to_ c2, done := C70.done c2 } r (fun y21 y22 y23 => K y21 y22 y23)) (
             p13_r18 { lines := C36.lines c, at_ := C36.at_ c, done := C36.done c } { made := C70.made c2, lines := C70.lines c2, rows := C70.rows c2, from_ := C70.from_ c2, to_ := C70.to_ c2, done := C70.done c2 } r (fun y24 y25 y26 => K y24 y25 y26))) (
            br (decide (r = (78 : Int))) (
             br (decide (r = (78 : Int))) (
              p13_r17 { lines := C36.lines c, at_ := C36.at_ c, done := true } { made := C70.made c2, lines := C70.lines c2, rows := C70.rows c2, from_ := C70.from_ c2, to_ := C70.to_ c2, done := C70.done c2 } r (fun y27 y28 y29 => K y27 y28 y29)) (
              p13_r18 { lines := C36.lines c, at_ := C36.at_ c, done := C36.done c } { made := C70.made c2, lines := C70.lines c2, rows := C70.rows c2, from_ := C70.from_ c2, to_ := C70.to_ c2, done := C70.done c2 } r (fun y30 y31 y32 => K y30 y31 y32))) (
             br (decide (r = (127 : Int))) (
              p13_r17 { lines := C36.lines c, at_ := C36.at_ c, done := true } { made := C70.made c2, lines := C70.lines c2, rows := C70.rows c2, from_ := C70.from_ c2, to_ := C70.to_ c2, done := C70.done c2 } r (fun y33 y34 y35 => K y33 y34 y35)) (
              p13_r18 { lines := C36.lines c, at_ := C36.at_ c, done := C36.done c } { made := C70.made c2, lines := C70.lines c2, rows := C70.rows c2, from_ := C70.from_ c2, to_ := C70.to_ c2, done := C70.done c2 } r (fun y36 y37 y38 => K y36 y37 y38)))))))) (
        br (decide (r = (13 : Int))) (
         p13_r10 { lines := C36.lines c, at_ := C36.at_ c, done := C36.done c } { made := C70.made c2, lines := C70.lines c2, rows := C70.rows c2, from_ := C70.from_ c2, to_ := C70.to_ c2, done := C70.done c2 } r (fun y39 y40 y41 => K y39 y40 y41)) (
         br (decide (r = (113 : Int))) (
          br (decide (r = (113 : Int))) (
           p13_r17 { lines := C36.lines c, at_ := C36.at_ c, done := true } { made := C70.made c2, lines := C70.lines c2, rows := C70.rows c2, from_ := C70.from_ c2, to_ := C70.to_ c2, done := C70.done c2 } r (fun y42 y43 y44 => K y42 y43 y44)) (
           p13_r18 { lines := C36.lines c, at_ := C36.at_ c, done := C36.done c } { made := C70.made c2, lines := C70.lines c2, rows := C70.rows c2, from_ := C70.from_ c2, to_ := C70.to_ c2, done := C70.done c2 } r (fun y45 y46 y47 => K y45 y46 y47))) (
          br (decide (r = (110 : Int))) (
           br (decide (r = (110 : Int))) (
            p13_r17 { lines := C36.lines c, at_ := C36.at_ c, done := true } { made := C70.made c2, lines := C70.lines c2, rows := C70.rows c2, from_ := C70.from_ c2, to_ := C70.to_ c2, done := C70.done c2 } r (fun y48 y49 y50 => K y48 y49 y50)) (
            p13_r18 { lines := C36.lines c, at_ := C36.at_ c, done := C36.done c } { made := C70.made c2, lines := C70.lines c2, rows := C70.rows c2, from_ := C70.from_ c2, to_ := C70.to_ c2, done := C70.done c2 } r (fun y51 y52 y53 => K y51 y52 y53))) (
           br (decide (r = (81 : Int))) (
            br (decide (r = (81 : Int))) (
             p13_r17 { lines := C36.lines c, at_ := C36.at_ c, done := true } { made := C70.made c2, lines := C70.lines c2, rows := C70.rows c2, from_ := C70.from_ c2, to_ := C70.to_ c2, done := C70.done c2 } r (fun y54 y55 y56 => K y54 y55 y56)) (
             p13_r18 { lines := C36.lines c, at_ := C36.at_ c, done := C36.done c } { made := C70.made c2, lines := C70.lines c2, rows := C70.rows c2, from_ := C70.from_ c2, to_ := C70.to_ c2, done := C70.done c2 } r (fun y57 y58 y59 => K y57 y58 y59))) (
            br (decide (r = (78 : Int))) (
             br (decide (r = (78 : Int))) (
              p13_r17 { lines := C36.lines c, at_ := C36.at_ c, done := true } { made := C70.made c2, lines := C70.lines c2, rows := C70.rows c2, from_ := C70.from_ c2, to_ := C70.to_ c2, done := C70.done c2 } r (fun y60 y61 y62 => K y60 y61 y62)) (
              p13_r18 { lines := C36.lines c, at_ := C36.at_ c, done := C36.done c } { made := C70.made c2, lines := C70.lines c2, rows := C70.rows c2, from_ := C70.from_ c2, to_ := C70.to_ c2, done := C70.done c2 } r (fun y63 y64 y65 => K y63 y64 y65))) (
             br (decide (r = (127 : Int))) (
              p13_r17 { lines := C36.lines c, at_ := C36.at_ c, done := true } { made := C70.made c2, lines := C70.lines c2, rows := C70.rows c2, from_ := C70.from_ c2, to_ := C70.to_ c2, done := C70.done c2 } r (fun y66 y67 y68 => K y66 y67 y68)) (
              p13_r18 { lines := C36.lines c, at_ := C36.at_ c, done := C36.done c } { made := C70.made c2, lines := C70.lines c2, rows := C70.rows c2, from_ := C70.from_ c2, to_ := C70.to_ c2, done := C70.done c2 } r (fun y69 y70 y71 => K y69 y70 y71)))))))))) (
      br (decide (r = (121 : Int))) (
       br (decide (r = (121 : Int))) (
        p13_r7 { lines := C36.lines c, at_ := C36.at_ c, done := C36.done c } { made := C70.made c2, lines := C70.lines c2, rows := C70.rows c2, from_ := C70.from_ c2, to_ := C70.to_ c2, done := C70.done c2 } r rows (fun y72 y73 y74 => K y72 y73 y74)) (
        br (decide (r = (10 : Int))) (
         br (decide (r = (10 : Int))) (
          p13_r10 { lines := C36.lines c, at_ := C36.at_ c, done := C36.done c } { made := C70.made c2, lines := C70.lines c2, rows := C70.rows c2, from_ := C70.from_ c2, to_ := C70.to_ c2, done := C70.done c2 } r (fun y75 y76 y77 => K y75 y76 y77)) (
          br (decide (r = (113 : Int))) (
           br (decide (r = (113 : Int))) (
            p13_r17 { lines := C36.lines c, at_ := C36.at_ c, done := true } { made := C70.made c2, lines := C70.lines c2, rows := C70.rows c2, from_ := C70.from_ c2, to_ := C70.to_ c2, done := C70.done c2 } r (fun y78 y79 y80 => K y78 y79 y80)) (
            p13_r18 { lines := C36.lines c, at_ := C36.at_ c, done := C36.done c } { made := C70.made c2, lines := C70.lines c2, rows := C70.rows c2, from_ := C70.from_ c2, to_ := C70.to_ c2, done := C70.done c2 } r (fun y81 y82 y83 => K y81 y82 y83))) (
           br (decide (r = (110 : Int))) (
            br (decide (r = (110 : Int))) (
             p13_r17 { lines := C36.lines c, at_ := C36.at_ c, done := true } { made := C70.made c2, lines := C70.lines c2, rows := C70.rows c2, from_ := C70.from_ c2, to_ := C70.to_ c2, done := C70.done c2 } r (fun y84 y85 y86 => K y84 y85 y86)) (
             p13_r18 { lines := C36.lines c, at_ := C36.at_ c, done := C36.done c } { made := C70.made c2, lines := C70.lines c2, rows := C70.rows c2, from_ := C70.from_ c2, to_ := C70.to_ c2, done := C70.done c2 } r (fun y87 y88 y89 => K y87 y88 y89))) (
            br (decide (r = (81 : Int))) (
             br (decide (r = (81 : Int))) (
              p13_r17 { lines := C36.lines c, at_ := C36.at_ c, done := true } { made := C70.made c2, lines := C70.lines c2, rows := C70.rows c2, from_ := C70.from_ c2, to_ := C70.to_ c2, done := C70.done c2 } r (fun y90 y91 y92 => K y90 y91 y92)) (
              p13_r18 { lines := C36.lines c, at_ := C36.at_ c, done := C36.done c } { made := C70.made c2, lines := C70.lines c2, rows := C70.rows c2, from_ := C70.from_ c2, to_ := C70.to_ c2, done := C70.done c2 } r (fun y93 y94 y95 => K y93 y94 y95))) (
             br (decide (r = (78 : Int))) (
              br (decide (r = (78 : Int))) (
               p13_r17 { lines := C36.lines c, at_ := C36.at_ c, done := true } { made := C70.made c2, lines := C70.lines c2, rows := C70.rows c2, from_ := C70.from_ c2, to_ := C70.to_ c2, done := C70.done c2 } r (fun y96 y97 y98 => K y96 y97 y98)) (
               p13_r18 { lines := C36.lines c, at_ := C36.at_ c, done := C36.done c } { made := C70.made c2, lines := C70.lines c2, rows := C70.rows c2, from_ := C70.from_ c2, to_ := C70.to_ c2, done := C70.done c2 } r (fun y99 y100 y101 => K y99 y100 y101))) (
              br (decide (r = (127 : Int))) (
               p13_r17 { lines := C36.lines c, at_ := C36.at_ c, done := true } { made := C70.made c2, lines := C70.lines c2, rows := C70.rows c2, from_ := C70.from_ c2, to_ := C70.to_ c2, done := C70.done c2 } r (fun y102 y103 y104 => K y102 y103 y104)) (
               p13_r18 { lines := C36.lines c, at_ := C36.at_ c, done := C36.done c } { made := C70.made c2, lines := C70.lines c2, rows := C70.rows c2, from_ := C70.from_ c2, to_ := C70.to_ c2, done := C70.done c2 } r (fun y105 y106 y107 => K y105 y106 y107)))))))) (
         br (decide (r = (13 : Int))) (
          p13_r10 { lines := C36.lines c, at_ := C36.at_ c, done := C36.done c } { made := C70.made c2, lines := C70.lines c2, rows := C70.rows c2, from_ := C70.from_ c2, to_ := C70.to_ c2, done := C70.done c2 } r (fun y108 y109 y110 => K y108 y109 y110)) (
          br (decide (r = (113 : Int))) (
           br (decide (r = (113 : Int))) (
            p13_r17 { lines := C36.lines c, at_ := C36.at_ c, done := true } { made := C70.made c2, lines := C70.lines c2, rows := C70.rows c2, from_ := C70.from_ c2, to_ := C70.to_ c2, done := C70.done c2 } r (fun y111 y112 y113 => K y111 y112 y113)) (
            p13_r18 { lines := C36.lines c, at_ := C36.at_ c, done := C36.done c } { made := C70.made c2, lines := C70.lines c2, rows := C70.rows c2, from_ := C70.from_ c2, to_ := C70.to_ c2, done := C70.done c2 } r (fun y114 y115 y116 => K y114 y115 y116))) (
           br (decide (r = (110 : Int))) (
            br (decide (r = (110 : Int))) (
             p13_r17 { lines := C36.lines c, at_ := C36.at_ c, done := true } { made := C70.made c2, lines := C70.lines c2, rows := C70.rows c2, from_ := C70.from_ c2, to_ := C70.to_ c2, done := C70.done c2 } r (fun y117 y118 y119 => K y117 y118 y119)) (
             p13_r18 { lines := C36.lines c, at_ := C36.at_ c, done := C36.done c } { made := C70.made c2, lines := C70.lines c2, rows := C70.rows c2, from_ := C70.from_ c2, to_ := C70.to_ c2, done := C70.done c2 } r (fun y120 y121 y122 => K y120 y121 y122))) (
            br (decide (r = (81 : Int))) (
             br (decide (r = (81 : Int))) (
              p13_r17 { lines := C36.lines c, at_ := C36.at_ c, done := true } { made := C70.made c2, lines := C70.lines c2, rows := C70.rows c2, from_ := C70.from_ c2, to_ := C70.to_ c2, done := C70.done c2 } r (fun y123 y124 y125 => K y123 y124 y125)) (
              p13_r18 { lines := C36.lines c, at_ := C36.at_ c, done := C36.done c } { made := C70.made c2, lines := C70.lines c2, rows := C70.rows c2, from_ := C70.from_ c2, to_ := C70.to_ c2, done := C70.done c2 } r (fun y126 y127 y128 => K y126 y127 y128))) (
             br (decide (r = (78 : Int))) (
              br (decide (r = (78 : Int))) (
               p13_r17 { lines := C36.lines c, at_ := C36.at_ c, done := true } { made := C70.made c2, lines := C70.lines c2, rows := C70.rows c2, from_ := C70.from_ c2, to_ := C70.to_ c2, done := C70.done c2 } r (fun y129 y130 y131 => K y129 y130 y131)) (
               p13_r18 { lines := C36.lines c, at_ := C36.at_ c, done := C36.done c } { made := C70.made c2, lines := C70.lines c2, rows := C70.rows c2, from_ := C70.from_ c2, to_ := C70.to_ c2, done := C70.done c2 } r (fun y132 y133 y134 => K y132 y133 y134))) (
              br (decide (r = (127 : Int))) (
               p13_r17 { lines := C36.lines c, at_ := C36.at_ c, done := true } { made := C70.made c2, lines := C70.lines c2, rows := C70.rows c2, from_ := C70.from_ c2, to_ := C70.to_ c2, done := C70.done c2 } r (fun y135 y136 y137 => K y135 y136 y137)) (
               p13_r18 { lines := C36.lines c, at_ := C36.at_ c, done := C36.done c } { made := C70.made c2, lines := C70.lines c2, rows := C70.rows c2, from_ := C70.from_ c2, to_ := C70.to_ c2, done := C70.done c2 } r (fun y138 y139 y140 => K y138 y139 y140)))))))))) (
       br (decide (r = (89 : Int))) (
        p13_r7 { lines := C36.lines c, at_ := C36.at_ c, done := C36.done c } { made := C70.made c2, lines := C70.lines c2, rows := C70.rows c2, from_ := C70.from_ c2, to_ := C70.to_ c2, done := C70.done c2 } r rows (fun y141 y142 y143 => K y141 y142 y143)) (
        br (decide (r = (10 : Int))) (
         br (decide (r = (10 : Int))) (
          p13_r10 { lines := C36.lines c, at_ := C36.at_ c, done := C36.done c } { made := C70.made c2, lines := C70.lines c2, rows := C70.rows c2, from_ := C70.from_ c2, to_ := C70.to_ c2, done := C70.done c2 } r (fun y144 y145 y146 => K y144 y145 y146)) (
          br (decide (r = (113 : Int))) (
           br (decide (r = (113 : Int))) (
            p13_r17 { lines := C36.lines c, at_ := C36.at_ c, done := true } { made := C70.made c2, lines := C70.lines c2, rows := C70.rows c2, from_ := C70.from_ c2, to_ := C70.to_ c2, done := C70.done c2 } r (fun y147 y148 y149 => K y147 y148 y149)) (
            p13_r18 { lines := C36.lines c, at_ := C36.at_ c, done := C36.done c } { made := C70.made c2, lines := C70.lines c2, rows := C70.rows c2, from_ := C70.from_ c2, to_ := C70.to_ c2, done := C70.done c2 } r (fun y150 y151 y152 => K y150 y151 y152))) (
           br (decide (r = (110 : Int))) (
            br (decide (r = (110 : Int))) (
             p13_r17 { lines := C36.lines c, at_ := C36.at_ c, done := true } { made := C70.made c2, lines := C70.lines c2, rows := C70.rows c2, from_ := C70.from_ c2, to_ := C70.to_ c2, done := C70.done c2 } r (fun y153 y154 y155 => K y153 y154 y155)) (
             p13_r18 { lines := C36.lines c, at_ := C36.at_ c, done := C36.done c } { made := C70.made c2, lines := C70.lines c2, rows := C70.rows c2, from_ := C70.from_ c2, to_ := C70.to_ c2, done := C70.done c2 } r (fun y156 y157 y158 => K y156 y157 y158))) (
            br (decide (r = (81 : Int))) (
             br (decide (r = (81 : Int))) (
              p13_r17 { lines := C36.lines c, at_ := C36.at_ c, done := true } { made := C70.made c2, lines := C70.lines c2, rows := C70.rows c2, from_ := C70.from_ c2, to_ := C70.to_ c2, done := C70.done c2 } r (fun y159 y160 y161 => K y159 y160 y161)) (
              p13_r18 { lines := C36.lines c, at_ := C36.at_ c, done := C36.done c } { made := C70.made c2, lines := C70.lines c2, rows := C70.rows c2, from_ := C70.from_ c2, to_ := C70.to_ c2, done := C70.done c2 } r (fun y162 y163 y164 => K y162 y163 y164))) (
             br (decide (r = (78 : Int))) (
              br (decide (r = (78 : Int))) (
               p13_r17 { lines := C36.lines c, at_ := C36.at_ c, done := true } { made := C70.made c2, lines := C70.lines c2, rows := C70.rows c2, from_ := C70.from_ c2, to_ := C70.to_ c2, done := C70.done c2 } r (fun y165 y166 y167 => K y165 y166 y167)) (
               p13_r18 { lines := C36.lines c, at_ := C36.at_ c, done := C36.done c } { made := C70.made c2, lines := C70.lines c2, rows := C70.rows c2, from_ := C70.from_ c2, to_ := C70.to_ c2, done := C70.done c2 } r (fun y168 y169 y170 => K y168 y169 y170))) (
              br (decide (r = (127 : Int))) (
               p13_r17 { lines := C36.lines c, at_ := C36.at_ c, done := true } { made := C70.made c2, lines := C70.lines c2, rows := C70.rows c2, from_ := C70.from_ c2, to_ := C70.to_ c2, done := C70.done c2 } r (fun y171 y172 y173 => K y171 y172 y173)) (
               p13_r18 { lines := C36.lines c, at_ := C36.at_ c, done := C36.done c } { made := C70.made c2, lines := C70.lines c2, rows := C70.rows c2, from_ := C70.from_ c2, to_ := C70.to_ c2, done := C70.done c2 } r (fun y174 y175 y176 => K y174 y175 y176)))))))) (
         br (decide (r = (13 : Int))) (
          p13_r10 { lines := C36.lines c, at_ := C36.at_ c, done := C36.done c } { made := C70.made c2, lines := C70.lines c2, rows := C70.rows c2, from_ := C70.from_ c2, to_ := C70.to_ c2, done := C70.done c2 } r (fun y177 y178 y179 => K y177 y178 y179)) (
          br (decide (r = (113 : Int))) (
           br (decide (r = (113 : Int))) (
            p13_r17 { lines := C36.lines c, at_ := C36.at_ c, done := true } { made := C70.made c2, lines := C70.lines c2, rows := C70.rows c2, from_ := C70.from_ c2, to_ := C70.to_ c2, done := C70.done c2 } r (fun y180 y181 y182 => K y180 y181 y182)) (
            p13_r18 { lines := C36.lines c, at_ := C36.at_ c, done := C36.done c } { made := C70.made c2, lines := C70.lines c2, rows := C70.rows c2, from_ := C70.from_ c2, to_ := C70.to_ c2, done := C70.done c2 } r (fun y183 y184 y185 => K y183 y184 y185))) (
           br (decide (r = (110 : Int))) (
            br (decide (r = (110 : Int))) (
             p13_r17 { lines := C36.lines c, at_ := C36.at_ c, done := true } { made := C70.made c2, lines := C70.lines c2, rows := C70.rows c2, from_ := C70.from_ c2, to_ := C70.to_ c2, done := C70.done c2 } r (fun y186 y187 y188 => K y186 y187 y188)) (
             p13_r18 { lines := C36.lines c, at_ := C36.at_ c, done := C36.done c } { made := C70.made c2, lines := C70.lines c2, rows := C70.rows c2, from_ := C70.from_ c2, to_ := C70.to_ c2, done := C70.done c2 } r (fun y189 y190 y191 => K y189 y190 y191))) (
            br (decide (r = (81 : Int))) (
             br (decide (r = (81 : Int))) (
              p13_r17 { lines := C36.lines c, at_ := C36.at_ c, done := true } { made := C70.made c2, lines := C70.lines c2, rows := C70.rows c2, from_ := C70.from_ c2, to_ := C70.to_ c2, done := C70.done c2 } r (fun y192 y193 y194 => K y192 y193 y194)) (
              p13_r18 { lines := C36.lines c, at_ := C36.at_ c, done := C36.done c } { made := C70.made c2, lines := C70.lines c2, rows := C70.rows c2, from_ := C70.from_ c2, to_ := C70.to_ c2, done := C70.done c2 } r (fun y195 y196 y197 => K y195 y196 y197))) (
             br (decide (r = (78 : Int))) (
              br (decide (r = (78 : Int))) (
               p13_r17 { lines := C36.lines c, at_ := C36.at_ c, done := true } { made := C70.made c2, lines := C70.lines c2, rows := C70.rows c2, from_ := C70.from_ c2, to_ := C70.to_ c2, done := C70.done c2 } r (fun y198 y199 y200 => K y198 y199 y200)) (
               p13_r18 { lines := C36.lines c, at_ := C36.at_ c, done := C36.done c } { made := C70.made c2, lines := C70.lines c2, rows := C70.rows c2, from_ := C70.from_ c2, to_ := C70.to_ c2, done := C70.done c2 } r (fun y201 y202 y203 => K y201 y202 y203))) (
              br (decide (r = (127 : Int))) (
               p13_r17 { lines := C36.lines c, at_ := C36.at_ c, done := true } { made := C70.made c2, lines := C70.lines c2, rows := C70.rows c2, from_ := C70.from_ c2, to_ := C70.to_ c2, done := C70.done c2 } r (fun y204 y205 y206 => K y204 y205 y206)) (
               p13_r18 { lines := C36.lines c, at_ := C36.at_ c, done := C36.done c } { made := C70.made c2, lines := C70.lines c2, rows := C70.rows c2, from_ := C70.from_ c2, to_ := C70.to_ c2, done := C70.done c2 } r (fun y207 y208 y209 => K y207 y208 y209))))))))))))
def F13 : AM.Form := ⟨[.p 0 0, .int .i32, .int .i64], [.cells 36 [.p 1 0, .ro .str, .int .i64, .bool], .cells 70 [.bool, .ro .str, .int .i64, .int .i64, .int .i64, .bool]]⟩
noncomputable def mm13 (ds : List Dat) (K : AV → AH → Prop) : Prop := m13 ⟨(dat ds 2).toList, (dat ds 3).toInt, (dat ds 4).toBool⟩ ⟨(dat ds 5).toBool, (dat ds 6).toList, (dat ds 7).toInt, (dat ds 8).toInt, (dat ds 9).toInt, (dat ds 10).toBool⟩ ((dat ds 0).toInt) ((dat ds 1).toInt) (fun rc rc2 rb => K (.c (.bool rb)) ⟨[.cells 36 [.p 1 0, .ro .str rc.lines, .c (.int .i64 rc.at_), .c (.bool rc.done)], .cells 70 [.c (.bool rc2.made), .ro .str rc2.lines, .c (.int .i64 rc2.rows), .c (.int .i64 rc2.from_), .c (.int .i64 rc2.to_), .c (.bool rc2.done)]], []⟩)
theorem t13 (ds : List Dat) (K : AV → AH → Prop) : callA Tryd.prog tys GG13_r18 1000 13 (F13.fr ds) (F13.hp ds) (fun v h' => endK Tryd.prog [] .keep (F13.hp ds) (F13.fr ds) v h' K) = mm13 ds K := by kernel_rfl
noncomputable def R13 : CallT := ruleF Tryd.prog [.keep, .keep, .keep] [] F13 mm13
theorem ok13 : CallOK Tryd.prog 13 R13 := ruleF_ok sGG13_r18 t13
noncomputable def cs13 : List (FuncId × CallT) := (13, R13) :: cs12
theorem cs13_ok : CallsOK Tryd.prog cs13 := .cons ok13 cs12_ok
noncomputable def GG13 : Rules := mkG [] cs13 ls23_4 rs13_r18
theorem sGG13 : Sound Tryd.prog tys GG13 := mk_sound mixed tysOK names (by kernel_rfl) cs13_ok ls23_4_ok rs13_r18_ok
end Go.Proofs.YtbhehldefflhpaaDoor
