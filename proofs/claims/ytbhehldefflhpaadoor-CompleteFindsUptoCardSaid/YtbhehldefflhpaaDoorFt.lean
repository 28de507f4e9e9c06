/- Layer 21, Find: functions as definitions over their data. Printed by tools/dec.py. -/
import Derived.Test.YtbhehldefflhpaaDoorFr
set_option linter.unusedVariables false
set_option maxRecDepth 100000
namespace Go.Proofs.YtbhehldefflhpaaDoor
open Go.AM Go.LTxt Go.LMem Go.RowKit
noncomputable def p10_r8 (c : C26) (line : List Dat) (point : Int) (quote : Int) (from' : Int) (i : Int) (r : Int) (E0 : C26 → List Dat → Int → Int → Int → Int → Int → Bool → Prop) : Prop :=
    br (decide (r = (92 : Int))) (E0 c line point quote from' i r (!decide (quote = (39 : Int)))) (E0 c line point quote from' i r false)
def F10_r8 : AM.Form := ⟨mkF 135 [(0, .ro (.int .i32)), (1, .int .i64), (4, .p 0 0), (5, .int .i32), (6, .int .i64), (7, .int .i64), (8, .int .i32)], [.cells 26 [.int .i64, .int .i32, .sl 1], .seq 21 (.int .i32)]⟩
noncomputable def mm10_r8 (ds : List Dat) (Q : AExit → List AV → AH → Prop) : Prop := p10_r8 ⟨(dat ds 6).toInt, (dat ds 7).toInt, (dat ds 8).toList⟩ ((dat ds 0).toList) ((dat ds 1).toInt) ((dat ds 2).toInt) ((dat ds 3).toInt) ((dat ds 4).toInt) ((dat ds 5).toInt) (fun rc rxs rn rn2 rn3 rn4 rn5 rb => Q .normal (mkAV 135 [(0, .ro (.int .i32) rxs), (1, .c (.int .i64 rn)), (4, .p 0 0), (5, .c (.int .i32 rn2)), (6, .c (.int .i64 rn3)), (7, .c (.int .i64 rn4)), (8, .c (.int .i32 rn5)), (26, .c (.bool rb))]) ⟨[.cells 26 [.c (.int .i64 rc.from_), .c (.int .i32 rc.quote), .sl 1 0 rc.text.length], .seq 21 (.int .i32) rc.text], []⟩)
theorem t10_r8 (ds : List Dat) (Q : AExit → List AV → AH → Prop) : wpA Tryd.prog tys GG33 1000 10 (theReg Tryd.prog 10 8) (fun e f' h' => endF Tryd.prog ((fun _ => []) e) ((fun _ => ⟨[0, 1, 4, 5, 6, 7, 8, 26], []⟩) e) ((fun _ => []) e) (F10_r8.hp ds) f' h' fun f2 h2 => Q e f2 h2) (F10_r8.fr ds) (F10_r8.hp ds) = mm10_r8 ds Q := by kernel_rfl
noncomputable def R10_r8 : LoopT := headF Tryd.prog [] ⟨[0, 1, 4, 5, 6, 7, 8], []⟩ [] (locL F10_r8 mm10_r8)
theorem ok10_r8 : RegOK Tryd.prog (theReg Tryd.prog 10 8) R10_r8 := ruleP_ok sGG33 (by kernel_rfl) mm10_r8 t10_r8
noncomputable def rs10_r8 : List (FuncId × Nat × LoopT) := (10, 8, R10_r8) :: []
theorem rs10_r8_ok : RegsOK Tryd.prog rs10_r8 := .cons (by kernel_rfl) ok10_r8 .nil
noncomputable def GG10_r8 : Rules := mkG [] cs33 ls33_4 rs10_r8
theorem sGG10_r8 : Sound Tryd.prog tys GG10_r8 := mk_sound mixed tysOK names (by kernel_rfl) cs33_ok ls33_4_ok rs10_r8_ok
noncomputable def p10_r10 (c : C26) (line : List Dat) (point : Int) (quote : Int) (from' : Int) (i : Int) (r : Int) (E0 : C26 → List Dat → Int → Int → Int → Int → Int → Bool → Prop) : Prop :=
    br (!decide (quote = (0 : Int))) (E0 c line point quote from' i r (decide (r = quote))) (E0 c line point quote from' i r false)
def F10_r10 : AM.Form := ⟨mkF 135 [(0, .ro (.int .i32)), (1, .int .i64), (4, .p 0 0), (5, .int .i32), (6, .int .i64), (7, .int .i64), (8, .int .i32)], [.cells 26 [.int .i64, .int .i32, .sl 1], .seq 21 (.int .i32)]⟩
noncomputable def mm10_r10 (ds : List Dat) (Q : AExit → List AV → AH → Prop) : Prop := p10_r10 ⟨(dat ds 6).toInt, (dat ds 7).toInt, (dat ds 8).toList⟩ ((dat ds 0).toList) ((dat ds 1).toInt) ((dat ds 2).toInt) ((dat ds 3).toInt) ((dat ds 4).toInt) ((dat ds 5).toInt) (fun rc rxs rn rn2 rn3 rn4 rn5 rb => Q .normal (mkAV 135 [(0, .ro (.int .i32) rxs), (1, .c (.int .i64 rn)), (4, .p 0 0), (5, .c (.int .i32 rn2)), (6, .c (.int .i64 rn3)), (7, .c (.int .i64 rn4)), (8, .c (.int .i32 rn5)), (35, .c (.bool rb))]) ⟨[.cells 26 [.c (.int .i64 rc.from_), .c (.int .i32 rc.quote), .sl 1 0 rc.text.length], .seq 21 (.int .i32) rc.text], []⟩)
theorem t10_r10 (ds : List Dat) (Q : AExit → List AV → AH → Prop) : wpA Tryd.prog tys GG10_r8 1000 10 (theReg Tryd.prog 10 10) (fun e f' h' => endF Tryd.prog ((fun _ => []) e) ((fun _ => ⟨[0, 1, 4, 5, 6, 7, 8, 35], []⟩) e) ((fun _ => []) e) (F10_r10.hp ds) f' h' fun f2 h2 => Q e f2 h2) (F10_r10.fr ds) (F10_r10.hp ds) = mm10_r10 ds Q := by kernel_rfl
noncomputable def R10_r10 : LoopT := headF Tryd.prog [] ⟨[0, 1, 4, 5, 6, 7, 8], []⟩ [] (locL F10_r10 mm10_r10)
theorem ok10_r10 : RegOK Tryd.prog (theReg Tryd.prog 10 10) R10_r10 := ruleP_ok sGG10_r8 (by kernel_rfl) mm10_r10 t10_r10
noncomputable def rs10_r10 : List (FuncId × Nat × LoopT) := (10, 10, R10_r10) :: rs10_r8
theorem rs10_r10_ok : RegsOK Tryd.prog rs10_r10 := .cons (by kernel_rfl) ok10_r10 rs10_r8_ok
noncomputable def GG10_r10 : Rules := mkG [] cs33 ls33_4 rs10_r10
theorem sGG10_r10 : Sound Tryd.prog tys GG10_r10 := mk_sound mixed tysOK names (by kernel_rfl) cs33_ok ls33_4_ok rs10_r10_ok
noncomputable def p10_r12 (c : C26) (line : List Dat) (point : Int) (quote : Int) (from' : Int) (i : Int) (r : Int) (E0 : C26 → List Dat → Int → Int → Int → Int → Int → Bool → Prop) : Prop :=
    br (decide (quote = (0 : Int))) (
     br (decide (r = (39 : Int))) (E0 c line point quote from' i r true) (E0 c line point quote from' i r (decide (r = (34 : Int))))) (E0 c line point quote from' i r false)
def F10_r12 : AM.Form := ⟨mkF 135 [(0, .ro (.int .i32)), (1, .int .i64), (4, .p 0 0), (5, .int .i32), (6, .int .i64), (7, .int .i64), (8, .int .i32)], [.cells 26 [.int .i64, .int .i32, .sl 1], .seq 21 (.int .i32)]⟩
noncomputable def mm10_r12 (ds : List Dat) (Q : AExit → List AV → AH → Prop) : Prop := p10_r12 ⟨(dat ds 6).toInt, (dat ds 7).toInt, (dat ds 8).toList⟩ ((dat ds 0).toList) ((dat ds 1).toInt) ((dat ds 2).toInt) ((dat ds 3).toInt) ((dat ds 4).toInt) ((dat ds 5).toInt) (fun rc rxs rn rn2 rn3 rn4 rn5 rb => Q .normal (mkAV 135 [(0, .ro (.int .i32) rxs), (1, .c (.int .i64 rn)), (4, .p 0 0), (5, .c (.int .i32 rn2)), (6, .c (.int .i64 rn3)), (7, .c (.int .i64 rn4)), (8, .c (.int .i32 rn5)), (43, .c (.bool rb))]) ⟨[.cells 26 [.c (.int .i64 rc.from_), .c (.int .i32 rc.quote), .sl 1 0 rc.text.length], .seq 21 (.int .i32) rc.text], []⟩)
theorem t10_r12 (ds : List Dat) (Q : AExit → List AV → AH → Prop) : wpA Tryd.prog tys GG10_r10 1000 10 (theReg Tryd.prog 10 12) (fun e f' h' => endF Tryd.prog ((fun _ => []) e) ((fun _ => ⟨[0, 1, 4, 5, 6, 7, 8, 43], []⟩) e) ((fun _ => []) e) (F10_r12.hp ds) f' h' fun f2 h2 => Q e f2 h2) (F10_r12.fr ds) (F10_r12.hp ds) = mm10_r12 ds Q := by kernel_rfl
noncomputable def R10_r12 : LoopT := headF Tryd.prog [] ⟨[0, 1, 4, 5, 6, 7, 8], []⟩ [] (locL F10_r12 mm10_r12)
theorem ok10_r12 : RegOK Tryd.prog (theReg Tryd.prog 10 12) R10_r12 := ruleP_ok sGG10_r10 (by kernel_rfl) mm10_r12 t10_r12
noncomputable def rs10_r12 : List (FuncId × Nat × LoopT) := (10, 12, R10_r12) :: rs10_r10
theorem rs10_r12_ok : RegsOK Tryd.prog rs10_r12 := .cons (by kernel_rfl) ok10_r12 rs10_r10_ok
noncomputable def GG10_r12 : Rules := mkG [] cs33 ls33_4 rs10_r12
theorem sGG10_r12 : Sound Tryd.prog tys GG10_r12 := mk_sound mixed tysOK names (by kernel_rfl) cs33_ok ls33_4_ok rs10_r12_ok
noncomputable def p10_r14 (c : C26) (line : List Dat) (point : Int) (quote : Int) (from' : Int) (i : Int) (r : Int) (E0 : C26 → List Dat → Int → Int → Int → Int → Bool → Prop) : Prop :=
    br (decide (quote = (0 : Int))) (
     br (decide (r = (32 : Int))) (E0 c line point quote from' i true) (
      br (decide (r = (9 : Int))) (E0 c line point quote from' i true) (
       br (decide (r = (10 : Int))) (E0 c line point quote from' i true) (
        m32 r { data := #[(62 : UInt8), (60 : UInt8), (61 : UInt8), (59 : UInt8), (124 : UInt8), (38 : UInt8), (123 : UInt8), (40 : UInt8), (64 : UInt8), (36 : UInt8), (96 : UInt8)] } (fun y0 => E0 c line point quote from' i y0))))) (E0 c line point quote from' i false)
def F10_r14 : AM.Form := ⟨mkF 135 [(0, .ro (.int .i32)), (1, .int .i64), (4, .p 0 0), (5, .int .i32), (6, .int .i64), (7, .int .i64), (8, .int .i32)], [.cells 26 [.int .i64, .int .i32, .sl 1], .seq 21 (.int .i32)]⟩
noncomputable def mm10_r14 (ds : List Dat) (Q : AExit → List AV → AH → Prop) : Prop := p10_r14 ⟨(dat ds 6).toInt, (dat ds 7).toInt, (dat ds 8).toList⟩ ((dat ds 0).toList) ((dat ds 1).toInt) ((dat ds 2).toInt) ((dat ds 3).toInt) ((dat ds 4).toInt) ((dat ds 5).toInt) (fun rc rxs rn rn2 rn3 rn4 rb => Q .normal (mkAV 135 [(0, .ro (.int .i32) rxs), (1, .c (.int .i64 rn)), (4, .p 0 0), (5, .c (.int .i32 rn2)), (6, .c (.int .i64 rn3)), (7, .c (.int .i64 rn4)), (57, .c (.bool rb))]) ⟨[.cells 26 [.c (.int .i64 rc.from_), .c (.int .i32 rc.quote), .sl 1 0 rc.text.length], .seq 21 (.int .i32) rc.text], []⟩)
theorem t10_r14 (ds : List Dat) (Q : AExit → List AV → AH → Prop) : wpA Tryd.prog tys GG10_r12 1000 10 (theReg Tryd.prog 10 14) (fun e f' h' => endF Tryd.prog ((fun _ => []) e) ((fun _ => ⟨[0, 1, 4, 5, 6, 7, 57], []⟩) e) ((fun _ => []) e) (F10_r14.hp ds) f' h' fun f2 h2 => Q e f2 h2) (F10_r14.fr ds) (F10_r14.hp ds) = mm10_r14 ds Q := by kernel_rfl
noncomputable def R10_r14 : LoopT := headF Tryd.prog [] ⟨[0, 1, 4, 5, 6, 7, 8], []⟩ [] (locL F10_r14 mm10_r14)
theorem ok10_r14 : RegOK Tryd.prog (theReg Tryd.prog 10 14) R10_r14 := ruleP_ok sGG10_r12 (by kernel_rfl) mm10_r14 t10_r14
noncomputable def rs10_r14 : List (FuncId × Nat × LoopT) := (10, 14, R10_r14) :: rs10_r12
theorem rs10_r14_ok : RegsOK Tryd.prog rs10_r14 := .cons (by kernel_rfl) ok10_r14 rs10_r12_ok
noncomputable def GG10_r14 : Rules := mkG [] cs33 ls33_4 rs10_r14
theorem sGG10_r14 : Sound Tryd.prog tys GG10_r14 := mk_sound mixed tysOK names (by kernel_rfl) cs33_ok ls33_4_ok rs10_r14_ok
noncomputable def l10_5 : Nat → C26 → List Dat → Int → Int → Int → Int → (C26 → List Dat → Int → Int → Int → Prop) → Prop
  | 0, _, _, _, _, _, _, _ => False
  | fu + 1, c, line, point, quote, from', i, E0 =>
    br (decide (i < point)) (
     req (decide ((0 : Int) ≤ i) && decide (i < (↑(List.length line) : Int))) (
     req (decide (Int.toNat i < List.length line)) (
     ((List.length (C26.text c) = List.length (C26.text c)) ∧ 
     p10_r8 { from_ := C26.from_ c, quote := C26.quote c, text := C26.text c } line point quote from' i (Dat.toInt (List.getD line (Int.toNat i) default)) (fun y0 y1 y2 y3 y4 y5 y6 y7 => 
      br (y7) (
       req (inR IntKind.i64 (y5 + (1 : Int))) (
       req (inR IntKind.i64 (y5 + (1 : Int) + (1 : Int))) (((List.length (C26.text y0)) = List.length (C26.text y0) ∧ l10_5 fu y0 y1 y2 y3 y4 (y5 + (1 : Int) + (1 : Int)) E0)))) (
       ((List.length (C26.text y0) = List.length (C26.text y0)) ∧ 
       p10_r10 { from_ := C26.from_ y0, quote := C26.quote y0, text := C26.text y0 } y1 y2 y3 y4 y5 y6 (fun y8 y9 y10 y11 y12 y13 y14 y15 => 
        br (y15) (
         req (inR IntKind.i64 (y13 + (1 : Int))) (((List.length (C26.text y8)) = List.length (C26.text y8) ∧ l10_5 fu y8 y9 y10 (0 : Int) y12 (y13 + (1 : Int)) E0))) (
         ((List.length (C26.text y8) = List.length (C26.text y8)) ∧ 
         p10_r12 { from_ := C26.from_ y8, quote := C26.quote y8, text := C26.text y8 } y9 y10 y11 y12 y13 y14 (fun y16 y17 y18 y19 y20 y21 y22 y23 => 
          br (y23) (
           req (inR IntKind.i64 (y21 + (1 : Int))) (
           req (inR IntKind.i64 (y21 + (1 : Int))) (((List.length (C26.text y16)) = List.length (C26.text y16) ∧ l10_5 fu y16 y17 y18 y22 (y21 + (1 : Int)) (y21 + (1 : Int)) E0)))) (
           ((List.length (C26.text y16) = List.length (C26.text y16)) ∧ 
           p10_r14 { from_ := C26.from_ y16, quote := C26.quote y16, text := C26.text y16 } y17 y18 y19 y20 y21 y22 (fun y24 y25 y26 y27 y28 y29 y30 => 
            br (y30) (
             req (inR IntKind.i64 (y29 + (1 : Int))) (
             req (inR IntKind.i64 (y29 + (1 : Int))) (((List.length (C26.text y24)) = List.length (C26.text y24) ∧ l10_5 fu y24 y25 y26 y27 (y29 + (1 : Int)) (y29 + (1 : Int)) E0)))) (
             req (inR IntKind.i64 (y29 + (1 : Int))) (((List.length (C26.text y24)) = List.length (C26.text y24) ∧ l10_5 fu y24 y25 y26 y27 y28 (y29 + (1 : Int)) E0))))))))))))))))) (E0 c line point quote from')
def F10_5 : AM.Form := ⟨mkF 135 [(0, .ro (.int .i32)), (1, .int .i64), (4, .p 0 0), (5, .int .i32), (6, .int .i64), (7, .int .i64)], [.cells 26 [.int .i64, .int .i32, .sl 1], .seq 21 (.int .i32)]⟩
noncomputable def mm10_5 (n : Nat) (ds : List Dat) (Q : AExit → List AV → AH → Prop) : Prop := l10_5 n ⟨(dat ds 5).toInt, (dat ds 6).toInt, (dat ds 7).toList⟩ ((dat ds 0).toList) ((dat ds 1).toInt) ((dat ds 2).toInt) ((dat ds 3).toInt) ((dat ds 4).toInt) (fun rc rxs rn rn2 rn3 => Q (AExit.exit 0) (mkAV 135 [(0, .ro (.int .i32) rxs), (1, .c (.int .i64 rn)), (4, .p 0 0), (5, .c (.int .i32 rn2)), (6, .c (.int .i64 rn3))]) ⟨[.cells 26 [.c (.int .i64 rc.from_), .c (.int .i32 rc.quote), .sl 1 0 rc.text.length], .seq 21 (.int .i32) rc.text], []⟩)
theorem t10_5 (n : Nat) (ds : List Dat) (Q : AExit → List AV → AH → Prop) : wpA Tryd.prog tys GG10_r14 1000 10 (theLoop Tryd.prog 10 5) (fun e f' h' => endF Tryd.prog ((fun _ => []) e) ((fun e => match e with | .normal => ⟨[0, 1, 4, 5, 6, 7], []⟩ | .exit 0 => ⟨[0, 1, 4, 5, 6], []⟩ | _ => ⟨[], []⟩) e) ((fun e => match e with | .normal => [] | .exit 0 => [] | _ => []) e) (F10_5.hp ds) f' h' fun f2 h2 => match e with
      | .normal => locL F10_5 (mm10_5 n) f2 h2 Q
      | e => Q e f2 h2) (F10_5.fr ds) (F10_5.hp ds) = mm10_5 (n + 1) ds Q := by kernel_rfl
noncomputable def R10_5 : LoopT := headF Tryd.prog [] ⟨[0, 1, 4, 5, 6, 7], []⟩ [] fun f h Q => ∃ n, locL F10_5 (mm10_5 n) f h Q
theorem ok10_5 : LoopOK Tryd.prog (theLoop Tryd.prog 10 5) R10_5 := ruleL_ok sGG10_r14 (by kernel_rfl) mm10_5 (fun _ _ => rfl) t10_5
noncomputable def ls10_5 : List (FuncId × Nat × LoopT) := (10, 5, R10_5) :: ls33_4
theorem ls10_5_ok : LoopsOK Tryd.prog ls10_5 := .cons (by kernel_rfl) ok10_5 ls33_4_ok
noncomputable def GG10_5 : Rules := mkG [] cs33 ls10_5 rs10_r14
theorem sGG10_5 : Sound Tryd.prog tys GG10_5 := mk_sound mixed tysOK names (by kernel_rfl) cs33_ok ls10_5_ok rs10_r14_ok
noncomputable def l10_20 : Nat → C26 → List Dat → Int → Int → Int → List Dat → Int → (C26 → List Dat → Int → Int → Int → Prop) → Prop
  | 0, _, _, _, _, _, _, _, _ => False
  | fu + 1, c, l, point, quote, from', word, i, E4 =>
    br (decide (i < (↑(List.length word) : Int))) (
     req (decide ((0 : Int) ≤ i) && decide (i < (↑(List.length word) : Int))) (
     req (decide (Int.toNat i < List.length word)) (
     br (decide (Dat.toInt (List.getD word (Int.toNat i) default) = (92 : Int))) (
      req (inR IntKind.i64 (i + (1 : Int))) (
      br (decide (i + (1 : Int) < (↑(List.length word) : Int))) (
       req (inR IntKind.i64 (i + (1 : Int))) (
       req (decide ((0 : Int) ≤ i + (1 : Int)) && decide (i + (1 : Int) < (↑(List.length word) : Int))) (
       req (decide (Int.toNat (i + (1 : Int)) < List.length word)) (
       m32 (Dat.toInt (List.getD word (Int.toNat (i + (1 : Int))) default)) { data := #[(92 : UInt8), (34 : UInt8), (36 : UInt8), (96 : UInt8)] } (fun y0 => 
        br (y0) (
         req (inR IntKind.i64 (i + (1 : Int))) (
         req (decide ((0 : Int) ≤ i + (1 : Int)) && decide (i + (1 : Int) < (↑(List.length word) : Int))) (
         req (decide (Int.toNat (i + (1 : Int)) < List.length word)) (
         req (appOK l (0 : Nat) (List.length l) (1 : Nat) (4 : Nat)) (
         req (inR IntKind.i64 (i + (1 : Int) + (1 : Int))) (((List.length (dapp l (0 : Nat) (List.length l) [Dat.int (Dat.toInt (List.getD word (Int.toNat (i + (1 : Int))) default))])) = List.length (dapp l (0 : Nat) (List.length l) [Dat.int (Dat.toInt (List.getD word (Int.toNat (i + (1 : Int))) default))]) ∧ ((List.length (C26.text c)) = List.length (C26.text c) ∧ l10_20 fu c (dapp l (0 : Nat) (List.length l) [Dat.int (Dat.toInt (List.getD word (Int.toNat (i + (1 : Int))) default))]) point quote from' word (i + (1 : Int) + (1 : Int)) E4)))))))) (
         req (decide ((0 : Int) ≤ i) && decide (i < (↑(List.length word) : Int))) (
         req (decide (Int.toNat i < List.length word)) (
         req (appOK l (0 : Nat) (List.length l) (1 : Nat) (4 : Nat)) (
         req (inR IntKind.i64 (i + (1 : Int))) (((List.length (dapp l (0 : Nat) (List.length l) [Dat.int (Dat.toInt (List.getD word (Int.toNat i) default))])) = List.length (dapp l (0 : Nat) (List.length l) [Dat.int (Dat.toInt (List.getD word (Int.toNat i) default))]) ∧ ((List.length (C26.text c)) = List.length (C26.text c) ∧ l10_20 fu c (dapp l (0 : Nat) (List.length l) [Dat.int (Dat.toInt (List.getD word (Int.toNat i) default))]) point quote from' word (i + (1 : Int)) E4)))))))))))) (
       req (decide ((0 : Int) ≤ i) && decide (i < (↑(List.length word) : Int))) (
       req (decide (Int.toNat i < List.length word)) (
       req (appOK l (0 : Nat) (List.length l) (1 : Nat) (4 : Nat)) (
       req (inR IntKind.i64 (i + (1 : Int))) (((List.length (dapp l (0 : Nat) (List.length l) [Dat.int (Dat.toInt (List.getD word (Int.toNat i) default))])) = List.length (dapp l (0 : Nat) (List.length l) [Dat.int (Dat.toInt (List.getD word (Int.toNat i) default))]) ∧ ((List.length (C26.text c)) = List.length (C26.text c) ∧ l10_20 fu c (dapp l (0 : Nat) (List.length l) [Dat.int (Dat.toInt (List.getD word (Int.toNat i) default))]) point quote from' word (i + (1 : Int)) E4))))))))) (
      req (decide ((0 : Int) ≤ i) && decide (i < (↑(List.length word) : Int))) (
      req (decide (Int.toNat i < List.length word)) (
      req (appOK l (0 : Nat) (List.length l) (1 : Nat) (4 : Nat)) (
      req (inR IntKind.i64 (i + (1 : Int))) (((List.length (dapp l (0 : Nat) (List.length l) [Dat.int (Dat.toInt (List.getD word (Int.toNat i) default))])) = List.length (dapp l (0 : Nat) (List.length l) [Dat.int (Dat.toInt (List.getD word (Int.toNat i) default))]) ∧ ((List.length (C26.text c)) = List.length (C26.text c) ∧ l10_20 fu c (dapp l (0 : Nat) (List.length l) [Dat.int (Dat.toInt (List.getD word (Int.toNat i) default))]) point quote from' word (i + (1 : Int)) E4)))))))))) (E4 c l point quote from')
def F10_20 : AM.Form := ⟨mkF 135 [(1, .int .i64), (4, .p 0 0), (5, .int .i32), (6, .int .i64), (9, .ro (.int .i32)), (10, .sl 2), (11, .int .i64)], [.cells 26 [.int .i64, .int .i32, .sl 1], .seq 21 (.int .i32), .seq 21 (.int .i32)]⟩
noncomputable def mm10_20 (n : Nat) (ds : List Dat) (Q : AExit → List AV → AH → Prop) : Prop := l10_20 n ⟨(dat ds 5).toInt, (dat ds 6).toInt, (dat ds 7).toList⟩ ((dat ds 8).toList) ((dat ds 0).toInt) ((dat ds 1).toInt) ((dat ds 2).toInt) ((dat ds 3).toList) ((dat ds 4).toInt) (fun rc rl rn rn2 rn3 => Q (AExit.exit 4) (mkAV 135 [(1, .c (.int .i64 rn)), (4, .p 0 0), (5, .c (.int .i32 rn2)), (6, .c (.int .i64 rn3)), (10, .sl 2 0 rl.length)]) ⟨[.cells 26 [.c (.int .i64 rc.from_), .c (.int .i32 rc.quote), .sl 1 0 rc.text.length], .seq 21 (.int .i32) rc.text, .seq 21 (.int .i32) rl], []⟩)
theorem t10_20 (n : Nat) (ds : List Dat) (Q : AExit → List AV → AH → Prop) : wpA Tryd.prog tys GG10_5 1000 10 (theLoop Tryd.prog 10 20) (fun e f' h' => endF Tryd.prog ((fun _ => []) e) ((fun e => match e with | .normal => ⟨[1, 4, 5, 6, 9, 10, 11], []⟩ | .exit 4 => ⟨[1, 4, 5, 6, 10], []⟩ | _ => ⟨[], []⟩) e) ((fun e => match e with | .normal => [(10, .row 21 (.int .i32))] | .exit 4 => [(10, .row 21 (.int .i32))] | _ => []) e) (F10_20.hp ds) f' h' fun f2 h2 => match e with
      | .normal => locL F10_20 (mm10_20 n) f2 h2 Q
      | e => Q e f2 h2) (F10_20.fr ds) (F10_20.hp ds) = mm10_20 (n + 1) ds Q := by kernel_rfl
noncomputable def R10_20 : LoopT := headF Tryd.prog [] ⟨[1, 4, 5, 6, 9, 10, 11], []⟩ [(10, .row 21 (.int .i32))] fun f h Q => ∃ n, locL F10_20 (mm10_20 n) f h Q
theorem ok10_20 : LoopOK Tryd.prog (theLoop Tryd.prog 10 20) R10_20 := ruleL_ok sGG10_5 (by kernel_rfl) mm10_20 (fun _ _ => rfl) t10_20
noncomputable def ls10_20 : List (FuncId × Nat × LoopT) := (10, 20, R10_20) :: ls10_5
theorem ls10_20_ok : LoopsOK Tryd.prog ls10_20 := .cons (by kernel_rfl) ok10_20 ls10_5_ok
noncomputable def GG10_20 : Rules := mkG [] cs33 ls10_20 rs10_r14
theorem sGG10_20 : Sound Tryd.prog tys GG10_20 := mk_sound mixed tysOK names (by kernel_rfl) cs33_ok ls10_20_ok rs10_r14_ok
noncomputable def m10 (line : List Dat) (point : Int) (K : List Dat → Int → Int → Prop) : Prop :=
    (∃ y0, 
    (((0 : Nat) = (0 : Nat)) ∧ 
    l10_5 y0 { from_ := (0 : Int), quote := (0 : Int), text := [] } line (if false = true then max (if true = true then max point (0 : Int) else min point (0 : Int)) (↑(List.length line) : Int) else min (if true = true then max point (0 : Int) else min point (0 : Int)) (↑(List.length line) : Int)) (0 : Int) (0 : Int) (0 : Int) (fun y1 y2 y3 y4 y5 => 
     req (decide ((0 : Int) ≤ if false = true then max y5 y3 else min y5 y3) && decide ((if false = true then max y5 y3 else min y5 y3) ≤ y3) && decide (y3 ≤ (↑(List.length y2) : Int))) (
     br (decide (y4 = (0 : Int))) (
      m33 (List.take (Int.toNat y3 - Int.toNat (if false = true then max y5 y3 else min y5 y3)) (List.drop (Int.toNat (if false = true then max y5 y3 else min y5 y3)) y2)) (fun y6 => K y6 (if false = true then max y5 y3 else min y5 y3) y4)) (
      br (decide (y4 = (39 : Int))) (
       req (decide (List.length (List.take (Int.toNat y3 - Int.toNat (if false = true then max y5 y3 else min y5 y3)) (List.drop (Int.toNat (if false = true then max y5 y3 else min y5 y3)) y2)) * (4 : Nat) ≤ (140737488351232 : Nat))) (K (List.take (Int.toNat y3 - Int.toNat (if false = true then max y5 y3 else min y5 y3)) (List.drop (Int.toNat (if false = true then max y5 y3 else min y5 y3)) y2)) (if false = true then max y5 y3 else min y5 y3) y4)) (
       (∃ y7, 
       (((0 : Nat) = (0 : Nat)) ∧ 
       ((List.length (C26.text y1) = List.length (C26.text y1)) ∧ 
       l10_20 y7 { from_ := C26.from_ y1, quote := C26.quote y1, text := C26.text y1 } [] y3 y4 y5 (List.take (Int.toNat y3 - Int.toNat (if false = true then max y5 y3 else min y5 y3)) (List.drop (Int.toNat (if false = true then max y5 y3 else min y5 y3)) y2)) (0 : Int) (fun y8 y9 y10 y11 y12 => K y9 (if false = true then max y12 y10 else min y12 y10) y11))))))))))
def F10 : AM.Form := ⟨[.ro (.int .i32), .int .i64], []⟩
noncomputable def mm10 (ds : List Dat) (K : AV → AH → Prop) : Prop := m10 ((dat ds 0).toList) ((dat ds 1).toInt) (fun rl rn rn2 => K (.agg [.c (.int .i64 rn), .c (.int .i32 rn2), .sl 0 0 rl.length]) ⟨[.seq 21 (.int .i32) rl], []⟩)
theorem t10 (ds : List Dat) (K : AV → AH → Prop) : callA Tryd.prog tys GG10_20 1000 10 (F10.fr ds) (F10.hp ds) (fun v h' => endK Tryd.prog [] .keep (F10.hp ds) (F10.fr ds) v h' K) = mm10 ds K := by kernel_rfl
noncomputable def R10 : CallT := ruleF Tryd.prog [(.ro (.int .i32)), .keep] [] F10 mm10
theorem ok10 : CallOK Tryd.prog 10 R10 := ruleF_ok sGG10_20 t10
noncomputable def cs10 : List (FuncId × CallT) := (10, R10) :: cs33
theorem cs10_ok : CallsOK Tryd.prog cs10 := .cons ok10 cs33_ok
noncomputable def GG10 : Rules := mkG [] cs10 ls10_20 rs10_r14
theorem sGG10 : Sound Tryd.prog tys GG10 := mk_sound mixed tysOK names (by kernel_rfl) cs10_ok ls10_20_ok rs10_r14_ok
end Go.Proofs.YtbhehldefflhpaaDoor
