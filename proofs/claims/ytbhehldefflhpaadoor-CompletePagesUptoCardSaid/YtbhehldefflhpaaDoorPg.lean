/- Layer 21, the pager: functions as definitions over their data. Printed by tools/dec.py. -/
import Derived.Test.YtbhehldefflhpaaDoorLv
set_option linter.unusedVariables false
set_option maxRecDepth 100000
namespace Go.Proofs.YtbhehldefflhpaaDoor
open Go.AM Go.LTxt Go.LMem Go.RowKit
noncomputable def m34 (s : List Dat) (K : List Dat → Prop) : Prop :=
    br (decide (List.length s = (0 : Nat))) (
     ((K []) ∧ (
      req (appOK [] (0 : Nat) (0 : Nat) (List.length s) (16 : Nat)) (K (dapp [] (0 : Nat) (0 : Nat) s))))) (
     req (appOK [] (0 : Nat) (0 : Nat) (List.length s) (16 : Nat)) (K (dapp [] (0 : Nat) (0 : Nat) s)))
def F34 : AM.Form := ⟨[.ro .str], []⟩
noncomputable def mm34 (ds : List Dat) (K : AV → AH → Prop) : Prop := m34 ((dat ds 0).toList) (fun rl => K (.sl 0 0 rl.length) ⟨[.seq 9 .str rl], []⟩)
theorem t34 (ds : List Dat) (K : AV → AH → Prop) : callA Tryd.prog tys G02 1000 34 (F34.fr ds) (F34.hp ds) (fun v h' => endK Tryd.prog [] (.row 9 .str) (F34.hp ds) (F34.fr ds) v h' K) = mm34 ds K := by kernel_rfl
noncomputable def R34 : CallT := ruleF Tryd.prog [(.ro .str)] [] F34 mm34
theorem ok34 : CallOK Tryd.prog 34 R34 := ruleF_ok sG02 t34
noncomputable def cs34 : List (FuncId × CallT) := (34, R34) :: calls2
theorem cs34_ok : CallsOK Tryd.prog cs34 := .cons ok34 calls2_ok
noncomputable def GG34 : Rules := mkG [] cs34 ls0
theorem sGG34 : Sound Tryd.prog tys GG34 := mk_sound mixed tysOK names (by kernel_rfl) cs34_ok ls0_ok
structure C70 where
  made : Bool
  lines : List Dat
  rows : Int
  from_ : Int
  to_ : Int
  done : Bool
noncomputable def m18 (c : C70) (K : C70 → List Dat → Prop) : Prop :=
    br (!C70.made c) (K c []) (
     req (decide ((0 : Int) ≤ C70.from_ c) && decide (C70.from_ c ≤ C70.to_ c) && decide (C70.to_ c ≤ (↑(List.length (C70.lines c)) : Int))) (
     m34 (List.take (Int.toNat (C70.to_ c) - Int.toNat (C70.from_ c)) (List.drop (Int.toNat (C70.from_ c)) (C70.lines c))) (fun y0 => K c y0)))
def F18 : AM.Form := ⟨[.p 0 0], [.cells 70 [.bool, .ro .str, .int .i64, .int .i64, .int .i64, .bool]]⟩
noncomputable def mm18 (ds : List Dat) (K : AV → AH → Prop) : Prop := m18 ⟨(dat ds 0).toBool, (dat ds 1).toList, (dat ds 2).toInt, (dat ds 3).toInt, (dat ds 4).toInt, (dat ds 5).toBool⟩ (fun rc rl => K (.sl 1 0 rl.length) ⟨[.cells 70 [.c (.bool rc.made), .ro .str rc.lines, .c (.int .i64 rc.rows), .c (.int .i64 rc.from_), .c (.int .i64 rc.to_), .c (.bool rc.done)], .seq 9 .str rl], []⟩)
theorem t18 (ds : List Dat) (K : AV → AH → Prop) : callA Tryd.prog tys GG34 1000 18 (F18.fr ds) (F18.hp ds) (fun v h' => endK Tryd.prog [] (.row 9 .str) (F18.hp ds) (F18.fr ds) v h' K) = mm18 ds K := by kernel_rfl
noncomputable def R18 : CallT := ruleF Tryd.prog [.keep] [] F18 mm18
theorem ok18 : CallOK Tryd.prog 18 R18 := ruleF_ok sGG34 t18
noncomputable def cs18 : List (FuncId × CallT) := (18, R18) :: cs34
theorem cs18_ok : CallsOK Tryd.prog cs18 := .cons ok18 cs34_ok
noncomputable def GG18 : Rules := mkG [] cs18 ls0
theorem sGG18 : Sound Tryd.prog tys GG18 := mk_sound mixed tysOK names (by kernel_rfl) cs18_ok ls0_ok
noncomputable def m11 (lines : List Dat) (rows : Int) (K0 : Int → Prop) (K1 : C70 → Int → Prop) : Prop :=
    br (decide (rows < (2 : Int))) (K0 (1 : Int)) (
     m34 lines (fun y0 => 
      req (inR IntKind.i64 (rows - (1 : Int))) (K1 ({ made := true, lines := y0, rows := rows, from_ := (0 : Int), to_ := if false = true then max (rows - (1 : Int)) (↑(List.length lines) : Int) else min (rows - (1 : Int)) (↑(List.length lines) : Int), done := decide ((if false = true then max (rows - (1 : Int)) (↑(List.length lines) : Int) else min (rows - (1 : Int)) (↑(List.length lines) : Int)) = (↑(List.length lines) : Int)) } : C70) (0 : Int))))
def F11 : AM.Form := ⟨[.ro .str, .int .i64], []⟩
noncomputable def mm11 (ds : List Dat) (K : AV → AH → Prop) : Prop := m11 ((dat ds 0).toList) ((dat ds 1).toInt) (fun rn => K (.tup [.c (.pointer none), .c (.int .i64 rn)]) ⟨[], []⟩) (fun rc rn => K (.tup [.p 0 0, .c (.int .i64 rn)]) ⟨[.cells 70 [.c (.bool rc.made), .sl 1 0 rc.lines.length, .c (.int .i64 rc.rows), .c (.int .i64 rc.from_), .c (.int .i64 rc.to_), .c (.bool rc.done)], .seq 9 .str rc.lines], []⟩)
theorem t11 (ds : List Dat) (K : AV → AH → Prop) : callA Tryd.prog tys GG18 1000 11 (F11.fr ds) (F11.hp ds) (fun v h' => endK Tryd.prog [] .keep (F11.hp ds) (F11.fr ds) v h' K) = mm11 ds K := by kernel_rfl
noncomputable def R11 : CallT := ruleF Tryd.prog [(.ro .str), .keep] [] F11 mm11
theorem ok11 : CallOK Tryd.prog 11 R11 := ruleF_ok sGG18 t11
noncomputable def cs11 : List (FuncId × CallT) := (11, R11) :: cs18
theorem cs11_ok : CallsOK Tryd.prog cs11 := .cons ok11 cs18_ok
noncomputable def GG11 : Rules := mkG [] cs11 ls0
theorem sGG11 : Sound Tryd.prog tys GG11 := mk_sound mixed tysOK names (by kernel_rfl) cs11_ok ls0_ok
noncomputable def l23_4 : Nat → List Dat → List Dat → Int → Int → (Prop) → (Bool → Prop) → Prop
  | 0, _, _, _, _, _, _ => False
  | fu + 1, s1, s2, n, n2, E0, R_ =>
    br (decide (n2 < n)) (
     req (decide ((0 : Int) ≤ n2) && decide (n2 < (↑(List.length s1) : Int))) (
     req (decide (Int.toNat n2 < List.length s1)) (
     req (decide ((0 : Int) ≤ n2) && decide (n2 < (↑(List.length s2) : Int))) (
     req (decide (Int.toNat n2 < List.length s2)) (
     br (!strEq (Dat.toStr (List.getD s1 (Int.toNat n2) default)) (Dat.toStr (List.getD s2 (Int.toNat n2) default))) (R_ false) (
      req (inR IntKind.i64 (n2 + (1 : Int))) (l23_4 fu s1 s2 n (n2 + (1 : Int)) E0 R_))))))) (E0)
def F23_4 : AM.Form := ⟨mkF 26 [(0, .ro .str), (1, .ro .str), (12, .int .i64), (13, .int .i64)], []⟩
noncomputable def mm23_4 (n : Nat) (ds : List Dat) (Q : AExit → List AV → AH → Prop) : Prop := l23_4 n ((dat ds 0).toList) ((dat ds 1).toList) ((dat ds 2).toInt) ((dat ds 3).toInt) (Q (AExit.exit 0) (mkAV 26 []) ⟨[], []⟩) (fun rb => Q AExit.ret (mkAV 26 [(4, .c (.bool rb))]) ⟨[], []⟩)
theorem t23_4 (n : Nat) (ds : List Dat) (Q : AExit → List AV → AH → Prop) : wpA Tryd.prog tys GG11 1000 23 (theLoop Tryd.prog 23 4) (fun e f' h' => endF Tryd.prog ((fun _ => []) e) ((fun e => match e with | .normal => ⟨[0, 1, 12, 13], []⟩ | .exit 0 => ⟨[], []⟩ | .ret => ⟨[4], []⟩ | _ => ⟨[], []⟩) e) ((fun e => match e with | .normal => [] | .exit 0 => [] | .ret => [] | _ => []) e) (F23_4.hp ds) f' h' fun f2 h2 => match e with
      | .normal => locL F23_4 (mm23_4 n) f2 h2 Q
      | e => Q e f2 h2) (F23_4.fr ds) (F23_4.hp ds) = mm23_4 (n + 1) ds Q := by kernel_rfl
noncomputable def R23_4 : LoopT := headF Tryd.prog [] ⟨[0, 1, 12, 13], []⟩ [] fun f h Q => ∃ n, locL F23_4 (mm23_4 n) f h Q
theorem ok23_4 : LoopOK Tryd.prog (theLoop Tryd.prog 23 4) R23_4 := ruleL_ok sGG11 (by kernel_rfl) mm23_4 (fun _ _ => rfl) t23_4
noncomputable def ls23_4 : List (FuncId × Nat × LoopT) := (23, 4, R23_4) :: ls0
theorem ls23_4_ok : LoopsOK Tryd.prog ls23_4 := .cons (by kernel_rfl) ok23_4 ls0_ok
noncomputable def GG23_4 : Rules := mkG [] cs11 ls23_4
theorem sGG23_4 : Sound Tryd.prog tys GG23_4 := mk_sound mixed tysOK names (by kernel_rfl) cs11_ok ls23_4_ok
noncomputable def m23 (s1 : List Dat) (s2 : List Dat) (K : Bool → Prop) : Prop :=
    br (!decide ((↑(List.length s1) : Int) = (↑(List.length s2) : Int))) (K false) (
     (∃ y0, 
     l23_4 y0 s1 s2 (↑(List.length s1) : Int) (0 : Int) (K true) (fun y1 => K y1)))
def F23 : AM.Form := ⟨[.ro .str, .ro .str], []⟩
noncomputable def mm23 (ds : List Dat) (K : AV → AH → Prop) : Prop := m23 ((dat ds 0).toList) ((dat ds 1).toList) (fun rb => K (.c (.bool rb)) ⟨[], []⟩)
theorem t23 (ds : List Dat) (K : AV → AH → Prop) : callA Tryd.prog tys GG23_4 1000 23 (F23.fr ds) (F23.hp ds) (fun v h' => endK Tryd.prog [] .keep (F23.hp ds) (F23.fr ds) v h' K) = mm23 ds K := by kernel_rfl
noncomputable def R23 : CallT := ruleF Tryd.prog [(.ro .str), (.ro .str)] [] F23 mm23
theorem ok23 : CallOK Tryd.prog 23 R23 := ruleF_ok sGG23_4 t23
noncomputable def cs23 : List (FuncId × CallT) := (23, R23) :: cs11
theorem cs23_ok : CallsOK Tryd.prog cs23 := .cons ok23 cs11_ok
noncomputable def GG23 : Rules := mkG [] cs23 ls23_4
theorem sGG23 : Sound Tryd.prog tys GG23 := mk_sound mixed tysOK names (by kernel_rfl) cs23_ok ls23_4_ok
noncomputable def m19 (c : C70) (r : Int) (K : C70 → Bool → Prop) : Prop :=
    br (!C70.made c) (K c false) (
     br (C70.done c) (K c false) (
      br (decide (r = (32 : Int))) (
       br (decide (r = (32 : Int))) (
        req (inR IntKind.i64 (C70.rows c - (1 : Int))) (
        req (inR IntKind.i64 ((↑(List.length (C70.lines c)) : Int) - C70.to_ c)) (
        req (inR IntKind.i64 (C70.to_ c + if false = true then max (C70.rows c - (1 : Int)) ((↑(List.length (C70.lines c)) : Int) - C70.to_ c) else min (C70.rows c - (1 : Int)) ((↑(List.length (C70.lines c)) : Int) - C70.to_ c))) (K { c with from_ := C70.to_ c, to_ := C70.to_ c + if false = true then max (C70.rows c - (1 : Int)) ((↑(List.length (C70.lines c)) : Int) - C70.to_ c) else min (C70.rows c - (1 : Int)) ((↑(List.length (C70.lines c)) : Int) - C70.to_ c), done := decide ((C70.to_ c + if false = true then max (C70.rows c - (1 : Int)) ((↑(List.length (C70.lines c)) : Int) - C70.to_ c) else min (C70.rows c - (1 : Int)) ((↑(List.length (C70.lines c)) : Int) - C70.to_ c)) = (↑(List.length (C70.lines c)) : Int)) } true)))) (
        br (decide (r = (10 : Int))) (
         br (decide (r = (10 : Int))) (
          req (inR IntKind.i64 (C70.to_ c + (1 : Int))) (K { c with from_ := C70.to_ c, to_ := C70.to_ c + (1 : Int), done := decide (C70.to_ c + (1 : Int) = (↑(List.length (C70.lines c)) : Int)) } true)) (
          br (decide (r = (113 : Int))) (
           br (decide (r = (113 : Int))) (K { c with from_ := C70.to_ c, done := true } true) (K c false)) (
           br (decide (r = (110 : Int))) (
            br (decide (r = (110 : Int))) (K { c with from_ := C70.to_ c, done := true } true) (K c false)) (
            br (decide (r = (81 : Int))) (
             br (decide (r = (81 : Int))) (K { c with from_ := C70.to_ c, done := true } true) (K c false)) (
             br (decide (r = (78 : Int))) (
              br (decide (r = (78 : Int))) (K { c with from_ := C70.to_ c, done := true } true) (K c false)) (
              br (decide (r = (127 : Int))) (K { c with from_ := C70.to_ c, done := true } true) (K c false))))))) (
         br (decide (r = (13 : Int))) (
          req (inR IntKind.i64 (C70.to_ c + (1 : Int))) (K { c with from_ := C70.to_ c, to_ := C70.to_ c + (1 : Int), done := decide (C70.to_ c + (1 : Int) = (↑(List.length (C70.lines c)) : Int)) } true)) (
          br (decide (r = (113 : Int))) (
           br (decide (r = (113 : Int))) (K { c with from_ := C70.to_ c, done := true } true) (K c false)) (
           br (decide (r = (110 : Int))) (
            br (decide (r = (110 : Int))) (K { c with from_ := C70.to_ c, done := true } true) (K c false)) (
            br (decide (r = (81 : Int))) (
             br (decide (r = (81 : Int))) (K { c with from_ := C70.to_ c, done := true } true) (K c false)) (
             br (decide (r = (78 : Int))) (
              br (decide (r = (78 : Int))) (K { c with from_ := C70.to_ c, done := true } true) (K c false)) (
              br (decide (r = (127 : Int))) (K { c with from_ := C70.to_ c, done := true } true) (K c false))))))))) (
       br (decide (r = (121 : Int))) (
        br (decide (r = (121 : Int))) (
         req (inR IntKind.i64 (C70.rows c - (1 : Int))) (
         req (inR IntKind.i64 ((↑(List.length (C70.lines c)) : Int) - C70.to_ c)) (
         req (inR IntKind.i64 (C70.to_ c + if false = true then max (C70.rows c - (1 : Int)) ((↑(List.length (C70.lines c)) : Int) - C70.to_ c) else min (C70.rows c - (1 : Int)) ((↑(List.length (C70.lines c)) : Int) - C70.to_ c))) (K { c with from_ := C70.to_ c, to_ := C70.to_ c + if false = true then max (C70.rows c - (1 : Int)) ((↑(List.length (C70.lines c)) : Int) - C70.to_ c) else min (C70.rows c - (1 : Int)) ((↑(List.length (C70.lines c)) : Int) - C70.to_ c), done := decide ((C70.to_ c + if false = true then max (C70.rows c - (1 : Int)) ((↑(List.length (C70.lines c)) : Int) - C70.to_ c) else min (C70.rows c - (1 : Int)) ((↑(List.length (C70.lines c)) : Int) - C70.to_ c)) = (↑(List.length (C70.lines c)) : Int)) } true)))) (
         br (decide (r = (10 : Int))) (
          br (decide (r = (10 : Int))) (
           req (inR IntKind.i64 (C70.to_ c + (1 : Int))) (K { c with from_ := C70.to_ c, to_ := C70.to_ c + (1 : Int), done := decide (C70.to_ c + (1 : Int) = (↑(List.length (C70.lines c)) : Int)) } true)) (
           br (decide (r = (113 : Int))) (
            br (decide (r = (113 : Int))) (K { c with from_ := C70.to_ c, done := true } true) (K c false)) (
            br (decide (r = (110 : Int))) (
             br (decide (r = (110 : Int))) (K { c with from_ := C70.to_ c, done := true } true) (K c false)) (
             br (decide (r = (81 : Int))) (
              br (decide (r = (81 : Int))) (K { c with from_ := C70.to_ c, done := true } true) (K c false)) (
              br (decide (r = (78 : Int))) (
               br (decide (r = (78 : Int))) (K { c with from_ := C70.to_ c, done := true } true) (K c false)) (
               br (decide (r = (127 : Int))) (K { c with from_ := C70.to_ c, done := true } true) (K c false))))))) (
          br (decide (r = (13 : Int))) (
           req (inR IntKind.i64 (C70.to_ c + (1 : Int))) (K { c with from_ := C70.to_ c, to_ := C70.to_ c + (1 : Int), done := decide (C70.to_ c + (1 : Int) = (↑(List.length (C70.lines c)) : Int)) } true)) (
           br (decide (r = (113 : Int))) (
            br (decide (r = (113 : Int))) (K { c with from_ := C70.to_ c, done := true } true) (K c false)) (
            br (decide (r = (110 : Int))) (
             br (decide (r = (110 : Int))) (K { c with from_ := C70.to_ c, done := true } true) (K c false)) (
             br (decide (r = (81 : Int))) (
              br (decide (r = (81 : Int))) (K { c with from_ := C70.to_ c, done := true } true) (K c false)) (
              br (decide (r = (78 : Int))) (
               br (decide (r = (78 : Int))) (K { c with from_ := C70.to_ c, done := true } true) (K c false)) (
               br (decide (r = (127 : Int))) (K { c with from_ := C70.to_ c, done := true } true) (K c false))))))))) (
        br (decide (r = (89 : Int))) (
         req (inR IntKind.i64 (C70.rows c - (1 : Int))) (
         req (inR IntKind.i64 ((↑(List.length (C70.lines c)) : Int) - C70.to_ c)) (
         req (inR IntKind.i64 (C70.to_ c + if false = true then max (C70.rows c - (1 : Int)) ((↑(List.length (C70.lines c)) : Int) - C70.to_ c) else min (C70.rows c - (1 : Int)) ((↑(List.length (C70.lines c)) : Int) - C70.to_ c))) (K { c with from_ := C70.to_ c, to_ := C70.to_ c + if false = true then max (C70.rows c - (1 : Int)) ((↑(List.length (C70.lines c)) : Int) - C70.to_ c) else min (C70.rows c - (1 : Int)) ((↑(List.length (C70.lines c)) : Int) - C70.to_ c), done := decide ((C70.to_ c + if false = true then max (C70.rows c - (1 : Int)) ((↑(List.length (C70.lines c)) : Int) - C70.to_ c) else min (C70.rows c - (1 : Int)) ((↑(List.length (C70.lines c)) : Int) - C70.to_ c)) = (↑(List.length (C70.lines c)) : Int)) } true)))) (
         br (decide (r = (10 : Int))) (
          br (decide (r = (10 : Int))) (
           req (inR IntKind.i64 (C70.to_ c + (1 : Int))) (K { c with from_ := C70.to_ c, to_ := C70.to_ c + (1 : Int), done := decide (C70.to_ c + (1 : Int) = (↑(List.length (C70.lines c)) : Int)) } true)) (
           br (decide (r = (113 : Int))) (
            br (decide (r = (113 : Int))) (K { c with from_ := C70.to_ c, done := true } true) (K c false)) (
            br (decide (r = (110 : Int))) (
             br (decide (r = (110 : Int))) (K { c with from_ := C70.to_ c, done := true } true) (K c false)) (
             br (decide (r = (81 : Int))) (
              br (decide (r = (81 : Int))) (K { c with from_ := C70.to_ c, done := true } true) (K c false)) (
              br (decide (r = (78 : Int))) (
               br (decide (r = (78 : Int))) (K { c with from_ := C70.to_ c, done := true } true) (K c false)) (
               br (decide (r = (127 : Int))) (K { c with from_ := C70.to_ c, done := true } true) (K c false))))))) (
          br (decide (r = (13 : Int))) (
           req (inR IntKind.i64 (C70.to_ c + (1 : Int))) (K { c with from_ := C70.to_ c, to_ := C70.to_ c + (1 : Int), done := decide (C70.to_ c + (1 : Int) = (↑(List.length (C70.lines c)) : Int)) } true)) (
           br (decide (r = (113 : Int))) (
            br (decide (r = (113 : Int))) (K { c with from_ := C70.to_ c, done := true } true) (K c false)) (
            br (decide (r = (110 : Int))) (
             br (decide (r = (110 : Int))) (K { c with from_ := C70.to_ c, done := true } true) (K c false)) (
             br (decide (r = (81 : Int))) (
              br (decide (r = (81 : Int))) (K { c with from_ := C70.to_ c, done := true } true) (K c false)) (
              br (decide (r = (78 : Int))) (
               br (decide (r = (78 : Int))) (K { c with from_ := C70.to_ c, done := true } true) (K c false)) (
               br (decide (r = (127 : Int))) (K { c with from_ := C70.to_ c, done := true } true) (K c false))))))))))))
def F19 : AM.Form := ⟨[.p 0 0, .int .i32], [.cells 70 [.bool, .ro .str, .int .i64, .int .i64, .int .i64, .bool]]⟩
noncomputable def mm19 (ds : List Dat) (K : AV → AH → Prop) : Prop := m19 ⟨(dat ds 1).toBool, (dat ds 2).toList, (dat ds 3).toInt, (dat ds 4).toInt, (dat ds 5).toInt, (dat ds 6).toBool⟩ ((dat ds 0).toInt) (fun rc rb => K (.c (.bool rb)) ⟨[.cells 70 [.c (.bool rc.made), .ro .str rc.lines, .c (.int .i64 rc.rows), .c (.int .i64 rc.from_), .c (.int .i64 rc.to_), .c (.bool rc.done)]], []⟩)
theorem t19 (ds : List Dat) (K : AV → AH → Prop) : callA Tryd.prog tys GG23 1000 19 (F19.fr ds) (F19.hp ds) (fun v h' => endK Tryd.prog [] .keep (F19.hp ds) (F19.fr ds) v h' K) = mm19 ds K := by kernel_rfl
noncomputable def R19 : CallT := ruleF Tryd.prog [.keep, .keep] [] F19 mm19
theorem ok19 : CallOK Tryd.prog 19 R19 := ruleF_ok sGG23 t19
noncomputable def cs19 : List (FuncId × CallT) := (19, R19) :: cs23
theorem cs19_ok : CallsOK Tryd.prog cs19 := .cons ok19 cs23_ok
noncomputable def GG19 : Rules := mkG [] cs19 ls23_4
theorem sGG19 : Sound Tryd.prog tys GG19 := mk_sound mixed tysOK names (by kernel_rfl) cs19_ok ls23_4_ok
structure C36 where
  lines : List Dat
  at_ : Int
  done : Bool
noncomputable def p12_r5 (c : C36) (c2 : C70) (to' : Int) (got : List Dat) (E0 : C36 → C70 → Int → Bool → Prop) : Prop :=
    req (decide ((0 : Int) ≤ C36.at_ c) && decide (C36.at_ c ≤ to') && decide (to' ≤ (↑(List.length (C36.lines c)) : Int))) (
    m23 got (List.take (Int.toNat to' - Int.toNat (C36.at_ c)) (List.drop (Int.toNat (C36.at_ c)) (C36.lines c))) (fun y0 => 
     br (y0) (
      m18 { made := C70.made c2, lines := C70.lines c2, rows := C70.rows c2, from_ := C70.from_ c2, to_ := C70.to_ c2, done := C70.done c2 } (fun y1 y2 => 
       req (decide ((0 : Nat) + List.length y2 ≤ List.length y2)) (
       m23 (List.take (List.length y2) y2) got (fun y3 => E0 c y1 to' y3)))) (E0 c c2 to' false)))
def F12_r5 : AM.Form := ⟨mkF 80 [(0, .p 0 0), (5, .int .i64), (6, .ro .str)], [.cells 36 [.p 1 0, .ro .str, .int .i64, .bool], .cells 70 [.bool, .ro .str, .int .i64, .int .i64, .int .i64, .bool]]⟩
noncomputable def mm12_r5 (ds : List Dat) (Q : AExit → List AV → AH → Prop) : Prop := p12_r5 ⟨(dat ds 2).toList, (dat ds 3).toInt, (dat ds 4).toBool⟩ ⟨(dat ds 5).toBool, (dat ds 6).toList, (dat ds 7).toInt, (dat ds 8).toInt, (dat ds 9).toInt, (dat ds 10).toBool⟩ ((dat ds 0).toInt) ((dat ds 1).toList) (fun rc rc2 rn rb => Q .normal (mkAV 80 [(0, .p 0 0), (5, .c (.int .i64 rn)), (7, .c (.bool rb))]) ⟨[.cells 36 [.p 1 0, .ro .str rc.lines, .c (.int .i64 rc.at_), .c (.bool rc.done)], .cells 70 [.c (.bool rc2.made), .ro .str rc2.lines, .c (.int .i64 rc2.rows), .c (.int .i64 rc2.from_), .c (.int .i64 rc2.to_), .c (.bool rc2.done)]], []⟩)
theorem t12_r5 (ds : List Dat) (Q : AExit → List AV → AH → Prop) : wpA Tryd.prog tys GG19 1000 12 (theReg Tryd.prog 12 5) (fun e f' h' => endF Tryd.prog ((fun _ => []) e) ((fun _ => ⟨[0, 5, 7], []⟩) e) ((fun _ => []) e) (F12_r5.hp ds) f' h' fun f2 h2 => Q e f2 h2) (F12_r5.fr ds) (F12_r5.hp ds) = mm12_r5 ds Q := by kernel_rfl
noncomputable def R12_r5 : LoopT := headF Tryd.prog [] ⟨[0, 5, 6], []⟩ [(6, .ro .str)] (locL F12_r5 mm12_r5)
theorem ok12_r5 : RegOK Tryd.prog (theReg Tryd.prog 12 5) R12_r5 := ruleP_ok sGG19 (by kernel_rfl) mm12_r5 t12_r5
noncomputable def rs12_r5 : List (FuncId × Nat × LoopT) := (12, 5, R12_r5) :: []
theorem rs12_r5_ok : RegsOK Tryd.prog rs12_r5 := .cons (by kernel_rfl) ok12_r5 .nil
noncomputable def GG12_r5 : Rules := mkG [] cs19 ls23_4 rs12_r5
theorem sGG12_r5 : Sound Tryd.prog tys GG12_r5 := mk_sound mixed tysOK names (by kernel_rfl) cs19_ok ls23_4_ok rs12_r5_ok
noncomputable def m12 (c : C36) (c2 : C70) (n : Int) (K : C36 → C70 → Bool → Prop) : Prop :=
    req (inR IntKind.i64 ((↑(List.length (C36.lines c)) : Int) - C36.at_ c)) (
    br (decide (n < (↑(List.length (C36.lines c)) : Int) - C36.at_ c)) (
     req (inR IntKind.i64 (C36.at_ c + n)) (
     m18 { made := C70.made c2, lines := C70.lines c2, rows := C70.rows c2, from_ := C70.from_ c2, to_ := C70.to_ c2, done := C70.done c2 } (fun y0 y1 => 
      req (decide ((0 : Nat) + List.length y1 ≤ List.length y1)) (
      p12_r5 { lines := C36.lines c, at_ := C36.at_ c, done := C36.done c } { made := C70.made y0, lines := C70.lines y0, rows := C70.rows y0, from_ := C70.from_ y0, to_ := C70.to_ y0, done := C70.done y0 } (C36.at_ c + n) (List.take (List.length y1) y1) (fun y2 y3 y4 y5 => 
       br (y5) (
        br (C70.made y3) (K { y2 with at_ := y4, done := decide ((↑(List.length (C36.lines y2)) : Int) ≤ y4) } y3 (C70.done y3 == decide ((↑(List.length (C36.lines y2)) : Int) ≤ y4))) (K { y2 with at_ := y4, done := decide ((↑(List.length (C36.lines y2)) : Int) ≤ y4) } y3 (false == decide ((↑(List.length (C36.lines y2)) : Int) ≤ y4)))) (K { y2 with at_ := y4, done := decide ((↑(List.length (C36.lines y2)) : Int) ≤ y4) } y3 false)))))) (
     m18 { made := C70.made c2, lines := C70.lines c2, rows := C70.rows c2, from_ := C70.from_ c2, to_ := C70.to_ c2, done := C70.done c2 } (fun y6 y7 => 
      req (decide ((0 : Nat) + List.length y7 ≤ List.length y7)) (
      p12_r5 { lines := C36.lines c, at_ := C36.at_ c, done := C36.done c } { made := C70.made y6, lines := C70.lines y6, rows := C70.rows y6, from_ := C70.from_ y6, to_ := C70.to_ y6, done := C70.done y6 } (↑(List.length (C36.lines c)) : Int) (List.take (List.length y7) y7) (fun y8 y9 y10 y11 => 
       br (y11) (
        br (C70.made y9) (K { y8 with at_ := y10, done := decide ((↑(List.length (C36.lines y8)) : Int) ≤ y10) } y9 (C70.done y9 == decide ((↑(List.length (C36.lines y8)) : Int) ≤ y10))) (K { y8 with at_ := y10, done := decide ((↑(List.length (C36.lines y8)) : Int) ≤ y10) } y9 (false == decide ((↑(List.length (C36.lines y8)) : Int) ≤ y10)))) (K { y8 with at_ := y10, done := decide ((↑(List.length (C36.lines y8)) : Int) ≤ y10) } y9 false))))))
def F12 : AM.Form := ⟨[.p 0 0, .int .i64], [.cells 36 [.p 1 0, .ro .str, .int .i64, .bool], .cells 70 [.bool, .ro .str, .int .i64, .int .i64, .int .i64, .bool]]⟩
noncomputable def mm12 (ds : List Dat) (K : AV → AH → Prop) : Prop := m12 ⟨(dat ds 1).toList, (dat ds 2).toInt, (dat ds 3).toBool⟩ ⟨(dat ds 4).toBool, (dat ds 5).toList, (dat ds 6).toInt, (dat ds 7).toInt, (dat ds 8).toInt, (dat ds 9).toBool⟩ ((dat ds 0).toInt) (fun rc rc2 rb => K (.c (.bool rb)) ⟨[.cells 36 [.p 1 0, .ro .str rc.lines, .c (.int .i64 rc.at_), .c (.bool rc.done)], .cells 70 [.c (.bool rc2.made), .ro .str rc2.lines, .c (.int .i64 rc2.rows), .c (.int .i64 rc2.from_), .c (.int .i64 rc2.to_), .c (.bool rc2.done)]], []⟩)
theorem t12 (ds : List Dat) (K : AV → AH → Prop) : callA Tryd.prog tys GG12_r5 1000 12 (F12.fr ds) (F12.hp ds) (fun v h' => endK Tryd.prog [] .keep (F12.hp ds) (F12.fr ds) v h' K) = mm12 ds K := by kernel_rfl
noncomputable def R12 : CallT := ruleF Tryd.prog [.keep, .keep] [] F12 mm12
theorem ok12 : CallOK Tryd.prog 12 R12 := ruleF_ok sGG12_r5 t12
noncomputable def cs12 : List (FuncId × CallT) := (12, R12) :: cs19
theorem cs12_ok : CallsOK Tryd.prog cs12 := .cons ok12 cs19_ok
noncomputable def GG12 : Rules := mkG [] cs12 ls23_4 rs12_r5
theorem sGG12 : Sound Tryd.prog tys GG12 := mk_sound mixed tysOK names (by kernel_rfl) cs12_ok ls23_4_ok rs12_r5_ok
end Go.Proofs.YtbhehldefflhpaaDoor
