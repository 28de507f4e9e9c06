/- Layer 21, Find: functions as definitions over their data. Printed by tools/dec.py. -/
import Derived.Test.YtbhehldefflhpaaDoorLv
import Derived.Test.YtbhehldefflhpaaDoorAmFl
set_option linter.unusedVariables false
set_option maxRecDepth 100000
namespace Go.Proofs.YtbhehldefflhpaaDoor
open Go.AM Go.LTxt Go.LMem Go.RowKit
noncomputable def m29 (r : Int) (s : ByteArray) (K : Bool → Prop) : Prop :=
    br (decide ((0 : Int) < r)) (
     br (decide (r < (128 : Int))) (K (decide ((0 : Int) ≤ idxS s (IntKind.wrap IntKind.u8 r)))) (K false)) (K false)
def F29 : AM.Form := ⟨[.int .i32, .str], []⟩
noncomputable def mm29 (ds : List Dat) (K : AV → AH → Prop) : Prop := m29 ((dat ds 0).toInt) ((dat ds 1).toStr) (fun rb => K (.c (.bool rb)) ⟨[], []⟩)
theorem t29 (ds : List Dat) (K : AV → AH → Prop) : callA Tryd.prog tys G02 1000 29 (F29.fr ds) (F29.hp ds) (fun v h' => endK Tryd.prog [] .keep (F29.hp ds) (F29.fr ds) v h' K) = mm29 ds K := by kernel_rfl
noncomputable def R29 : CallT := ruleF Tryd.prog [.keep, .keep] [] F29 mm29
theorem ok29 : CallOK Tryd.prog 29 R29 := ruleF_ok sG02 t29
noncomputable def cs29 : List (FuncId × CallT) := (29, R29) :: calls2
theorem cs29_ok : CallsOK Tryd.prog cs29 := .cons ok29 calls2_ok
noncomputable def GG29 : Rules := mkG [] cs29 ls0
theorem sGG29 : Sound Tryd.prog tys GG29 := mk_sound mixed tysOK names (by kernel_rfl) cs29_ok ls0_ok
noncomputable def m53 (s : Int) (s2 : Bool) (r : Int) (K : Int → Bool → Prop) : Prop :=
    br (s2) (K s false) (
     br (decide (r = (92 : Int))) (
      br (!decide (s = (39 : Int))) (K s true) (
       br (decide (s = (0 : Int))) (
        br (decide (r = (39 : Int))) (K r s2) (
         br (decide (r = (34 : Int))) (K r s2) (
          br (decide (r = (96 : Int))) (K r s2) (
           br (!decide (s = (0 : Int))) (
            br (decide (r = s)) (K (0 : Int) s2) (K s s2)) (K s s2))))) (
        br (!decide (s = (0 : Int))) (
         br (decide (r = s)) (K (0 : Int) s2) (K s s2)) (K s s2)))) (
      br (decide (s = (0 : Int))) (
       br (decide (r = (39 : Int))) (K r s2) (
        br (decide (r = (34 : Int))) (K r s2) (
         br (decide (r = (96 : Int))) (K r s2) (
          br (!decide (s = (0 : Int))) (
           br (decide (r = s)) (K (0 : Int) s2) (K s s2)) (K s s2))))) (
       br (!decide (s = (0 : Int))) (
        br (decide (r = s)) (K (0 : Int) s2) (K s s2)) (K s s2))))
def F53 : AM.Form := ⟨[.agg [.int .i32, .bool], .int .i32], []⟩
noncomputable def mm53 (ds : List Dat) (K : AV → AH → Prop) : Prop := m53 ((dat ds 0).toInt) ((dat ds 1).toBool) ((dat ds 2).toInt) (fun rn rb => K (.agg [.c (.int .i32 rn), .c (.bool rb)]) ⟨[], []⟩)
theorem t53 (ds : List Dat) (K : AV → AH → Prop) : callA Tryd.prog tys GG29 1000 53 (F53.fr ds) (F53.hp ds) (fun v h' => endK Tryd.prog [] .keep (F53.hp ds) (F53.fr ds) v h' K) = mm53 ds K := by kernel_rfl
noncomputable def R53 : CallT := ruleF Tryd.prog [(.agg [.keep, .keep]), .keep] [] F53 mm53
theorem ok53 : CallOK Tryd.prog 53 R53 := ruleF_ok sGG29 t53
noncomputable def cs53 : List (FuncId × CallT) := (53, R53) :: cs29
theorem cs53_ok : CallsOK Tryd.prog cs53 := .cons ok53 cs29_ok
noncomputable def GG53 : Rules := mkG [] cs53 ls0
theorem sGG53 : Sound Tryd.prog tys GG53 := mk_sound mixed tysOK names (by kernel_rfl) cs53_ok ls0_ok
noncomputable def m54 (quote : Int) (word : List Dat) (at' : Int) (K : Bool → Prop) : Prop :=
    br (decide ((↑(List.length word) : Int) ≤ at')) (K true) (
     req (decide ((0 : Int) ≤ at') && decide (at' < (↑(List.length word) : Int))) (
     req (decide (Int.toNat at' < List.length word)) (
     br (decide (quote = (96 : Int))) (
      br (decide (Dat.toInt (List.getD word (Int.toNat at') default) = (92 : Int))) (K true) (K (decide (Dat.toInt (List.getD word (Int.toNat at') default) = (96 : Int))))) (
      br (decide (Dat.toInt (List.getD word (Int.toNat at') default) = (92 : Int))) (K true) (
       br (decide (Dat.toInt (List.getD word (Int.toNat at') default) = (34 : Int))) (K true) (
        br (decide (Dat.toInt (List.getD word (Int.toNat at') default) = (36 : Int))) (K true) (K (decide (Dat.toInt (List.getD word (Int.toNat at') default) = (96 : Int))))))))))
def F54 : AM.Form := ⟨[.int .i32, .ro (.int .i32), .int .i64], []⟩
noncomputable def mm54 (ds : List Dat) (K : AV → AH → Prop) : Prop := m54 ((dat ds 0).toInt) ((dat ds 1).toList) ((dat ds 2).toInt) (fun rb => K (.c (.bool rb)) ⟨[], []⟩)
theorem t54 (ds : List Dat) (K : AV → AH → Prop) : callA Tryd.prog tys GG53 1000 54 (F54.fr ds) (F54.hp ds) (fun v h' => endK Tryd.prog [] .keep (F54.hp ds) (F54.fr ds) v h' K) = mm54 ds K := by kernel_rfl
noncomputable def R54 : CallT := ruleF Tryd.prog [.keep, (.ro (.int .i32)), .keep] [] F54 mm54
theorem ok54 : CallOK Tryd.prog 54 R54 := ruleF_ok sGG53 t54
noncomputable def cs54 : List (FuncId × CallT) := (54, R54) :: cs53
theorem cs54_ok : CallsOK Tryd.prog cs54 := .cons ok54 cs53_ok
noncomputable def GG54 : Rules := mkG [] cs54 ls0
theorem sGG54 : Sound Tryd.prog tys GG54 := mk_sound mixed tysOK names (by kernel_rfl) cs54_ok ls0_ok
structure C95 where
  quote : Int
  back : Bool
noncomputable def l30_4 : Nat → C95 → List Dat → List Dat → List Dat → Int → Int → (C95 → List Dat → Prop) → Prop
  | 0, _, _, _, _, _, _, _ => False
  | fu + 1, c, l, word, xs, n, n2, E0 =>
    br (decide (n2 < n)) (
     req (decide ((0 : Int) ≤ n2) && decide (n2 < (↑(List.length xs) : Int))) (
     req (decide (Int.toNat n2 < List.length xs)) (
     m53 (C95.quote c) (C95.back c) (Dat.toInt (List.getD xs (Int.toNat n2) default)) (fun y0 y1 => 
      br (C95.back c) (
       req (appOK l (0 : Nat) (List.length l) (1 : Nat) (4 : Nat)) (
       req (inR IntKind.i64 (n2 + (1 : Int))) (((List.length (dapp l (0 : Nat) (List.length l) [Dat.int (Dat.toInt (List.getD xs (Int.toNat n2) default))])) = List.length (dapp l (0 : Nat) (List.length l) [Dat.int (Dat.toInt (List.getD xs (Int.toNat n2) default))]) ∧ l30_4 fu ({ quote := y0, back := y1 } : C95) (dapp l (0 : Nat) (List.length l) [Dat.int (Dat.toInt (List.getD xs (Int.toNat n2) default))]) word xs n (n2 + (1 : Int)) E0)))) (
       br (y1) (
        br (!decide (C95.quote c = (0 : Int))) (
         req (inR IntKind.i64 (n2 + (1 : Int))) (
         m54 (C95.quote c) word (n2 + (1 : Int)) (fun y2 => 
          br (!y2) (
           req (appOK l (0 : Nat) (List.length l) (1 : Nat) (4 : Nat)) (
           req (inR IntKind.i64 (n2 + (1 : Int))) (((List.length (dapp l (0 : Nat) (List.length l) [Dat.int (Dat.toInt (List.getD xs (Int.toNat n2) default))])) = List.length (dapp l (0 : Nat) (List.length l) [Dat.int (Dat.toInt (List.getD xs (Int.toNat n2) default))]) ∧ l30_4 fu ({ quote := y0, back := y1 } : C95) (dapp l (0 : Nat) (List.length l) [Dat.int (Dat.toInt (List.getD xs (Int.toNat n2) default))]) word xs n (n2 + (1 : Int)) E0)))) (
           req (inR IntKind.i64 (n2 + (1 : Int))) (((List.length l) = List.length l ∧ l30_4 fu ({ quote := y0, back := y1 } : C95) l word xs n (n2 + (1 : Int)) E0)))))) (
         req (inR IntKind.i64 (n2 + (1 : Int))) (((List.length l) = List.length l ∧ l30_4 fu ({ quote := y0, back := y1 } : C95) l word xs n (n2 + (1 : Int)) E0)))) (
        br (!decide (y0 = C95.quote c)) (
         req (inR IntKind.i64 (n2 + (1 : Int))) (((List.length l) = List.length l ∧ l30_4 fu ({ quote := y0, back := y1 } : C95) l word xs n (n2 + (1 : Int)) E0))) (
         req (appOK l (0 : Nat) (List.length l) (1 : Nat) (4 : Nat)) (
         req (inR IntKind.i64 (n2 + (1 : Int))) (((List.length (dapp l (0 : Nat) (List.length l) [Dat.int (Dat.toInt (List.getD xs (Int.toNat n2) default))])) = List.length (dapp l (0 : Nat) (List.length l) [Dat.int (Dat.toInt (List.getD xs (Int.toNat n2) default))]) ∧ l30_4 fu ({ quote := y0, back := y1 } : C95) (dapp l (0 : Nat) (List.length l) [Dat.int (Dat.toInt (List.getD xs (Int.toNat n2) default))]) word xs n (n2 + (1 : Int)) E0)))))))))) (E0 c l)
def F30_4 : AM.Form := ⟨mkF 57 [(0, .ro (.int .i32)), (3, .sl 0), (4, .p 1 0), (8, .ro (.int .i32)), (9, .int .i64), (10, .int .i64)], [.seq 21 (.int .i32), .cells 95 [.int .i32, .bool]]⟩
noncomputable def mm30_4 (n : Nat) (ds : List Dat) (Q : AExit → List AV → AH → Prop) : Prop := l30_4 n ⟨(dat ds 5).toInt, (dat ds 6).toBool⟩ ((dat ds 4).toList) ((dat ds 0).toList) ((dat ds 1).toList) ((dat ds 2).toInt) ((dat ds 3).toInt) (fun rc rl => Q (AExit.exit 0) (mkAV 57 [(3, .sl 0 0 rl.length), (4, .p 1 0)]) ⟨[.seq 21 (.int .i32) rl, .cells 95 [.c (.int .i32 rc.quote), .c (.bool rc.back)]], []⟩)
theorem t30_4 (n : Nat) (ds : List Dat) (Q : AExit → List AV → AH → Prop) : wpA Tryd.prog tys GG54 1000 30 (theLoop Tryd.prog 30 4) (fun e f' h' => endF0 Tryd.prog ((fun _ => []) e) ((fun e => match e with | .normal => ⟨[0, 3, 4, 8, 9, 10], []⟩ | .exit 0 => ⟨[3, 4], []⟩ | _ => ⟨[], []⟩) e) ((fun e => match e with | .normal => [(3, .row 21 (.int .i32))] | .exit 0 => [(3, .row 21 (.int .i32))] | _ => []) e) (F30_4.hp ds) f' h' fun f2 h2 => match e with
      | .normal => locL F30_4 (mm30_4 n) f2 h2 Q
      | e => Q e f2 h2) (F30_4.fr ds) (F30_4.hp ds) = mm30_4 (n + 1) ds Q := by kernel_rfl
noncomputable def R30_4 : LoopT := headF0 Tryd.prog [] ⟨[0, 3, 4, 8, 9, 10], []⟩ [(3, .row 21 (.int .i32))] fun f h Q => ∃ n, locL F30_4 (mm30_4 n) f h Q
theorem ok30_4 : LoopOK Tryd.prog (theLoop Tryd.prog 30 4) R30_4 := ruleL0_ok sGG54 (by kernel_rfl) mm30_4 (fun _ _ => rfl) t30_4
noncomputable def ls30_4 : List (FuncId × Nat × LoopT) := (30, 4, R30_4) :: ls0
theorem ls30_4_ok : LoopsOK Tryd.prog ls30_4 := .cons (by kernel_rfl) ok30_4 ls0_ok
noncomputable def GG30_4 : Rules := mkG [] cs54 ls30_4
theorem sGG30_4 : Sound Tryd.prog tys GG30_4 := mk_sound mixed tysOK names (by kernel_rfl) cs54_ok ls30_4_ok
noncomputable def m30 (word : List Dat) (K : List Dat → Prop) : Prop :=
    (∃ y0, 
    (((0 : Nat) = (0 : Nat)) ∧ 
    l30_4 y0 { quote := (0 : Int), back := false } [] word word (↑(List.length word) : Int) (0 : Int) (fun y1 y2 => K y2)))
def F30 : AM.Form := ⟨[.ro (.int .i32)], []⟩
noncomputable def mm30 (ds : List Dat) (K : AV → AH → Prop) : Prop := m30 ((dat ds 0).toList) (fun rl => K (.sl 0 0 rl.length) ⟨[.seq 21 (.int .i32) rl], []⟩)
theorem t30 (ds : List Dat) (K : AV → AH → Prop) : callA Tryd.prog tys GG30_4 1000 30 (F30.fr ds) (F30.hp ds) (fun v h' => endK Tryd.prog [] .keep (F30.hp ds) (F30.fr ds) v h' K) = mm30 ds K := by kernel_rfl
noncomputable def R30 : CallT := ruleF Tryd.prog [(.ro (.int .i32))] [] F30 mm30
theorem ok30 : CallOK Tryd.prog 30 R30 := ruleF_ok sGG30_4 t30
noncomputable def cs30 : List (FuncId × CallT) := (30, R30) :: cs54
theorem cs30_ok : CallsOK Tryd.prog cs30 := .cons ok30 cs54_ok
noncomputable def GG30 : Rules := mkG [] cs30 ls30_4
theorem sGG30 : Sound Tryd.prog tys GG30 := mk_sound mixed tysOK names (by kernel_rfl) cs30_ok ls30_4_ok
noncomputable def m31 (s : List Dat) (K : List Dat → Prop) : Prop :=
    br (decide (List.length s = (0 : Nat))) (
     ((K []) ∧ (
      req (appOK [] (0 : Nat) (0 : Nat) (List.length s) (4 : Nat)) (K (dapp [] (0 : Nat) (0 : Nat) s))))) (
     req (appOK [] (0 : Nat) (0 : Nat) (List.length s) (4 : Nat)) (K (dapp [] (0 : Nat) (0 : Nat) s)))
def F31 : AM.Form := ⟨[.ro (.int .i32)], []⟩
noncomputable def mm31 (ds : List Dat) (K : AV → AH → Prop) : Prop := m31 ((dat ds 0).toList) (fun rl => K (.sl 0 0 rl.length) ⟨[.seq 21 (.int .i32) rl], []⟩)
theorem t31 (ds : List Dat) (K : AV → AH → Prop) : callA Tryd.prog tys GG30 1000 31 (F31.fr ds) (F31.hp ds) (fun v h' => endK Tryd.prog [] (.row 21 (.int .i32)) (F31.hp ds) (F31.fr ds) v h' K) = mm31 ds K := by kernel_rfl
noncomputable def R31 : CallT := ruleF Tryd.prog [(.ro (.int .i32))] [] F31 mm31
theorem ok31 : CallOK Tryd.prog 31 R31 := ruleF_ok sGG30 t31
noncomputable def cs31 : List (FuncId × CallT) := (31, R31) :: cs30
theorem cs31_ok : CallsOK Tryd.prog cs31 := .cons ok31 cs30_ok
noncomputable def GG31 : Rules := mkG [] cs31 ls30_4
theorem sGG31 : Sound Tryd.prog tys GG31 := mk_sound mixed tysOK names (by kernel_rfl) cs31_ok ls30_4_ok
structure C26 where
  from_ : Int
  quote : Int
  text : List Dat
noncomputable def l9_4 : Nat → C26 → List Dat → Int → Int → Int → (C26 → List Dat → Int → Int → Prop) → Prop
  | 0, _, _, _, _, _, _ => False
  | fu + 1, c, head, from', quote, i, E0 =>
    br (decide (i < (↑(List.length head) : Int))) (
     req (decide ((0 : Int) ≤ i) && decide (i < (↑(List.length head) : Int))) (
     req (decide (Int.toNat i < List.length head)) (
     br (decide (quote = (34 : Int))) (
      br (decide (Dat.toInt (List.getD head (Int.toNat i) default) = (92 : Int))) (
       req (inR IntKind.i64 (i + (1 : Int))) (
       req (inR IntKind.i64 (i + (1 : Int) + (1 : Int))) (((List.length (C26.text c)) = List.length (C26.text c) ∧ l9_4 fu c head from' quote (i + (1 : Int) + (1 : Int)) E0)))) (
       br (decide (Dat.toInt (List.getD head (Int.toNat i) default) = quote)) (
        req (inR IntKind.i64 (i + (1 : Int))) (((List.length (C26.text c)) = List.length (C26.text c) ∧ l9_4 fu c head from' (0 : Int) (i + (1 : Int)) E0))) (
        req (inR IntKind.i64 (i + (1 : Int))) (((List.length (C26.text c)) = List.length (C26.text c) ∧ l9_4 fu c head from' quote (i + (1 : Int)) E0))))) (
      br (decide (quote = (39 : Int))) (
       br (decide (Dat.toInt (List.getD head (Int.toNat i) default) = quote)) (
        req (inR IntKind.i64 (i + (1 : Int))) (((List.length (C26.text c)) = List.length (C26.text c) ∧ l9_4 fu c head from' (0 : Int) (i + (1 : Int)) E0))) (
        req (inR IntKind.i64 (i + (1 : Int))) (((List.length (C26.text c)) = List.length (C26.text c) ∧ l9_4 fu c head from' quote (i + (1 : Int)) E0)))) (
       br (decide (Dat.toInt (List.getD head (Int.toNat i) default) = (92 : Int))) (
        req (inR IntKind.i64 (i + (1 : Int))) (
        req (inR IntKind.i64 (i + (1 : Int) + (1 : Int))) (((List.length (C26.text c)) = List.length (C26.text c) ∧ l9_4 fu c head from' quote (i + (1 : Int) + (1 : Int)) E0)))) (
        br (decide (Dat.toInt (List.getD head (Int.toNat i) default) = (39 : Int))) (
         req (inR IntKind.i64 (i + (1 : Int))) (
         req (inR IntKind.i64 (i + (1 : Int))) (((List.length (C26.text c)) = List.length (C26.text c) ∧ l9_4 fu c head (i + (1 : Int)) (Dat.toInt (List.getD head (Int.toNat i) default)) (i + (1 : Int)) E0)))) (
         br (decide (Dat.toInt (List.getD head (Int.toNat i) default) = (34 : Int))) (
          req (inR IntKind.i64 (i + (1 : Int))) (
          req (inR IntKind.i64 (i + (1 : Int))) (((List.length (C26.text c)) = List.length (C26.text c) ∧ l9_4 fu c head (i + (1 : Int)) (Dat.toInt (List.getD head (Int.toNat i) default)) (i + (1 : Int)) E0)))) (
          m29 (Dat.toInt (List.getD head (Int.toNat i) default)) { data := #[(32 : UInt8), (9 : UInt8), (10 : UInt8), (62 : UInt8), (60 : UInt8), (61 : UInt8), (59 : UInt8), (124 : UInt8), (38 : UInt8), (123 : UInt8), (40 : UInt8), (64 : UInt8), (36 : UInt8), (96 : UInt8)] } (fun y0 => 
           br (y0) (
            req (inR IntKind.i64 (i + (1 : Int))) (
            req (inR IntKind.i64 (i + (1 : Int))) (((List.length (C26.text c)) = List.length (C26.text c) ∧ l9_4 fu c head (i + (1 : Int)) quote (i + (1 : Int)) E0)))) (
            req (inR IntKind.i64 (i + (1 : Int))) (((List.length (C26.text c)) = List.length (C26.text c) ∧ l9_4 fu c head from' quote (i + (1 : Int)) E0)))))))))))) (E0 c head from' quote)
def F9_4 : AM.Form := ⟨mkF 117 [(4, .p 0 0), (5, .ro (.int .i32)), (6, .int .i64), (7, .int .i32), (8, .int .i64)], [.cells 26 [.int .i64, .int .i32, .sl 1], .seq 21 (.int .i32)]⟩
noncomputable def mm9_4 (n : Nat) (ds : List Dat) (Q : AExit → List AV → AH → Prop) : Prop := l9_4 n ⟨(dat ds 4).toInt, (dat ds 5).toInt, (dat ds 6).toList⟩ ((dat ds 0).toList) ((dat ds 1).toInt) ((dat ds 2).toInt) ((dat ds 3).toInt) (fun rc rxs rn rn2 => Q (AExit.exit 0) (mkAV 117 [(4, .p 0 0), (5, .ro (.int .i32) rxs), (6, .c (.int .i64 rn)), (7, .c (.int .i32 rn2))]) ⟨[.cells 26 [.c (.int .i64 rc.from_), .c (.int .i32 rc.quote), .sl 1 0 rc.text.length], .seq 21 (.int .i32) rc.text], []⟩)
theorem t9_4 (n : Nat) (ds : List Dat) (Q : AExit → List AV → AH → Prop) : wpA Tryd.prog tys GG31 1000 9 (theLoop Tryd.prog 9 4) (fun e f' h' => endF Tryd.prog ((fun _ => []) e) ((fun e => match e with | .normal => ⟨[4, 5, 6, 7, 8], []⟩ | .exit 0 => ⟨[4, 5, 6, 7], []⟩ | _ => ⟨[], []⟩) e) ((fun e => match e with | .normal => [] | .exit 0 => [] | _ => []) e) (F9_4.hp ds) f' h' fun f2 h2 => match e with
      | .normal => locL F9_4 (mm9_4 n) f2 h2 Q
      | e => Q e f2 h2) (F9_4.fr ds) (F9_4.hp ds) = mm9_4 (n + 1) ds Q := by kernel_rfl
noncomputable def R9_4 : LoopT := headF Tryd.prog [] ⟨[4, 5, 6, 7, 8], []⟩ [] fun f h Q => ∃ n, locL F9_4 (mm9_4 n) f h Q
theorem ok9_4 : LoopOK Tryd.prog (theLoop Tryd.prog 9 4) R9_4 := ruleL_ok sGG31 (by kernel_rfl) mm9_4 (fun _ _ => rfl) t9_4
noncomputable def ls9_4 : List (FuncId × Nat × LoopT) := (9, 4, R9_4) :: ls30_4
theorem ls9_4_ok : LoopsOK Tryd.prog ls9_4 := .cons (by kernel_rfl) ok9_4 ls30_4_ok
noncomputable def GG9_4 : Rules := mkG [] cs31 ls9_4
theorem sGG9_4 : Sound Tryd.prog tys GG9_4 := mk_sound mixed tysOK names (by kernel_rfl) cs31_ok ls9_4_ok
noncomputable def l9_24 : Nat → C26 → C26 → List Dat → Int → (C26 → C26 → Prop) → Prop
  | 0, _, _, _, _, _ => False
  | fu + 1, c, c2, word, i, E8 =>
    br (decide (i < (↑(List.length word) : Int))) (
     req (decide ((0 : Int) ≤ i) && decide (i < (↑(List.length word) : Int))) (
     req (decide (Int.toNat i < List.length word)) (
     br (decide (Dat.toInt (List.getD word (Int.toNat i) default) = (92 : Int))) (
      req (inR IntKind.i64 (i + (1 : Int))) (
      br (decide (i + (1 : Int) < (↑(List.length word) : Int))) (
       req (inR IntKind.i64 (i + (1 : Int))) (
       req (decide ((0 : Int) ≤ i + (1 : Int)) && decide (i + (1 : Int) < (↑(List.length word) : Int))) (
       req (decide (Int.toNat (i + (1 : Int)) < List.length word)) (
       m29 (Dat.toInt (List.getD word (Int.toNat (i + (1 : Int))) default)) { data := #[(92 : UInt8), (34 : UInt8), (36 : UInt8), (96 : UInt8)] } (fun y0 => 
        br (y0) (
         req (inR IntKind.i64 (i + (1 : Int))) (
         req (decide ((0 : Int) ≤ i + (1 : Int)) && decide (i + (1 : Int) < (↑(List.length word) : Int))) (
         req (decide (Int.toNat (i + (1 : Int)) < List.length word)) (
         ((
          req (appOK (C26.text c2) (0 : Nat) (List.length (C26.text c2)) (1 : Nat) (4 : Nat)) (
          req (inR IntKind.i64 (i + (1 : Int) + (1 : Int))) (((List.length (C26.text c)) = List.length (C26.text c) ∧ ((List.length (dapp (C26.text c2) (0 : Nat) (List.length (C26.text c2)) [Dat.int (Dat.toInt (List.getD word (Int.toNat (i + (1 : Int))) default))])) = List.length (dapp (C26.text c2) (0 : Nat) (List.length (C26.text c2)) [Dat.int (Dat.toInt (List.getD word (Int.toNat (i + (1 : Int))) default))]) ∧ l9_24 fu c { c2 with text := dapp (C26.text c2) (0 : Nat) (List.length (C26.text c2)) [Dat.int (Dat.toInt (List.getD word (Int.toNat (i + (1 : Int))) default))] } word (i + (1 : Int) + (1 : Int)) E8))))) ∧ (
          ((
           req (appOK (C26.text c2) (0 : Nat) (List.length (C26.text c2)) (1 : Nat) (4 : Nat)) (
           req (inR IntKind.i64 (i + (1 : Int) + (1 : Int))) (((List.length (C26.text c)) = List.length (C26.text c) ∧ ((List.length (dapp (C26.text c2) (0 : Nat) (List.length (C26.text c2)) [Dat.int (Dat.toInt (List.getD word (Int.toNat (i + (1 : Int))) default))])) = List.length (dapp (C26.text c2) (0 : Nat) (List.length (C26.text c2)) [Dat.int (Dat.toInt (List.getD word (Int.toNat (i + (1 : Int))) default))]) ∧ l9_24 fu c { c2 with text := dapp (C26.text c2) (0 : Nat) (List.length (C26.text c2)) [Dat.int (Dat.toInt (List.getD word (Int.toNat (i + (1 : Int))) default))] } word (i + (1 : Int) + (1 : Int)) E8))))) ∧ (True)))))))) (
         req (decide ((0 : Int) ≤ i) && decide (i < (↑(List.length word) : Int))) (
         req (decide (Int.toNat i < List.length word)) (
         ((
          req (appOK (C26.text c2) (0 : Nat) (List.length (C26.text c2)) (1 : Nat) (4 : Nat)) (
          req (inR IntKind.i64 (i + (1 : Int))) (((List.length (C26.text c)) = List.length (C26.text c) ∧ ((List.length (dapp (C26.text c2) (0 : Nat) (List.length (C26.text c2)) [Dat.int (Dat.toInt (List.getD word (Int.toNat i) default))])) = List.length (dapp (C26.text c2) (0 : Nat) (List.length (C26.text c2)) [Dat.int (Dat.toInt (List.getD word (Int.toNat i) default))]) ∧ l9_24 fu c { c2 with text := dapp (C26.text c2) (0 : Nat) (List.length (C26.text c2)) [Dat.int (Dat.toInt (List.getD word (Int.toNat i) default))] } word (i + (1 : Int)) E8))))) ∧ (
          ((
           req (appOK (C26.text c2) (0 : Nat) (List.length (C26.text c2)) (1 : Nat) (4 : Nat)) (
           req (inR IntKind.i64 (i + (1 : Int))) (((List.length (C26.text c)) = List.length (C26.text c) ∧ ((List.length (dapp (C26.text c2) (0 : Nat) (List.length (C26.text c2)) [Dat.int (Dat.toInt (List.getD word (Int.toNat i) default))])) = List.length (dapp (C26.text c2) (0 : Nat) (List.length (C26.text c2)) [Dat.int (Dat.toInt (List.getD word (Int.toNat i) default))]) ∧ l9_24 fu c { c2 with text := dapp (C26.text c2) (0 : Nat) (List.length (C26.text c2)) [Dat.int (Dat.toInt (List.getD word (Int.toNat i) default))] } word (i + (1 : Int)) E8))))) ∧ (True)))))))))))) (
       req (decide ((0 : Int) ≤ i) && decide (i < (↑(List.length word) : Int))) (
       req (decide (Int.toNat i < List.length word)) (
       ((
        req (appOK (C26.text c2) (0 : Nat) (List.length (C26.text c2)) (1 : Nat) (4 : Nat)) (
        req (inR IntKind.i64 (i + (1 : Int))) (((List.length (C26.text c)) = List.length (C26.text c) ∧ ((List.length (dapp (C26.text c2) (0 : Nat) (List.length (C26.text c2)) [Dat.int (Dat.toInt (List.getD word (Int.toNat i) default))])) = List.length (dapp (C26.text c2) (0 : Nat) (List.length (C26.text c2)) [Dat.int (Dat.toInt (List.getD word (Int.toNat i) default))]) ∧ l9_24 fu c { c2 with text := dapp (C26.text c2) (0 : Nat) (List.length (C26.text c2)) [Dat.int (Dat.toInt (List.getD word (Int.toNat i) default))] } word (i + (1 : Int)) E8))))) ∧ (
        ((
         req (appOK (C26.text c2) (0 : Nat) (List.length (C26.text c2)) (1 : Nat) (4 : Nat)) (
         req (inR IntKind.i64 (i + (1 : Int))) (((List.length (C26.text c)) = List.length (C26.text c) ∧ ((List.length (dapp (C26.text c2) (0 : Nat) (List.length (C26.text c2)) [Dat.int (Dat.toInt (List.getD word (Int.toNat i) default))])) = List.length (dapp (C26.text c2) (0 : Nat) (List.length (C26.text c2)) [Dat.int (Dat.toInt (List.getD word (Int.toNat i) default))]) ∧ l9_24 fu c { c2 with text := dapp (C26.text c2) (0 : Nat) (List.length (C26.text c2)) [Dat.int (Dat.toInt (List.getD word (Int.toNat i) default))] } word (i + (1 : Int)) E8))))) ∧ (True))))))))) (
      req (decide ((0 : Int) ≤ i) && decide (i < (↑(List.length word) : Int))) (
      req (decide (Int.toNat i < List.length word)) (
      ((
       req (appOK (C26.text c2) (0 : Nat) (List.length (C26.text c2)) (1 : Nat) (4 : Nat)) (
       req (inR IntKind.i64 (i + (1 : Int))) (((List.length (C26.text c)) = List.length (C26.text c) ∧ ((List.length (dapp (C26.text c2) (0 : Nat) (List.length (C26.text c2)) [Dat.int (Dat.toInt (List.getD word (Int.toNat i) default))])) = List.length (dapp (C26.text c2) (0 : Nat) (List.length (C26.text c2)) [Dat.int (Dat.toInt (List.getD word (Int.toNat i) default))]) ∧ l9_24 fu c { c2 with text := dapp (C26.text c2) (0 : Nat) (List.length (C26.text c2)) [Dat.int (Dat.toInt (List.getD word (Int.toNat i) default))] } word (i + (1 : Int)) E8))))) ∧ (
       ((
        req (appOK (C26.text c2) (0 : Nat) (List.length (C26.text c2)) (1 : Nat) (4 : Nat)) (
        req (inR IntKind.i64 (i + (1 : Int))) (((List.length (C26.text c)) = List.length (C26.text c) ∧ ((List.length (dapp (C26.text c2) (0 : Nat) (List.length (C26.text c2)) [Dat.int (Dat.toInt (List.getD word (Int.toNat i) default))])) = List.length (dapp (C26.text c2) (0 : Nat) (List.length (C26.text c2)) [Dat.int (Dat.toInt (List.getD word (Int.toNat i) default))]) ∧ l9_24 fu c { c2 with text := dapp (C26.text c2) (0 : Nat) (List.length (C26.text c2)) [Dat.int (Dat.toInt (List.getD word (Int.toNat i) default))] } word (i + (1 : Int)) E8))))) ∧ (True)))))))))) (E8 c c2)
def F9_24 : AM.Form := ⟨mkF 117 [(4, .p 0 0), (10, .p 2 0), (11, .ro (.int .i32)), (12, .int .i64)], [.cells 26 [.int .i64, .int .i32, .sl 1], .seq 21 (.int .i32), .cells 26 [.int .i64, .int .i32, .sl 3], .seq 21 (.int .i32)]⟩
noncomputable def mm9_24 (n : Nat) (ds : List Dat) (Q : AExit → List AV → AH → Prop) : Prop := l9_24 n ⟨(dat ds 2).toInt, (dat ds 3).toInt, (dat ds 4).toList⟩ ⟨(dat ds 5).toInt, (dat ds 6).toInt, (dat ds 7).toList⟩ ((dat ds 0).toList) ((dat ds 1).toInt) (fun rc rc2 => Q (AExit.exit 8) (mkAV 117 [(4, .p 0 0), (10, .p 2 0)]) ⟨[.cells 26 [.c (.int .i64 rc.from_), .c (.int .i32 rc.quote), .sl 1 0 rc.text.length], .seq 21 (.int .i32) rc.text, .cells 26 [.c (.int .i64 rc2.from_), .c (.int .i32 rc2.quote), .sl 3 0 rc2.text.length], .seq 21 (.int .i32) rc2.text], []⟩)
theorem t9_24 (n : Nat) (ds : List Dat) (Q : AExit → List AV → AH → Prop) : wpA Tryd.prog tys GG9_4 1000 9 (theLoop Tryd.prog 9 24) (fun e f' h' => endF Tryd.prog ((fun _ => []) e) ((fun e => match e with | .normal => ⟨[4, 10, 11, 12], []⟩ | .exit 8 => ⟨[4, 10], []⟩ | _ => ⟨[], []⟩) e) ((fun e => match e with | .normal => [] | .exit 8 => [] | _ => []) e) (F9_24.hp ds) f' h' fun f2 h2 => match e with
      | .normal => locL F9_24 (mm9_24 n) f2 h2 Q
      | e => Q e f2 h2) (F9_24.fr ds) (F9_24.hp ds) = mm9_24 (n + 1) ds Q := by kernel_rfl
noncomputable def R9_24 : LoopT := headF Tryd.prog [] ⟨[4, 10, 11, 12], []⟩ [] fun f h Q => ∃ n, locL F9_24 (mm9_24 n) f h Q
theorem ok9_24 : LoopOK Tryd.prog (theLoop Tryd.prog 9 24) R9_24 := ruleL_ok sGG9_4 (by kernel_rfl) mm9_24 (fun _ _ => rfl) t9_24
noncomputable def ls9_24 : List (FuncId × Nat × LoopT) := (9, 24, R9_24) :: ls9_4
theorem ls9_24_ok : LoopsOK Tryd.prog ls9_24 := .cons (by kernel_rfl) ok9_24 ls9_4_ok
noncomputable def GG9_24 : Rules := mkG [] cs31 ls9_24
theorem sGG9_24 : Sound Tryd.prog tys GG9_24 := mk_sound mixed tysOK names (by kernel_rfl) cs31_ok ls9_24_ok
noncomputable def m9 (line : List Dat) (point : Int) (K : List Dat → Int → Int → Prop) : Prop :=
    req (decide ((0 : Int) ≤ (0 : Int)) && decide ((0 : Int) ≤ if false = true then max (if true = true then max point (0 : Int) else min point (0 : Int)) (↑(List.length line) : Int) else min (if true = true then max point (0 : Int) else min point (0 : Int)) (↑(List.length line) : Int)) && decide ((if false = true then max (if true = true then max point (0 : Int) else min point (0 : Int)) (↑(List.length line) : Int) else min (if true = true then max point (0 : Int) else min point (0 : Int)) (↑(List.length line) : Int)) ≤ (↑(List.length line) : Int))) (
    (∃ y0, 
    (((0 : Nat) = (0 : Nat)) ∧ 
    l9_4 y0 { from_ := (0 : Int), quote := (0 : Int), text := [] } (List.take (Int.toNat (if false = true then max (if true = true then max point (0 : Int) else min point (0 : Int)) (↑(List.length line) : Int) else min (if true = true then max point (0 : Int) else min point (0 : Int)) (↑(List.length line) : Int)) - (0 : Nat)) line) (0 : Int) (0 : Int) (0 : Int) (fun y1 y2 y3 y4 => 
     req (decide ((0 : Int) ≤ y3) && decide (y3 ≤ (↑(List.length y2) : Int)) && decide ((↑(List.length y2) : Int) ≤ (↑(List.length y2) : Int))) (
     br (decide (y4 = (0 : Int))) (
      m30 (List.take (List.length y2 - Int.toNat y3) (List.drop (Int.toNat y3) y2)) (fun y5 => K y5 y3 y4)) (
      br (decide (y4 = (39 : Int))) (
       m31 (List.take (List.length y2 - Int.toNat y3) (List.drop (Int.toNat y3) y2)) (fun y6 => K y6 y3 y4)) (
       (∃ y7, 
       ((List.length (C26.text y1) = List.length (C26.text y1)) ∧ 
       (((0 : Nat) = (0 : Nat)) ∧ 
       l9_24 y7 { from_ := C26.from_ y1, quote := C26.quote y1, text := C26.text y1 } { from_ := y3, quote := y4, text := [] } (List.take (List.length y2 - Int.toNat y3) (List.drop (Int.toNat y3) y2)) (0 : Int) (fun y8 y9 => K (C26.text y9) (C26.from_ y9) (C26.quote y9))))))))))))
def F9 : AM.Form := ⟨[.ro (.int .i32), .int .i64], []⟩
noncomputable def mm9 (ds : List Dat) (K : AV → AH → Prop) : Prop := m9 ((dat ds 0).toList) ((dat ds 1).toInt) (fun rl rn rn2 => K (.agg [.c (.int .i64 rn), .c (.int .i32 rn2), .sl 0 0 rl.length]) ⟨[.seq 21 (.int .i32) rl], []⟩)
theorem t9 (ds : List Dat) (K : AV → AH → Prop) : callA Tryd.prog tys GG9_24 1000 9 (F9.fr ds) (F9.hp ds) (fun v h' => endK Tryd.prog [] .keep (F9.hp ds) (F9.fr ds) v h' K) = mm9 ds K := by kernel_rfl
noncomputable def R9 : CallT := ruleF Tryd.prog [(.ro (.int .i32)), .keep] [] F9 mm9
theorem ok9 : CallOK Tryd.prog 9 R9 := ruleF_ok sGG9_24 t9
noncomputable def cs9 : List (FuncId × CallT) := (9, R9) :: cs31
theorem cs9_ok : CallsOK Tryd.prog cs9 := .cons ok9 cs31_ok
noncomputable def GG9 : Rules := mkG [] cs9 ls9_24
theorem sGG9 : Sound Tryd.prog tys GG9 := mk_sound mixed tysOK names (by kernel_rfl) cs9_ok ls9_24_ok
end Go.Proofs.YtbhehldefflhpaaDoor
