/- Layer 21, Find: functions as definitions over their data. Printed by tools/dec.py. -/
import Derived.Test.YtbhehldefflhpaaDoorFp
set_option linter.unusedVariables false
set_option maxRecDepth 100000
namespace Go.Proofs.YtbhehldefflhpaaDoor
open Go.AM Go.LTxt Go.LMem Go.RowKit
noncomputable def l55_2 : Nat → Int → ByteArray → Int → (Prop) → (Bool → Prop) → Prop
  | 0, _, _, _, _, _ => False
  | fu + 1, c, s, i, E0, R_ =>
    br (decide (i < (↑(ByteArray.size s) : Int))) (
     req (decide ((0 : Int) ≤ i) && decide (i < (↑(ByteArray.size s) : Int))) (
     req (inR IntKind.i32 (↑(UInt8.toNat (List.getD (Array.toList (ByteArray.data s)) (Int.toNat i) (0 : UInt8))) : Int)) (
     br (decide ((↑(UInt8.toNat (List.getD (Array.toList (ByteArray.data s)) (Int.toNat i) (0 : UInt8))) : Int) = c)) (R_ true) (
      req (inR IntKind.i64 (i + (1 : Int))) (l55_2 fu c s (i + (1 : Int)) E0 R_))))) (E0)
def F55_2 : AM.Form := ⟨mkF 18 [(0, .int .i32), (1, .str), (5, .int .i64)], []⟩
noncomputable def mm55_2 (n : Nat) (ds : List Dat) (Q : AExit → List AV → AH → Prop) : Prop := l55_2 n ((dat ds 0).toInt) ((dat ds 1).toStr) ((dat ds 2).toInt) (Q (AExit.exit 0) (mkAV 18 []) ⟨[], []⟩) (fun rb => Q AExit.ret (mkAV 18 [(4, .c (.bool rb))]) ⟨[], []⟩)
theorem t55_2 (n : Nat) (ds : List Dat) (Q : AExit → List AV → AH → Prop) : wpA Tryd.prog tys G02 1000 55 (theLoop Tryd.prog 55 2) (fun e f' h' => endF Tryd.prog ((fun _ => []) e) ((fun e => match e with | .normal => ⟨[0, 1, 5], []⟩ | .exit 0 => ⟨[], []⟩ | .ret => ⟨[4], []⟩ | _ => ⟨[], []⟩) e) ((fun e => match e with | .normal => [] | .exit 0 => [] | .ret => [] | _ => []) e) (F55_2.hp ds) f' h' fun f2 h2 => match e with
      | .normal => locL F55_2 (mm55_2 n) f2 h2 Q
      | e => Q e f2 h2) (F55_2.fr ds) (F55_2.hp ds) = mm55_2 (n + 1) ds Q := by kernel_rfl
noncomputable def R55_2 : LoopT := headF Tryd.prog [] ⟨[0, 1, 5], []⟩ [] fun f h Q => ∃ n, locL F55_2 (mm55_2 n) f h Q
theorem ok55_2 : LoopOK Tryd.prog (theLoop Tryd.prog 55 2) R55_2 := ruleL_ok sG02 (by kernel_rfl) mm55_2 (fun _ _ => rfl) t55_2
noncomputable def ls55_2 : List (FuncId × Nat × LoopT) := (55, 2, R55_2) :: ls0
theorem ls55_2_ok : LoopsOK Tryd.prog ls55_2 := .cons (by kernel_rfl) ok55_2 ls0_ok
noncomputable def GG55_2 : Rules := mkG [] calls2 ls55_2
theorem sGG55_2 : Sound Tryd.prog tys GG55_2 := mk_sound mixed tysOK names (by kernel_rfl) calls2_ok ls55_2_ok
noncomputable def m55 (c : Int) (s : ByteArray) (K : Bool → Prop) : Prop :=
    (∃ y0, 
    l55_2 y0 c s (0 : Int) (K false) (fun y1 => K y1))
def F55 : AM.Form := ⟨[.int .i32, .str], []⟩
noncomputable def mm55 (ds : List Dat) (K : AV → AH → Prop) : Prop := m55 ((dat ds 0).toInt) ((dat ds 1).toStr) (fun rb => K (.c (.bool rb)) ⟨[], []⟩)
theorem t55 (ds : List Dat) (K : AV → AH → Prop) : callA Tryd.prog tys GG55_2 1000 55 (F55.fr ds) (F55.hp ds) (fun v h' => endK Tryd.prog [] .keep (F55.hp ds) (F55.fr ds) v h' K) = mm55 ds K := by kernel_rfl
noncomputable def R55 : CallT := ruleF Tryd.prog [.keep, .keep] [] F55 mm55
theorem ok55 : CallOK Tryd.prog 55 R55 := ruleF_ok sGG55_2 t55
noncomputable def cs55 : List (FuncId × CallT) := (55, R55) :: calls2
theorem cs55_ok : CallsOK Tryd.prog cs55 := .cons ok55 calls2_ok
noncomputable def GG55 : Rules := mkG [] cs55 ls55_2
theorem sGG55 : Sound Tryd.prog tys GG55 := mk_sound mixed tysOK names (by kernel_rfl) cs55_ok ls55_2_ok
noncomputable def l32_3 : Nat → List Dat → Int → Int → (Prop) → (Bool → Prop) → Prop
  | 0, _, _, _, _, _ => False
  | fu + 1, l, r, i, E0, R_ =>
    br (decide (i < (↑(List.length l) : Int))) (
     req (decide ((0 : Int) ≤ i) && decide (i < (↑(List.length l) : Int))) (
     req (decide ((0 : Nat) + Int.toNat i < List.length l)) (
     br (decide (Dat.toInt (List.getD l ((0 : Nat) + Int.toNat i) default) = r)) (R_ true) (
      req (inR IntKind.i64 (i + (1 : Int))) (((List.length l) = List.length l ∧ l32_3 fu l r (i + (1 : Int)) E0 R_)))))) (E0)
def F32_3 : AM.Form := ⟨mkF 21 [(0, .int .i32), (5, .sl 0), (6, .int .i64)], [.seq 21 (.int .i32)]⟩
noncomputable def mm32_3 (n : Nat) (ds : List Dat) (Q : AExit → List AV → AH → Prop) : Prop := l32_3 n ((dat ds 2).toList) ((dat ds 0).toInt) ((dat ds 1).toInt) (Q (AExit.exit 0) (mkAV 21 []) ⟨[], []⟩) (fun rb => Q AExit.ret (mkAV 21 [(4, .c (.bool rb))]) ⟨[], []⟩)
theorem t32_3 (n : Nat) (ds : List Dat) (Q : AExit → List AV → AH → Prop) : wpA Tryd.prog tys GG55 1000 32 (theLoop Tryd.prog 32 3) (fun e f' h' => endF Tryd.prog ((fun _ => []) e) ((fun e => match e with | .normal => ⟨[0, 5, 6], []⟩ | .exit 0 => ⟨[], []⟩ | .ret => ⟨[4], []⟩ | _ => ⟨[], []⟩) e) ((fun e => match e with | .normal => [] | .exit 0 => [] | .ret => [] | _ => []) e) (F32_3.hp ds) f' h' fun f2 h2 => match e with
      | .normal => locL F32_3 (mm32_3 n) f2 h2 Q
      | e => Q e f2 h2) (F32_3.fr ds) (F32_3.hp ds) = mm32_3 (n + 1) ds Q := by kernel_rfl
noncomputable def R32_3 : LoopT := headF Tryd.prog [] ⟨[0, 5, 6], []⟩ [] fun f h Q => ∃ n, locL F32_3 (mm32_3 n) f h Q
theorem ok32_3 : LoopOK Tryd.prog (theLoop Tryd.prog 32 3) R32_3 := ruleL_ok sGG55 (by kernel_rfl) mm32_3 (fun _ _ => rfl) t32_3
noncomputable def ls32_3 : List (FuncId × Nat × LoopT) := (32, 3, R32_3) :: ls55_2
theorem ls32_3_ok : LoopsOK Tryd.prog ls32_3 := .cons (by kernel_rfl) ok32_3 ls55_2_ok
noncomputable def GG32_3 : Rules := mkG [] cs55 ls32_3
theorem sGG32_3 : Sound Tryd.prog tys GG32_3 := mk_sound mixed tysOK names (by kernel_rfl) cs55_ok ls32_3_ok
noncomputable def m32 (r : Int) (s : ByteArray) (K : Bool → Prop) : Prop :=
    (∃ y0, 
    ((List.length (runesD s) = List.length (runesD s)) ∧ 
    l32_3 y0 (runesD s) r (0 : Int) (K false) (fun y1 => K y1)))
def F32 : AM.Form := ⟨[.int .i32, .str], []⟩
noncomputable def mm32 (ds : List Dat) (K : AV → AH → Prop) : Prop := m32 ((dat ds 0).toInt) ((dat ds 1).toStr) (fun rb => K (.c (.bool rb)) ⟨[], []⟩)
theorem t32 (ds : List Dat) (K : AV → AH → Prop) : callA Tryd.prog tys GG32_3 1000 32 (F32.fr ds) (F32.hp ds) (fun v h' => endK Tryd.prog [] .keep (F32.hp ds) (F32.fr ds) v h' K) = mm32 ds K := by kernel_rfl
noncomputable def R32 : CallT := ruleF Tryd.prog [.keep, .keep] [] F32 mm32
theorem ok32 : CallOK Tryd.prog 32 R32 := ruleF_ok sGG32_3 t32
noncomputable def cs32 : List (FuncId × CallT) := (32, R32) :: cs55
theorem cs32_ok : CallsOK Tryd.prog cs32 := .cons ok32 cs55_ok
noncomputable def GG32 : Rules := mkG [] cs32 ls32_3
theorem sGG32 : Sound Tryd.prog tys GG32 := mk_sound mixed tysOK names (by kernel_rfl) cs32_ok ls32_3_ok
noncomputable def l33_4 : Nat → List Dat → List Dat → Int → Int → (List Dat → Prop) → Prop
  | 0, _, _, _, _, _ => False
  | fu + 1, l, word, state, i, E0 =>
    br (decide (i < (↑(List.length word) : Int))) (
     req (decide ((0 : Int) ≤ i) && decide (i < (↑(List.length word) : Int))) (
     req (decide (Int.toNat i < List.length word)) (
     br (!decide (state = (0 : Int))) (
      br (decide (Dat.toInt (List.getD word (Int.toNat i) default) = state)) (
       req (inR IntKind.i64 (i + (1 : Int))) (((List.length l) = List.length l ∧ l33_4 fu l word (0 : Int) (i + (1 : Int)) E0))) (
       br (!decide (state = (39 : Int))) (
        br (decide (Dat.toInt (List.getD word (Int.toNat i) default) = (92 : Int))) (
         req (inR IntKind.i64 (i + (1 : Int))) (
         br (decide (i + (1 : Int) < (↑(List.length word) : Int))) (
          br (decide (state = (34 : Int))) (
           req (inR IntKind.i64 (i + (1 : Int))) (
           req (decide ((0 : Int) ≤ i + (1 : Int)) && decide (i + (1 : Int) < (↑(List.length word) : Int))) (
           req (decide (Int.toNat (i + (1 : Int)) < List.length word)) (
           m55 (Dat.toInt (List.getD word (Int.toNat (i + (1 : Int))) default)) { data := #[(92 : UInt8), (34 : UInt8), (36 : UInt8), (96 : UInt8)] } (fun y0 => 
            br (!y0) (
             req (appOK l (0 : Nat) (List.length l) (1 : Nat) (4 : Nat)) (
             req (inR IntKind.i64 (i + (1 : Int))) (
             br (decide (i + (1 : Int) < (↑(List.length word) : Int))) (
              req (inR IntKind.i64 (i + (1 : Int))) (
              req (decide ((0 : Int) ≤ i + (1 : Int)) && decide (i + (1 : Int) < (↑(List.length word) : Int))) (
              req (decide (Int.toNat (i + (1 : Int)) < List.length word)) (
              req (appOK (dapp l (0 : Nat) (List.length l) [Dat.int (Dat.toInt (List.getD word (Int.toNat i) default))]) (0 : Nat) (List.length (dapp l (0 : Nat) (List.length l) [Dat.int (Dat.toInt (List.getD word (Int.toNat i) default))])) (1 : Nat) (4 : Nat)) (
              req (inR IntKind.i64 (i + (1 : Int) + (1 : Int))) (((List.length (dapp (dapp l (0 : Nat) (List.length l) [Dat.int (Dat.toInt (List.getD word (Int.toNat i) default))]) (0 : Nat) (List.length (dapp l (0 : Nat) (List.length l) [Dat.int (Dat.toInt (List.getD word (Int.toNat i) default))])) [Dat.int (Dat.toInt (List.getD word (Int.toNat (i + (1 : Int))) default))])) = List.length (dapp (dapp l (0 : Nat) (List.length l) [Dat.int (Dat.toInt (List.getD word (Int.toNat i) default))]) (0 : Nat) (List.length (dapp l (0 : Nat) (List.length l) [Dat.int (Dat.toInt (List.getD word (Int.toNat i) default))])) [Dat.int (Dat.toInt (List.getD word (Int.toNat (i + (1 : Int))) default))]) ∧ l33_4 fu (dapp (dapp l (0 : Nat) (List.length l) [Dat.int (Dat.toInt (List.getD word (Int.toNat i) default))]) (0 : Nat) (List.length (dapp l (0 : Nat) (List.length l) [Dat.int (Dat.toInt (List.getD word (Int.toNat i) default))])) [Dat.int (Dat.toInt (List.getD word (Int.toNat (i + (1 : Int))) default))]) word state (i + (1 : Int) + (1 : Int)) E0))))))) (
              req (inR IntKind.i64 (i + (1 : Int))) (((List.length (dapp l (0 : Nat) (List.length l) [Dat.int (Dat.toInt (List.getD word (Int.toNat i) default))])) = List.length (dapp l (0 : Nat) (List.length l) [Dat.int (Dat.toInt (List.getD word (Int.toNat i) default))]) ∧ l33_4 fu (dapp l (0 : Nat) (List.length l) [Dat.int (Dat.toInt (List.getD word (Int.toNat i) default))]) word state (i + (1 : Int)) E0)))))) (
             br (decide (state = (96 : Int))) (
              req (inR IntKind.i64 (i + (1 : Int))) (
              req (decide ((0 : Int) ≤ i + (1 : Int)) && decide (i + (1 : Int) < (↑(List.length word) : Int))) (
              req (decide (Int.toNat (i + (1 : Int)) < List.length word)) (
              m55 (Dat.toInt (List.getD word (Int.toNat (i + (1 : Int))) default)) { data := #[(92 : UInt8), (96 : UInt8)] } (fun y1 => 
               br (!y1) (
                req (appOK l (0 : Nat) (List.length l) (1 : Nat) (4 : Nat)) (
                req (inR IntKind.i64 (i + (1 : Int))) (
                br (decide (i + (1 : Int) < (↑(List.length word) : Int))) (
                 req (inR IntKind.i64 (i + (1 : Int))) (
                 req (decide ((0 : Int) ≤ i + (1 : Int)) && decide (i + (1 : Int) < (↑(List.length word) : Int))) (
                 req (decide (Int.toNat (i + (1 : Int)) < List.length word)) (
                 req (appOK (dapp l (0 : Nat) (List.length l) [Dat.int (Dat.toInt (List.getD word (Int.toNat i) default))]) (0 : Nat) (List.length (dapp l (0 : Nat) (List.length l) [Dat.int (Dat.toInt (List.getD word (Int.toNat i) default))])) (1 : Nat) (4 : Nat)) (
                 req (inR IntKind.i64 (i + (1 : Int) + (1 : Int))) (((List.length (dapp (dapp l (0 : Nat) (List.length l) [Dat.int (Dat.toInt (List.getD word (Int.toNat i) default))]) (0 : Nat) (List.length (dapp l (0 : Nat) (List.length l) [Dat.int (Dat.toInt (List.getD word (Int.toNat i) default))])) [Dat.int (Dat.toInt (List.getD word (Int.toNat (i + (1 : Int))) default))])) = List.length (dapp (dapp l (0 : Nat) (List.length l) [Dat.int (Dat.toInt (List.getD word (Int.toNat i) default))]) (0 : Nat) (List.length (dapp l (0 : Nat) (List.length l) [Dat.int (Dat.toInt (List.getD word (Int.toNat i) default))])) [Dat.int (Dat.toInt (List.getD word (Int.toNat (i + (1 : Int))) default))]) ∧ l33_4 fu (dapp (dapp l (0 : Nat) (List.length l) [Dat.int (Dat.toInt (List.getD word (Int.toNat i) default))]) (0 : Nat) (List.length (dapp l (0 : Nat) (List.length l) [Dat.int (Dat.toInt (List.getD word (Int.toNat i) default))])) [Dat.int (Dat.toInt (List.getD word (Int.toNat (i + (1 : Int))) default))]) word state (i + (1 : Int) + (1 : Int)) E0))))))) (
                 req (inR IntKind.i64 (i + (1 : Int))) (((List.length (dapp l (0 : Nat) (List.length l) [Dat.int (Dat.toInt (List.getD word (Int.toNat i) default))])) = List.length (dapp l (0 : Nat) (List.length l) [Dat.int (Dat.toInt (List.getD word (Int.toNat i) default))]) ∧ l33_4 fu (dapp l (0 : Nat) (List.length l) [Dat.int (Dat.toInt (List.getD word (Int.toNat i) default))]) word state (i + (1 : Int)) E0)))))) (
                req (inR IntKind.i64 (i + (1 : Int))) (
                br (decide (i + (1 : Int) < (↑(List.length word) : Int))) (
                 req (inR IntKind.i64 (i + (1 : Int))) (
                 req (decide ((0 : Int) ≤ i + (1 : Int)) && decide (i + (1 : Int) < (↑(List.length word) : Int))) (
                 req (decide (Int.toNat (i + (1 : Int)) < List.length word)) (
                 req (appOK l (0 : Nat) (List.length l) (1 : Nat) (4 : Nat)) (
                 req (inR IntKind.i64 (i + (1 : Int) + (1 : Int))) (((List.length (dapp l (0 : Nat) (List.length l) [Dat.int (Dat.toInt (List.getD word (Int.toNat (i + (1 : Int))) default))])) = List.length (dapp l (0 : Nat) (List.length l) [Dat.int (Dat.toInt (List.getD word (Int.toNat (i + (1 : Int))) default))]) ∧ l33_4 fu (dapp l (0 : Nat) (List.length l) [Dat.int (Dat.toInt (List.getD word (Int.toNat (i + (1 : Int))) default))]) word state (i + (1 : Int) + (1 : Int)) E0))))))) (
                 req (inR IntKind.i64 (i + (1 : Int))) (((List.length l) = List.length l ∧ l33_4 fu l word state (i + (1 : Int)) E0)))))))))) (
              req (inR IntKind.i64 (i + (1 : Int))) (
              br (decide (i + (1 : Int) < (↑(List.length word) : Int))) (
               req (inR IntKind.i64 (i + (1 : Int))) (
               req (decide ((0 : Int) ≤ i + (1 : Int)) && decide (i + (1 : Int) < (↑(List.length word) : Int))) (
               req (decide (Int.toNat (i + (1 : Int)) < List.length word)) (
               req (appOK l (0 : Nat) (List.length l) (1 : Nat) (4 : Nat)) (
               req (inR IntKind.i64 (i + (1 : Int) + (1 : Int))) (((List.length (dapp l (0 : Nat) (List.length l) [Dat.int (Dat.toInt (List.getD word (Int.toNat (i + (1 : Int))) default))])) = List.length (dapp l (0 : Nat) (List.length l) [Dat.int (Dat.toInt (List.getD word (Int.toNat (i + (1 : Int))) default))]) ∧ l33_4 fu (dapp l (0 : Nat) (List.length l) [Dat.int (Dat.toInt (List.getD word (Int.toNat (i + (1 : Int))) default))]) word state (i + (1 : Int) + (1 : Int)) E0))))))) (
               req (inR IntKind.i64 (i + (1 : Int))) (((List.length l) = List.length l ∧ l33_4 fu l word state (i + (1 : Int)) E0))))))))))) (
           br (decide (state = (96 : Int))) (
            req (inR IntKind.i64 (i + (1 : Int))) (
            req (decide ((0 : Int) ≤ i + (1 : Int)) && decide (i + (1 : Int) < (↑(List.length word) : Int))) (
            req (decide (Int.toNat (i + (1 : Int)) < List.length word)) (
            m55 (Dat.toInt (List.getD word (Int.toNat (i + (1 : Int))) default)) { data := #[(92 : UInt8), (96 : UInt8)] } (fun y2 => 
             br (!y2) (
              req (appOK l (0 : Nat) (List.length l) (1 : Nat) (4 : Nat)) (
              req (inR IntKind.i64 (i + (1 : Int))) (
              br (decide (i + (1 : Int) < (↑(List.length word) : Int))) (
               req (inR IntKind.i64 (i + (1 : Int))) (
               req (decide ((0 : Int) ≤ i + (1 : Int)) && decide (i + (1 : Int) < (↑(List.length word) : Int))) (
               req (decide (Int.toNat (i + (1 : Int)) < List.length word)) (
               req (appOK (dapp l (0 : Nat) (List.length l) [Dat.int (Dat.toInt (List.getD word (Int.toNat i) default))]) (0 : Nat) (List.length (dapp l (0 : Nat) (List.length l) [Dat.int (Dat.toInt (List.getD word (Int.toNat i) default))])) (1 : Nat) (4 : Nat)) (
               req (inR IntKind.i64 (i + (1 : Int) + (1 : Int))) (((List.length (dapp (dapp l (0 : Nat) (List.length l) [Dat.int (Dat.toInt (List.getD word (Int.toNat i) default))]) (0 : Nat) (List.length (dapp l (0 : Nat) (List.length l) [Dat.int (Dat.toInt (List.getD word (Int.toNat i) default))])) [Dat.int (Dat.toInt (List.getD word (Int.toNat (i + (1 : Int))) default))])) = List.length (dapp (dapp l (0 : Nat) (List.length l) [Dat.int (Dat.toInt (List.getD word (Int.toNat i) default))]) (0 : Nat) (List.length (dapp l (0 : Nat) (List.length l) [Dat.int (Dat.toInt (List.getD word (Int.toNat i) default))])) [Dat.int (Dat.toInt (List.getD word (Int.toNat (i + (1 : Int))) default))]) ∧ l33_4 fu (dapp (dapp l (0 : Nat) (List.length l) [Dat.int (Dat.toInt (List.getD word (Int.toNat i) default))]) (0 : Nat) (List.length (dapp l (0 : Nat) (List.length l) [Dat.int (Dat.toInt (List.getD word (Int.toNat i) default))])) [Dat.int (Dat.toInt (List.getD word (Int.toNat (i + (1 : Int))) default))]) word state (i + (1 : Int) + (1 : Int)) E0))))))) (
               req (inR IntKind.i64 (i + (1 : Int))) (((List.length (dapp l (0 : Nat) (List.length l) [Dat.int (Dat.toInt (List.getD word (Int.toNat i) default))])) = List.length (dapp l (0 : Nat) (List.length l) [Dat.int (Dat.toInt (List.getD word (Int.toNat i) default))]) ∧ l33_4 fu (dapp l (0 : Nat) (List.length l) [Dat.int (Dat.toInt (List.getD word (Int.toNat i) default))]) word state (i + (1 : Int)) E0)))))) (
              req (inR IntKind.i64 (i + (1 : Int))) (
              br (decide (i + (1 : Int) < (↑(List.length word) : Int))) (
               req (inR IntKind.i64 (i + (1 : Int))) (
               req (decide ((0 : Int) ≤ i + (1 : Int)) && decide (i + (1 : Int) < (↑(List.length word) : Int))) (
               req (decide (Int.toNat (i + (1 : Int)) < List.length word)) (
               req (appOK l (0 : Nat) (List.length l) (1 : Nat) (4 : Nat)) (
               req (inR IntKind.i64 (i + (1 : Int) + (1 : Int))) (((List.length (dapp l (0 : Nat) (List.length l) [Dat.int (Dat.toInt (List.getD word (Int.toNat (i + (1 : Int))) default))])) = List.length (dapp l (0 : Nat) (List.length l) [Dat.int (Dat.toInt (List.getD word (Int.toNat (i + (1 : Int))) default))]) ∧ l33_4 fu (dapp l (0 : Nat) (List.length l) [Dat.int (Dat.toInt (List.getD word (Int.toNat (i + (1 : Int))) default))]) word state (i + (1 : Int) + (1 : Int)) E0))))))) (
               req (inR IntKind.i64 (i + (1 : Int))) (((List.length l) = List.length l ∧ l33_4 fu l word state (i + (1 : Int)) E0)))))))))) (
            req (inR IntKind.i64 (i + (1 : Int))) (
            br (decide (i + (1 : Int) < (↑(List.length word) : Int))) (
             req (inR IntKind.i64 (i + (1 : Int))) (
             req (decide ((0 : Int) ≤ i + (1 : Int)) && decide (i + (1 : Int) < (↑(List.length word) : Int))) (
             req (decide (Int.toNat (i + (1 : Int)) < List.length word)) (
             req (appOK l (0 : Nat) (List.length l) (1 : Nat) (4 : Nat)) (
             req (inR IntKind.i64 (i + (1 : Int) + (1 : Int))) (((List.length (dapp l (0 : Nat) (List.length l) [Dat.int (Dat.toInt (List.getD word (Int.toNat (i + (1 : Int))) default))])) = List.length (dapp l (0 : Nat) (List.length l) [Dat.int (Dat.toInt (List.getD word (Int.toNat (i + (1 : Int))) default))]) ∧ l33_4 fu (dapp l (0 : Nat) (List.length l) [Dat.int (Dat.toInt (List.getD word (Int.toNat (i + (1 : Int))) default))]) word state (i + (1 : Int) + (1 : Int)) E0))))))) (
             req (inR IntKind.i64 (i + (1 : Int))) (((List.length l) = List.length l ∧ l33_4 fu l word state (i + (1 : Int)) E0))))))) (
          req (inR IntKind.i64 (i + (1 : Int))) (
          br (decide (i + (1 : Int) < (↑(List.length word) : Int))) (
           req (inR IntKind.i64 (i + (1 : Int))) (
           req (decide ((0 : Int) ≤ i + (1 : Int)) && decide (i + (1 : Int) < (↑(List.length word) : Int))) (
           req (decide (Int.toNat (i + (1 : Int)) < List.length word)) (
           req (appOK l (0 : Nat) (List.length l) (1 : Nat) (4 : Nat)) (
           req (inR IntKind.i64 (i + (1 : Int) + (1 : Int))) (((List.length (dapp l (0 : Nat) (List.length l) [Dat.int (Dat.toInt (List.getD word (Int.toNat (i + (1 : Int))) default))])) = List.length (dapp l (0 : Nat) (List.length l) [Dat.int (Dat.toInt (List.getD word (Int.toNat (i + (1 : Int))) default))]) ∧ l33_4 fu (dapp l (0 : Nat) (List.length l) [Dat.int (Dat.toInt (List.getD word (Int.toNat (i + (1 : Int))) default))]) word state (i + (1 : Int) + (1 : Int)) E0))))))) (
           req (inR IntKind.i64 (i + (1 : Int))) (((List.length l) = List.length l ∧ l33_4 fu l word state (i + (1 : Int)) E0))))))) (
         br (decide (state = (0 : Int))) (
          br (decide (Dat.toInt (List.getD word (Int.toNat i) default) = (39 : Int))) (
           req (inR IntKind.i64 (i + (1 : Int))) (((List.length l) = List.length l ∧ l33_4 fu l word (Dat.toInt (List.getD word (Int.toNat i) default)) (i + (1 : Int)) E0))) (
           br (decide (Dat.toInt (List.getD word (Int.toNat i) default) = (34 : Int))) (
            req (inR IntKind.i64 (i + (1 : Int))) (((List.length l) = List.length l ∧ l33_4 fu l word (Dat.toInt (List.getD word (Int.toNat i) default)) (i + (1 : Int)) E0))) (
            br (decide (Dat.toInt (List.getD word (Int.toNat i) default) = (96 : Int))) (
             req (inR IntKind.i64 (i + (1 : Int))) (((List.length l) = List.length l ∧ l33_4 fu l word (Dat.toInt (List.getD word (Int.toNat i) default)) (i + (1 : Int)) E0))) (
             req (appOK l (0 : Nat) (List.length l) (1 : Nat) (4 : Nat)) (
             req (inR IntKind.i64 (i + (1 : Int))) (((List.length (dapp l (0 : Nat) (List.length l) [Dat.int (Dat.toInt (List.getD word (Int.toNat i) default))])) = List.length (dapp l (0 : Nat) (List.length l) [Dat.int (Dat.toInt (List.getD word (Int.toNat i) default))]) ∧ l33_4 fu (dapp l (0 : Nat) (List.length l) [Dat.int (Dat.toInt (List.getD word (Int.toNat i) default))]) word state (i + (1 : Int)) E0))))))) (
          req (appOK l (0 : Nat) (List.length l) (1 : Nat) (4 : Nat)) (
          req (inR IntKind.i64 (i + (1 : Int))) (((List.length (dapp l (0 : Nat) (List.length l) [Dat.int (Dat.toInt (List.getD word (Int.toNat i) default))])) = List.length (dapp l (0 : Nat) (List.length l) [Dat.int (Dat.toInt (List.getD word (Int.toNat i) default))]) ∧ l33_4 fu (dapp l (0 : Nat) (List.length l) [Dat.int (Dat.toInt (List.getD word (Int.toNat i) default))]) word state (i + (1 : Int)) E0)))))) (
        br (decide (state = (0 : Int))) (
         br (decide (Dat.toInt (List.getD word (Int.toNat i) default) = (39 : Int))) (
          req (inR IntKind.i64 (i + (1 : Int))) (((List.length l) = List.length l ∧ l33_4 fu l word (Dat.toInt (List.getD word (Int.toNat i) default)) (i + (1 : Int)) E0))) (
          br (decide (Dat.toInt (List.getD word (Int.toNat i) default) = (34 : Int))) (
           req (inR IntKind.i64 (i + (1 : Int))) (((List.length l) = List.length l ∧ l33_4 fu l word (Dat.toInt (List.getD word (Int.toNat i) default)) (i + (1 : Int)) E0))) (
           br (decide (Dat.toInt (List.getD word (Int.toNat i) default) = (96 : Int))) (
            req (inR IntKind.i64 (i + (1 : Int))) (((List.length l) = List.length l ∧ l33_4 fu l word (Dat.toInt (List.getD word (Int.toNat i) default)) (i + (1 : Int)) E0))) (
            req (appOK l (0 : Nat) (List.length l) (1 : Nat) (4 : Nat)) (
            req (inR IntKind.i64 (i + (1 : Int))) (((List.length (dapp l (0 : Nat) (List.length l) [Dat.int (Dat.toInt (List.getD word (Int.toNat i) default))])) = List.length (dapp l (0 : Nat) (List.length l) [Dat.int (Dat.toInt (List.getD word (Int.toNat i) default))]) ∧ l33_4 fu (dapp l (0 : Nat) (List.length l) [Dat.int (Dat.toInt (List.getD word (Int.toNat i) default))]) word state (i + (1 : Int)) E0))))))) (
         req (appOK l (0 : Nat) (List.length l) (1 : Nat) (4 : Nat)) (
         req (inR IntKind.i64 (i + (1 : Int))) (((List.length (dapp l (0 : Nat) (List.length l) [Dat.int (Dat.toInt (List.getD word (Int.toNat i) default))])) = List.length (dapp l (0 : Nat) (List.length l) [Dat.int (Dat.toInt (List.getD word (Int.toNat i) default))]) ∧ l33_4 fu (dapp l (0 : Nat) (List.length l) [Dat.int (Dat.toInt (List.getD word (Int.toNat i) default))]) word state (i + (1 : Int)) E0))))))) (
      br (!decide (state = (39 : Int))) (
       br (decide (Dat.toInt (List.getD word (Int.toNat i) default) = (92 : Int))) (
        req (inR IntKind.i64 (i + (1 : Int))) (
        br (decide (i + (1 : Int) < (↑(List.length word) : Int))) (
         br (decide (state = (34 : Int))) (
          req (inR IntKind.i64 (i + (1 : Int))) (
          req (decide ((0 : Int) ≤ i + (1 : Int)) && decide (i + (1 : Int) < (↑(List.length word) : Int))) (
          req (decide (Int.toNat (i + (1 : Int)) < List.length word)) (
          m55 (Dat.toInt (List.getD word (Int.toNat (i + (1 : Int))) default)) { data := #[(92 : UInt8), (34 : UInt8), (36 : UInt8), (96 : UInt8)] } (fun y3 => 
           br (!y3) (
            req (appOK l (0 : Nat) (List.length l) (1 : Nat) (4 : Nat)) (
            req (inR IntKind.i64 (i + (1 : Int))) (
            br (decide (i + (1 : Int) < (↑(List.length word) : Int))) (
             req (inR IntKind.i64 (i + (1 : Int))) (
             req (decide ((0 : Int) ≤ i + (1 : Int)) && decide (i + (1 : Int) < (↑(List.length word) : Int))) (
             req (decide (Int.toNat (i + (1 : Int)) < List.length word)) (
             req (appOK (dapp l (0 : Nat) (List.length l) [Dat.int (Dat.toInt (List.getD word (Int.toNat i) default))]) (0 : Nat) (List.length (dapp l (0 : Nat) (List.length l) [Dat.int (Dat.toInt (List.getD word (Int.toNat i) default))])) (1 : Nat) (4 : Nat)) (
             req (inR IntKind.i64 (i + (1 : Int) + (1 : Int))) (((List.length (dapp (dapp l (0 : Nat) (List.length l) [Dat.int (Dat.toInt (List.getD word (Int.toNat i) default))]) (0 : Nat) (List.length (dapp l (0 : Nat) (List.length l) [Dat.int (Dat.toInt (List.getD word (Int.toNat i) default))])) [Dat.int (Dat.toInt (List.getD word (Int.toNat (i + (1 : Int))) default))])) = List.length (dapp (dapp l (0 : Nat) (List.length l) [Dat.int (Dat.toInt (List.getD word (Int.toNat i) default))]) (0 : Nat) (List.length (dapp l (0 : Nat) (List.length l) [Dat.int (Dat.toInt (List.getD word (Int.toNat i) default))])) [Dat.int (Dat.toInt (List.getD word (Int.toNat (i + (1 : Int))) default))]) ∧ l33_4 fu (dapp (dapp l (0 : Nat) (List.length l) [Dat.int (Dat.toInt (List.getD word (Int.toNat i) default))]) (0 : Nat) (List.length (dapp l (0 : Nat) (List.length l) [Dat.int (Dat.toInt (List.getD word (Int.toNat i) default))])) [Dat.int (Dat.toInt (List.getD word (Int.toNat (i + (1 : Int))) default))]) word state (i + (1 : Int) + (1 : Int)) E0))))))) (
             req (inR IntKind.i64 (i + (1 : Int))) (((List.length (dapp l (0 : Nat) (List.length l) [Dat.int (Dat.toInt (List.getD word (Int.toNat i) default))])) = List.length (dapp l (0 : Nat) (List.length l) [Dat.int (Dat.toInt (List.getD word (Int.toNat i) default))]) ∧ l33_4 fu (dapp l (0 : Nat) (List.length l) [Dat.int (Dat.toInt (List.getD word (Int.toNat i) default))]) word state (i + (1 : Int)) E0)))))) (
            br (decide (state = (96 : Int))) (
             req (inR IntKind.i64 (i + (1 : Int))) (
             req (decide ((0 : Int) ≤ i + (1 : Int)) && decide (i + (1 : Int) < (↑(List.length word) : Int))) (
             req (decide (Int.toNat (i + (1 : Int)) < List.length word)) (
             m55 (Dat.toInt (List.getD word (Int.toNat (i + (1 : Int))) default)) { data := #[(92 : UInt8), (96 : UInt8)] } (fun y4 => 
              br (!y4) (
               req (appOK l (0 : Nat) (List.length l) (1 : Nat) (4 : Nat)) (
               req (inR IntKind.i64 (i + (1 : Int))) (
               br (decide (i + (1 : Int) < (↑(List.length word) : Int))) (
                req (inR IntKind.i64 (i + (1 : Int))) (
                req (decide ((0 : Int) ≤ i + (1 : Int)) && decide (i + (1 : Int) < (↑(List.length word) : Int))) (
                req (decide (Int.toNat (i + (1 : Int)) < List.length word)) (
                req (appOK (dapp l (0 : Nat) (List.length l) [Dat.int (Dat.toInt (List.getD word (Int.toNat i) default))]) (0 : Nat) (List.length (dapp l (0 : Nat) (List.length l) [Dat.int (Dat.toInt (List.getD word (Int.toNat i) default))])) (1 : Nat) (4 : Nat)) (
                req (inR IntKind.i64 (i + (1 : Int) + (1 : Int))) (((List.length (dapp (dapp l (0 : Nat) (List.length l) [Dat.int (Dat.toInt (List.getD word (Int.toNat i) default))]) (0 : Nat) (List.length (dapp l (0 : Nat) (List.length l) [Dat.int (Dat.toInt (List.getD word (Int.toNat i) default))])) [Dat.int (Dat.toInt (List.getD word (Int.toNat (i + (1 : Int))) default))])) = List.length (dapp (dapp l (0 : Nat) (List.length l) [Dat.int (Dat.toInt (List.getD word (Int.toNat i) default))]) (0 : Nat) (List.length (dapp l (0 : Nat) (List.length l) [Dat.int (Dat.toInt (List.getD word (Int.toNat i) default))])) [Dat.int (Dat.toInt (List.getD word (Int.toNat (i + (1 : Int))) default))]) ∧ l33_4 fu (dapp (dapp l (0 : Nat) (List.length l) [Dat.int (Dat.toInt (List.getD word (Int.toNat i) default))]) (0 : Nat) (List.length (dapp l (0 : Nat) (List.length l) [Dat.int (Dat.toInt (List.getD word (Int.toNat i) default))])) [Dat.int (Dat.toInt (List.getD word (Int.toNat (i + (1 : Int))) default))]) word state (i + (1 : Int) + (1 : Int)) E0))))))) (
                req (inR IntKind.i64 (i + (1 : Int))) (((List.length (dapp l (0 : Nat) (List.length l) [Dat.int (Dat.toInt (List.getD word (Int.toNat i) default))])) = List.length (dapp l (0 : Nat) (List.length l) [Dat.int (Dat.toInt (List.getD word (Int.toNat i) default))]) ∧ l33_4 fu (dapp l (0 : Nat) (List.length l) [Dat.int (Dat.toInt (List.getD word (Int.toNat i) default))]) word state (i + (1 : Int)) E0)))))) (
               req (inR IntKind.i64 (i + (1 : Int))) (
               br (decide (i + (1 : Int) < (↑(List.length word) : Int))) (
                req (inR IntKind.i64 (i + (1 : Int))) (
                req (decide ((0 : Int) ≤ i + (1 : Int)) && decide (i + (1 : Int) < (↑(List.length word) : Int))) (
                req (decide (Int.toNat (i + (1 : Int)) < List.length word)) (
                req (appOK l (0 : Nat) (List.length l) (1 : Nat) (4 : Nat)) (
                req (inR IntKind.i64 (i + (1 : Int) + (1 : Int))) (((List.length (dapp l (0 : Nat) (List.length l) [Dat.int (Dat.toInt (List.getD word (Int.toNat (i + (1 : Int))) default))])) = List.length (dapp l (0 : Nat) (List.length l) [Dat.int (Dat.toInt (List.getD word (Int.toNat (i + (1 : Int))) default))]) ∧ l33_4 fu (dapp l (0 : Nat) (List.length l) [Dat.int (Dat.toInt (List.getD word (Int.toNat (i + (1 : Int))) default))]) word state (i + (1 : Int) + (1 : Int)) E0))))))) (
                req (inR IntKind.i64 (i + (1 : Int))) (((List.length l) = List.length l ∧ l33_4 fu l word state (i + (1 : Int)) E0)))))))))) (
             req (inR IntKind.i64 (i + (1 : Int))) (
             br (decide (i + (1 : Int) < (↑(List.length word) : Int))) (
              req (inR IntKind.i64 (i + (1 : Int))) (
              req (decide ((0 : Int) ≤ i + (1 : Int)) && decide (i + (1 : Int) < (↑(List.length word) : Int))) (
              req (decide (Int.toNat (i + (1 : Int)) < List.length word)) (
              req (appOK l (0 : Nat) (List.length l) (1 : Nat) (4 : Nat)) (
              req (inR IntKind.i64 (i + (1 : Int) + (1 : Int))) (((List.length (dapp l (0 : Nat) (List.length l) [Dat.int (Dat.toInt (List.getD word (Int.toNat (i + (1 : Int))) default))])) = List.length (dapp l (0 : Nat) (List.length l) [Dat.int (Dat.toInt (List.getD word (Int.toNat (i + (1 : Int))) default))]) ∧ l33_4 fu (dapp l (0 : Nat) (List.length l) [Dat.int (Dat.toInt (List.getD word (Int.toNat (i + (1 : Int))) default))]) word state (i + (1 : Int) + (1 : Int)) E0))))))) (
              req (inR IntKind.i64 (i + (1 : Int))) (((List.length l) = List.length l ∧ l33_4 fu l word state (i + (1 : Int)) E0))))))))))) (
          br (decide (state = (96 : Int))) (
           req (inR IntKind.i64 (i + (1 : Int))) (
           req (decide ((0 : Int) ≤ i + (1 : Int)) && decide (i + (1 : Int) < (↑(List.length word) : Int))) (
           req (decide (Int.toNat (i + (1 : Int)) < List.length word)) (
           m55 (Dat.toInt (List.getD word (Int.toNat (i + (1 : Int))) default)) { data := #[(92 : UInt8), (96 : UInt8)] } (fun y5 => 
            br (!y5) (
             req (appOK l (0 : Nat) (List.length l) (1 : Nat) (4 : Nat)) (
             req (inR IntKind.i64 (i + (1 : Int))) (
             br (decide (i + (1 : Int) < (↑(List.length word) : Int))) (
              req (inR IntKind.i64 (i + (1 : Int))) (
              req (decide ((0 : Int) ≤ i + (1 : Int)) && decide (i + (1 : Int) < (↑(List.length word) : Int))) (
              req (decide (Int.toNat (i + (1 : Int)) < List.length word)) (
              req (appOK (dapp l (0 : Nat) (List.length l) [Dat.int (Dat.toInt (List.getD word (Int.toNat i) default))]) (0 : Nat) (List.length (dapp l (0 : Nat) (List.length l) [Dat.int (Dat.toInt (List.getD word (Int.toNat i) default))])) (1 : Nat) (4 : Nat)) (
              req (inR IntKind.i64 (i + (1 : Int) + (1 : Int))) (((List.length (dapp (dapp l (0 : Nat) (List.length l) [Dat.int (Dat.toInt (List.getD word (Int.toNat i) default))]) (0 : Nat) (List.length (dapp l (0 : Nat) (List.length l) [Dat.int (Dat.toInt (List.getD word (Int.toNat i) default))])) [Dat.int (Dat.toInt (List.getD word (Int.toNat (i + (1 : Int))) default))])) = List.length (dapp (dapp l (0 : Nat) (List.length l) [Dat.int (Dat.toInt (List.getD word (Int.toNat i) default))]) (0 : Nat) (List.length (dapp l (0 : Nat) (List.length l) [Dat.int (Dat.toInt (List.getD word (Int.toNat i) default))])) [Dat.int (Dat.toInt (List.getD word (Int.toNat (i + (1 : Int))) default))]) ∧ l33_4 fu (dapp (dapp l (0 : Nat) (List.length l) [Dat.int (Dat.toInt (List.getD word (Int.toNat i) default))]) (0 : Nat) (List.length (dapp l (0 : Nat) (List.length l) [Dat.int (Dat.toInt (List.getD word (Int.toNat i) default))])) [Dat.int (Dat.toInt (List.getD word (Int.toNat (i + (1 : Int))) default))]) word state (i + (1 : Int) + (1 : Int)) E0))))))) (
              req (inR IntKind.i64 (i + (1 : Int))) (((List.length (dapp l (0 : Nat) (List.length l) [Dat.int (Dat.toInt (List.getD word (Int.toNat i) default))])) = List.length (dapp l (0 : Nat) (List.length l) [Dat.int (Dat.toInt (List.getD word (Int.toNat i) default))]) ∧ l33_4 fu (dapp l (0 : Nat) (List.length l) [Dat.int (Dat.toInt (List.getD word (Int.toNat i) default))]) word state (i + (1 : Int)) E0)))))) (
             req (inR IntKind.i64 (i + (1 : Int))) (
             br (decide (i + (1 : Int) < (↑(List.length word) : Int))) (
              req (inR IntKind.i64 (i + (1 : Int))) (
              req (decide ((0 : Int) ≤ i + (1 : Int)) && decide (i + (1 : Int) < (↑(List.length word) : Int))) (
              req (decide (Int.toNat (i + (1 : Int)) < List.length word)) (
              req (appOK l (0 : Nat) (List.length l) (1 : Nat) (4 : Nat)) (
              req (inR IntKind.i64 (i + (1 : Int) + (1 : Int))) (((List.length (dapp l (0 : Nat) (List.length l) [Dat.int (Dat.toInt (List.getD word (Int.toNat (i + (1 : Int))) default))])) = List.length (dapp l (0 : Nat) (List.length l) [Dat.int (Dat.toInt (List.getD word (Int.toNat (i + (1 : Int))) default))]) ∧ l33_4 fu (dapp l (0 : Nat) (List.length l) [Dat.int (Dat.toInt (List.getD word (Int.toNat (i + (1 : Int))) default))]) word state (i + (1 : Int) + (1 : Int)) E0))))))) (
              req (inR IntKind.i64 (i + (1 : Int))) (((List.length l) = List.length l ∧ l33_4 fu l word state (i + (1 : Int)) E0)))))))))) (
           req (inR IntKind.i64 (i + (1 : Int))) (
           br (decide (i + (1 : Int) < (↑(List.length word) : Int))) (
            req (inR IntKind.i64 (i + (1 : Int))) (
            req (decide ((0 : Int) ≤ i + (1 : Int)) && decide (i + (1 : Int) < (↑(List.length word) : Int))) (
            req (decide (Int.toNat (i + (1 : Int)) < List.length word)) (
            req (appOK l (0 : Nat) (List.length l) (1 : Nat) (4 : Nat)) (
            req (inR IntKind.i64 (i + (1 : Int) + (1 : Int))) (((List.length (dapp l (0 : Nat) (List.length l) [Dat.int (Dat.toInt (List.getD word (Int.toNat (i + (1 : Int))) default))])) = List.length (dapp l (0 : Nat) (List.length l) [Dat.int (Dat.toInt (List.getD word (Int.toNat (i + (1 : Int))) default))]) ∧ l33_4 fu (dapp l (0 : Nat) (List.length l) [Dat.int (Dat.toInt (List.getD word (Int.toNat (i + (1 : Int))) default))]) word state (i + (1 : Int) + (1 : Int)) E0))))))) (
            req (inR IntKind.i64 (i + (1 : Int))) (((List.length l) = List.length l ∧ l33_4 fu l word state (i + (1 : Int)) E0))))))) (
         req (inR IntKind.i64 (i + (1 : Int))) (
         br (decide (i + (1 : Int) < (↑(List.length word) : Int))) (
          req (inR IntKind.i64 (i + (1 : Int))) (
          req (decide ((0 : Int) ≤ i + (1 : Int)) && decide (i + (1 : Int) < (↑(List.length word) : Int))) (
          req (decide (Int.toNat (i + (1 : Int)) < List.length word)) (
          req (appOK l (0 : Nat) (List.length l) (1 : Nat) (4 : Nat)) (
          req (inR IntKind.i64 (i + (1 : Int) + (1 : Int))) (((List.length (dapp l (0 : Nat) (List.length l) [Dat.int (Dat.toInt (List.getD word (Int.toNat (i + (1 : Int))) default))])) = List.length (dapp l (0 : Nat) (List.length l) [Dat.int (Dat.toInt (List.getD word (Int.toNat (i + (1 : Int))) default))]) ∧ l33_4 fu (dapp l (0 : Nat) (List.length l) [Dat.int (Dat.toInt (List.getD word (Int.toNat (i + (1 : Int))) default))]) word state (i + (1 : Int) + (1 : Int)) E0))))))) (
          req (inR IntKind.i64 (i + (1 : Int))) (((List.length l) = List.length l ∧ l33_4 fu l word state (i + (1 : Int)) E0))))))) (
        br (decide (state = (0 : Int))) (
         br (decide (Dat.toInt (List.getD word (Int.toNat i) default) = (39 : Int))) (
          req (inR IntKind.i64 (i + (1 : Int))) (((List.length l) = List.length l ∧ l33_4 fu l word (Dat.toInt (List.getD word (Int.toNat i) default)) (i + (1 : Int)) E0))) (
          br (decide (Dat.toInt (List.getD word (Int.toNat i) default) = (34 : Int))) (
           req (inR IntKind.i64 (i + (1 : Int))) (((List.length l) = List.length l ∧ l33_4 fu l word (Dat.toInt (List.getD word (Int.toNat i) default)) (i + (1 : Int)) E0))) (
           br (decide (Dat.toInt (List.getD word (Int.toNat i) default) = (96 : Int))) (
            req (inR IntKind.i64 (i + (1 : Int))) (((List.length l) = List.length l ∧ l33_4 fu l word (Dat.toInt (List.getD word (Int.toNat i) default)) (i + (1 : Int)) E0))) (
            req (appOK l (0 : Nat) (List.length l) (1 : Nat) (4 : Nat)) (
            req (inR IntKind.i64 (i + (1 : Int))) (((List.length (dapp l (0 : Nat) (List.length l) [Dat.int (Dat.toInt (List.getD word (Int.toNat i) default))])) = List.length (dapp l (0 : Nat) (List.length l) [Dat.int (Dat.toInt (List.getD word (Int.toNat i) default))]) ∧ l33_4 fu (dapp l (0 : Nat) (List.length l) [Dat.int (Dat.toInt (List.getD word (Int.toNat i) default))]) word state (i + (1 : Int)) E0))))))) (
         req (appOK l (0 : Nat) (List.length l) (1 : Nat) (4 : Nat)) (
         req (inR IntKind.i64 (i + (1 : Int))) (((List.length (dapp l (0 : Nat) (List.length l) [Dat.int (Dat.toInt (List.getD word (Int.toNat i) default))])) = List.length (dapp l (0 : Nat) (List.length l) [Dat.int (Dat.toInt (List.getD word (Int.toNat i) default))]) ∧ l33_4 fu (dapp l (0 : Nat) (List.length l) [Dat.int (Dat.toInt (List.getD word (Int.toNat i) default))]) word state (i + (1 : Int)) E0)))))) (
       br (decide (state = (0 : Int))) (
        br (decide (Dat.toInt (List.getD word (Int.toNat i) default) = (39 : Int))) (
         req (inR IntKind.i64 (i + (1 : Int))) (((List.length l) = List.length l ∧ l33_4 fu l word (Dat.toInt (List.getD word (Int.toNat i) default)) (i + (1 : Int)) E0))) (
         br (decide (Dat.toInt (List.getD word (Int.toNat i) default) = (34 : Int))) (
          req (inR IntKind.i64 (i + (1 : Int))) (((List.length l) = List.length l ∧ l33_4 fu l word (Dat.toInt (List.getD word (Int.toNat i) default)) (i + (1 : Int)) E0))) (
          br (decide (Dat.toInt (List.getD word (Int.toNat i) default) = (96 : Int))) (
           req (inR IntKind.i64 (i + (1 : Int))) (((List.length l) = List.length l ∧ l33_4 fu l word (Dat.toInt (List.getD word (Int.toNat i) default)) (i + (1 : Int)) E0))) (
           req (appOK l (0 : Nat) (List.length l) (1 : Nat) (4 : Nat)) (
           req (inR IntKind.i64 (i + (1 : Int))) (((List.length (dapp l (0 : Nat) (List.length l) [Dat.int (Dat.toInt (List.getD word (Int.toNat i) default))])) = List.length (dapp l (0 : Nat) (List.length l) [Dat.int (Dat.toInt (List.getD word (Int.toNat i) default))]) ∧ l33_4 fu (dapp l (0 : Nat) (List.length l) [Dat.int (Dat.toInt (List.getD word (Int.toNat i) default))]) word state (i + (1 : Int)) E0))))))) (
        req (appOK l (0 : Nat) (List.length l) (1 : Nat) (4 : Nat)) (
        req (inR IntKind.i64 (i + (1 : Int))) (((List.length (dapp l (0 : Nat) (List.length l) [Dat.int (Dat.toInt (List.getD word (Int.toNat i) default))])) = List.length (dapp l (0 : Nat) (List.length l) [Dat.int (Dat.toInt (List.getD word (Int.toNat i) default))]) ∧ l33_4 fu (dapp l (0 : Nat) (List.length l) [Dat.int (Dat.toInt (List.getD word (Int.toNat i) default))]) word state (i + (1 : Int)) E0))))))))) (E0 l)
def F33_4 : AM.Form := ⟨mkF 104 [(0, .ro (.int .i32)), (3, .sl 0), (4, .int .i32), (5, .int .i64)], [.seq 21 (.int .i32)]⟩
noncomputable def mm33_4 (n : Nat) (ds : List Dat) (Q : AExit → List AV → AH → Prop) : Prop := l33_4 n ((dat ds 3).toList) ((dat ds 0).toList) ((dat ds 1).toInt) ((dat ds 2).toInt) (fun rl => Q (AExit.exit 0) (mkAV 104 [(3, .sl 0 0 rl.length)]) ⟨[.seq 21 (.int .i32) rl], []⟩)
theorem t33_4 (n : Nat) (ds : List Dat) (Q : AExit → List AV → AH → Prop) : wpA Tryd.prog tys GG32 1000 33 (theLoop Tryd.prog 33 4) (fun e f' h' => endF Tryd.prog ((fun _ => []) e) ((fun e => match e with | .normal => ⟨[0, 3, 4, 5], []⟩ | .exit 0 => ⟨[3], []⟩ | _ => ⟨[], []⟩) e) ((fun e => match e with | .normal => [(3, .row 21 (.int .i32))] | .exit 0 => [(3, .row 21 (.int .i32))] | _ => []) e) (F33_4.hp ds) f' h' fun f2 h2 => match e with
      | .normal => locL F33_4 (mm33_4 n) f2 h2 Q
      | e => Q e f2 h2) (F33_4.fr ds) (F33_4.hp ds) = mm33_4 (n + 1) ds Q := by kernel_rfl
noncomputable def R33_4 : LoopT := headF Tryd.prog [] ⟨[0, 3, 4, 5], []⟩ [(3, .row 21 (.int .i32))] fun f h Q => ∃ n, locL F33_4 (mm33_4 n) f h Q
theorem ok33_4 : LoopOK Tryd.prog (theLoop Tryd.prog 33 4) R33_4 := ruleL_ok sGG32 (by kernel_rfl) mm33_4 (fun _ _ => rfl) t33_4
noncomputable def ls33_4 : List (FuncId × Nat × LoopT) := (33, 4, R33_4) :: ls32_3
theorem ls33_4_ok : LoopsOK Tryd.prog ls33_4 := .cons (by kernel_rfl) ok33_4 ls32_3_ok
noncomputable def GG33_4 : Rules := mkG [] cs32 ls33_4
theorem sGG33_4 : Sound Tryd.prog tys GG33_4 := mk_sound mixed tysOK names (by kernel_rfl) cs32_ok ls33_4_ok
noncomputable def m33 (word : List Dat) (K : List Dat → Prop) : Prop :=
    (∃ y0, 
    (((0 : Nat) = (0 : Nat)) ∧ 
    l33_4 y0 [] word (0 : Int) (0 : Int) (fun y1 => K y1)))
def F33 : AM.Form := ⟨[.ro (.int .i32)], []⟩
noncomputable def mm33 (ds : List Dat) (K : AV → AH → Prop) : Prop := m33 ((dat ds 0).toList) (fun rl => K (.sl 0 0 rl.length) ⟨[.seq 21 (.int .i32) rl], []⟩)
theorem t33 (ds : List Dat) (K : AV → AH → Prop) : callA Tryd.prog tys GG33_4 1000 33 (F33.fr ds) (F33.hp ds) (fun v h' => endK Tryd.prog [] .keep (F33.hp ds) (F33.fr ds) v h' K) = mm33 ds K := by kernel_rfl
noncomputable def R33 : CallT := ruleF Tryd.prog [(.ro (.int .i32))] [] F33 mm33
theorem ok33 : CallOK Tryd.prog 33 R33 := ruleF_ok sGG33_4 t33
noncomputable def cs33 : List (FuncId × CallT) := (33, R33) :: cs32
theorem cs33_ok : CallsOK Tryd.prog cs33 := .cons ok33 cs32_ok
noncomputable def GG33 : Rules := mkG [] cs33 ls33_4
theorem sGG33 : Sound Tryd.prog tys GG33 := mk_sound mixed tysOK names (by kernel_rfl) cs33_ok ls33_4_ok
end Go.Proofs.YtbhehldefflhpaaDoor
