/- VtparseAsks answers true for every input; conditions: the listed tables. -/
import Derived.Test.YtojdmhfkgkfpaaaDoorLz
import Derived.Test.YtojdmhfkgkfpaaaDoorCards
import Derived.Test.YtojdmhfkgkfpaaaDoorTie
import Derived.WalkKit
import Derived.ProofKit
import Derived.OpenShut
import Derived.Deep.DeepHandedRow
import Derived.Lib.LaidTab
set_option linter.unusedVariables false
set_option maxRecDepth 100000
namespace Go.Proofs.YtojdmhfkgkfpaaaDoor
open Go.AM Go.LTxt Go.LMem Go.RowKit
noncomputable def m23 (a : Int) (a2 : Int) (a3 : Int) (a4 : Int) (a5 : List Dat) (a6 : ByteArray) (a7 : ByteArray) (i : Int) (other : Int) (K : Int → Prop) : Prop :=
    br (decide (i < (0 : Int))) (K other) (
     br (decide ((↑(List.length a5) : Int) ≤ i)) (K other) (
      req (decide ((0 : Int) ≤ i) && decide (i < (↑(List.length a5) : Int))) (
      req (decide (Int.toNat i < List.length a5)) (
      br (decide (Dat.toInt (List.getD a5 (Int.toNat i) default) = (-1 : Int))) (K other) (
       req (decide ((0 : Int) ≤ i) && decide (i < (↑(List.length a5) : Int))) (
       req (decide (Int.toNat i < List.length a5)) (
       br (decide (Dat.toInt (List.getD a5 (Int.toNat i) default) = (0 : Int))) (K other) (
        req (decide ((0 : Int) ≤ i) && decide (i < (↑(List.length a5) : Int))) (
        req (decide (Int.toNat i < List.length a5)) (K (Dat.toInt (List.getD a5 (Int.toNat i) default))))))))))))
def F23 : AM.Form := ⟨[.agg [.int .i64, .int .i32, .int .u8, .int .u8, .ro (.int .i64), .str, .str], .int .i64, .int .i64], []⟩
noncomputable def mm23 (ds : List Dat) (K : AV → AH → Prop) : Prop := m23 ((dat ds 0).toInt) ((dat ds 1).toInt) ((dat ds 2).toInt) ((dat ds 3).toInt) ((dat ds 4).toList) ((dat ds 5).toStr) ((dat ds 6).toStr) ((dat ds 7).toInt) ((dat ds 8).toInt) (fun rn => K (.c (.int .i64 rn)) ⟨[], []⟩)
theorem t23 (ds : List Dat) (K : AV → AH → Prop) : callA Tryd.prog tys GG3 1000 23 (F23.fr ds) (F23.hp ds) (fun v h' => endK Tryd.prog [] .keep (F23.hp ds) (F23.fr ds) v h' K) = mm23 ds K := by kernel_rfl
noncomputable def R23 : CallT := ruleF Tryd.prog [(.agg [.keep, .keep, .keep, .keep, (.ro (.int .i64)), .keep, .keep]), .keep, .keep] [] F23 mm23
theorem ok23 : CallOK Tryd.prog 23 R23 := ruleF_ok sGG3 t23
noncomputable def cs23 : List (FuncId × CallT) := (23, R23) :: cs3
theorem cs23_ok : CallsOK Tryd.prog cs23 := .cons ok23 cs3_ok
noncomputable def GG23 : Rules := mkG [] cs23 ls13_4
theorem sGG23 : Sound Tryd.prog tys GG23 := mk_sound mixed tysOK names (by kernel_rfl) cs23_ok ls13_4_ok
noncomputable def m24 (a : Int) (a2 : Int) (a3 : Int) (a4 : Int) (a5 : List Dat) (a6 : ByteArray) (a7 : ByteArray) (i : Int) (other : Int) (K : Int → Prop) : Prop :=
    br (decide (i < (0 : Int))) (K other) (
     br (decide ((↑(List.length a5) : Int) ≤ i)) (K other) (
      req (decide ((0 : Int) ≤ i) && decide (i < (↑(List.length a5) : Int))) (
      req (decide (Int.toNat i < List.length a5)) (
      br (decide (Dat.toInt (List.getD a5 (Int.toNat i) default) = (-1 : Int))) (K other) (
       req (decide ((0 : Int) ≤ i) && decide (i < (↑(List.length a5) : Int))) (
       req (decide (Int.toNat i < List.length a5)) (
       br (decide (Dat.toInt (List.getD a5 (Int.toNat i) default) = (0 : Int))) (K other) (
        req (decide ((0 : Int) ≤ i) && decide (i < (↑(List.length a5) : Int))) (
        req (decide (Int.toNat i < List.length a5)) (K (Dat.toInt (List.getD a5 (Int.toNat i) default))))))))))))
def F24 : AM.Form := ⟨[.agg [.int .i64, .int .i32, .int .u8, .int .u8, .ro (.int .i64), .str, .str], .int .i64, .int .i64], []⟩
noncomputable def mm24 (ds : List Dat) (K : AV → AH → Prop) : Prop := m24 ((dat ds 0).toInt) ((dat ds 1).toInt) ((dat ds 2).toInt) ((dat ds 3).toInt) ((dat ds 4).toList) ((dat ds 5).toStr) ((dat ds 6).toStr) ((dat ds 7).toInt) ((dat ds 8).toInt) (fun rn => K (.c (.int .i64 rn)) ⟨[], []⟩)
theorem t24 (ds : List Dat) (K : AV → AH → Prop) : callA Tryd.prog tys GG23 1000 24 (F24.fr ds) (F24.hp ds) (fun v h' => endK Tryd.prog [] .keep (F24.hp ds) (F24.fr ds) v h' K) = mm24 ds K := by kernel_rfl
noncomputable def R24 : CallT := ruleF Tryd.prog [(.agg [.keep, .keep, .keep, .keep, (.ro (.int .i64)), .keep, .keep]), .keep, .keep] [] F24 mm24
theorem ok24 : CallOK Tryd.prog 24 R24 := ruleF_ok sGG23 t24
noncomputable def cs24 : List (FuncId × CallT) := (24, R24) :: cs23
theorem cs24_ok : CallsOK Tryd.prog cs24 := .cons ok24 cs23_ok
noncomputable def GG24 : Rules := mkG [] cs24 ls13_4
theorem sGG24 : Sound Tryd.prog tys GG24 := mk_sound mixed tysOK names (by kernel_rfl) cs24_ok ls13_4_ok
noncomputable def l40_4 : Nat → List Dat → List Dat → Int → Int → (Prop) → (Bool → Prop) → Prop
  | 0, _, _, _, _, _, _ => False
  | fu + 1, s1, s2, n, n2, E0, R_ =>
    br (decide (n2 < n)) (
     req (decide ((0 : Int) ≤ n2) && decide (n2 < (↑(List.length s1) : Int))) (
     req (decide (Int.toNat n2 < List.length s1)) (
     req (decide ((0 : Int) ≤ n2) && decide (n2 < (↑(List.length s2) : Int))) (
     req (decide (Int.toNat n2 < List.length s2)) (
     br (!decide (Dat.toInt (List.getD s1 (Int.toNat n2) default) = Dat.toInt (List.getD s2 (Int.toNat n2) default))) (R_ false) (
      req (inR IntKind.i64 (n2 + (1 : Int))) (l40_4 fu s1 s2 n (n2 + (1 : Int)) E0 R_))))))) (E0)
def F40_4 : AM.Form := ⟨mkF 26 [(0, .ro (.int .i64)), (1, .ro (.int .i64)), (12, .int .i64), (13, .int .i64)], []⟩
noncomputable def mm40_4 (n : Nat) (ds : List Dat) (Q : AExit → List AV → AH → Prop) : Prop := l40_4 n ((dat ds 0).toList) ((dat ds 1).toList) ((dat ds 2).toInt) ((dat ds 3).toInt) (Q (AExit.exit 0) (mkAV 26 []) ⟨[], []⟩) (fun rb => Q AExit.ret (mkAV 26 [(4, .c (.bool rb))]) ⟨[], []⟩)
theorem t40_4 (n : Nat) (ds : List Dat) (Q : AExit → List AV → AH → Prop) : wpA Tryd.prog tys GG24 1000 40 (theLoop Tryd.prog 40 4) (fun e f' h' => endF Tryd.prog ((fun _ => []) e) ((fun e => match e with | .normal => ⟨[0, 1, 12, 13], []⟩ | .exit 0 => ⟨[], []⟩ | .ret => ⟨[4], []⟩ | _ => ⟨[], []⟩) e) ((fun e => match e with | .normal => [] | .exit 0 => [] | .ret => [] | _ => []) e) (F40_4.hp ds) f' h' fun f2 h2 => match e with
      | .normal => locL F40_4 (mm40_4 n) f2 h2 Q
      | e => Q e f2 h2) (F40_4.fr ds) (F40_4.hp ds) = mm40_4 (n + 1) ds Q := by kernel_rfl
noncomputable def R40_4 : LoopT := headF Tryd.prog [] ⟨[0, 1, 12, 13], []⟩ [] fun f h Q => ∃ n, locL F40_4 (mm40_4 n) f h Q
theorem ok40_4 : LoopOK Tryd.prog (theLoop Tryd.prog 40 4) R40_4 := ruleL_ok sGG24 (by kernel_rfl) mm40_4 (fun _ _ => rfl) t40_4
noncomputable def ls40_4 : List (FuncId × Nat × LoopT) := (40, 4, R40_4) :: ls13_4
theorem ls40_4_ok : LoopsOK Tryd.prog ls40_4 := .cons (by kernel_rfl) ok40_4 ls13_4_ok
noncomputable def GG40_4 : Rules := mkG [] cs24 ls40_4
theorem sGG40_4 : Sound Tryd.prog tys GG40_4 := mk_sound mixed tysOK names (by kernel_rfl) cs24_ok ls40_4_ok
noncomputable def m40 (s1 : List Dat) (s2 : List Dat) (K : Bool → Prop) : Prop :=
    br (!decide ((↑(List.length s1) : Int) = (↑(List.length s2) : Int))) (K false) (
     (∃ y0, 
     l40_4 y0 s1 s2 (↑(List.length s1) : Int) (0 : Int) (K true) (fun y1 => K y1)))
def F40 : AM.Form := ⟨[.ro (.int .i64), .ro (.int .i64)], []⟩
noncomputable def mm40 (ds : List Dat) (K : AV → AH → Prop) : Prop := m40 ((dat ds 0).toList) ((dat ds 1).toList) (fun rb => K (.c (.bool rb)) ⟨[], []⟩)
theorem t40 (ds : List Dat) (K : AV → AH → Prop) : callA Tryd.prog tys GG40_4 1000 40 (F40.fr ds) (F40.hp ds) (fun v h' => endK Tryd.prog [] .keep (F40.hp ds) (F40.fr ds) v h' K) = mm40 ds K := by kernel_rfl
noncomputable def R40 : CallT := ruleF Tryd.prog [(.ro (.int .i64)), (.ro (.int .i64))] [] F40 mm40
theorem ok40 : CallOK Tryd.prog 40 R40 := ruleF_ok sGG40_4 t40
noncomputable def cs40 : List (FuncId × CallT) := (40, R40) :: cs24
theorem cs40_ok : CallsOK Tryd.prog cs40 := .cons ok40 cs24_ok
noncomputable def GG40 : Rules := mkG [] cs40 ls40_4
theorem sGG40 : Sound Tryd.prog tys GG40 := mk_sound mixed tysOK names (by kernel_rfl) cs40_ok ls40_4_ok
noncomputable def m39 (x' : Int) (x'2 : Int) (x'3 : Int) (x'4 : Int) (x'5 : List Dat) (x'6 : ByteArray) (x'7 : ByteArray) (y' : Int) (y'2 : Int) (y'3 : Int) (y'4 : Int) (y'5 : List Dat) (y'6 : ByteArray) (y'7 : ByteArray) (K : Bool → Prop) : Prop :=
    br (decide (x' = y')) (
     br (decide (x'2 = y'2)) (
      br (decide (x'3 = y'3)) (
       br (decide (x'4 = y'4)) (
        br (strEq x'6 y'6) (
         br (strEq x'7 y'7) (
          m40 x'5 y'5 (fun y0 => K y0)) (K false)) (K false)) (K false)) (K false)) (K false)) (K false)
def F39 : AM.Form := ⟨[.agg [.int .i64, .int .i32, .int .u8, .int .u8, .ro (.int .i64), .str, .str], .agg [.int .i64, .int .i32, .int .u8, .int .u8, .ro (.int .i64), .str, .str]], []⟩
noncomputable def mm39 (ds : List Dat) (K : AV → AH → Prop) : Prop := m39 ((dat ds 0).toInt) ((dat ds 1).toInt) ((dat ds 2).toInt) ((dat ds 3).toInt) ((dat ds 4).toList) ((dat ds 5).toStr) ((dat ds 6).toStr) ((dat ds 7).toInt) ((dat ds 8).toInt) ((dat ds 9).toInt) ((dat ds 10).toInt) ((dat ds 11).toList) ((dat ds 12).toStr) ((dat ds 13).toStr) (fun rb => K (.c (.bool rb)) ⟨[], []⟩)
theorem t39 (ds : List Dat) (K : AV → AH → Prop) : callA Tryd.prog tys GG40 1000 39 (F39.fr ds) (F39.hp ds) (fun v h' => endK Tryd.prog [] .keep (F39.hp ds) (F39.fr ds) v h' K) = mm39 ds K := by kernel_rfl
noncomputable def R39 : CallT := ruleF Tryd.prog [(.agg [.keep, .keep, .keep, .keep, (.ro (.int .i64)), .keep, .keep]), (.agg [.keep, .keep, .keep, .keep, (.ro (.int .i64)), .keep, .keep])] [] F39 mm39
theorem ok39 : CallOK Tryd.prog 39 R39 := ruleF_ok sGG40 t39
noncomputable def cs39 : List (FuncId × CallT) := (39, R39) :: cs40
theorem cs39_ok : CallsOK Tryd.prog cs39 := .cons ok39 cs40_ok
noncomputable def GG39 : Rules := mkG [] cs39 ls40_4
theorem sGG39 : Sound Tryd.prog tys GG39 := mk_sound mixed tysOK names (by kernel_rfl) cs39_ok ls40_4_ok
noncomputable def l38_4 : Nat → List Dat → List Dat → Int → Int → (Prop) → (Bool → Prop) → Prop
  | 0, _, _, _, _, _, _ => False
  | fu + 1, s2, xs, n, n2, E0, R_ =>
    br (decide (n2 < n)) (
     req (decide ((0 : Int) ≤ n2) && decide (n2 < (↑(List.length xs) : Int))) (
     req (decide (Int.toNat n2 < List.length xs)) (
     req (decide ((0 : Int) ≤ n2) && decide (n2 < (↑(List.length s2) : Int))) (
     req (decide (Int.toNat n2 < List.length s2)) (
     m39 (Dat.toInt (Dat.fst (List.getD xs (Int.toNat n2) default))) (Dat.toInt (Dat.fst (Dat.snd (List.getD xs (Int.toNat n2) default)))) (Dat.toInt (Dat.fst (Dat.snd (Dat.snd (List.getD xs (Int.toNat n2) default))))) (Dat.toInt (Dat.fst (Dat.snd (Dat.snd (Dat.snd (List.getD xs (Int.toNat n2) default)))))) (Dat.toList (Dat.fst (Dat.snd (Dat.snd (Dat.snd (Dat.snd (List.getD xs (Int.toNat n2) default))))))) (Dat.toStr (Dat.fst (Dat.snd (Dat.snd (Dat.snd (Dat.snd (Dat.snd (List.getD xs (Int.toNat n2) default)))))))) (Dat.toStr (Dat.fst (Dat.snd (Dat.snd (Dat.snd (Dat.snd (Dat.snd (Dat.snd (List.getD xs (Int.toNat n2) default))))))))) (Dat.toInt (Dat.fst (List.getD s2 (Int.toNat n2) default))) (Dat.toInt (Dat.fst (Dat.snd (List.getD s2 (Int.toNat n2) default)))) (Dat.toInt (Dat.fst (Dat.snd (Dat.snd (List.getD s2 (Int.toNat n2) default))))) (Dat.toInt (Dat.fst (Dat.snd (Dat.snd (Dat.snd (List.getD s2 (Int.toNat n2) default)))))) (Dat.toList (Dat.fst (Dat.snd (Dat.snd (Dat.snd (Dat.snd (List.getD s2 (Int.toNat n2) default))))))) (Dat.toStr (Dat.fst (Dat.snd (Dat.snd (Dat.snd (Dat.snd (Dat.snd (List.getD s2 (Int.toNat n2) default)))))))) (Dat.toStr (Dat.fst (Dat.snd (Dat.snd (Dat.snd (Dat.snd (Dat.snd (Dat.snd (List.getD s2 (Int.toNat n2) default))))))))) (fun y0 => 
      br (!y0) (R_ false) (
       req (inR IntKind.i64 (n2 + (1 : Int))) (l38_4 fu s2 xs n (n2 + (1 : Int)) E0 R_)))))))) (E0)
def F38_4 : AM.Form := ⟨mkF 32 [(1, .ro (.pair (.int .i64) (.pair (.int .i32) (.pair (.int .u8) (.pair (.int .u8) (.pair (.slice (.int .i64)) (.pair .str (.pair .str .unit)))))))), (2, .fn 39 []), (15, .ro (.pair (.int .i64) (.pair (.int .i32) (.pair (.int .u8) (.pair (.int .u8) (.pair (.slice (.int .i64)) (.pair .str (.pair .str .unit)))))))), (16, .int .i64), (17, .int .i64)], []⟩
noncomputable def mm38_4 (n : Nat) (ds : List Dat) (Q : AExit → List AV → AH → Prop) : Prop := l38_4 n ((dat ds 0).toList) ((dat ds 1).toList) ((dat ds 2).toInt) ((dat ds 3).toInt) (Q (AExit.exit 0) (mkAV 32 []) ⟨[], []⟩) (fun rb => Q AExit.ret (mkAV 32 [(6, .c (.bool rb))]) ⟨[], []⟩)
theorem t38_4 (n : Nat) (ds : List Dat) (Q : AExit → List AV → AH → Prop) : wpA Tryd.prog tys GG39 1000 38 (theLoop Tryd.prog 38 4) (fun e f' h' => endF Tryd.prog ((fun _ => []) e) ((fun e => match e with | .normal => ⟨[1, 2, 15, 16, 17], []⟩ | .exit 0 => ⟨[], []⟩ | .ret => ⟨[6], []⟩ | _ => ⟨[], []⟩) e) ((fun e => match e with | .normal => [] | .exit 0 => [] | .ret => [] | _ => []) e) (F38_4.hp ds) f' h' fun f2 h2 => match e with
      | .normal => locL F38_4 (mm38_4 n) f2 h2 Q
      | e => Q e f2 h2) (F38_4.fr ds) (F38_4.hp ds) = mm38_4 (n + 1) ds Q := by kernel_rfl
noncomputable def R38_4 : LoopT := headF Tryd.prog [] ⟨[1, 2, 15, 16, 17], []⟩ [] fun f h Q => ∃ n, locL F38_4 (mm38_4 n) f h Q
theorem ok38_4 : LoopOK Tryd.prog (theLoop Tryd.prog 38 4) R38_4 := ruleL_ok sGG39 (by kernel_rfl) mm38_4 (fun _ _ => rfl) t38_4
noncomputable def ls38_4 : List (FuncId × Nat × LoopT) := (38, 4, R38_4) :: ls40_4
theorem ls38_4_ok : LoopsOK Tryd.prog ls38_4 := .cons (by kernel_rfl) ok38_4 ls40_4_ok
noncomputable def GG38_4 : Rules := mkG [] cs39 ls38_4
theorem sGG38_4 : Sound Tryd.prog tys GG38_4 := mk_sound mixed tysOK names (by kernel_rfl) cs39_ok ls38_4_ok
noncomputable def m38 (s1 : List Dat) (s2 : List Dat) (K : Bool → Prop) : Prop :=
    br (!decide ((↑(List.length s1) : Int) = (↑(List.length s2) : Int))) (K false) (
     (∃ y0, 
     l38_4 y0 s2 s1 (↑(List.length s1) : Int) (0 : Int) (K true) (fun y1 => K y1)))
def F38 : AM.Form := ⟨[.ro (.pair (.int .i64) (.pair (.int .i32) (.pair (.int .u8) (.pair (.int .u8) (.pair (.slice (.int .i64)) (.pair .str (.pair .str .unit))))))), .ro (.pair (.int .i64) (.pair (.int .i32) (.pair (.int .u8) (.pair (.int .u8) (.pair (.slice (.int .i64)) (.pair .str (.pair .str .unit))))))), .fn 39 []], []⟩
noncomputable def mm38 (ds : List Dat) (K : AV → AH → Prop) : Prop := m38 ((dat ds 0).toList) ((dat ds 1).toList) (fun rb => K (.c (.bool rb)) ⟨[], []⟩)
theorem t38 (ds : List Dat) (K : AV → AH → Prop) : callA Tryd.prog tys GG38_4 1000 38 (F38.fr ds) (F38.hp ds) (fun v h' => endK Tryd.prog [] .keep (F38.hp ds) (F38.fr ds) v h' K) = mm38 ds K := by kernel_rfl
noncomputable def R38 : CallT := ruleF Tryd.prog [(.ro (.pair (.int .i64) (.pair (.int .i32) (.pair (.int .u8) (.pair (.int .u8) (.pair (.slice (.int .i64)) (.pair .str (.pair .str .unit)))))))), (.ro (.pair (.int .i64) (.pair (.int .i32) (.pair (.int .u8) (.pair (.int .u8) (.pair (.slice (.int .i64)) (.pair .str (.pair .str .unit)))))))), .keep] [] F38 mm38
theorem ok38 : CallOK Tryd.prog 38 R38 := ruleF_ok sGG38_4 t38
noncomputable def cs38 : List (FuncId × CallT) := (38, R38) :: cs39
theorem cs38_ok : CallsOK Tryd.prog cs38 := .cons ok38 cs39_ok
noncomputable def GG38 : Rules := mkG [] cs38 ls38_4
theorem sGG38 : Sound Tryd.prog tys GG38 := mk_sound mixed tysOK names (by kernel_rfl) cs38_ok ls38_4_ok
noncomputable def m25 (a : List Dat) (b : List Dat) (K : Bool → Prop) : Prop :=
    m38 a b (fun y0 => K y0)
def F25 : AM.Form := ⟨[.ro (.pair (.int .i64) (.pair (.int .i32) (.pair (.int .u8) (.pair (.int .u8) (.pair (.slice (.int .i64)) (.pair .str (.pair .str .unit))))))), .ro (.pair (.int .i64) (.pair (.int .i32) (.pair (.int .u8) (.pair (.int .u8) (.pair (.slice (.int .i64)) (.pair .str (.pair .str .unit)))))))], []⟩
noncomputable def mm25 (ds : List Dat) (K : AV → AH → Prop) : Prop := m25 ((dat ds 0).toList) ((dat ds 1).toList) (fun rb => K (.c (.bool rb)) ⟨[], []⟩)
theorem t25 (ds : List Dat) (K : AV → AH → Prop) : callA Tryd.prog tys GG38 1000 25 (F25.fr ds) (F25.hp ds) (fun v h' => endK Tryd.prog [] .keep (F25.hp ds) (F25.fr ds) v h' K) = mm25 ds K := by kernel_rfl
noncomputable def R25 : CallT := ruleF Tryd.prog [(.ro (.pair (.int .i64) (.pair (.int .i32) (.pair (.int .u8) (.pair (.int .u8) (.pair (.slice (.int .i64)) (.pair .str (.pair .str .unit)))))))), (.ro (.pair (.int .i64) (.pair (.int .i32) (.pair (.int .u8) (.pair (.int .u8) (.pair (.slice (.int .i64)) (.pair .str (.pair .str .unit))))))))] [] F25 mm25
theorem ok25 : CallOK Tryd.prog 25 R25 := ruleF_ok sGG38 t25
noncomputable def cs25 : List (FuncId × CallT) := (25, R25) :: cs38
theorem cs25_ok : CallsOK Tryd.prog cs25 := .cons ok25 cs38_ok
noncomputable def GG25 : Rules := mkG [] cs25 ls38_4
theorem sGG25 : Sound Tryd.prog tys GG25 := mk_sound mixed tysOK names (by kernel_rfl) cs25_ok ls38_4_ok
structure C44 where
  a : List Dat
  b : List Dat
  i : Int
  other : Int
noncomputable def l10_3 : Nat → C44 → List Dat → List Dat → List Dat → Int → Int → (C44 → List Dat → List Dat → Prop) → (C44 → Bool → Prop) → Prop
  | 0, _, _, _, _, _, _, _, _ => False
  | fu + 1, c, a, b, xs, n, n2, E0, R_ =>
    br (decide (n2 < n)) (
     req (decide ((0 : Int) ≤ n2) && decide (n2 < (↑(List.length xs) : Int))) (
     req (decide (Int.toNat n2 < List.length xs)) (
     m23 (Dat.toInt (Dat.fst (List.getD xs (Int.toNat n2) default))) (Dat.toInt (Dat.fst (Dat.snd (List.getD xs (Int.toNat n2) default)))) (Dat.toInt (Dat.fst (Dat.snd (Dat.snd (List.getD xs (Int.toNat n2) default))))) (Dat.toInt (Dat.fst (Dat.snd (Dat.snd (Dat.snd (List.getD xs (Int.toNat n2) default)))))) (Dat.toList (Dat.fst (Dat.snd (Dat.snd (Dat.snd (Dat.snd (List.getD xs (Int.toNat n2) default))))))) (Dat.toStr (Dat.fst (Dat.snd (Dat.snd (Dat.snd (Dat.snd (Dat.snd (List.getD xs (Int.toNat n2) default)))))))) (Dat.toStr (Dat.fst (Dat.snd (Dat.snd (Dat.snd (Dat.snd (Dat.snd (Dat.snd (List.getD xs (Int.toNat n2) default))))))))) (C44.i c) (C44.other c) (fun y0 => 
      m24 (Dat.toInt (Dat.fst (List.getD xs (Int.toNat n2) default))) (Dat.toInt (Dat.fst (Dat.snd (List.getD xs (Int.toNat n2) default)))) (Dat.toInt (Dat.fst (Dat.snd (Dat.snd (List.getD xs (Int.toNat n2) default))))) (Dat.toInt (Dat.fst (Dat.snd (Dat.snd (Dat.snd (List.getD xs (Int.toNat n2) default)))))) (Dat.toList (Dat.fst (Dat.snd (Dat.snd (Dat.snd (Dat.snd (List.getD xs (Int.toNat n2) default))))))) (Dat.toStr (Dat.fst (Dat.snd (Dat.snd (Dat.snd (Dat.snd (Dat.snd (List.getD xs (Int.toNat n2) default)))))))) (Dat.toStr (Dat.fst (Dat.snd (Dat.snd (Dat.snd (Dat.snd (Dat.snd (Dat.snd (List.getD xs (Int.toNat n2) default))))))))) (C44.i c) (C44.other c) (fun y1 => 
       br (!decide (y0 = y1)) (R_ c false) (
        req (inR IntKind.i64 (n2 + (1 : Int))) (l10_3 fu c a b xs n (n2 + (1 : Int)) E0 R_))))))) (E0 c a b)
def F10_3 : AM.Form := ⟨mkF 46 [(1, .p 0 0), (3, .ro (.pair (.int .i64) (.pair (.int .i32) (.pair (.int .u8) (.pair (.int .u8) (.pair (.slice (.int .i64)) (.pair .str (.pair .str .unit)))))))), (4, .ro (.pair (.int .i64) (.pair (.int .i32) (.pair (.int .u8) (.pair (.int .u8) (.pair (.slice (.int .i64)) (.pair .str (.pair .str .unit)))))))), (11, .ro (.pair (.int .i64) (.pair (.int .i32) (.pair (.int .u8) (.pair (.int .u8) (.pair (.slice (.int .i64)) (.pair .str (.pair .str .unit)))))))), (12, .int .i64), (13, .int .i64)], [.cells 44 [.ro (.pair (.int .i64) (.pair (.int .i32) (.pair (.int .u8) (.pair (.int .u8) (.pair (.slice (.int .i64)) (.pair .str (.pair .str .unit))))))), .ro (.pair (.int .i64) (.pair (.int .i32) (.pair (.int .u8) (.pair (.int .u8) (.pair (.slice (.int .i64)) (.pair .str (.pair .str .unit))))))), .int .i64, .int .i64]]⟩
noncomputable def mm10_3 (n : Nat) (ds : List Dat) (Q : AExit → List AV → AH → Prop) : Prop := l10_3 n ⟨(dat ds 5).toList, (dat ds 6).toList, (dat ds 7).toInt, (dat ds 8).toInt⟩ ((dat ds 0).toList) ((dat ds 1).toList) ((dat ds 2).toList) ((dat ds 3).toInt) ((dat ds 4).toInt) (fun rc rxs rxs2 => Q (AExit.exit 0) (mkAV 46 [(1, .p 0 0), (3, .ro (.pair (.int .i64) (.pair (.int .i32) (.pair (.int .u8) (.pair (.int .u8) (.pair (.slice (.int .i64)) (.pair .str (.pair .str .unit))))))) rxs), (4, .ro (.pair (.int .i64) (.pair (.int .i32) (.pair (.int .u8) (.pair (.int .u8) (.pair (.slice (.int .i64)) (.pair .str (.pair .str .unit))))))) rxs2)]) ⟨[.cells 44 [.ro (.pair (.int .i64) (.pair (.int .i32) (.pair (.int .u8) (.pair (.int .u8) (.pair (.slice (.int .i64)) (.pair .str (.pair .str .unit))))))) rc.a, .ro (.pair (.int .i64) (.pair (.int .i32) (.pair (.int .u8) (.pair (.int .u8) (.pair (.slice (.int .i64)) (.pair .str (.pair .str .unit))))))) rc.b, .c (.int .i64 rc.i), .c (.int .i64 rc.other)]], []⟩) (fun rc rb => Q AExit.ret (mkAV 46 [(1, .p 0 0), (2, .c (.bool rb))]) ⟨[.cells 44 [.ro (.pair (.int .i64) (.pair (.int .i32) (.pair (.int .u8) (.pair (.int .u8) (.pair (.slice (.int .i64)) (.pair .str (.pair .str .unit))))))) rc.a, .ro (.pair (.int .i64) (.pair (.int .i32) (.pair (.int .u8) (.pair (.int .u8) (.pair (.slice (.int .i64)) (.pair .str (.pair .str .unit))))))) rc.b, .c (.int .i64 rc.i), .c (.int .i64 rc.other)]], []⟩)
theorem t10_3 (n : Nat) (ds : List Dat) (Q : AExit → List AV → AH → Prop) : wpA Tryd.prog tys GG25 1000 10 (theLoop Tryd.prog 10 3) (fun e f' h' => endF Tryd.prog ((fun _ => []) e) ((fun e => match e with | .normal => ⟨[1, 3, 4, 11, 12, 13], []⟩ | .exit 0 => ⟨[1, 3, 4], []⟩ | .ret => ⟨[1, 2], []⟩ | _ => ⟨[], []⟩) e) ((fun e => match e with | .normal => [] | .exit 0 => [] | .ret => [] | _ => []) e) (F10_3.hp ds) f' h' fun f2 h2 => match e with
      | .normal => locL F10_3 (mm10_3 n) f2 h2 Q
      | e => Q e f2 h2) (F10_3.fr ds) (F10_3.hp ds) = mm10_3 (n + 1) ds Q := by kernel_rfl
noncomputable def R10_3 : LoopT := headF Tryd.prog [] ⟨[1, 3, 4, 11, 12, 13], []⟩ [] fun f h Q => ∃ n, locL F10_3 (mm10_3 n) f h Q
theorem ok10_3 : LoopOK Tryd.prog (theLoop Tryd.prog 10 3) R10_3 := ruleL_ok sGG25 (by kernel_rfl) mm10_3 (fun _ _ => rfl) t10_3
noncomputable def ls10_3 : List (FuncId × Nat × LoopT) := (10, 3, R10_3) :: ls38_4
theorem ls10_3_ok : LoopsOK Tryd.prog ls10_3 := .cons (by kernel_rfl) ok10_3 ls38_4_ok
noncomputable def GG10_3 : Rules := mkG [] cs25 ls10_3
theorem sGG10_3 : Sound Tryd.prog tys GG10_3 := mk_sound mixed tysOK names (by kernel_rfl) cs25_ok ls10_3_ok
noncomputable def m10 (q : List Dat) (q2 : List Dat) (q3 : Int) (q4 : Int) (K : Bool → Prop) : Prop :=
    (∃ y0, 
    l10_3 y0 { a := q, b := q2, i := q3, other := q4 } q q2 q (↑(List.length q) : Int) (0 : Int) (fun y1 y2 y3 => 
     m25 y2 y3 (fun y4 => 
      m13 y2 y3 (fun y5 => 
       br (y4 == y5) (
        m25 y2 y2 (fun y6 => K y6)) (K false)))) (fun y7 y8 => K y8))
def F10 : AM.Form := ⟨[.agg [.ro (.pair (.int .i64) (.pair (.int .i32) (.pair (.int .u8) (.pair (.int .u8) (.pair (.slice (.int .i64)) (.pair .str (.pair .str .unit))))))), .ro (.pair (.int .i64) (.pair (.int .i32) (.pair (.int .u8) (.pair (.int .u8) (.pair (.slice (.int .i64)) (.pair .str (.pair .str .unit))))))), .int .i64, .int .i64]], []⟩
noncomputable def mm10 (ds : List Dat) (K : AV → AH → Prop) : Prop := m10 ((dat ds 0).toList) ((dat ds 1).toList) ((dat ds 2).toInt) ((dat ds 3).toInt) (fun rb => K (.c (.bool rb)) ⟨[], []⟩)
theorem t10 (ds : List Dat) (K : AV → AH → Prop) : callA Tryd.prog tys GG10_3 1000 10 (F10.fr ds) (F10.hp ds) (fun v h' => endK Tryd.prog [] .keep (F10.hp ds) (F10.fr ds) v h' K) = mm10 ds K := by kernel_rfl
noncomputable def R10 : CallT := ruleF Tryd.prog [(.agg [(.ro (.pair (.int .i64) (.pair (.int .i32) (.pair (.int .u8) (.pair (.int .u8) (.pair (.slice (.int .i64)) (.pair .str (.pair .str .unit)))))))), (.ro (.pair (.int .i64) (.pair (.int .i32) (.pair (.int .u8) (.pair (.int .u8) (.pair (.slice (.int .i64)) (.pair .str (.pair .str .unit)))))))), .keep, .keep])] [] F10 mm10
theorem ok10 : CallOK Tryd.prog 10 R10 := ruleF_ok sGG10_3 t10
noncomputable def cs10 : List (FuncId × CallT) := (10, R10) :: cs25
theorem cs10_ok : CallsOK Tryd.prog cs10 := .cons ok10 cs25_ok
noncomputable def GG10 : Rules := mkG [] cs10 ls10_3
theorem sGG10 : Sound Tryd.prog tys GG10 := mk_sound mixed tysOK names (by kernel_rfl) cs10_ok ls10_3_ok
end Go.Proofs.YtojdmhfkgkfpaaaDoor

set_option linter.unusedVariables false
set_option linter.unusedSimpArgs false
set_option maxRecDepth 100000
namespace Go.Proofs.YtojdmhfkgkfpaaaDoor
open Go.AM Go.LTxt Go.LMem Go.RowKit
set_option maxHeartbeats 0
/-- the most that an int counts (hidden: the kernel would count it down) -/
def bigB : Nat := 9223372036854775807
theorem in64b {k n : Nat} (hk : k < n) (hn : n ≤ bigB) : inR .i64 ((k : Int) + 1) = true := by
  unfold bigB at hn
  unfold inR
  rw [Bool.and_eq_true]
  exact ⟨decide_eq_true (by show (-9223372036854775808 : Int) ≤ _; omega), decide_eq_true (by show _ ≤ (9223372036854775807 : Int); omega)⟩
theorem len_ne {m n : Nat} (h : (!decide ((m : Int) = (n : Int))) = true) : m ≠ n := by
  simp only [Bool.not_eq_true', decide_eq_false_iff_not] at h
  omega
theorem len_eq {m n : Nat} (h : (!decide ((m : Int) = (n : Int))) = false) : m = n := by
  simp only [Bool.not_eq_false', decide_eq_true_eq] at h
  omega
/-- the same numbers -/
def parEq : List Dat → List Dat → Bool
  | [], [] => true
  | a :: l, b :: m => decide (a.toInt = b.toInt) && parEq l m
  | _, _ => false
theorem parEq_len : ∀ {a b : List Dat}, a.length ≠ b.length → parEq a b = false
  | [], [], h => absurd rfl h
  | [], _ :: _, _ => rfl
  | _ :: _, [], _ => rfl
  | a :: l, b :: m, h => by
    simp only [parEq]
    rw [parEq_len (a := l) (b := m) (by simpa using h), Bool.and_false]
theorem parEq_self : ∀ (a : List Dat), parEq a a = true
  | [] => rfl
  | a :: l => by simp only [parEq]; rw [parEq_self l]; simp
def sameA (x y : AS) : Bool := decide (x.kind = y.kind) && (decide (x.rune = y.rune) && (decide (x.final = y.final) && (decide (x.private_ = y.private_) && (strEq x.inter y.inter && (strEq x.text y.text && parEq x.params y.params)))))
theorem sameA_self (x : AS) : sameA x x = true := by simp [sameA, strEq_self, parEq_self]
def sameL : List Dat → List Dat → Bool
  | [], [] => true
  | a :: l, b :: m => sameA (mkAS a) (mkAS b) && sameL l m
  | _, _ => false
theorem sameL_len : ∀ {a b : List Dat}, a.length ≠ b.length → sameL a b = false
  | [], [], h => absurd rfl h
  | [], _ :: _, _ => rfl
  | _ :: _, [], _ => rfl
  | a :: l, b :: m, h => by
    simp only [sameL]
    rw [sameL_len (a := l) (b := m) (by simpa using h), Bool.and_false]
theorem sameL_self : ∀ (a : List Dat), sameL a a = true
  | [] => rfl
  | a :: l => by simp only [sameL]; rw [sameL_self l, sameA_self]; rfl
theorem kAnd {K : Bool → Prop} {c d : Bool} (hK : K (c && d)) : (c = true → K d) ∧ (c = false → K false) := by
  constructor
  · intro h; rw [h] at hK; exact hK
  · intro h; rw [h] at hK; exact hK
/-! the program's -/
theorem r40_4 (a b : List Dat) (hab : a.length = b.length) (hl : a.length ≤ bigB) (E0 : Prop) (R_ : Bool → Prop) (n : Nat) : ∀ (k : Nat), a.length - k < n → (parEq (a.drop k) (b.drop k) = true → E0) → (parEq (a.drop k) (b.drop k) = false → R_ false) → l40_4 n a b a.length k E0 R_ := by
  induction n with
  | zero => intro k h; omega
  | succ n ih =>
    intro k h hE hR
    unfold l40_4
    rw [Int.toNat_natCast]
    refine br_mk (fun h2 => ?_) (fun h2 => ?_)
    · have hk : k < a.length := by simpa using h2
      have hk' : k < b.length := by omega
      have h3 : (decide ((0 : Int) ≤ (k : Int)) && decide ((k : Int) < (a.length : Int))) = true := by simp; omega
      have h4 : decide (k < a.length) = true := by simpa using hk
      have h5 : (decide ((0 : Int) ≤ (k : Int)) && decide ((k : Int) < (b.length : Int))) = true := by simp; omega
      have h6 : decide (k < b.length) = true := by simpa using hk'
      have e := in64b hk hl
      rw [drop_cons hk, drop_cons hk'] at hE hR
      simp only [parEq] at hE hR
      rw [h3, req_t, h4, req_t, h5, req_t, h6, req_t]
      refine br_mk (fun hc => ?_) (fun hc => ?_)
      · refine hR ?_
        have : decide ((a.getD k default).toInt = (b.getD k default).toInt) = false := by simpa using hc
        rw [this]; rfl
      · have hd : decide ((a.getD k default).toInt = (b.getD k default).toInt) = true := by simpa using hc
        rw [hd, Bool.true_and] at hE hR
        rw [e, req_t, show (k : Int) + 1 = ((k + 1 : Nat) : Int) by omega]
        exact ih (k + 1) (by omega) hE hR
    · have hk : a.length ≤ k := by have := of_decide_eq_false h2; omega
      rw [List.drop_of_length_le hk, List.drop_of_length_le (by omega)] at hE
      exact hE rfl
theorem v40 {a b : List Dat} {K : Bool → Prop} (hl : a.length ≤ bigB) (hK : K (parEq a b)) : m40 a b K := by
  unfold m40
  refine br_mk (fun h => ?_) (fun h => ?_)
  · have : a.length ≠ b.length := len_ne h
    rw [parEq_len this] at hK
    exact hK
  · have hab : a.length = b.length := len_eq h
    exact ⟨_, r40_4 a b hab hl _ _ (_ + 1) 0 (Nat.lt_succ_of_le (Nat.sub_le _ _)) (fun h => by rw [List.drop_zero, List.drop_zero] at h; rw [h] at hK; exact hK) (fun h => by rw [List.drop_zero, List.drop_zero] at h; rw [h] at hK; exact hK)⟩
theorem v39 {x y : AS} {K : Bool → Prop} (hl : x.params.length ≤ bigB) (hK : K (sameA x y)) : m39 x.kind x.rune x.final x.private_ x.params x.inter x.text y.kind y.rune y.final y.private_ y.params y.inter y.text K := by
  unfold m39
  unfold sameA at hK
  have h1 := kAnd hK
  refine br_mk (fun c => ?_) (fun c => h1.2 c)
  have h2 := kAnd (h1.1 c)
  refine br_mk (fun c => ?_) (fun c => h2.2 c)
  have h3 := kAnd (h2.1 c)
  refine br_mk (fun c => ?_) (fun c => h3.2 c)
  have h4 := kAnd (h3.1 c)
  refine br_mk (fun c => ?_) (fun c => h4.2 c)
  have h5 := kAnd (h4.1 c)
  refine br_mk (fun c => ?_) (fun c => h5.2 c)
  have h6 := kAnd (h5.1 c)
  refine br_mk (fun c => ?_) (fun c => h6.2 c)
  exact v40 hl (h6.1 c)
theorem r38_4 (a b : List Dat) (hab : a.length = b.length) (hl : a.length ≤ bigB) (hp : ∀ d ∈ a, (mkAS d).params.length ≤ bigB) (E0 : Prop) (R_ : Bool → Prop) (n : Nat) : ∀ (k : Nat), a.length - k < n → (sameL (a.drop k) (b.drop k) = true → E0) → (sameL (a.drop k) (b.drop k) = false → R_ false) → l38_4 n b a a.length k E0 R_ := by
  induction n with
  | zero => intro k h; omega
  | succ n ih =>
    intro k h hE hR
    unfold l38_4
    rw [Int.toNat_natCast]
    refine br_mk (fun h2 => ?_) (fun h2 => ?_)
    · have hk : k < a.length := by simpa using h2
      have hk' : k < b.length := by omega
      have h3 : (decide ((0 : Int) ≤ (k : Int)) && decide ((k : Int) < (a.length : Int))) = true := by simp; omega
      have h4 : decide (k < a.length) = true := by simpa using hk
      have h5 : (decide ((0 : Int) ≤ (k : Int)) && decide ((k : Int) < (b.length : Int))) = true := by simp; omega
      have h6 : decide (k < b.length) = true := by simpa using hk'
      have e := in64b hk hl
      have hm := hp (a.getD k default) (by rw [List.getD_eq_getElem?_getD, List.getElem?_eq_getElem hk]; exact List.getElem_mem hk)
      rw [drop_cons hk, drop_cons hk'] at hE hR
      simp only [sameL] at hE hR
      rw [h3, req_t, h4, req_t, h5, req_t, h6, req_t]
      refine v39 (x := mkAS (a.getD k default)) (y := mkAS (b.getD k default)) hm ?_
      generalize sameA (mkAS (a.getD k default)) (mkAS (b.getD k default)) = c at hE hR ⊢
      cases c with
      | false => exact hR rfl
      | true =>
        rw [Bool.true_and] at hE hR
        rw [Bool.not_true, br_f, e, req_t, show (k : Int) + 1 = ((k + 1 : Nat) : Int) by omega]
        exact ih (k + 1) (by omega) hE hR
    · have hk : a.length ≤ k := by have := of_decide_eq_false h2; omega
      rw [List.drop_of_length_le hk, List.drop_of_length_le (by omega)] at hE
      exact hE rfl
theorem v25 {a b : List Dat} {K : Bool → Prop} (hl : a.length ≤ bigB) (hp : ∀ d ∈ a, (mkAS d).params.length ≤ bigB) (hK : K (sameL a b)) : m25 a b K := by
  unfold m25 m38
  refine br_mk (fun h => ?_) (fun h => ?_)
  · have : a.length ≠ b.length := len_ne h
    rw [sameL_len this] at hK
    exact hK
  · have hab : a.length = b.length := len_eq h
    exact ⟨_, r38_4 a b hab hl hp _ _ (_ + 1) 0 (Nat.lt_succ_of_le (Nat.sub_le _ _)) (fun h => by rw [List.drop_zero, List.drop_zero] at h; rw [h] at hK; exact hK) (fun h => by rw [List.drop_zero, List.drop_zero] at h; rw [h] at hK; exact hK)⟩
/-! the reference's -/
theorem r13_10g (x y : AS) (hxy : x.params.length = y.params.length) (hl : x.params.length ≤ bigB) (a3 b : List Dat) (i : Int) (E2 : AS → AS → List Dat → List Dat → Int → Prop) (R_ : AS → AS → Bool → Prop) (n : Nat) :
    ∀ (k : Nat), x.params.length - k < n → (parEq (x.params.drop k) (y.params.drop k) = true → E2 x y a3 b i) → (parEq (x.params.drop k) (y.params.drop k) = false → R_ x y false) → l13_10 n x y a3 b i k E2 R_ := by
  induction n with
  | zero => intro k h; omega
  | succ n ih =>
    intro k h hE hR
    unfold l13_10
    rw [Int.toNat_natCast]
    refine br_mk (fun h2 => ?_) (fun h2 => ?_)
    · have hk : k < x.params.length := by simpa using h2
      have hk' : k < y.params.length := by omega
      have h3 : (decide ((0 : Int) ≤ (k : Int)) && decide ((k : Int) < (x.params.length : Int))) = true := by simp; omega
      have h4 : decide (k < x.params.length) = true := by simpa using hk
      have h5 : (decide ((0 : Int) ≤ (k : Int)) && decide ((k : Int) < (y.params.length : Int))) = true := by simp; omega
      have h6 : decide (k < y.params.length) = true := by simpa using hk'
      have e := in64b hk hl
      rw [drop_cons hk, drop_cons hk'] at hE hR
      simp only [parEq] at hE hR
      rw [h3, req_t, h4, req_t, h5, req_t, h6, req_t]
      refine br_mk (fun hc => ?_) (fun hc => ?_)
      · refine hR ?_
        have : decide ((x.params.getD k default).toInt = (y.params.getD k default).toInt) = false := by simpa using hc
        rw [this]; rfl
      · have hd : decide ((x.params.getD k default).toInt = (y.params.getD k default).toInt) = true := by simpa using hc
        rw [hd, Bool.true_and] at hE hR
        rw [e, req_t, show (k : Int) + 1 = ((k + 1 : Nat) : Int) by omega]
        exact ih (k + 1) (by omega) hE hR
    · have hk : x.params.length ≤ k := by have := of_decide_eq_false h2; omega
      rw [List.drop_of_length_le hk, List.drop_of_length_le (by omega)] at hE
      exact hE rfl
theorem r13_4g (a b : List Dat) (hab : a.length = b.length) (hl : a.length ≤ bigB) (hp : ∀ d ∈ a, (mkAS d).params.length ≤ bigB) (E0 : Prop) (R_ : Bool → Prop) (n : Nat) : ∀ (k : Nat), a.length - k < n → (sameL (a.drop k) (b.drop k) = true → E0) → (sameL (a.drop k) (b.drop k) = false → R_ false) → l13_4 n a b k E0 R_ := by
  induction n with
  | zero => intro k h; omega
  | succ n ih =>
    intro k h hE hR
    unfold l13_4
    refine br_mk (fun h2 => ?_) (fun h2 => ?_)
    · have hk : k < a.length := by simpa using h2
      have hk' : k < b.length := by omega
      have e := in64b hk hl
      have hm := hp (a.getD k default) (by rw [List.getD_eq_getElem?_getD, List.getElem?_eq_getElem hk]; exact List.getElem_mem hk)
      rw [drop_cons hk, drop_cons hk'] at hE hR
      simp only [sameL] at hE hR
      refine vp13 hk hk' ?_
      generalize mkAS (a.getD k default) = x at hm hE hR ⊢
      generalize mkAS (b.getD k default) = y at hE hR ⊢
      have hR' : sameA x y = false → R_ false := fun h => hR (by rw [h]; rfl)
      unfold sameA at hR'
      have hT : sameA x y = true → l13_4 n a b ((k : Int) + 1) E0 R_ := fun h => by
        rw [h, Bool.true_and] at hE hR
        rw [show (k : Int) + 1 = ((k + 1 : Nat) : Int) by omega]
        exact ih (k + 1) (by omega) hE hR
      unfold sameA at hT
      refine br_mk (fun c => hR' (by simp only [Bool.not_eq_true'] at c; rw [c]; rfl)) (fun c => ?_)
      simp only [Bool.not_eq_false'] at c
      rw [c, Bool.true_and] at hR' hT
      clear c
      refine br_mk (fun c => hR' (by simp only [Bool.not_eq_true'] at c; rw [c]; rfl)) (fun c => ?_)
      simp only [Bool.not_eq_false'] at c
      rw [c, Bool.true_and] at hR' hT
      clear c
      refine br_mk (fun c => hR' (by simp only [Bool.not_eq_true'] at c; rw [c]; rfl)) (fun c => ?_)
      simp only [Bool.not_eq_false'] at c
      rw [c, Bool.true_and] at hR' hT
      clear c
      refine br_mk (fun c => hR' (by simp only [Bool.not_eq_true'] at c; rw [c]; rfl)) (fun c => ?_)
      simp only [Bool.not_eq_false'] at c
      rw [c, Bool.true_and] at hR' hT
      clear c
      refine br_mk (fun c => hR' (by simp only [Bool.not_eq_true'] at c; rw [c]; rfl)) (fun c => ?_)
      simp only [Bool.not_eq_false'] at c
      rw [c, Bool.true_and] at hR' hT
      clear c
      refine br_mk (fun c => hR' (by simp only [Bool.not_eq_true'] at c; rw [c]; rfl)) (fun c => ?_)
      simp only [Bool.not_eq_false'] at c
      rw [c, Bool.true_and] at hR' hT
      clear c
      refine br_mk (fun c => hR' (parEq_len (len_ne c))) (fun c => ?_)
      have hxy : x.params.length = y.params.length := len_eq c
      refine ⟨_, r13_10g x y hxy hm a b k _ _ (_ + 1) 0 (Nat.lt_succ_of_le (Nat.sub_le _ _)) (fun h => ?_) (fun h => ?_)⟩
      · rw [List.drop_zero, List.drop_zero] at h
        rw [e, req_t]
        exact hT h
      · rw [List.drop_zero, List.drop_zero] at h
        exact hR' h
    · have hk : a.length ≤ k := by have := of_decide_eq_false h2; omega
      rw [List.drop_of_length_le hk, List.drop_of_length_le (by omega)] at hE
      exact hE rfl
theorem v13g {a b : List Dat} {K : Bool → Prop} (hl : a.length ≤ bigB) (hp : ∀ d ∈ a, (mkAS d).params.length ≤ bigB) (hK : K (sameL a b)) : m13 a b K := by
  unfold m13
  refine br_mk (fun h => ?_) (fun h => ?_)
  · have : a.length ≠ b.length := len_ne h
    rw [sameL_len this] at hK
    exact hK
  · have hab : a.length = b.length := len_eq h
    exact ⟨_, r13_4g a b hab hl hp _ _ (_ + 1) 0 (Nat.lt_succ_of_le (Nat.sub_le _ _)) (fun h => by rw [List.drop_zero, List.drop_zero] at h; rw [h] at hK; exact hK) (fun h => by rw [List.drop_zero, List.drop_zero] at h; rw [h] at hK; exact hK)⟩
/-! a parameter -/
def par (ps : List Dat) (i other : Int) : Int :=
  if i < 0 then other else if (ps.length : Int) ≤ i then other else if (ps.getD i.toNat default).toInt = -1 then other else if (ps.getD i.toNat default).toInt = 0 then other else (ps.getD i.toNat default).toInt
theorem v23 {k r f p : Int} {ps : List Dat} {s t : ByteArray} {i other : Int} {K : Int → Prop} (hK : K (par ps i other)) : m23 k r f p ps s t i other K := by
  unfold m23
  unfold par at hK
  refine br_mk (fun h => by rw [if_pos (of_decide_eq_true h)] at hK; exact hK) (fun h => ?_)
  rw [if_neg (of_decide_eq_false h)] at hK
  refine br_mk (fun h => by rw [if_pos (of_decide_eq_true h)] at hK; exact hK) (fun h' => ?_)
  rw [if_neg (of_decide_eq_false h')] at hK
  have h1 := of_decide_eq_false h
  have h2 := of_decide_eq_false h'
  have q1 : (decide ((0 : Int) ≤ i) && decide (i < (ps.length : Int))) = true := by simp; omega
  have q2 : decide (i.toNat < ps.length) = true := decide_eq_true (by omega)
  rw [q1, req_t, q2, req_t]
  refine br_mk (fun h => by rw [if_pos (of_decide_eq_true h)] at hK; exact hK) (fun h3 => ?_)
  rw [if_neg (of_decide_eq_false h3)] at hK
  rw [req_t, req_t]
  refine br_mk (fun h => by rw [if_pos (of_decide_eq_true h)] at hK; exact hK) (fun h4 => ?_)
  rw [if_neg (of_decide_eq_false h4)] at hK
  rw [req_t, req_t]
  exact hK
theorem v24 {k r f p : Int} {ps : List Dat} {s t : ByteArray} {i other : Int} {K : Int → Prop} (hK : K (par ps i other)) : m24 k r f p ps s t i other K := v23 (k := k) (r := r) (f := f) (p := p) (s := s) (t := t) hK
theorem r10_3 (c : C44) (a b : List Dat) (hl : a.length ≤ bigB) (E0 : C44 → List Dat → List Dat → Prop) (R_ : C44 → Bool → Prop) (hE : E0 c a b) (n : Nat) : ∀ (k : Nat), a.length - k < n → l10_3 n c a b a a.length k E0 R_ := by
  induction n with
  | zero => intro k h; omega
  | succ n ih =>
    intro k h
    unfold l10_3
    rw [Int.toNat_natCast]
    refine br_mk (fun h2 => ?_) (fun h2 => hE)
    have hk : k < a.length := by simpa using h2
    have h3 : (decide ((0 : Int) ≤ (k : Int)) && decide ((k : Int) < (a.length : Int))) = true := by simp; omega
    have h4 : decide (k < a.length) = true := by simpa using hk
    have e := in64b hk hl
    rw [h3, req_t, h4, req_t]
    refine v23 (v24 ?_)
    refine br_mk (fun c => by simp at c) (fun _ => ?_)
    rw [e, req_t, show (k : Int) + 1 = ((k + 1 : Nat) : Int) by omega]
    exact ih (k + 1) (by omega)
theorem v10 {a b : List Dat} {i other : Int} (hl : a.length ≤ bigB) (hp : ∀ d ∈ a, (mkAS d).params.length ≤ bigB) {K : Bool → Prop} (hK : K true) : m10 a b i other K := by
  unfold m10
  refine ⟨_, r10_3 ⟨a, b, i, other⟩ a b hl _ _ ?_ (_ + 1) 0 (Nat.lt_succ_of_le (Nat.sub_le _ _))⟩
  refine v25 hl hp (v13g hl hp ?_)
  rw [beq_self_eq_true, br_t]
  refine v25 hl hp ?_
  rw [sameL_self]
  exact hK
end Go.Proofs.YtojdmhfkgkfpaaaDoor

set_option linter.unusedVariables false
set_option maxRecDepth 100000
namespace Go.Proofs.YtojdmhfkgkfpaaaDoor.vtparseAsks
open Go.ChangeShapes Go.WideShapes Go.ChangeAt Go.RowKit Go.AM
theorem true10 {a b : List Dat} {i o : Int} (hl : a.length ≤ bigB) (hp : ∀ d ∈ a, (mkAS d).params.length ≤ bigB) : m10 a b i o tb := v10 hl hp trivial
theorem rule10 (a b : List Dat) (i o : Int) : R10 [.agg [.ro (.pair (.int .i64) (.pair (.int .i32) (.pair (.int .u8) (.pair (.int .u8) (.pair (.slice (.int .i64)) (.pair .str (.pair .str .unit))))))) a, .ro (.pair (.int .i64) (.pair (.int .i32) (.pair (.int .u8) (.pair (.int .u8) (.pair (.slice (.int .i64)) (.pair .str (.pair .str .unit))))))) b, .c (.int .i64 i), .c (.int .i64 o)]] h0 isTrue = m10 a b i o tb := by kernel_rfl
theorem own : ownKnob Tryd.prog.godebug = none := by kernel_rfl
theorem contract (H : Type) (enc : TypeId × Value → H) (W : World) (base : Nat) (args : Array Value) (ds gs : List (DataW H)) (before : List MemPlace)
    (hval : ∀ (j : Nat) t v, Tryd.f10.params[j]? = some t → args[j]? = some v → Value.okWide Tryd.prog W .any base t v)
    (hW : DataW.Whole enc Tryd.prog Tryd.f10.params.toList Rows.vtparseAsksSpec.vars false W args.toList ds gs before) (hL : laidMetH Tryd.prog Rows.vtparseAsksRow.laid W) :
    Calls Tryd.prog 10 args W fun e W' => ∃ v, e = .returned v ∧ Rows.vtparseAsksSpec.post enc Tryd.prog Tryd.f10 false true false false W args v W' := by
  have one : ∃ d0, ds = [d0] := by
    obtain ⟨p, q, hA, hV, _⟩ := hW
    rw [Tryd.params10] at hA
    obtain ⟨v0, vs0, d0, ds0, p0, q0, hargs0, rfl, rfl, h0, r0⟩ := trodAll_cons hA
    obtain ⟨rfl, rfl, rfl⟩ := trodAll_nil r0
    exact ⟨d0, rfl⟩
  obtain ⟨d0, rfl⟩ := one
  have hgs : gs = [] := by
    obtain ⟨p, q, hA, hV, _⟩ := hW
    obtain ⟨rfl, _⟩ := trodVars_none hV
    rfl
  subst hgs
  refine law_contractR ok10 (tb := 4) (ss := [.pair (.slice (.pair (.int .i64) (.pair (.int .i32) (.pair (.int .u8) (.pair (.int .u8) (.pair (.slice (.int .i64)) (.pair .str (.pair .str .unit)))))))) (.pair (.slice (.pair (.int .i64) (.pair (.int .i32) (.pair (.int .u8) (.pair (.int .u8) (.pair (.slice (.int .i64)) (.pair .str (.pair .str .unit)))))))) (.pair (.int .i64) (.pair (.int .i64) .unit)))]) (tabs_laid hL) hval hW rfl (by kernel_rfl) (by kernel_rfl) (fun hl => rfl) (by kernel_rfl) (by kernel_rfl) (by kernel_rfl) (fun hF => ?_)
  refine ⟨[.agg [.ro (.pair (.int .i64) (.pair (.int .i32) (.pair (.int .u8) (.pair (.int .u8) (.pair (.slice (.int .i64)) (.pair .str (.pair .str .unit))))))) (toDat (.pair (.slice (.pair (.int .i64) (.pair (.int .i32) (.pair (.int .u8) (.pair (.int .u8) (.pair (.slice (.int .i64)) (.pair .str (.pair .str .unit)))))))) (.pair (.slice (.pair (.int .i64) (.pair (.int .i32) (.pair (.int .u8) (.pair (.int .u8) (.pair (.slice (.int .i64)) (.pair .str (.pair .str .unit)))))))) (.pair (.int .i64) (.pair (.int .i64) .unit)))) d0).fst.toList, .ro (.pair (.int .i64) (.pair (.int .i32) (.pair (.int .u8) (.pair (.int .u8) (.pair (.slice (.int .i64)) (.pair .str (.pair .str .unit))))))) (toDat (.pair (.slice (.pair (.int .i64) (.pair (.int .i32) (.pair (.int .u8) (.pair (.int .u8) (.pair (.slice (.int .i64)) (.pair .str (.pair .str .unit)))))))) (.pair (.slice (.pair (.int .i64) (.pair (.int .i32) (.pair (.int .u8) (.pair (.int .u8) (.pair (.slice (.int .i64)) (.pair .str (.pair .str .unit)))))))) (.pair (.int .i64) (.pair (.int .i64) .unit)))) d0).snd.fst.toList, .c (.int .i64 (toDat (.pair (.slice (.pair (.int .i64) (.pair (.int .i32) (.pair (.int .u8) (.pair (.int .u8) (.pair (.slice (.int .i64)) (.pair .str (.pair .str .unit)))))))) (.pair (.slice (.pair (.int .i64) (.pair (.int .i32) (.pair (.int .u8) (.pair (.int .u8) (.pair (.slice (.int .i64)) (.pair .str (.pair .str .unit)))))))) (.pair (.int .i64) (.pair (.int .i64) .unit)))) d0).snd.snd.fst.toInt), .c (.int .i64 (toDat (.pair (.slice (.pair (.int .i64) (.pair (.int .i32) (.pair (.int .u8) (.pair (.int .u8) (.pair (.slice (.int .i64)) (.pair .str (.pair .str .unit)))))))) (.pair (.slice (.pair (.int .i64) (.pair (.int .i32) (.pair (.int .u8) (.pair (.int .u8) (.pair (.slice (.int .i64)) (.pair .str (.pair .str .unit)))))))) (.pair (.int .i64) (.pair (.int .i64) .unit)))) d0).snd.snd.snd.fst.toInt)]], by kernel_rfl, ?_⟩
  rw [rule10]
  have hf0 := hF (.pair (.slice (.pair (.int .i64) (.pair (.int .i32) (.pair (.int .u8) (.pair (.int .u8) (.pair (.slice (.int .i64)) (.pair .str (.pair .str .unit)))))))) (.pair (.slice (.pair (.int .i64) (.pair (.int .i32) (.pair (.int .u8) (.pair (.int .u8) (.pair (.slice (.int .i64)) (.pair .str (.pair .str .unit)))))))) (.pair (.int .i64) (.pair (.int .i64) .unit))), d0) (by simp)
  generalize toDat (.pair (.slice (.pair (.int .i64) (.pair (.int .i32) (.pair (.int .u8) (.pair (.int .u8) (.pair (.slice (.int .i64)) (.pair .str (.pair .str .unit)))))))) (.pair (.slice (.pair (.int .i64) (.pair (.int .i32) (.pair (.int .u8) (.pair (.int .u8) (.pair (.slice (.int .i64)) (.pair .str (.pair .str .unit)))))))) (.pair (.int .i64) (.pair (.int .i64) .unit)))) d0 = D at hf0 ⊢
  exact true10 hf0.1.1 (fun x hx => (hf0.1.2 x hx).2.2.2.2.1.1)
theorem laid_met (os : Os) : laidMet Tryd.prog Rows.vtparseAsksRow.laid (((laidWorld Rows.vtparseAsksRow.laid os).forCall (fun _ _ => 0) ⟨#[], #[.agg #[.slice none 0 0, .slice none 0 0, .int .i64 0, .int .i64 0]], []⟩)).memory :=
  laidMet_of_run' 8 (by kernel_rfl) (by kernel_rfl)
theorem reads (os : Os) {H : Type} (enc : TypeId × Value → H) : ∃ places, DataW.whole enc Tryd.prog ((laidWorld Rows.vtparseAsksRow.laid os).forCall (fun _ _ => 0) ⟨#[], #[.agg #[.slice none 0 0, .slice none 0 0, .int .i64 0, .int .i64 0]], []⟩).memory Tryd.f10.params.toList Rows.vtparseAsksSpec.vars false #[.agg #[.slice none 0 0, .slice none 0 0, .int .i64 0, .int .i64 0]].toList 8 = some ([.agg [.nil, .nil, .lit (.int .i64 0), .lit (.int .i64 0)]], [], places) :=
  ⟨[], by kernel_rfl⟩
theorem lifted (os : Os) (started : os.Started) (H : Type) (enc : TypeId × Value → H) (F : Stop.Interp) :
    ReturnsInHanded {} Tryd.checked os 10 .any ((OpenSpec.ofChange Rows.vtparseAsksSpec).preRow enc Tryd.prog Tryd.f10 Rows.vtparseAsksRow.domain false Rows.vtparseAsksRow.laid) (((OpenSpec.ofChange Rows.vtparseAsksSpec).at F).post enc Tryd.prog Tryd.f10 false true false false) := by
  obtain ⟨places, hx⟩ := reads os enc
  refine returnsInHanded_of_row (C := Tryd.checked) (s := OpenSpec.ofChange Rows.vtparseAsksSpec) own started (by kernel_rfl) Tryd.func10
    (witness_row_at (enc := enc) (C := Tryd.checked) false (laidWorld Rows.vtparseAsksRow.laid os) #[.agg #[.slice none 0 0, .slice none 0 0, .int .i64 0, .int .i64 0]] rfl (by kernel_rfl) (by kernel_rfl) (by kernel_rfl)
      (OpenSpec.preRow_of_cond 8 hx (by kernel_rfl) (fun k hk => by cases hk) (by kernel_rfl) (laid_met os))) ?_
  intro W base args ds gs before hval hW _ _ _ hL _ _
  exact contract H enc W base args ds gs before hval hW hL
theorem said : Rows.VtparseAsksSaid :=
  OpenClaim.holds_of_cond 10 Tryd.f10 rfl rfl rfl rfl rfl rfl rfl ⟨rfl, rfl, rfl, rfl, rfl⟩ rfl rfl rfl rfl rfl (by kernel_rfl) Tryd.func10 (by kernel_rfl)
    (of_decide_eq_true (by kernel_rfl)) (by unfold Func.isWrapper; first | (rw [if_pos (by decide +kernel)]; kernel_rfl) | (rw [if_neg (by decide +kernel)]; exact ⟨rfl, rfl⟩))
    (fun os started H enc _ F => by rw [OpenClaim.pre_eq_preRow]; exact lifted os started H enc F)
/-- No parameter wants a stand-in; the program's own looks are off. -/
theorem plain (f : FuncId) (fn : Func) (hf : Tryd.pinned.checked.prog.funcNamed "lanyard/lanyardlaw05.VtparseAsks" = some f) (hfn : Tryd.pinned.checked.prog.funcs[f]? = some fn) :
    false = Tryd.pinned.checked.prog.looks [] ∧ ∀ (j : Nat) t, fn.params[j]? = some t → Tryd.pinned.checked.prog.wantsStandIn t = false := by
  obtain rfl : f = 10 := Option.some.inj ((show Tryd.prog.funcNamed "lanyard/lanyardlaw05.VtparseAsks" = some 10 by kernel_rfl).symm.trans hf) |>.symm
  obtain rfl : fn = Tryd.f10 := (Option.some.inj (Tryd.func10.symm.trans hfn)).symm
  refine ⟨by kernel_rfl, fun j t ht => ?_⟩
  have h1 : (Tryd.f10.params.toList.all fun t => !Tryd.pinned.checked.prog.wantsStandIn t) = true := by kernel_rfl
  have h2 := List.all_eq_true.1 h1 t (Array.mem_toList_iff.2 (Array.mem_of_getElem? ht))
  simpa using h2
theorem card : Rows.VtparseAsksCardSaid :=
  Claim7.holds_tied_plain_at .later [] _ _ _ _ said (fun _ h => by cases h) (by kernel_rfl) (fun _ h => by cases h) vtparseAsks_row_tie rfl ⟨rfl, rfl⟩ (by kernel_rfl) rfl plain (by kernel_rfl)
end Go.Proofs.YtojdmhfkgkfpaaaDoor.vtparseAsks

