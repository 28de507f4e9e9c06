/- Layer 05: bytes that come in, and their bulk. -/
import Derived.Test.YtojdmhfkgkfpaaaDoorPz
import Derived.Test.YtojdmhfkgkfpaaaDoorRl
import Derived.Test.YtojdmhfkgkfpaaaDoorRows
import Derived.Lib.LaidU8
import Derived.Lib.LaidTab
import Derived.Lib.ItoaNum
import Derived.Test.YtojdmhfkgkfpaaaDoorAmLaw
set_option linter.unusedVariables false
set_option maxRecDepth 100000
namespace Go.Proofs.YtojdmhfkgkfpaaaDoor
open Go.AM Go.LTxt Go.LMem Go.RowKit
noncomputable def callsA : List (FuncId × CallT) := cs14 ++ cs15
theorem callsA_ok : CallsOK Tryd.prog callsA := .append cs14_ok cs15_ok
noncomputable def loopsA : List (FuncId × Nat × LoopT) := ls17_5 ++ ls20_3
theorem loopsA_ok : LoopsOK Tryd.prog loopsA := .append ls17_5_ok ls20_3_ok
def F12 : AM.Form := ⟨[], []⟩
noncomputable def mm12 (ds : List Dat) (K : AV → AH → Prop) : Prop := K (.c (.bool true)) ⟨[], []⟩
theorem t12 (ds : List Dat) (K : AV → AH → Prop) : callA Tryd.prog tys noRules 1000 12 (F12.fr ds) (F12.hp ds) (fun v h' => endK Tryd.prog [] .keep (F12.hp ds) (F12.fr ds) v h' K) = mm12 ds K := by kernel_rfl
noncomputable def R12 : CallT := ruleF Tryd.prog [] [] F12 mm12
theorem ok12 : CallOK Tryd.prog 12 R12 := ruleF_ok sound0 t12
noncomputable def cs12 : List (FuncId × CallT) := (12, R12) :: callsA
theorem cs12_ok : CallsOK Tryd.prog cs12 := .cons ok12 callsA_ok
noncomputable def GG12 : Rules := mkG [] cs12 loopsA
theorem sGG12 : Sound Tryd.prog tys GG12 := mk_sound mixed tysOK names (by kernel_rfl) cs12_ok loopsA_ok
structure AS where
  kind : Int
  rune : Int
  final : Int
  private_ : Int
  params : List Dat
  inter : ByteArray
  text : ByteArray
def mkAS (d : Dat) : AS := ⟨d.fst.toInt, d.snd.fst.toInt, d.snd.snd.fst.toInt, d.snd.snd.snd.fst.toInt, d.snd.snd.snd.snd.fst.toList, d.snd.snd.snd.snd.snd.fst.toStr, d.snd.snd.snd.snd.snd.snd.fst.toStr⟩
noncomputable def p13_r6 (a : List Dat) (b : List Dat) (i : Int) (E0 : AS → AS → List Dat → List Dat → Int → Prop) : Prop :=
    req (decide ((0 : Int) ≤ i) && decide (i < (↑(List.length a) : Int))) (
    req (decide ((0 : Int) ≤ i) && decide (i < (↑(List.length b) : Int))) (
    ((
     req (decide (Int.toNat i < List.length a)) (
     ((
      req (decide (Int.toNat i < List.length b)) (
      ((E0 (mkAS (List.getD a (Int.toNat i) default) : AS) (mkAS (List.getD b (Int.toNat i) default) : AS) a b i) ∧ (
       ((E0 (mkAS (List.getD a (Int.toNat i) default) : AS) (mkAS (List.getD b (Int.toNat i) default) : AS) a b i) ∧ (True)))))) ∧ (
      ((
       ((
        req (decide (Int.toNat i < List.length b)) (E0 (mkAS (List.getD a (Int.toNat i) default) : AS) (mkAS (List.getD b (Int.toNat i) default) : AS) a b i)) ∧ (
        ((
         ((
          req (decide (Int.toNat i < List.length b)) (E0 (mkAS (List.getD a (Int.toNat i) default) : AS) (mkAS (List.getD b (Int.toNat i) default) : AS) a b i)) ∧ (
          ((
           req (decide (Int.toNat i < List.length b)) (E0 (mkAS (List.getD a (Int.toNat i) default) : AS) (mkAS (List.getD b (Int.toNat i) default) : AS) a b i)) ∧ (True))))) ∧ (True))))) ∧ (
       ((
        ((
         req (decide (Int.toNat i < List.length b)) (E0 (mkAS (List.getD a (Int.toNat i) default) : AS) (mkAS (List.getD b (Int.toNat i) default) : AS) a b i)) ∧ (
         ((
          ((
           req (decide (Int.toNat i < List.length b)) (E0 (mkAS (List.getD a (Int.toNat i) default) : AS) (mkAS (List.getD b (Int.toNat i) default) : AS) a b i)) ∧ (
           ((
            req (decide (Int.toNat i < List.length b)) (E0 (mkAS (List.getD a (Int.toNat i) default) : AS) (mkAS (List.getD b (Int.toNat i) default) : AS) a b i)) ∧ (True))))) ∧ (True))))) ∧ (True)))))))) ∧ (
     ((
      req (decide (Int.toNat i < List.length b)) (
      ((
       req (decide (Int.toNat i < List.length a)) (
       ((E0 (mkAS (List.getD a (Int.toNat i) default) : AS) (mkAS (List.getD b (Int.toNat i) default) : AS) a b i) ∧ (
        ((E0 (mkAS (List.getD a (Int.toNat i) default) : AS) (mkAS (List.getD b (Int.toNat i) default) : AS) a b i) ∧ (True)))))) ∧ (
       ((
        ((
         req (decide (Int.toNat i < List.length a)) (E0 (mkAS (List.getD a (Int.toNat i) default) : AS) (mkAS (List.getD b (Int.toNat i) default) : AS) a b i)) ∧ (
         ((
          req (decide (Int.toNat i < List.length a)) (E0 (mkAS (List.getD a (Int.toNat i) default) : AS) (mkAS (List.getD b (Int.toNat i) default) : AS) a b i)) ∧ (True))))) ∧ (
        ((
         ((
          req (decide (Int.toNat i < List.length a)) (E0 (mkAS (List.getD a (Int.toNat i) default) : AS) (mkAS (List.getD b (Int.toNat i) default) : AS) a b i)) ∧ (
          ((
           req (decide (Int.toNat i < List.length a)) (E0 (mkAS (List.getD a (Int.toNat i) default) : AS) (mkAS (List.getD b (Int.toNat i) default) : AS) a b i)) ∧ (True))))) ∧ (True)))))))) ∧ (
      ((
       ((
        req (decide (Int.toNat i < List.length a)) (
        ((
         req (decide (Int.toNat i < List.length b)) (E0 (mkAS (List.getD a (Int.toNat i) default) : AS) (mkAS (List.getD b (Int.toNat i) default) : AS) a b i)) ∧ (
         ((
          ((
           req (decide (Int.toNat i < List.length b)) (E0 (mkAS (List.getD a (Int.toNat i) default) : AS) (mkAS (List.getD b (Int.toNat i) default) : AS) a b i)) ∧ (
           ((
            req (decide (Int.toNat i < List.length b)) (E0 (mkAS (List.getD a (Int.toNat i) default) : AS) (mkAS (List.getD b (Int.toNat i) default) : AS) a b i)) ∧ (True))))) ∧ (True)))))) ∧ (
        ((
         req (decide (Int.toNat i < List.length b)) (
         ((
          req (decide (Int.toNat i < List.length a)) (E0 (mkAS (List.getD a (Int.toNat i) default) : AS) (mkAS (List.getD b (Int.toNat i) default) : AS) a b i)) ∧ (
          ((
           req (decide (Int.toNat i < List.length a)) (E0 (mkAS (List.getD a (Int.toNat i) default) : AS) (mkAS (List.getD b (Int.toNat i) default) : AS) a b i)) ∧ (True)))))) ∧ (
         ((
          req (decide (Int.toNat i < List.length a)) (
          ((
           req (decide (Int.toNat i < List.length b)) (E0 (mkAS (List.getD a (Int.toNat i) default) : AS) (mkAS (List.getD b (Int.toNat i) default) : AS) a b i)) ∧ (
           ((
            req (decide (Int.toNat i < List.length b)) (E0 (mkAS (List.getD a (Int.toNat i) default) : AS) (mkAS (List.getD b (Int.toNat i) default) : AS) a b i)) ∧ (True)))))) ∧ (True))))))) ∧ (
       ((
        ((
         req (decide (Int.toNat i < List.length a)) (
         ((
          req (decide (Int.toNat i < List.length b)) (E0 (mkAS (List.getD a (Int.toNat i) default) : AS) (mkAS (List.getD b (Int.toNat i) default) : AS) a b i)) ∧ (
          ((
           ((
            req (decide (Int.toNat i < List.length b)) (E0 (mkAS (List.getD a (Int.toNat i) default) : AS) (mkAS (List.getD b (Int.toNat i) default) : AS) a b i)) ∧ (
            ((
             req (decide (Int.toNat i < List.length b)) (E0 (mkAS (List.getD a (Int.toNat i) default) : AS) (mkAS (List.getD b (Int.toNat i) default) : AS) a b i)) ∧ (True))))) ∧ (True)))))) ∧ (
         ((
          req (decide (Int.toNat i < List.length b)) (
          ((
           req (decide (Int.toNat i < List.length a)) (E0 (mkAS (List.getD a (Int.toNat i) default) : AS) (mkAS (List.getD b (Int.toNat i) default) : AS) a b i)) ∧ (
           ((
            req (decide (Int.toNat i < List.length a)) (E0 (mkAS (List.getD a (Int.toNat i) default) : AS) (mkAS (List.getD b (Int.toNat i) default) : AS) a b i)) ∧ (True)))))) ∧ (
          ((
           req (decide (Int.toNat i < List.length a)) (
           ((
            req (decide (Int.toNat i < List.length b)) (E0 (mkAS (List.getD a (Int.toNat i) default) : AS) (mkAS (List.getD b (Int.toNat i) default) : AS) a b i)) ∧ (
            ((
             req (decide (Int.toNat i < List.length b)) (E0 (mkAS (List.getD a (Int.toNat i) default) : AS) (mkAS (List.getD b (Int.toNat i) default) : AS) a b i)) ∧ (True)))))) ∧ (True))))))) ∧ (True))))))))))
def F13_r6 : AM.Form := ⟨mkF 95 [(0, .ro (.pair (.int .i64) (.pair (.int .i32) (.pair (.int .u8) (.pair (.int .u8) (.pair (.slice (.int .i64)) (.pair .str (.pair .str .unit)))))))), (1, .ro (.pair (.int .i64) (.pair (.int .i32) (.pair (.int .u8) (.pair (.int .u8) (.pair (.slice (.int .i64)) (.pair .str (.pair .str .unit)))))))), (5, .int .i64)], []⟩
noncomputable def mm13_r6 (ds : List Dat) (Q : AExit → List AV → AH → Prop) : Prop := p13_r6 ((dat ds 0).toList) ((dat ds 1).toList) ((dat ds 2).toInt) (fun ra ra2 rxs rxs2 rn => Q .normal (mkAV 95 [(0, .ro (.pair (.int .i64) (.pair (.int .i32) (.pair (.int .u8) (.pair (.int .u8) (.pair (.slice (.int .i64)) (.pair .str (.pair .str .unit))))))) rxs), (1, .ro (.pair (.int .i64) (.pair (.int .i32) (.pair (.int .u8) (.pair (.int .u8) (.pair (.slice (.int .i64)) (.pair .str (.pair .str .unit))))))) rxs2), (5, .c (.int .i64 rn)), (6, .p 0 0), (7, .p 1 0)]) ⟨[.cells 35 [.c (.int .i64 ra.kind), .c (.int .i32 ra.rune), .c (.int .u8 ra.final), .c (.int .u8 ra.private_), .ro (.int .i64) ra.params, .c (.string ra.inter), .c (.string ra.text)], .cells 35 [.c (.int .i64 ra2.kind), .c (.int .i32 ra2.rune), .c (.int .u8 ra2.final), .c (.int .u8 ra2.private_), .ro (.int .i64) ra2.params, .c (.string ra2.inter), .c (.string ra2.text)]], []⟩)
theorem t13_r6 (ds : List Dat) (Q : AExit → List AV → AH → Prop) : wpA Tryd.prog tys GG12 1000 13 (theReg Tryd.prog 13 6) (fun e f' h' => endF Tryd.prog ((fun _ => []) e) ((fun _ => ⟨[0, 1, 5, 6, 7], []⟩) e) ((fun _ => []) e) (F13_r6.hp ds) f' h' fun f2 h2 => Q e f2 h2) (F13_r6.fr ds) (F13_r6.hp ds) = mm13_r6 ds Q := by kernel_rfl
noncomputable def R13_r6 : LoopT := headF Tryd.prog [] ⟨[0, 1, 5], []⟩ [] (locL F13_r6 mm13_r6)
theorem ok13_r6 : RegOK Tryd.prog (theReg Tryd.prog 13 6) R13_r6 := ruleP_ok sGG12 (by kernel_rfl) mm13_r6 t13_r6
noncomputable def rs13_r6 : List (FuncId × Nat × LoopT) := (13, 6, R13_r6) :: []
theorem rs13_r6_ok : RegsOK Tryd.prog rs13_r6 := .cons (by kernel_rfl) ok13_r6 .nil
noncomputable def GG13_r6 : Rules := mkG [] cs12 loopsA rs13_r6
theorem sGG13_r6 : Sound Tryd.prog tys GG13_r6 := mk_sound mixed tysOK names (by kernel_rfl) cs12_ok loopsA_ok rs13_r6_ok
noncomputable def l13_10 : Nat → AS → AS → List Dat → List Dat → Int → Int → (AS → AS → List Dat → List Dat → Int → Prop) → (AS → AS → Bool → Prop) → Prop
  | 0, _, _, _, _, _, _, _, _ => False
  | fu + 1, a, a2, a3, b, i, k, E2, R_ =>
    br (decide (k < (↑(List.length (AS.params a)) : Int))) (
     req (decide ((0 : Int) ≤ k) && decide (k < (↑(List.length (AS.params a)) : Int))) (
     req (decide (Int.toNat k < List.length (AS.params a))) (
     req (decide ((0 : Int) ≤ k) && decide (k < (↑(List.length (AS.params a2)) : Int))) (
     req (decide (Int.toNat k < List.length (AS.params a2))) (
     br (!decide (Dat.toInt (List.getD (AS.params a) (Int.toNat k) default) = Dat.toInt (List.getD (AS.params a2) (Int.toNat k) default))) (R_ a a2 false) (
      req (inR IntKind.i64 (k + (1 : Int))) (l13_10 fu a a2 a3 b i (k + (1 : Int)) E2 R_))))))) (E2 a a2 a3 b i)
def F13_10 : AM.Form := ⟨mkF 95 [(0, .ro (.pair (.int .i64) (.pair (.int .i32) (.pair (.int .u8) (.pair (.int .u8) (.pair (.slice (.int .i64)) (.pair .str (.pair .str .unit)))))))), (1, .ro (.pair (.int .i64) (.pair (.int .i32) (.pair (.int .u8) (.pair (.int .u8) (.pair (.slice (.int .i64)) (.pair .str (.pair .str .unit)))))))), (5, .int .i64), (6, .p 0 0), (7, .p 1 0), (8, .int .i64)], [.cells 35 [.int .i64, .int .i32, .int .u8, .int .u8, .ro (.int .i64), .str, .str], .cells 35 [.int .i64, .int .i32, .int .u8, .int .u8, .ro (.int .i64), .str, .str]]⟩
noncomputable def mm13_10 (n : Nat) (ds : List Dat) (Q : AExit → List AV → AH → Prop) : Prop := l13_10 n ⟨(dat ds 4).toInt, (dat ds 5).toInt, (dat ds 6).toInt, (dat ds 7).toInt, (dat ds 8).toList, (dat ds 9).toStr, (dat ds 10).toStr⟩ ⟨(dat ds 11).toInt, (dat ds 12).toInt, (dat ds 13).toInt, (dat ds 14).toInt, (dat ds 15).toList, (dat ds 16).toStr, (dat ds 17).toStr⟩ ((dat ds 0).toList) ((dat ds 1).toList) ((dat ds 2).toInt) ((dat ds 3).toInt) (fun ra ra2 rxs rxs2 rn => Q (AExit.exit 2) (mkAV 95 [(0, .ro (.pair (.int .i64) (.pair (.int .i32) (.pair (.int .u8) (.pair (.int .u8) (.pair (.slice (.int .i64)) (.pair .str (.pair .str .unit))))))) rxs), (1, .ro (.pair (.int .i64) (.pair (.int .i32) (.pair (.int .u8) (.pair (.int .u8) (.pair (.slice (.int .i64)) (.pair .str (.pair .str .unit))))))) rxs2), (5, .c (.int .i64 rn)), (6, .p 0 0), (7, .p 1 0)]) ⟨[.cells 35 [.c (.int .i64 ra.kind), .c (.int .i32 ra.rune), .c (.int .u8 ra.final), .c (.int .u8 ra.private_), .ro (.int .i64) ra.params, .c (.string ra.inter), .c (.string ra.text)], .cells 35 [.c (.int .i64 ra2.kind), .c (.int .i32 ra2.rune), .c (.int .u8 ra2.final), .c (.int .u8 ra2.private_), .ro (.int .i64) ra2.params, .c (.string ra2.inter), .c (.string ra2.text)]], []⟩) (fun ra ra2 rb => Q AExit.ret (mkAV 95 [(4, .c (.bool rb)), (6, .p 0 0), (7, .p 1 0)]) ⟨[.cells 35 [.c (.int .i64 ra.kind), .c (.int .i32 ra.rune), .c (.int .u8 ra.final), .c (.int .u8 ra.private_), .ro (.int .i64) ra.params, .c (.string ra.inter), .c (.string ra.text)], .cells 35 [.c (.int .i64 ra2.kind), .c (.int .i32 ra2.rune), .c (.int .u8 ra2.final), .c (.int .u8 ra2.private_), .ro (.int .i64) ra2.params, .c (.string ra2.inter), .c (.string ra2.text)]], []⟩)
theorem t13_10 (n : Nat) (ds : List Dat) (Q : AExit → List AV → AH → Prop) : wpA Tryd.prog tys GG13_r6 1000 13 (theLoop Tryd.prog 13 10) (fun e f' h' => endF Tryd.prog ((fun _ => []) e) ((fun e => match e with | .normal => ⟨[0, 1, 5, 6, 7, 8], []⟩ | .exit 2 => ⟨[0, 1, 5, 6, 7], []⟩ | .ret => ⟨[4, 6, 7], []⟩ | _ => ⟨[], []⟩) e) ((fun e => match e with | .normal => [] | .exit 2 => [] | .ret => [] | _ => []) e) (F13_10.hp ds) f' h' fun f2 h2 => match e with
      | .normal => locL F13_10 (mm13_10 n) f2 h2 Q
      | e => Q e f2 h2) (F13_10.fr ds) (F13_10.hp ds) = mm13_10 (n + 1) ds Q := by kernel_rfl
noncomputable def R13_10 : LoopT := headF Tryd.prog [] ⟨[0, 1, 5, 6, 7, 8], []⟩ [] fun f h Q => ∃ n, locL F13_10 (mm13_10 n) f h Q
theorem ok13_10 : LoopOK Tryd.prog (theLoop Tryd.prog 13 10) R13_10 := ruleL_ok sGG13_r6 (by kernel_rfl) mm13_10 (fun _ _ => rfl) t13_10
noncomputable def ls13_10 : List (FuncId × Nat × LoopT) := (13, 10, R13_10) :: loopsA
theorem ls13_10_ok : LoopsOK Tryd.prog ls13_10 := .cons (by kernel_rfl) ok13_10 loopsA_ok
noncomputable def GG13_10 : Rules := mkG [] cs12 ls13_10 rs13_r6
theorem sGG13_10 : Sound Tryd.prog tys GG13_10 := mk_sound mixed tysOK names (by kernel_rfl) cs12_ok ls13_10_ok rs13_r6_ok
noncomputable def l13_4 : Nat → List Dat → List Dat → Int → (Prop) → (Bool → Prop) → Prop
  | 0, _, _, _, _, _ => False
  | fu + 1, a, b, i, E0, R_ =>
    br (decide (i < (↑(List.length a) : Int))) (
     p13_r6 a b i (fun y0 y1 y2 y3 y4 => 
      br (!decide (AS.kind y0 = AS.kind y1)) (R_ false) (
       br (!decide (AS.rune y0 = AS.rune y1)) (R_ false) (
        br (!decide (AS.final y0 = AS.final y1)) (R_ false) (
         br (!decide (AS.private_ y0 = AS.private_ y1)) (R_ false) (
          br (!strEq (AS.inter y0) (AS.inter y1)) (R_ false) (
           br (!strEq (AS.text y0) (AS.text y1)) (R_ false) (
            br (!decide ((↑(List.length (AS.params y0)) : Int) = (↑(List.length (AS.params y1)) : Int))) (R_ false) (
             (∃ y5, 
             l13_10 y5 y0 y1 y2 y3 y4 (0 : Int) (fun y6 y7 y8 y9 y10 => 
              req (inR IntKind.i64 (y10 + (1 : Int))) (l13_4 fu y8 y9 (y10 + (1 : Int)) E0 R_)) (fun y11 y12 y13 => R_ y13))))))))))) (E0)
def F13_4 : AM.Form := ⟨mkF 95 [(0, .ro (.pair (.int .i64) (.pair (.int .i32) (.pair (.int .u8) (.pair (.int .u8) (.pair (.slice (.int .i64)) (.pair .str (.pair .str .unit)))))))), (1, .ro (.pair (.int .i64) (.pair (.int .i32) (.pair (.int .u8) (.pair (.int .u8) (.pair (.slice (.int .i64)) (.pair .str (.pair .str .unit)))))))), (5, .int .i64)], []⟩
noncomputable def mm13_4 (n : Nat) (ds : List Dat) (Q : AExit → List AV → AH → Prop) : Prop := l13_4 n ((dat ds 0).toList) ((dat ds 1).toList) ((dat ds 2).toInt) (Q (AExit.exit 0) (mkAV 95 []) ⟨[], []⟩) (fun rb => Q AExit.ret (mkAV 95 [(4, .c (.bool rb))]) ⟨[], []⟩)
theorem t13_4 (n : Nat) (ds : List Dat) (Q : AExit → List AV → AH → Prop) : wpA Tryd.prog tys GG13_10 1000 13 (theLoop Tryd.prog 13 4) (fun e f' h' => endF Tryd.prog ((fun _ => []) e) ((fun e => match e with | .normal => ⟨[0, 1, 5], []⟩ | .exit 0 => ⟨[], []⟩ | .ret => ⟨[4], []⟩ | _ => ⟨[], []⟩) e) ((fun e => match e with | .normal => [] | .exit 0 => [] | .ret => [] | _ => []) e) (F13_4.hp ds) f' h' fun f2 h2 => match e with
      | .normal => locL F13_4 (mm13_4 n) f2 h2 Q
      | e => Q e f2 h2) (F13_4.fr ds) (F13_4.hp ds) = mm13_4 (n + 1) ds Q := by kernel_rfl
noncomputable def R13_4 : LoopT := headF Tryd.prog [] ⟨[0, 1, 5], []⟩ [] fun f h Q => ∃ n, locL F13_4 (mm13_4 n) f h Q
theorem ok13_4 : LoopOK Tryd.prog (theLoop Tryd.prog 13 4) R13_4 := ruleL_ok sGG13_10 (by kernel_rfl) mm13_4 (fun _ _ => rfl) t13_4
noncomputable def ls13_4 : List (FuncId × Nat × LoopT) := (13, 4, R13_4) :: ls13_10
theorem ls13_4_ok : LoopsOK Tryd.prog ls13_4 := .cons (by kernel_rfl) ok13_4 ls13_10_ok
noncomputable def GG13_4 : Rules := mkG [] cs12 ls13_4 rs13_r6
theorem sGG13_4 : Sound Tryd.prog tys GG13_4 := mk_sound mixed tysOK names (by kernel_rfl) cs12_ok ls13_4_ok rs13_r6_ok
noncomputable def m13 (a : List Dat) (b : List Dat) (K : Bool → Prop) : Prop :=
    br (!decide ((↑(List.length a) : Int) = (↑(List.length b) : Int))) (K false) (
     (∃ y0, 
     l13_4 y0 a b (0 : Int) (K true) (fun y1 => K y1)))
def F13 : AM.Form := ⟨[.ro (.pair (.int .i64) (.pair (.int .i32) (.pair (.int .u8) (.pair (.int .u8) (.pair (.slice (.int .i64)) (.pair .str (.pair .str .unit))))))), .ro (.pair (.int .i64) (.pair (.int .i32) (.pair (.int .u8) (.pair (.int .u8) (.pair (.slice (.int .i64)) (.pair .str (.pair .str .unit)))))))], []⟩
noncomputable def mm13 (ds : List Dat) (K : AV → AH → Prop) : Prop := m13 ((dat ds 0).toList) ((dat ds 1).toList) (fun rb => K (.c (.bool rb)) ⟨[], []⟩)
theorem t13 (ds : List Dat) (K : AV → AH → Prop) : callA Tryd.prog tys GG13_4 1000 13 (F13.fr ds) (F13.hp ds) (fun v h' => endK Tryd.prog [] .keep (F13.hp ds) (F13.fr ds) v h' K) = mm13 ds K := by kernel_rfl
noncomputable def R13 : CallT := ruleF Tryd.prog [(.ro (.pair (.int .i64) (.pair (.int .i32) (.pair (.int .u8) (.pair (.int .u8) (.pair (.slice (.int .i64)) (.pair .str (.pair .str .unit)))))))), (.ro (.pair (.int .i64) (.pair (.int .i32) (.pair (.int .u8) (.pair (.int .u8) (.pair (.slice (.int .i64)) (.pair .str (.pair .str .unit))))))))] [] F13 mm13
theorem ok13 : CallOK Tryd.prog 13 R13 := ruleF_ok sGG13_4 t13
noncomputable def cs13 : List (FuncId × CallT) := (13, R13) :: cs12
theorem cs13_ok : CallsOK Tryd.prog cs13 := .cons ok13 cs12_ok
noncomputable def GG13 : Rules := mkG [] cs13 ls13_4 rs13_r6
theorem sGG13 : Sound Tryd.prog tys GG13 := mk_sound mixed tysOK names (by kernel_rfl) cs13_ok ls13_4_ok rs13_r6_ok
noncomputable def m3 (b : List Dat) (K : Bool → Prop) : Prop :=
    m14 b (fun y0 => 
     m15 b (fun y1 => 
      req (decide ((0 : Nat) + List.length y0 ≤ List.length y0)) (
      req (decide ((0 : Nat) + List.length y1 ≤ List.length y1)) (
      m13 (List.take (List.length y0) y0) (List.take (List.length y1) y1) (fun y2 => K y2)))))
def F3 : AM.Form := ⟨[.ro (.int .u8)], []⟩
noncomputable def mm3 (ds : List Dat) (K : AV → AH → Prop) : Prop := m3 ((dat ds 0).toList) (fun rb => K (.c (.bool rb)) ⟨[], []⟩)
theorem t3 (ds : List Dat) (K : AV → AH → Prop) : callA Tryd.prog tys GG13 1000 3 (F3.fr ds) (F3.hp ds) (fun v h' => endK Tryd.prog [] .keep (F3.hp ds) (F3.fr ds) v h' K) = mm3 ds K := by kernel_rfl
noncomputable def R3 : CallT := ruleF Tryd.prog [(.ro (.int .u8))] [] F3 mm3
theorem ok3 : CallOK Tryd.prog 3 R3 := ruleF_ok sGG13 t3
noncomputable def cs3 : List (FuncId × CallT) := (3, R3) :: cs13
theorem cs3_ok : CallsOK Tryd.prog cs3 := .cons ok3 cs13_ok
noncomputable def GG3 : Rules := mkG [] cs3 ls13_4 rs13_r6
theorem sGG3 : Sound Tryd.prog tys GG3 := mk_sound mixed tysOK names (by kernel_rfl) cs3_ok ls13_4_ok rs13_r6_ok
end Go.Proofs.YtojdmhfkgkfpaaaDoor

set_option linter.unusedVariables false
set_option linter.unusedSimpArgs false
set_option maxRecDepth 100000
namespace Go.Proofs.YtojdmhfkgkfpaaaDoor
open Go.AM Go.LTxt Go.LMem Go.RowKit
set_option maxHeartbeats 0
theorem vp13 {a b : List Dat} {k : Nat} {E : AS → AS → List Dat → List Dat → Int → Prop} (ha : k < a.length) (hb : k < b.length) (hE : E (mkAS (a.getD k default)) (mkAS (b.getD k default)) a b k) : p13_r6 a b k E := by
  have h1 : (decide ((0 : Int) ≤ (k : Int)) && decide ((k : Int) < (a.length : Int))) = true := by simp; omega
  have h2 : (decide ((0 : Int) ≤ (k : Int)) && decide ((k : Int) < (b.length : Int))) = true := by simp; omega
  have h3 : decide (k < a.length) = true := by simpa using ha
  have h4 : decide (k < b.length) = true := by simpa using hb
  unfold p13_r6
  simp only [Int.toNat_natCast, h1, h2, h3, h4, req_t, and_true, and_self]
  exact hE
theorem r13_10 (a : AS) (a3 b : List Dat) (i : Int) (E2 : AS → AS → List Dat → List Dat → Int → Prop) (R_ : AS → AS → Bool → Prop) (hE : E2 a a a3 b i) (hl : a.params.length ≤ limB) (n : Nat) : ∀ (k : Nat), a.params.length - k < n → l13_10 n a a a3 b i k E2 R_ := by
  have hlim : limB = 100000000 := rfl
  induction n with
  | zero => intro k h; omega
  | succ n ih =>
    intro k h
    have hin : k ≤ a.params.length → inR .i64 ((k : Int) + 1) = true := fun hk => in64 k (by omega)
    clear hlim hl
    unfold l13_10
    rw [Int.toNat_natCast]
    refine br_mk (fun h2 => ?_) (fun h2 => hE)
    have hk : k < a.params.length := by simpa using h2
    have h3 : (decide ((0 : Int) ≤ (k : Int)) && decide ((k : Int) < (a.params.length : Int))) = true := by simp; omega
    have h4 : decide (k < a.params.length) = true := by simpa using hk
    refine req_mk h3 (req_mk h4 (req_mk h3 (req_mk h4 (br_mk (fun hc => by simp at hc) (fun _ => ?_)))))
    have := ih (k + 1) (by omega)
    rw [show ((k + 1 : Nat) : Int) = (k : Int) + 1 by omega] at this
    have e := hin (Nat.le_of_lt hk)
    clear h3 h4 h2 hin
    rw [e]
    exact this
theorem strEq_self (s : ByteArray) : strEq s s = true := by unfold strEq; simp
theorem r13_4 (a : List Dat) (E0 : Prop) (R_ : Bool → Prop) (hE : E0) (hok : AllOk a) (hl : a.length ≤ limB) : ∀ (n k : Nat), a.length - k < n → l13_4 n a a k E0 R_
  | 0, k, h => by omega
  | n + 1, k, h => by
    have hlim : limB = 100000000 := rfl
    unfold l13_4
    refine br_mk (fun h2 => ?_) (fun h2 => hE)
    have hk : k < a.length := by simpa using h2
    have hm : okAct (a.getD k default) := hok.all _ (by rw [List.getD_eq_getElem?_getD, List.getElem?_eq_getElem hk]; exact List.getElem_mem hk)
    refine vp13 hk hk ?_
    simp only [decide_true, Bool.not_true, br_f, strEq_self]
    refine ⟨(mkAS (a.getD k default)).params.length + 1, r13_10 _ a a k _ _ ?_ (by have := hm.pl; unfold aParams at this; simp only [mkAS]; have hlim : limB = 100000000 := rfl; omega) _ 0 (by omega)⟩
    rw [in64 k (by omega), req_t, show (k : Int) + 1 = ((k + 1 : Nat) : Int) by omega]
    exact r13_4 a E0 R_ hE hok hl n (k + 1) (by omega)
theorem v13 {a : List Dat} {K : Bool → Prop} (hK : K true) (hok : AllOk a) (hl : a.length ≤ limB) : m13 a a K := by
  unfold m13
  simp only [decide_true, Bool.not_true, br_f]
  exact ⟨a.length + 1, r13_4 a _ _ hK hok hl _ 0 (by omega)⟩
end Go.Proofs.YtojdmhfkgkfpaaaDoor

set_option linter.unusedVariables false
set_option maxRecDepth 100000
namespace Go.Proofs.YtojdmhfkgkfpaaaDoor
open Go.AM Go.LTxt Go.LMem Go.RowKit Go.Lib
def laid5 : List (String × DataW Unit) := [("math/bits.deBruijn32tab", Rows.laid_math_bits_deBruijn32tab), ("math/bits.deBruijn64tab", Rows.laid_math_bits_deBruijn64tab), ("internal/strconv.uint64pow10", Rows.laid_internal_strconv_uint64pow10), ("unicode/utf8.acceptRanges", Rows.laid_unicode_utf8_acceptRanges), ("unicode/utf8.first", Rows.laid_unicode_utf8_first)]
def fs_ : Array Field := #[{ name := "lo", type := 5, offset := 0, embedded := false, tag := "", pkgPath := "unicode/utf8", byteOffset := 0 }, { name := "hi", type := 5, offset := 1, embedded := false, tag := "", pkgPath := "unicode/utf8", byteOffset := 1 }]
theorem acc_eq : (Rows.laid_unicode_utf8_acceptRanges : DataW Unit) = acceptData := by kernel_rfl
theorem fst_eq : (Rows.laid_unicode_utf8_first : DataW Unit) = firstData := by kernel_rfl
theorem plainH (W : World) : laidMetH Tryd.prog laid5 W = laidMet Tryd.prog laid5 W := by kernel_rfl
theorem pow_eq : (Rows.laid_internal_strconv_uint64pow10 : DataW Unit) = tabData .u64 pow10Tab := by kernel_rfl
theorem tabs_laid {W : World} (h : laidMetH Tryd.prog laid5 W) : (∀ g o u, T0 g o u → W.cell? ⟨g, o, none⟩ = some u) ∧ ∀ g, R1 g → T1 g W.heap[g]? := by
  rw [plainH] at h
  have h5 := laidMet.reads h (n := "internal/strconv.uint64pow10") (d := Rows.laid_internal_strconv_uint64pow10) (by simp [laid5])
  rw [pow_eq] at h5
  obtain ⟨gp, tp, cp, fp, pp, hgp, htp, hvp, hdp⟩ := h5
  obtain rfl := Option.some.inj ((show Tryd.prog.globalNamed "internal/strconv.uint64pow10" = some 2 by kernel_rfl).symm.trans hgp)
  obtain rfl := Option.some.inj ((show (Tryd.prog.globals[2]?).map (·.type) = some 117 by kernel_rfl).symm.trans htp)
  have hcp := cells_of_tab (e := 102) (n := 20) (by kernel_rfl) (by kernel_rfl) (by kernel_rfl) (by kernel_rfl) hdp
  have hcp' : cp = (pow10Tab.map fun z => Value.int .u64 z).toArray := by rw [← hcp]
  subst hcp'
  refine ⟨?_, fun g hg => ?_⟩
  rotate_left
  · obtain rfl : g = 2 := hg
    unfold World.var? at hvp
    rw [hgp] at hvp
    simp only [Option.bind_some] at hvp
    split at hvp
    · rename_i cs t fr hh
      cases hvp
      exact ⟨t, fr, hh⟩
    · cases hvp
  have h4 := laidMet.reads h (n := "unicode/utf8.acceptRanges") (d := Rows.laid_unicode_utf8_acceptRanges) (by simp [laid5])
  have h3 := laidMet.reads h (n := "unicode/utf8.first") (d := Rows.laid_unicode_utf8_first) (by simp [laid5])
  rw [acc_eq] at h4
  rw [fst_eq] at h3
  rintro g o u (⟨rfl, ho, rfl⟩ | ⟨rfl, i, hi, ho⟩ | ⟨rfl, ho, rfl⟩)
  · obtain ⟨g, t, cs, fuel, p, hg, hty, hvar, hd⟩ := h3
    obtain rfl := Option.some.inj ((show Tryd.prog.globalNamed "unicode/utf8.first" = some 0 by kernel_rfl).symm.trans hg)
    obtain rfl := Option.some.inj ((show (Tryd.prog.globals[0]?).map (·.type) = some 107 by kernel_rfl).symm.trans hty)
    have hcs := cells_of_tab (e := 5) (n := 256) (by kernel_rfl) (by kernel_rfl) (by kernel_rfl) (by kernel_rfl) hd
    have := World.var?_cell hg hvar o
    rw [this, ← Array.getElem?_toList, hcs]
    simp [firstTab, ho]
  · obtain ⟨g, t, cs, fuel, p, hg, hty, hvar, hd⟩ := h4
    obtain rfl := Option.some.inj ((show Tryd.prog.globalNamed "unicode/utf8.acceptRanges" = some 1 by kernel_rfl).symm.trans hg)
    obtain rfl := Option.some.inj ((show (Tryd.prog.globals[1]?).map (·.type) = some 110 by kernel_rfl).symm.trans hty)
    obtain ⟨fuel', d, q, hdi, he⟩ := array_elem (n := 16) (e := 109) (by kernel_rfl) hd i hi
    simp only [List.getElem?_map, List.getElem?_range hi, Option.map_some, Option.some.injEq] at hdi
    subst hdi
    rw [show Tryd.prog.cellsOf 109 = 2 by kernel_rfl] at he
    have hcs := ints_of_struct (t := 109) (fs := fs_) (by kernel_rfl) (fun j f hj => by
      match j, hj with
      | 0, hj => simp [fs_] at hj; subst hj; exact ⟨by kernel_rfl, rfl, by kernel_rfl⟩
      | 1, hj => simp [fs_] at hj; subst hj; exact ⟨by kernel_rfl, rfl, by kernel_rfl⟩
      | j + 2, hj => simp [fs_] at hj) (by kernel_rfl) he
    have e0 := congrArg (·[0]?) hcs
    have e1 := congrArg (·[1]?) hcs
    simp only [List.getElem?_take, List.getElem?_drop] at e0 e1
    rcases ho with ⟨rfl, rfl⟩ | ⟨rfl, rfl⟩
    · rw [World.var?_cell hg hvar (i * 2), ← Array.getElem?_toList]
      simpa using e0
    · rw [World.var?_cell hg hvar (i * 2 + 1), ← Array.getElem?_toList]
      simpa using e1
  · have := TabIs.cell (k := .u64) (zs := pow10Tab) hvp hgp o (by rw [pow10Tab_length]; exact ho)
    exact this
end Go.Proofs.YtojdmhfkgkfpaaaDoor

set_option linter.unusedVariables false
namespace Go.Proofs.YtojdmhfkgkfpaaaDoor
open Go.AM Go.LTxt Go.LMem Go.RowKit
theorem toDat_int {H : Type} (k : IntKind) (d : DataW H) : ∃ n, toDat (.int k) d = .int n := by
  cases d <;> try exact ⟨_, rfl⟩
  rename_i l
  cases l <;> exact ⟨_, rfl⟩
theorem okB_of {xs : List Dat} (h : ∀ d ∈ xs, ∃ n : Int, d = .int n ∧ 0 ≤ n ∧ n ≤ 255) : okB xs := by
  unfold okB bD toB
  rw [List.map_map]
  conv => lhs; rw [← List.map_id xs]
  refine List.map_congr_left fun d hd => ?_
  obtain ⟨n, rfl, h0, h1⟩ := h d hd
  simp only [id, Function.comp, Dat.toInt]
  rw [ofNat_toNat h0 h1]
theorem bytes_ok {H : Type} (d : DataW H) (hF : Fits (.slice (.int .u8)) (toDat (.slice (.int .u8)) d)) : okB (toDat (.slice (.int .u8)) d).toList := by
  refine okB_of fun x hx => ?_
  have h1 := hF.2 x hx
  have h2 : ∃ n, x = .int n := by
    cases d with
    | slice elems spare =>
      simp only [toDat, Dat.toList, List.mem_map] at hx
      obtain ⟨y, _, rfl⟩ := hx
      exact toDat_int _ y
    | _ => simp only [toDat, Dat.toList] at hx; exact absurd hx (by simp)
  obtain ⟨n, rfl⟩ := h2
  have a : IntKind.min .u8 = 0 := rfl
  have b : IntKind.max .u8 = 255 := rfl
  simp only [Fits, Dat.toInt, a, b] at h1
  exact ⟨n, rfl, h1.1, h1.2⟩
theorem bulk_one {H : Type} (d : DataW H) : 1 ≤ Rows.uptoBulk d := by
  cases d with
  | lit l => cases l <;> simp [Rows.uptoBulk]
  | _ => simp [Rows.uptoBulk]
theorem bulk_len {H : Type} : ∀ (l : List (DataW H)), l.length ≤ Rows.uptoBulkAll l
  | [] => by simp [Rows.uptoBulkAll]
  | x :: r => by have h1 := bulk_one x; have h2 := bulk_len r; simp only [Rows.uptoBulkAll, List.length_cons]; omega
theorem bulk_mem {H : Type} {d : DataW H} : ∀ {l : List (DataW H)}, d ∈ l → Rows.uptoBulk d ≤ Rows.uptoBulkAll l
  | x :: r, h => by
    simp only [Rows.uptoBulkAll]
    rcases List.mem_cons.1 h with rfl | h
    · omega
    · have := bulk_mem h; omega
theorem slice_len {H : Type} (s : Sh) (d : DataW H) : (toDat (.slice s) d).toList.length ≤ Rows.uptoBulk d := by
  cases d with
  | slice elems spare =>
    simp only [toDat, Dat.toList, List.length_map, Rows.uptoBulk]
    have := bulk_len elems
    omega
  | _ => simp only [toDat, Dat.toList, List.length_nil]; omega
theorem bound {H : Type} {l : List (DataW H)} (hk : Rows.uptoSmall H l = true) : Rows.uptoBulkAll l ≤ 1048576 := by
  unfold Rows.uptoSmall at hk
  exact of_decide_eq_true hk
end Go.Proofs.YtojdmhfkgkfpaaaDoor

