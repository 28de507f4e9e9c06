/- Layer 05, the reference: its functions as definitions over their data. Printed by tools/dec.py. -/
import Derived.Test.YtojdmhfkgkfpaaaDoorRl
import Derived.Test.YtojdmhfkgkfpaaaDoorAmPat
set_option linter.unusedVariables false
set_option maxRecDepth 100000
namespace Go.Proofs.YtojdmhfkgkfpaaaDoor
open Go.AM Go.LTxt Go.LMem Go.RowKit
def ls0 : List (FuncId × Nat × LoopT) := []
theorem ls0_ok : LoopsOK Tryd.prog ls0 := .nil
noncomputable def G00 : Rules := mkG [] calls0 ls0
theorem sG00 : Sound Tryd.prog tys G00 := mk_sound mixed tysOK names (by kernel_rfl) calls0_ok ls0_ok
noncomputable def l47_2 : Nat → List Dat → List Dat → (List Dat → Prop) → Prop
  | 0, _, _, _ => False
  | n + 1, l, b, E0 =>
    br (decide ((0 : Int) < (↑(List.length b) : Int))) (
     ((Sh.int IntKind.u8 = Sh.int IntKind.u8) ∧ 
     ((okB b) ∧ 
     ((big (toB b)) ∧ 
     br (decide ((↑(Prod.fst (head (toB b))) : Int) = (↑(Prod.snd (head (toB b))) : Int))) (
      br (decide ((0 : Int) < (↑(Prod.snd (head (toB b))) : Int))) (
       req (decide ((0 : Int) ≤ (0 : Int)) && decide ((0 : Int) ≤ (↑(Prod.snd (head (toB b))) : Int)) && decide ((↑(Prod.snd (head (toB b))) : Int) ≤ (↑(List.length b) : Int))) (
       ((Sh.int IntKind.u8 = Sh.int IntKind.u8) ∧ 
       ((okB (List.take (Prod.snd (head (toB b)) - (0 : Nat)) b)) ∧ 
       (((0 : Nat) < List.length (toB (List.take (Prod.snd (head (toB b)) - (0 : Nat)) b)) ∧ List.length (toB (List.take (Prod.snd (head (toB b)) - (0 : Nat)) b)) ≤ (4 : Nat)) ∧ 
       req (appOK l (0 : Nat) (List.length l) (1 : Nat) (4 : Nat)) (
       req (decide ((0 : Int) ≤ (↑(Prod.snd (head (toB b))) : Int)) && decide ((↑(Prod.snd (head (toB b))) : Int) ≤ (↑(List.length b) : Int)) && decide ((↑(List.length b) : Int) ≤ (↑(List.length b) : Int))) (((List.length (dapp l (0 : Nat) (List.length l) [Dat.int (value (toB (List.take (Prod.snd (head (toB b)) - (0 : Nat)) b)))])) = List.length (dapp l (0 : Nat) (List.length l) [Dat.int (value (toB (List.take (Prod.snd (head (toB b)) - (0 : Nat)) b)))]) ∧ l47_2 n (dapp l (0 : Nat) (List.length l) [Dat.int (value (toB (List.take (Prod.snd (head (toB b)) - (0 : Nat)) b)))]) (List.take (List.length b - Prod.snd (head (toB b))) (List.drop (Prod.snd (head (toB b))) b)) E0)))))))) (
       req (appOK l (0 : Nat) (List.length l) (1 : Nat) (4 : Nat)) (
       req (decide ((0 : Int) ≤ (1 : Int)) && decide ((1 : Int) ≤ (↑(List.length b) : Int)) && decide ((↑(List.length b) : Int) ≤ (↑(List.length b) : Int))) (((List.length (dapp l (0 : Nat) (List.length l) [Dat.int (65533 : Int)])) = List.length (dapp l (0 : Nat) (List.length l) [Dat.int (65533 : Int)]) ∧ l47_2 n (dapp l (0 : Nat) (List.length l) [Dat.int (65533 : Int)]) (List.take (List.length b - (1 : Nat)) (List.drop (1 : Nat) b)) E0))))) (
      req (appOK l (0 : Nat) (List.length l) (1 : Nat) (4 : Nat)) (
      req (decide ((0 : Int) ≤ (1 : Int)) && decide ((1 : Int) ≤ (↑(List.length b) : Int)) && decide ((↑(List.length b) : Int) ≤ (↑(List.length b) : Int))) (((List.length (dapp l (0 : Nat) (List.length l) [Dat.int (65533 : Int)])) = List.length (dapp l (0 : Nat) (List.length l) [Dat.int (65533 : Int)]) ∧ l47_2 n (dapp l (0 : Nat) (List.length l) [Dat.int (65533 : Int)]) (List.take (List.length b - (1 : Nat)) (List.drop (1 : Nat) b)) E0)))))))) (E0 l)
def F47_2 : AM.Form := ⟨mkF 37 [(0, .ro (.int .u8)), (3, .sl 0)], [.seq 21 (.int .i32)]⟩
noncomputable def mm47_2 (n : Nat) (ds : List Dat) (Q : AExit → List AV → AH → Prop) : Prop := l47_2 n ((dat ds 1).toList) ((dat ds 0).toList) (fun rl => Q (AExit.exit 0) (mkAV 37 [(3, .sl 0 0 rl.length)]) ⟨[.seq 21 (.int .i32) rl], []⟩)
theorem t47_2 (n : Nat) (ds : List Dat) (Q : AExit → List AV → AH → Prop) : wpA Tryd.prog tys G00 1000 47 (theLoop Tryd.prog 47 2) (fun e f' h' => endF Tryd.prog ((fun _ => []) e) ((fun e => match e with | .normal => ⟨[0, 3], []⟩ | .exit 0 => ⟨[3], []⟩ | _ => ⟨[], []⟩) e) ((fun e => match e with | .normal => [(3, .row 21 (.int .i32))] | .exit 0 => [(3, .row 21 (.int .i32))] | _ => []) e) (F47_2.hp ds) f' h' fun f2 h2 => match e with
      | .normal => locL F47_2 (mm47_2 n) f2 h2 Q
      | e => Q e f2 h2) (F47_2.fr ds) (F47_2.hp ds) = mm47_2 (n + 1) ds Q := by kernel_rfl
noncomputable def R47_2 : LoopT := headF Tryd.prog [] ⟨[0, 3], []⟩ [(3, .row 21 (.int .i32))] fun f h Q => ∃ n, locL F47_2 (mm47_2 n) f h Q
theorem ok47_2 : LoopOK Tryd.prog (theLoop Tryd.prog 47 2) R47_2 := ruleL_ok sG00 (by kernel_rfl) mm47_2 (fun _ _ => rfl) t47_2
noncomputable def ls47_2 : List (FuncId × Nat × LoopT) := (47, 2, R47_2) :: ls0
theorem ls47_2_ok : LoopsOK Tryd.prog ls47_2 := .cons (by kernel_rfl) ok47_2 ls0_ok
noncomputable def GG47_2 : Rules := mkG [] calls0 ls47_2
theorem sGG47_2 : Sound Tryd.prog tys GG47_2 := mk_sound mixed tysOK names (by kernel_rfl) calls0_ok ls47_2_ok
noncomputable def m47 (b : List Dat) (K : List Dat → Prop) : Prop :=
    (∃ y0, 
    (((0 : Nat) = (0 : Nat)) ∧ 
    l47_2 y0 [] b (fun y1 => K y1)))
def F47 : AM.Form := ⟨[.ro (.int .u8)], []⟩
noncomputable def mm47 (ds : List Dat) (K : AV → AH → Prop) : Prop := m47 ((dat ds 0).toList) (fun rl => K (.sl 0 0 rl.length) ⟨[.seq 21 (.int .i32) rl], []⟩)
theorem t47 (ds : List Dat) (K : AV → AH → Prop) : callA Tryd.prog tys GG47_2 1000 47 (F47.fr ds) (F47.hp ds) (fun v h' => endK Tryd.prog [] .keep (F47.hp ds) (F47.fr ds) v h' K) = mm47 ds K := by kernel_rfl
noncomputable def R47 : CallT := ruleF Tryd.prog [(.ro (.int .u8))] [] F47 mm47
theorem ok47 : CallOK Tryd.prog 47 R47 := ruleF_ok sGG47_2 t47
noncomputable def cs47 : List (FuncId × CallT) := (47, R47) :: calls0
theorem cs47_ok : CallsOK Tryd.prog cs47 := .cons ok47 calls0_ok
noncomputable def GG47 : Rules := mkG [] cs47 ls47_2
theorem sGG47 : Sound Tryd.prog tys GG47 := mk_sound mixed tysOK names (by kernel_rfl) cs47_ok ls47_2_ok
structure RS where
  state : Int
  db : List Dat
  private_ : Int
  params : List Dat
  many : Int
  inter : ByteArray
  text : ByteArray
  final : Int
  out : List Dat
noncomputable def l54_3 : Nat → RS → List Dat → (RS → List Dat → Prop) → (RS → List Dat → Prop) → Prop
  | 0, _, _, _, _ => False
  | n + 1, r, l, E0, R_ =>
    br (decide ((0 : Int) < (↑(List.length (RS.db r)) : Int))) (
     req (decide ((0 : Nat) + List.length (RS.db r) ≤ List.length (RS.db r))) (
     ((Sh.int IntKind.u8 = Sh.int IntKind.u8) ∧ 
     ((okB (List.take (List.length (RS.db r)) (RS.db r))) ∧ 
     ((big (toB (List.take (List.length (RS.db r)) (RS.db r)))) ∧ 
     br (decide ((0 : Int) < (↑(Prod.snd (head (toB (List.take (List.length (RS.db r)) (RS.db r))))) : Int))) (
      br (decide ((↑(Prod.fst (head (toB (List.take (List.length (RS.db r)) (RS.db r))))) : Int) = (↑(Prod.snd (head (toB (List.take (List.length (RS.db r)) (RS.db r))))) : Int))) (
       req (decide ((0 : Int) ≤ (0 : Int)) && decide ((0 : Int) ≤ (↑(Prod.snd (head (toB (List.take (List.length (RS.db r)) (RS.db r))))) : Int)) && decide ((↑(Prod.snd (head (toB (List.take (List.length (RS.db r)) (RS.db r))))) : Int) ≤ (↑(List.length (RS.db r)) : Int))) (
       req (decide ((0 : Nat) + (Prod.snd (head (toB (List.take (List.length (RS.db r)) (RS.db r)))) - (0 : Nat)) ≤ List.length (RS.db r))) (
       ((Sh.int IntKind.u8 = Sh.int IntKind.u8) ∧ 
       ((okB (List.take (Prod.snd (head (toB (List.take (List.length (RS.db r)) (RS.db r)))) - (0 : Nat)) (RS.db r))) ∧ 
       (((0 : Nat) < List.length (toB (List.take (Prod.snd (head (toB (List.take (List.length (RS.db r)) (RS.db r)))) - (0 : Nat)) (RS.db r))) ∧ List.length (toB (List.take (Prod.snd (head (toB (List.take (List.length (RS.db r)) (RS.db r)))) - (0 : Nat)) (RS.db r))) ≤ (4 : Nat)) ∧ 
       req (appOK l (0 : Nat) (List.length l) (1 : Nat) (4 : Nat)) (
       req (decide ((0 : Int) ≤ (↑(Prod.snd (head (toB (List.take (List.length (RS.db r)) (RS.db r))))) : Int)) && decide ((↑(Prod.snd (head (toB (List.take (List.length (RS.db r)) (RS.db r))))) : Int) ≤ (↑(List.length (RS.db r)) : Int)) && decide ((↑(List.length (RS.db r)) : Int) ≤ (↑(List.length (RS.db r)) : Int))) (
       req (decide ((0 : Nat) + Prod.snd (head (toB (List.take (List.length (RS.db r)) (RS.db r)))) + (List.length (RS.db r) - Prod.snd (head (toB (List.take (List.length (RS.db r)) (RS.db r))))) ≤ List.length (RS.db r))) (((List.length (dapp l (0 : Nat) (List.length l) [Dat.int (value (toB (List.take (Prod.snd (head (toB (List.take (List.length (RS.db r)) (RS.db r)))) - (0 : Nat)) (RS.db r))))])) = List.length (dapp l (0 : Nat) (List.length l) [Dat.int (value (toB (List.take (Prod.snd (head (toB (List.take (List.length (RS.db r)) (RS.db r)))) - (0 : Nat)) (RS.db r))))]) ∧ ((List.length (dcut (RS.db r) ((0 : Nat) + Prod.snd (head (toB (List.take (List.length (RS.db r)) (RS.db r))))) (List.length (RS.db r) - Prod.snd (head (toB (List.take (List.length (RS.db r)) (RS.db r))))))) = List.length (dcut (RS.db r) ((0 : Nat) + Prod.snd (head (toB (List.take (List.length (RS.db r)) (RS.db r))))) (List.length (RS.db r) - Prod.snd (head (toB (List.take (List.length (RS.db r)) (RS.db r)))))) ∧ ((List.length (RS.params r)) = List.length (RS.params r) ∧ ((List.length (RS.out r)) = List.length (RS.out r) ∧ l54_3 n { r with db := dcut (RS.db r) ((0 : Nat) + Prod.snd (head (toB (List.take (List.length (RS.db r)) (RS.db r))))) (List.length (RS.db r) - Prod.snd (head (toB (List.take (List.length (RS.db r)) (RS.db r))))) } (dapp l (0 : Nat) (List.length l) [Dat.int (value (toB (List.take (Prod.snd (head (toB (List.take (List.length (RS.db r)) (RS.db r)))) - (0 : Nat)) (RS.db r))))]) E0 R_))))))))))))) (
       br (decide ((0 : Int) < (↑(Prod.fst (head (toB (List.take (List.length (RS.db r)) (RS.db r))))) : Int))) (
        br (decide ((↑(Prod.fst (head (toB (List.take (List.length (RS.db r)) (RS.db r))))) : Int) = (↑(List.length (RS.db r)) : Int))) (
         req (decide ((0 : Nat) + List.length (RS.db r) ≤ List.length (RS.db r))) (R_ { r with db := dcut (RS.db r) (0 : Nat) (List.length (RS.db r)) } l)) (
         req (appOK l (0 : Nat) (List.length l) (1 : Nat) (4 : Nat)) (
         req (decide ((0 : Int) ≤ (1 : Int)) && decide ((1 : Int) ≤ (↑(List.length (RS.db r)) : Int)) && decide ((↑(List.length (RS.db r)) : Int) ≤ (↑(List.length (RS.db r)) : Int))) (
         req (decide ((1 : Nat) + (List.length (RS.db r) - (1 : Nat)) ≤ List.length (RS.db r))) (((List.length (dapp l (0 : Nat) (List.length l) [Dat.int (65533 : Int)])) = List.length (dapp l (0 : Nat) (List.length l) [Dat.int (65533 : Int)]) ∧ ((List.length (dcut (RS.db r) (1 : Nat) (List.length (RS.db r) - (1 : Nat)))) = List.length (dcut (RS.db r) (1 : Nat) (List.length (RS.db r) - (1 : Nat))) ∧ ((List.length (RS.params r)) = List.length (RS.params r) ∧ ((List.length (RS.out r)) = List.length (RS.out r) ∧ l54_3 n { r with db := dcut (RS.db r) (1 : Nat) (List.length (RS.db r) - (1 : Nat)) } (dapp l (0 : Nat) (List.length l) [Dat.int (65533 : Int)]) E0 R_))))))))) (
        req (appOK l (0 : Nat) (List.length l) (1 : Nat) (4 : Nat)) (
        req (decide ((0 : Int) ≤ (1 : Int)) && decide ((1 : Int) ≤ (↑(List.length (RS.db r)) : Int)) && decide ((↑(List.length (RS.db r)) : Int) ≤ (↑(List.length (RS.db r)) : Int))) (
        req (decide ((1 : Nat) + (List.length (RS.db r) - (1 : Nat)) ≤ List.length (RS.db r))) (((List.length (dapp l (0 : Nat) (List.length l) [Dat.int (65533 : Int)])) = List.length (dapp l (0 : Nat) (List.length l) [Dat.int (65533 : Int)]) ∧ ((List.length (dcut (RS.db r) (1 : Nat) (List.length (RS.db r) - (1 : Nat)))) = List.length (dcut (RS.db r) (1 : Nat) (List.length (RS.db r) - (1 : Nat))) ∧ ((List.length (RS.params r)) = List.length (RS.params r) ∧ ((List.length (RS.out r)) = List.length (RS.out r) ∧ l54_3 n { r with db := dcut (RS.db r) (1 : Nat) (List.length (RS.db r) - (1 : Nat)) } (dapp l (0 : Nat) (List.length l) [Dat.int (65533 : Int)]) E0 R_)))))))))) (
      br (decide ((0 : Int) < (↑(Prod.fst (head (toB (List.take (List.length (RS.db r)) (RS.db r))))) : Int))) (
       br (decide ((↑(Prod.fst (head (toB (List.take (List.length (RS.db r)) (RS.db r))))) : Int) = (↑(List.length (RS.db r)) : Int))) (
        req (decide ((0 : Nat) + List.length (RS.db r) ≤ List.length (RS.db r))) (R_ { r with db := dcut (RS.db r) (0 : Nat) (List.length (RS.db r)) } l)) (
        req (appOK l (0 : Nat) (List.length l) (1 : Nat) (4 : Nat)) (
        req (decide ((0 : Int) ≤ (1 : Int)) && decide ((1 : Int) ≤ (↑(List.length (RS.db r)) : Int)) && decide ((↑(List.length (RS.db r)) : Int) ≤ (↑(List.length (RS.db r)) : Int))) (
        req (decide ((1 : Nat) + (List.length (RS.db r) - (1 : Nat)) ≤ List.length (RS.db r))) (((List.length (dapp l (0 : Nat) (List.length l) [Dat.int (65533 : Int)])) = List.length (dapp l (0 : Nat) (List.length l) [Dat.int (65533 : Int)]) ∧ ((List.length (dcut (RS.db r) (1 : Nat) (List.length (RS.db r) - (1 : Nat)))) = List.length (dcut (RS.db r) (1 : Nat) (List.length (RS.db r) - (1 : Nat))) ∧ ((List.length (RS.params r)) = List.length (RS.params r) ∧ ((List.length (RS.out r)) = List.length (RS.out r) ∧ l54_3 n { r with db := dcut (RS.db r) (1 : Nat) (List.length (RS.db r) - (1 : Nat)) } (dapp l (0 : Nat) (List.length l) [Dat.int (65533 : Int)]) E0 R_))))))))) (
       req (appOK l (0 : Nat) (List.length l) (1 : Nat) (4 : Nat)) (
       req (decide ((0 : Int) ≤ (1 : Int)) && decide ((1 : Int) ≤ (↑(List.length (RS.db r)) : Int)) && decide ((↑(List.length (RS.db r)) : Int) ≤ (↑(List.length (RS.db r)) : Int))) (
       req (decide ((1 : Nat) + (List.length (RS.db r) - (1 : Nat)) ≤ List.length (RS.db r))) (((List.length (dapp l (0 : Nat) (List.length l) [Dat.int (65533 : Int)])) = List.length (dapp l (0 : Nat) (List.length l) [Dat.int (65533 : Int)]) ∧ ((List.length (dcut (RS.db r) (1 : Nat) (List.length (RS.db r) - (1 : Nat)))) = List.length (dcut (RS.db r) (1 : Nat) (List.length (RS.db r) - (1 : Nat))) ∧ ((List.length (RS.params r)) = List.length (RS.params r) ∧ ((List.length (RS.out r)) = List.length (RS.out r) ∧ l54_3 n { r with db := dcut (RS.db r) (1 : Nat) (List.length (RS.db r) - (1 : Nat)) } (dapp l (0 : Nat) (List.length l) [Dat.int (65533 : Int)]) E0 R_)))))))))))))) (
     req (decide ((0 : Nat) + List.length (RS.db r) ≤ List.length (RS.db r))) (E0 { r with db := dcut (RS.db r) (0 : Nat) (List.length (RS.db r)) } l))
def F54_3 : AM.Form := ⟨mkF 83 [(0, .p 0 1), (5, .sl 4)], [.cells 59 [.int .i64, .sl 1, .int .u8, .sl 2, .int .i64, .str, .str, .int .u8, .sl 3], .seq 5 (.int .u8), .seq 3 (.int .i64), .seq 35 (.pair (.int .i64) (.pair (.int .i32) (.pair (.int .u8) (.pair (.int .u8) (.pair (.slice (.int .i64)) (.pair .str (.pair .str .unit))))))), .seq 21 (.int .i32)]⟩
noncomputable def mm54_3 (n : Nat) (ds : List Dat) (Q : AExit → List AV → AH → Prop) : Prop := l54_3 n ⟨(dat ds 0).toInt, (dat ds 6).toList, (dat ds 1).toInt, (dat ds 7).toList, (dat ds 2).toInt, (dat ds 3).toStr, (dat ds 4).toStr, (dat ds 5).toInt, (dat ds 8).toList⟩ ((dat ds 9).toList) (fun rr rl => Q (AExit.exit 0) (mkAV 83 [(0, .p 0 1), (5, .sl 4 0 rl.length)]) ⟨[.cells 59 [.c (.int .i64 rr.state), .sl 1 0 rr.db.length, .c (.int .u8 rr.private_), .sl 2 0 rr.params.length, .c (.int .i64 rr.many), .c (.string rr.inter), .c (.string rr.text), .c (.int .u8 rr.final), .sl 3 0 rr.out.length], .seq 5 (.int .u8) rr.db, .seq 3 (.int .i64) rr.params, .seq 35 (.pair (.int .i64) (.pair (.int .i32) (.pair (.int .u8) (.pair (.int .u8) (.pair (.slice (.int .i64)) (.pair .str (.pair .str .unit))))))) rr.out, .seq 21 (.int .i32) rl], []⟩) (fun rr rl => Q AExit.ret (mkAV 83 [(0, .p 0 1), (4, .sl 4 0 rl.length)]) ⟨[.cells 59 [.c (.int .i64 rr.state), .sl 1 0 rr.db.length, .c (.int .u8 rr.private_), .sl 2 0 rr.params.length, .c (.int .i64 rr.many), .c (.string rr.inter), .c (.string rr.text), .c (.int .u8 rr.final), .sl 3 0 rr.out.length], .seq 5 (.int .u8) rr.db, .seq 3 (.int .i64) rr.params, .seq 35 (.pair (.int .i64) (.pair (.int .i32) (.pair (.int .u8) (.pair (.int .u8) (.pair (.slice (.int .i64)) (.pair .str (.pair .str .unit))))))) rr.out, .seq 21 (.int .i32) rl], []⟩)
theorem t54_3 (n : Nat) (ds : List Dat) (Q : AExit → List AV → AH → Prop) : wpA Tryd.prog tys GG47 1000 54 (theLoop Tryd.prog 54 3) (fun e f' h' => endF Tryd.prog ((fun _ => [(0, 1, .cut 5 (.int .u8))]) e) ((fun e => match e with | .normal => ⟨[0, 5], []⟩ | .exit 0 => ⟨[0, 5], []⟩ | .ret => ⟨[0, 4], []⟩ | _ => ⟨[], []⟩) e) ((fun e => match e with | .normal => [(5, .row 21 (.int .i32))] | .exit 0 => [(5, .row 21 (.int .i32))] | .ret => [] | _ => []) e) (F54_3.hp ds) f' h' fun f2 h2 => match e with
      | .normal => locL F54_3 (mm54_3 n) f2 h2 Q
      | e => Q e f2 h2) (F54_3.fr ds) (F54_3.hp ds) = mm54_3 (n + 1) ds Q := by kernel_rfl
noncomputable def R54_3 : LoopT := headF Tryd.prog [(0, 1, .cut 5 (.int .u8))] ⟨[0, 5], []⟩ [(5, .row 21 (.int .i32))] fun f h Q => ∃ n, locL F54_3 (mm54_3 n) f h Q
theorem ok54_3 : LoopOK Tryd.prog (theLoop Tryd.prog 54 3) R54_3 := ruleL_ok sGG47 (by kernel_rfl) mm54_3 (fun _ _ => rfl) t54_3
noncomputable def ls54_3 : List (FuncId × Nat × LoopT) := (54, 3, R54_3) :: ls47_2
theorem ls54_3_ok : LoopsOK Tryd.prog ls54_3 := .cons (by kernel_rfl) ok54_3 ls47_2_ok
noncomputable def GG54_3 : Rules := mkG [] cs47 ls54_3
theorem sGG54_3 : Sound Tryd.prog tys GG54_3 := mk_sound mixed tysOK names (by kernel_rfl) cs47_ok ls54_3_ok
noncomputable def m54 (r : RS) (b : List Dat) (K : RS → List Dat → Prop) : Prop :=
    req (appOK (RS.db r) (0 : Nat) (List.length (RS.db r)) (List.length b) (1 : Nat)) (
    req (decide ((0 : Nat) + List.length (dapp (RS.db r) (0 : Nat) (List.length (RS.db r)) b) ≤ List.length (dapp (RS.db r) (0 : Nat) (List.length (RS.db r)) b))) (
    (∃ y0, 
    (((0 : Nat) = (0 : Nat)) ∧ 
    ((List.length (dcut (dapp (RS.db r) (0 : Nat) (List.length (RS.db r)) b) (0 : Nat) (List.length (dapp (RS.db r) (0 : Nat) (List.length (RS.db r)) b))) = List.length (dcut (dapp (RS.db r) (0 : Nat) (List.length (RS.db r)) b) (0 : Nat) (List.length (dapp (RS.db r) (0 : Nat) (List.length (RS.db r)) b)))) ∧ 
    ((List.length (RS.params r) = List.length (RS.params r)) ∧ 
    ((List.length (RS.out r) = List.length (RS.out r)) ∧ 
    l54_3 y0 { state := RS.state r, db := dcut (dapp (RS.db r) (0 : Nat) (List.length (RS.db r)) b) (0 : Nat) (List.length (dapp (RS.db r) (0 : Nat) (List.length (RS.db r)) b)), private_ := RS.private_ r, params := RS.params r, many := RS.many r, inter := RS.inter r, text := RS.text r, final := RS.final r, out := RS.out r } [] (fun y1 y2 => K y1 y2) (fun y3 y4 => K y3 y4))))))))
def F54 : AM.Form := ⟨[.p 0 1, .ro (.int .u8)], [.cells 59 [.int .i64, .sl 1, .int .u8, .sl 2, .int .i64, .str, .str, .int .u8, .sl 3], .seq 5 (.int .u8), .seq 3 (.int .i64), .seq 35 (.pair (.int .i64) (.pair (.int .i32) (.pair (.int .u8) (.pair (.int .u8) (.pair (.slice (.int .i64)) (.pair .str (.pair .str .unit)))))))]⟩
noncomputable def mm54 (ds : List Dat) (K : AV → AH → Prop) : Prop := m54 ⟨(dat ds 1).toInt, (dat ds 7).toList, (dat ds 2).toInt, (dat ds 8).toList, (dat ds 3).toInt, (dat ds 4).toStr, (dat ds 5).toStr, (dat ds 6).toInt, (dat ds 9).toList⟩ ((dat ds 0).toList) (fun rr rl => K (.sl 4 0 rl.length) ⟨[.cells 59 [.c (.int .i64 rr.state), .sl 1 0 rr.db.length, .c (.int .u8 rr.private_), .sl 2 0 rr.params.length, .c (.int .i64 rr.many), .c (.string rr.inter), .c (.string rr.text), .c (.int .u8 rr.final), .sl 3 0 rr.out.length], .seq 5 (.int .u8) rr.db, .seq 3 (.int .i64) rr.params, .seq 35 (.pair (.int .i64) (.pair (.int .i32) (.pair (.int .u8) (.pair (.int .u8) (.pair (.slice (.int .i64)) (.pair .str (.pair .str .unit))))))) rr.out, .seq 21 (.int .i32) rl], []⟩)
theorem t54 (ds : List Dat) (K : AV → AH → Prop) : callA Tryd.prog tys GG54_3 1000 54 (F54.fr ds) (F54.hp ds) (fun v h' => endK Tryd.prog [] .keep (F54.hp ds) (F54.fr ds) v h' K) = mm54 ds K := by kernel_rfl
noncomputable def R54 : CallT := ruleF Tryd.prog [.keep, (.ro (.int .u8))] [] F54 mm54
theorem ok54 : CallOK Tryd.prog 54 R54 := ruleF_ok sGG54_3 t54
noncomputable def cs54 : List (FuncId × CallT) := (54, R54) :: cs47
theorem cs54_ok : CallsOK Tryd.prog cs54 := .cons ok54 cs47_ok
noncomputable def GG54 : Rules := mkG [] cs54 ls54_3
theorem sGG54 : Sound Tryd.prog tys GG54 := mk_sound mixed tysOK names (by kernel_rfl) cs54_ok ls54_3_ok
noncomputable def m32 (r : RS) (K : RS → List Dat → Prop) : Prop :=
    req (decide ((0 : Nat) + List.length (RS.db r) ≤ List.length (RS.db r))) (
    m47 (List.take (List.length (RS.db r)) (RS.db r)) (fun y0 => K { r with db := [] } y0))
def F32 : AM.Form := ⟨[.p 0 1], [.cells 59 [.int .i64, .sl 1, .int .u8, .sl 2, .int .i64, .str, .str, .int .u8, .sl 3], .seq 5 (.int .u8), .seq 3 (.int .i64), .seq 35 (.pair (.int .i64) (.pair (.int .i32) (.pair (.int .u8) (.pair (.int .u8) (.pair (.slice (.int .i64)) (.pair .str (.pair .str .unit)))))))]⟩
noncomputable def mm32 (ds : List Dat) (K : AV → AH → Prop) : Prop := m32 ⟨(dat ds 0).toInt, (dat ds 6).toList, (dat ds 1).toInt, (dat ds 7).toList, (dat ds 2).toInt, (dat ds 3).toStr, (dat ds 4).toStr, (dat ds 5).toInt, (dat ds 8).toList⟩ (fun rr rl => K (.sl 4 0 rl.length) ⟨[.cells 59 [.c (.int .i64 rr.state), .sl 1 0 rr.db.length, .c (.int .u8 rr.private_), .sl 2 0 rr.params.length, .c (.int .i64 rr.many), .c (.string rr.inter), .c (.string rr.text), .c (.int .u8 rr.final), .sl 3 0 rr.out.length], .seq 5 (.int .u8) rr.db, .seq 3 (.int .i64) rr.params, .seq 35 (.pair (.int .i64) (.pair (.int .i32) (.pair (.int .u8) (.pair (.int .u8) (.pair (.slice (.int .i64)) (.pair .str (.pair .str .unit))))))) rr.out, .seq 21 (.int .i32) rl], []⟩)
theorem t32 (ds : List Dat) (K : AV → AH → Prop) : callA Tryd.prog tys GG54 1000 32 (F32.fr ds) (F32.hp ds) (fun v h' => endK Tryd.prog [] .keep (F32.hp ds) (F32.fr ds) v h' K) = mm32 ds K := by kernel_rfl
noncomputable def R32 : CallT := ruleF Tryd.prog [.keep] [] F32 mm32
theorem ok32 : CallOK Tryd.prog 32 R32 := ruleF_ok sGG54 t32
noncomputable def cs32 : List (FuncId × CallT) := (32, R32) :: cs54
theorem cs32_ok : CallsOK Tryd.prog cs32 := .cons ok32 cs54_ok
noncomputable def GG32 : Rules := mkG [] cs32 ls54_3
theorem sGG32 : Sound Tryd.prog tys GG32 := mk_sound mixed tysOK names (by kernel_rfl) cs32_ok ls54_3_ok
noncomputable def m46 (r : RS) (a : Int) (a2 : Int) (a3 : Int) (a4 : Int) (a5 : List Dat) (a6 : ByteArray) (a7 : ByteArray) (K : RS → Prop) : Prop :=
    req (appOK (RS.out r) (0 : Nat) (List.length (RS.out r)) (1 : Nat) (72 : Nat)) (K { r with out := dapp (RS.out r) (0 : Nat) (List.length (RS.out r)) [Dat.pair (Dat.int a) (Dat.pair (Dat.int a2) (Dat.pair (Dat.int a3) (Dat.pair (Dat.int a4) (Dat.pair (Dat.list a5) (Dat.pair (Dat.str a6) (Dat.pair (Dat.str a7) (Dat.int (0 : Int))))))))] })
def F46 : AM.Form := ⟨[.p 0 0, .agg [.int .i64, .int .i32, .int .u8, .int .u8, .ro (.int .i64), .str, .str]], [.cells 59 [.int .i64, .sl 1, .int .u8, .sl 2, .int .i64, .str, .str, .int .u8, .sl 3], .seq 5 (.int .u8), .seq 3 (.int .i64), .seq 35 (.pair (.int .i64) (.pair (.int .i32) (.pair (.int .u8) (.pair (.int .u8) (.pair (.slice (.int .i64)) (.pair .str (.pair .str .unit)))))))]⟩
noncomputable def mm46 (ds : List Dat) (K : AV → AH → Prop) : Prop := m46 ⟨(dat ds 7).toInt, (dat ds 13).toList, (dat ds 8).toInt, (dat ds 14).toList, (dat ds 9).toInt, (dat ds 10).toStr, (dat ds 11).toStr, (dat ds 12).toInt, (dat ds 15).toList⟩ ((dat ds 0).toInt) ((dat ds 1).toInt) ((dat ds 2).toInt) ((dat ds 3).toInt) ((dat ds 4).toList) ((dat ds 5).toStr) ((dat ds 6).toStr) (fun rr => K (.tup []) ⟨[.cells 59 [.c (.int .i64 rr.state), .sl 1 0 rr.db.length, .c (.int .u8 rr.private_), .sl 2 0 rr.params.length, .c (.int .i64 rr.many), .c (.string rr.inter), .c (.string rr.text), .c (.int .u8 rr.final), .sl 3 0 rr.out.length], .seq 5 (.int .u8) rr.db, .seq 3 (.int .i64) rr.params, .seq 35 (.pair (.int .i64) (.pair (.int .i32) (.pair (.int .u8) (.pair (.int .u8) (.pair (.slice (.int .i64)) (.pair .str (.pair .str .unit))))))) rr.out], []⟩)
theorem t46 (ds : List Dat) (K : AV → AH → Prop) : callA Tryd.prog tys GG32 1000 46 (F46.fr ds) (F46.hp ds) (fun v h' => endK Tryd.prog [] .keep (F46.hp ds) (F46.fr ds) v h' K) = mm46 ds K := by kernel_rfl
noncomputable def R46 : CallT := ruleF Tryd.prog [.keep, (.agg [.keep, .keep, .keep, .keep, (.ro (.int .i64)), .keep, .keep])] [] F46 mm46
theorem ok46 : CallOK Tryd.prog 46 R46 := ruleF_ok sGG32 t46
noncomputable def cs46 : List (FuncId × CallT) := (46, R46) :: cs32
theorem cs46_ok : CallsOK Tryd.prog cs46 := .cons ok46 cs32_ok
noncomputable def GG46 : Rules := mkG [] cs46 ls54_3
theorem sGG46 : Sound Tryd.prog tys GG46 := mk_sound mixed tysOK names (by kernel_rfl) cs46_ok ls54_3_ok
noncomputable def l31_1 : Nat → RS → List Dat → Int → (RS → Prop) → Prop
  | 0, _, _, _, _ => False
  | n + 1, r, l, i, E0 =>
    br (decide (i < (↑(List.length l) : Int))) (
     req (decide ((0 : Int) ≤ i) && decide (i < (↑(List.length l) : Int))) (
     req (decide (Int.toNat i < List.length l)) (
     br (decide ((128 : Int) ≤ Dat.toInt (List.getD l (Int.toNat i) default))) (
      req (decide ((0 : Int) ≤ i) && decide (i < (↑(List.length l) : Int))) (
      req (decide (Int.toNat i < List.length l)) (
      br (decide (Dat.toInt (List.getD l (Int.toNat i) default) ≤ (159 : Int))) (
       req (inR IntKind.i64 (i + (1 : Int))) (((List.length (RS.db r)) = List.length (RS.db r) ∧ ((List.length (RS.params r)) = List.length (RS.params r) ∧ ((List.length (RS.out r)) = List.length (RS.out r) ∧ l31_1 n r l (i + (1 : Int)) E0))))) (
       req (decide ((0 : Int) ≤ i) && decide (i < (↑(List.length l) : Int))) (
       req (decide (Int.toNat i < List.length l)) (
       ((List.length (RS.db r) = List.length (RS.db r)) ∧ 
       ((List.length (RS.params r) = List.length (RS.params r)) ∧ 
       ((List.length (RS.out r) = List.length (RS.out r)) ∧ 
       m46 r (1 : Int) (Dat.toInt (List.getD l (Int.toNat i) default)) (0 : Int) (0 : Int) [] { data := #[] } { data := #[] } (fun y0 => 
        req (inR IntKind.i64 (i + (1 : Int))) (((List.length (RS.db y0)) = List.length (RS.db y0) ∧ ((List.length (RS.params y0)) = List.length (RS.params y0) ∧ ((List.length (RS.out y0)) = List.length (RS.out y0) ∧ l31_1 n y0 l (i + (1 : Int)) E0)))))))))))))) (
      req (decide ((0 : Int) ≤ i) && decide (i < (↑(List.length l) : Int))) (
      req (decide (Int.toNat i < List.length l)) (
      ((List.length (RS.db r) = List.length (RS.db r)) ∧ 
      ((List.length (RS.params r) = List.length (RS.params r)) ∧ 
      ((List.length (RS.out r) = List.length (RS.out r)) ∧ 
      m46 r (1 : Int) (Dat.toInt (List.getD l (Int.toNat i) default)) (0 : Int) (0 : Int) [] { data := #[] } { data := #[] } (fun y1 => 
       req (inR IntKind.i64 (i + (1 : Int))) (((List.length (RS.db y1)) = List.length (RS.db y1) ∧ ((List.length (RS.params y1)) = List.length (RS.params y1) ∧ ((List.length (RS.out y1)) = List.length (RS.out y1) ∧ l31_1 n y1 l (i + (1 : Int)) E0)))))))))))))) (E0 r)
def F31_1 : AM.Form := ⟨mkF 30 [(0, .p 0 0), (1, .ro (.int .i32)), (4, .int .i64)], [.cells 59 [.int .i64, .sl 1, .int .u8, .sl 2, .int .i64, .str, .str, .int .u8, .sl 3], .seq 5 (.int .u8), .seq 3 (.int .i64), .seq 35 (.pair (.int .i64) (.pair (.int .i32) (.pair (.int .u8) (.pair (.int .u8) (.pair (.slice (.int .i64)) (.pair .str (.pair .str .unit)))))))]⟩
noncomputable def mm31_1 (n : Nat) (ds : List Dat) (Q : AExit → List AV → AH → Prop) : Prop := l31_1 n ⟨(dat ds 2).toInt, (dat ds 8).toList, (dat ds 3).toInt, (dat ds 9).toList, (dat ds 4).toInt, (dat ds 5).toStr, (dat ds 6).toStr, (dat ds 7).toInt, (dat ds 10).toList⟩ ((dat ds 0).toList) ((dat ds 1).toInt) (fun rr => Q (AExit.exit 0) (mkAV 30 [(0, .p 0 0)]) ⟨[.cells 59 [.c (.int .i64 rr.state), .sl 1 0 rr.db.length, .c (.int .u8 rr.private_), .sl 2 0 rr.params.length, .c (.int .i64 rr.many), .c (.string rr.inter), .c (.string rr.text), .c (.int .u8 rr.final), .sl 3 0 rr.out.length], .seq 5 (.int .u8) rr.db, .seq 3 (.int .i64) rr.params, .seq 35 (.pair (.int .i64) (.pair (.int .i32) (.pair (.int .u8) (.pair (.int .u8) (.pair (.slice (.int .i64)) (.pair .str (.pair .str .unit))))))) rr.out], []⟩)
theorem t31_1 (n : Nat) (ds : List Dat) (Q : AExit → List AV → AH → Prop) : wpA Tryd.prog tys GG46 1000 31 (theLoop Tryd.prog 31 1) (fun e f' h' => endF Tryd.prog ((fun _ => []) e) ((fun e => match e with | .normal => ⟨[0, 1, 4], []⟩ | .exit 0 => ⟨[0], []⟩ | _ => ⟨[], []⟩) e) ((fun e => match e with | .normal => [] | .exit 0 => [] | _ => []) e) (F31_1.hp ds) f' h' fun f2 h2 => match e with
      | .normal => locL F31_1 (mm31_1 n) f2 h2 Q
      | e => Q e f2 h2) (F31_1.fr ds) (F31_1.hp ds) = mm31_1 (n + 1) ds Q := by kernel_rfl
noncomputable def R31_1 : LoopT := headF Tryd.prog [] ⟨[0, 1, 4], []⟩ [] fun f h Q => ∃ n, locL F31_1 (mm31_1 n) f h Q
theorem ok31_1 : LoopOK Tryd.prog (theLoop Tryd.prog 31 1) R31_1 := ruleL_ok sGG46 (by kernel_rfl) mm31_1 (fun _ _ => rfl) t31_1
noncomputable def ls31_1 : List (FuncId × Nat × LoopT) := (31, 1, R31_1) :: ls54_3
theorem ls31_1_ok : LoopsOK Tryd.prog ls31_1 := .cons (by kernel_rfl) ok31_1 ls54_3_ok
noncomputable def GG31_1 : Rules := mkG [] cs46 ls31_1
theorem sGG31_1 : Sound Tryd.prog tys GG31_1 := mk_sound mixed tysOK names (by kernel_rfl) cs46_ok ls31_1_ok
noncomputable def m31 (r : RS) (l : List Dat) (K : RS → Prop) : Prop :=
    (∃ y0, 
    ((List.length (RS.db r) = List.length (RS.db r)) ∧ 
    ((List.length (RS.params r) = List.length (RS.params r)) ∧ 
    ((List.length (RS.out r) = List.length (RS.out r)) ∧ 
    l31_1 y0 r l (0 : Int) (fun y1 => K y1)))))
def F31 : AM.Form := ⟨[.p 0 0, .ro (.int .i32)], [.cells 59 [.int .i64, .sl 1, .int .u8, .sl 2, .int .i64, .str, .str, .int .u8, .sl 3], .seq 5 (.int .u8), .seq 3 (.int .i64), .seq 35 (.pair (.int .i64) (.pair (.int .i32) (.pair (.int .u8) (.pair (.int .u8) (.pair (.slice (.int .i64)) (.pair .str (.pair .str .unit)))))))]⟩
noncomputable def mm31 (ds : List Dat) (K : AV → AH → Prop) : Prop := m31 ⟨(dat ds 1).toInt, (dat ds 7).toList, (dat ds 2).toInt, (dat ds 8).toList, (dat ds 3).toInt, (dat ds 4).toStr, (dat ds 5).toStr, (dat ds 6).toInt, (dat ds 9).toList⟩ ((dat ds 0).toList) (fun rr => K (.tup []) ⟨[.cells 59 [.c (.int .i64 rr.state), .sl 1 0 rr.db.length, .c (.int .u8 rr.private_), .sl 2 0 rr.params.length, .c (.int .i64 rr.many), .c (.string rr.inter), .c (.string rr.text), .c (.int .u8 rr.final), .sl 3 0 rr.out.length], .seq 5 (.int .u8) rr.db, .seq 3 (.int .i64) rr.params, .seq 35 (.pair (.int .i64) (.pair (.int .i32) (.pair (.int .u8) (.pair (.int .u8) (.pair (.slice (.int .i64)) (.pair .str (.pair .str .unit))))))) rr.out], []⟩)
theorem t31 (ds : List Dat) (K : AV → AH → Prop) : callA Tryd.prog tys GG31_1 1000 31 (F31.fr ds) (F31.hp ds) (fun v h' => endK Tryd.prog [] .keep (F31.hp ds) (F31.fr ds) v h' K) = mm31 ds K := by kernel_rfl
noncomputable def R31 : CallT := ruleF Tryd.prog [.keep, (.ro (.int .i32))] [] F31 mm31
theorem ok31 : CallOK Tryd.prog 31 R31 := ruleF_ok sGG31_1 t31
noncomputable def cs31 : List (FuncId × CallT) := (31, R31) :: cs46
theorem cs31_ok : CallsOK Tryd.prog cs31 := .cons ok31 cs46_ok
noncomputable def GG31 : Rules := mkG [] cs31 ls31_1
theorem sGG31 : Sound Tryd.prog tys GG31 := mk_sound mixed tysOK names (by kernel_rfl) cs31_ok ls31_1_ok
noncomputable def m56 (r : RS) (K : RS → Prop) : Prop := K { r with private_ := (0 : Int), params := [], many := (0 : Int), inter := { data := #[] }, text := { data := #[] }, final := (0 : Int) }
def F56 : AM.Form := ⟨[.p 0 0], [.cells 59 [.int .i64, .sl 1, .int .u8, .sl 2, .int .i64, .str, .str, .int .u8, .sl 3], .seq 5 (.int .u8), .seq 3 (.int .i64), .seq 35 (.pair (.int .i64) (.pair (.int .i32) (.pair (.int .u8) (.pair (.int .u8) (.pair (.slice (.int .i64)) (.pair .str (.pair .str .unit)))))))]⟩
noncomputable def mm56 (ds : List Dat) (K : AV → AH → Prop) : Prop := m56 ⟨(dat ds 0).toInt, (dat ds 6).toList, (dat ds 1).toInt, (dat ds 7).toList, (dat ds 2).toInt, (dat ds 3).toStr, (dat ds 4).toStr, (dat ds 5).toInt, (dat ds 8).toList⟩ (fun rr => K (.tup []) ⟨[.cells 59 [.c (.int .i64 rr.state), .sl 1 0 rr.db.length, .c (.int .u8 rr.private_), .sl 2 0 rr.params.length, .c (.int .i64 rr.many), .c (.string rr.inter), .c (.string rr.text), .c (.int .u8 rr.final), .sl 3 0 rr.out.length], .seq 5 (.int .u8) rr.db, .seq 3 (.int .i64) rr.params, .seq 35 (.pair (.int .i64) (.pair (.int .i32) (.pair (.int .u8) (.pair (.int .u8) (.pair (.slice (.int .i64)) (.pair .str (.pair .str .unit))))))) rr.out], []⟩)
theorem t56 (ds : List Dat) (K : AV → AH → Prop) : callA Tryd.prog tys GG31 1000 56 (F56.fr ds) (F56.hp ds) (fun v h' => endK Tryd.prog [] .keep (F56.hp ds) (F56.fr ds) v h' K) = mm56 ds K := by kernel_rfl
noncomputable def R56 : CallT := ruleF Tryd.prog [.keep] [] F56 mm56
theorem ok56 : CallOK Tryd.prog 56 R56 := ruleF_ok sGG31 t56
noncomputable def cs56 : List (FuncId × CallT) := (56, R56) :: cs31
theorem cs56_ok : CallsOK Tryd.prog cs56 := .cons ok56 cs31_ok
noncomputable def GG56 : Rules := mkG [] cs56 ls31_1
theorem sGG56 : Sound Tryd.prog tys GG56 := mk_sound mixed tysOK names (by kernel_rfl) cs56_ok ls31_1_ok
noncomputable def m74 (r : RS) (x' : Int) (K : RS → Prop) : Prop :=
    br (decide ((↑(ByteArray.size (RS.inter r)) : Int) < (2 : Int))) (
     req (inR IntKind.i32 x') (
     req (decide (ByteArray.size (RS.inter r) + ByteArray.size (Utf8.encode x') ≤ (9223372036854775807 : Nat))) (K { r with inter := RS.inter r ++ Utf8.encode x' }))) (K r)
def F74 : AM.Form := ⟨[.p 0 0, .int .u8], [.cells 59 [.int .i64, .sl 1, .int .u8, .sl 2, .int .i64, .str, .str, .int .u8, .sl 3], .seq 5 (.int .u8), .seq 3 (.int .i64), .seq 35 (.pair (.int .i64) (.pair (.int .i32) (.pair (.int .u8) (.pair (.int .u8) (.pair (.slice (.int .i64)) (.pair .str (.pair .str .unit)))))))]⟩
noncomputable def mm74 (ds : List Dat) (K : AV → AH → Prop) : Prop := m74 ⟨(dat ds 1).toInt, (dat ds 7).toList, (dat ds 2).toInt, (dat ds 8).toList, (dat ds 3).toInt, (dat ds 4).toStr, (dat ds 5).toStr, (dat ds 6).toInt, (dat ds 9).toList⟩ ((dat ds 0).toInt) (fun rr => K (.tup []) ⟨[.cells 59 [.c (.int .i64 rr.state), .sl 1 0 rr.db.length, .c (.int .u8 rr.private_), .sl 2 0 rr.params.length, .c (.int .i64 rr.many), .c (.string rr.inter), .c (.string rr.text), .c (.int .u8 rr.final), .sl 3 0 rr.out.length], .seq 5 (.int .u8) rr.db, .seq 3 (.int .i64) rr.params, .seq 35 (.pair (.int .i64) (.pair (.int .i32) (.pair (.int .u8) (.pair (.int .u8) (.pair (.slice (.int .i64)) (.pair .str (.pair .str .unit))))))) rr.out], []⟩)
theorem t74 (ds : List Dat) (K : AV → AH → Prop) : callA Tryd.prog tys GG56 1000 74 (F74.fr ds) (F74.hp ds) (fun v h' => endK Tryd.prog [] .keep (F74.hp ds) (F74.fr ds) v h' K) = mm74 ds K := by kernel_rfl
noncomputable def R74 : CallT := ruleF Tryd.prog [.keep, .keep] [] F74 mm74
theorem ok74 : CallOK Tryd.prog 74 R74 := ruleF_ok sGG56 t74
noncomputable def cs74 : List (FuncId × CallT) := (74, R74) :: cs56
theorem cs74_ok : CallsOK Tryd.prog cs74 := .cons ok74 cs56_ok
noncomputable def GG74 : Rules := mkG [] cs74 ls31_1
theorem sGG74 : Sound Tryd.prog tys GG74 := mk_sound mixed tysOK names (by kernel_rfl) cs74_ok ls31_1_ok
noncomputable def m72 (r : RS) (x' : Int) (K : RS → Prop) : Prop :=
    br (decide ((↑(ByteArray.size (RS.text r)) : Int) < (1024 : Int))) (
     req (decide (ByteArray.size (RS.text r) + ByteArray.size (strD [Dat.int x']) ≤ (9223372036854775807 : Nat))) (K { r with text := RS.text r ++ strD [Dat.int x'] })) (K r)
def F72 : AM.Form := ⟨[.p 0 0, .int .u8], [.cells 59 [.int .i64, .sl 1, .int .u8, .sl 2, .int .i64, .str, .str, .int .u8, .sl 3], .seq 5 (.int .u8), .seq 3 (.int .i64), .seq 35 (.pair (.int .i64) (.pair (.int .i32) (.pair (.int .u8) (.pair (.int .u8) (.pair (.slice (.int .i64)) (.pair .str (.pair .str .unit)))))))]⟩
noncomputable def mm72 (ds : List Dat) (K : AV → AH → Prop) : Prop := m72 ⟨(dat ds 1).toInt, (dat ds 7).toList, (dat ds 2).toInt, (dat ds 8).toList, (dat ds 3).toInt, (dat ds 4).toStr, (dat ds 5).toStr, (dat ds 6).toInt, (dat ds 9).toList⟩ ((dat ds 0).toInt) (fun rr => K (.tup []) ⟨[.cells 59 [.c (.int .i64 rr.state), .sl 1 0 rr.db.length, .c (.int .u8 rr.private_), .sl 2 0 rr.params.length, .c (.int .i64 rr.many), .c (.string rr.inter), .c (.string rr.text), .c (.int .u8 rr.final), .sl 3 0 rr.out.length], .seq 5 (.int .u8) rr.db, .seq 3 (.int .i64) rr.params, .seq 35 (.pair (.int .i64) (.pair (.int .i32) (.pair (.int .u8) (.pair (.int .u8) (.pair (.slice (.int .i64)) (.pair .str (.pair .str .unit))))))) rr.out], []⟩)
theorem t72 (ds : List Dat) (K : AV → AH → Prop) : callA Tryd.prog tys GG74 1000 72 (F72.fr ds) (F72.hp ds) (fun v h' => endK Tryd.prog [] .keep (F72.hp ds) (F72.fr ds) v h' K) = mm72 ds K := by kernel_rfl
noncomputable def R72 : CallT := ruleF Tryd.prog [.keep, .keep] [] F72 mm72
theorem ok72 : CallOK Tryd.prog 72 R72 := ruleF_ok sGG74 t72
noncomputable def cs72 : List (FuncId × CallT) := (72, R72) :: cs74
theorem cs72_ok : CallsOK Tryd.prog cs72 := .cons ok72 cs74_ok
noncomputable def GG72 : Rules := mkG [] cs72 ls31_1
theorem sGG72 : Sound Tryd.prog tys GG72 := mk_sound mixed tysOK names (by kernel_rfl) cs72_ok ls31_1_ok
noncomputable def m86 (r : RS) (K : RS → Prop) : Prop :=
    br (decide (RS.many r = (0 : Int))) (
     req (appOK [Dat.int (-1 : Int)] (0 : Nat) (1 : Nat) (1 : Nat) (8 : Nat)) (K { r with params := dapp [Dat.int (-1 : Int)] (0 : Nat) (1 : Nat) [Dat.int (-1 : Int)], many := (1 : Int) + (1 : Int) })) (
     br (decide (RS.many r ≤ (16 : Int))) (
      req (inR IntKind.i64 (RS.many r + (1 : Int))) (
      br (decide (RS.many r + (1 : Int) ≤ (16 : Int))) (
       req (appOK (RS.params r) (0 : Nat) (List.length (RS.params r)) (1 : Nat) (8 : Nat)) (K { r with params := dapp (RS.params r) (0 : Nat) (List.length (RS.params r)) [Dat.int (-1 : Int)], many := RS.many r + (1 : Int) })) (K { r with many := RS.many r + (1 : Int) }))) (
      br (decide (RS.many r ≤ (16 : Int))) (
       req (appOK (RS.params r) (0 : Nat) (List.length (RS.params r)) (1 : Nat) (8 : Nat)) (K { r with params := dapp (RS.params r) (0 : Nat) (List.length (RS.params r)) [Dat.int (-1 : Int)] })) (K r)))
def F86 : AM.Form := ⟨[.p 0 0], [.cells 59 [.int .i64, .sl 1, .int .u8, .sl 2, .int .i64, .str, .str, .int .u8, .sl 3], .seq 5 (.int .u8), .seq 3 (.int .i64), .seq 35 (.pair (.int .i64) (.pair (.int .i32) (.pair (.int .u8) (.pair (.int .u8) (.pair (.slice (.int .i64)) (.pair .str (.pair .str .unit)))))))]⟩
noncomputable def mm86 (ds : List Dat) (K : AV → AH → Prop) : Prop := m86 ⟨(dat ds 0).toInt, (dat ds 6).toList, (dat ds 1).toInt, (dat ds 7).toList, (dat ds 2).toInt, (dat ds 3).toStr, (dat ds 4).toStr, (dat ds 5).toInt, (dat ds 8).toList⟩ (fun rr => K (.tup []) ⟨[.cells 59 [.c (.int .i64 rr.state), .sl 1 0 rr.db.length, .c (.int .u8 rr.private_), .sl 2 0 rr.params.length, .c (.int .i64 rr.many), .c (.string rr.inter), .c (.string rr.text), .c (.int .u8 rr.final), .sl 3 0 rr.out.length], .seq 5 (.int .u8) rr.db, .seq 3 (.int .i64) rr.params, .seq 35 (.pair (.int .i64) (.pair (.int .i32) (.pair (.int .u8) (.pair (.int .u8) (.pair (.slice (.int .i64)) (.pair .str (.pair .str .unit))))))) rr.out], []⟩)
theorem t86 (ds : List Dat) (K : AV → AH → Prop) : callA Tryd.prog tys GG72 1000 86 (F86.fr ds) (F86.hp ds) (fun v h' => endK Tryd.prog [] .keep (F86.hp ds) (F86.fr ds) v h' K) = mm86 ds K := by kernel_rfl
noncomputable def R86 : CallT := ruleF Tryd.prog [.keep] [] F86 mm86
theorem ok86 : CallOK Tryd.prog 86 R86 := ruleF_ok sGG72 t86
noncomputable def cs86 : List (FuncId × CallT) := (86, R86) :: cs72
theorem cs86_ok : CallsOK Tryd.prog cs86 := .cons ok86 cs72_ok
noncomputable def GG86 : Rules := mkG [] cs86 ls31_1
theorem sGG86 : Sound Tryd.prog tys GG86 := mk_sound mixed tysOK names (by kernel_rfl) cs86_ok ls31_1_ok
noncomputable def m87 (r : RS) (x' : Int) (K : RS → Prop) : Prop :=
    br (decide (RS.many r = (0 : Int))) (
     req (inR IntKind.i64 (IntKind.wrap IntKind.u8 (x' - (48 : Int)))) (
     req (inR IntKind.i64 ((if true = true then max (-1 : Int) (0 : Int) else min (-1 : Int) (0 : Int)) * (10 : Int) + IntKind.wrap IntKind.u8 (x' - (48 : Int)))) (K { r with params := [Dat.int (if false = true then max ((if true = true then max (-1 : Int) (0 : Int) else min (-1 : Int) (0 : Int)) * (10 : Int) + IntKind.wrap IntKind.u8 (x' - (48 : Int))) (65535 : Int) else min ((if true = true then max (-1 : Int) (0 : Int) else min (-1 : Int) (0 : Int)) * (10 : Int) + IntKind.wrap IntKind.u8 (x' - (48 : Int))) (65535 : Int))], many := (1 : Int) }))) (
     br (decide ((16 : Int) < RS.many r)) (
      req (decide ((0 : Nat) + List.length (RS.params r) ≤ List.length (RS.params r))) (K { r with params := dcut (RS.params r) (0 : Nat) (List.length (RS.params r)) })) (
      req (inR IntKind.i64 ((↑(List.length (RS.params r)) : Int) - (1 : Int))) (
      req (decide ((0 : Int) ≤ (↑(List.length (RS.params r)) : Int) - (1 : Int)) && decide ((↑(List.length (RS.params r)) : Int) - (1 : Int) < (↑(List.length (RS.params r)) : Int))) (
      req (decide ((0 : Nat) + Int.toNat ((↑(List.length (RS.params r)) : Int) - (1 : Int)) < List.length (RS.params r))) (
      req (inR IntKind.i64 ((if true = true then max (Dat.toInt (List.getD (RS.params r) ((0 : Nat) + Int.toNat ((↑(List.length (RS.params r)) : Int) - (1 : Int))) default)) (0 : Int) else min (Dat.toInt (List.getD (RS.params r) ((0 : Nat) + Int.toNat ((↑(List.length (RS.params r)) : Int) - (1 : Int))) default)) (0 : Int)) * (10 : Int))) (
      req (inR IntKind.i64 (IntKind.wrap IntKind.u8 (x' - (48 : Int)))) (
      req (inR IntKind.i64 ((if true = true then max (Dat.toInt (List.getD (RS.params r) ((0 : Nat) + Int.toNat ((↑(List.length (RS.params r)) : Int) - (1 : Int))) default)) (0 : Int) else min (Dat.toInt (List.getD (RS.params r) ((0 : Nat) + Int.toNat ((↑(List.length (RS.params r)) : Int) - (1 : Int))) default)) (0 : Int)) * (10 : Int) + IntKind.wrap IntKind.u8 (x' - (48 : Int)))) (
      req (decide ((0 : Int) ≤ (↑(List.length (RS.params r)) : Int) - (1 : Int)) && decide ((↑(List.length (RS.params r)) : Int) - (1 : Int) < (↑(List.length (RS.params r)) : Int))) (
      req (decide ((0 : Nat) + Int.toNat ((↑(List.length (RS.params r)) : Int) - (1 : Int)) < List.length (RS.params r))) (
      req (decide ((0 : Nat) + List.length (RS.params r) ≤ List.length (List.set (RS.params r) ((0 : Nat) + Int.toNat ((↑(List.length (RS.params r)) : Int) - (1 : Int))) (Dat.int (if false = true then max ((if true = true then max (Dat.toInt (List.getD (RS.params r) ((0 : Nat) + Int.toNat ((↑(List.length (RS.params r)) : Int) - (1 : Int))) default)) (0 : Int) else min (Dat.toInt (List.getD (RS.params r) ((0 : Nat) + Int.toNat ((↑(List.length (RS.params r)) : Int) - (1 : Int))) default)) (0 : Int)) * (10 : Int) + IntKind.wrap IntKind.u8 (x' - (48 : Int))) (65535 : Int) else min ((if true = true then max (Dat.toInt (List.getD (RS.params r) ((0 : Nat) + Int.toNat ((↑(List.length (RS.params r)) : Int) - (1 : Int))) default)) (0 : Int) else min (Dat.toInt (List.getD (RS.params r) ((0 : Nat) + Int.toNat ((↑(List.length (RS.params r)) : Int) - (1 : Int))) default)) (0 : Int)) * (10 : Int) + IntKind.wrap IntKind.u8 (x' - (48 : Int))) (65535 : Int)))))) (K { r with params := dcut (List.set (RS.params r) ((0 : Nat) + Int.toNat ((↑(List.length (RS.params r)) : Int) - (1 : Int))) (Dat.int (if false = true then max ((if true = true then max (Dat.toInt (List.getD (RS.params r) ((0 : Nat) + Int.toNat ((↑(List.length (RS.params r)) : Int) - (1 : Int))) default)) (0 : Int) else min (Dat.toInt (List.getD (RS.params r) ((0 : Nat) + Int.toNat ((↑(List.length (RS.params r)) : Int) - (1 : Int))) default)) (0 : Int)) * (10 : Int) + IntKind.wrap IntKind.u8 (x' - (48 : Int))) (65535 : Int) else min ((if true = true then max (Dat.toInt (List.getD (RS.params r) ((0 : Nat) + Int.toNat ((↑(List.length (RS.params r)) : Int) - (1 : Int))) default)) (0 : Int) else min (Dat.toInt (List.getD (RS.params r) ((0 : Nat) + Int.toNat ((↑(List.length (RS.params r)) : Int) - (1 : Int))) default)) (0 : Int)) * (10 : Int) + IntKind.wrap IntKind.u8 (x' - (48 : Int))) (65535 : Int)))) (0 : Nat) (List.length (RS.params r)) })))))))))))
def F87 : AM.Form := ⟨[.p 0 0, .int .u8], [.cells 59 [.int .i64, .sl 1, .int .u8, .sl 2, .int .i64, .str, .str, .int .u8, .sl 3], .seq 5 (.int .u8), .seq 3 (.int .i64), .seq 35 (.pair (.int .i64) (.pair (.int .i32) (.pair (.int .u8) (.pair (.int .u8) (.pair (.slice (.int .i64)) (.pair .str (.pair .str .unit)))))))]⟩
noncomputable def mm87 (ds : List Dat) (K : AV → AH → Prop) : Prop := m87 ⟨(dat ds 1).toInt, (dat ds 7).toList, (dat ds 2).toInt, (dat ds 8).toList, (dat ds 3).toInt, (dat ds 4).toStr, (dat ds 5).toStr, (dat ds 6).toInt, (dat ds 9).toList⟩ ((dat ds 0).toInt) (fun rr => K (.tup []) ⟨[.cells 59 [.c (.int .i64 rr.state), .sl 1 0 rr.db.length, .c (.int .u8 rr.private_), .sl 2 0 rr.params.length, .c (.int .i64 rr.many), .c (.string rr.inter), .c (.string rr.text), .c (.int .u8 rr.final), .sl 3 0 rr.out.length], .seq 5 (.int .u8) rr.db, .seq 3 (.int .i64) rr.params, .seq 35 (.pair (.int .i64) (.pair (.int .i32) (.pair (.int .u8) (.pair (.int .u8) (.pair (.slice (.int .i64)) (.pair .str (.pair .str .unit))))))) rr.out], []⟩)
theorem t87 (ds : List Dat) (K : AV → AH → Prop) : callA Tryd.prog tys GG86 1000 87 (F87.fr ds) (F87.hp ds) (fun v h' => endK Tryd.prog [(0, 3, .cut 3 (.int .i64))] .keep (F87.hp ds) (F87.fr ds) v h' K) = mm87 ds K := by kernel_rfl
noncomputable def R87 : CallT := ruleF Tryd.prog [.keep, .keep] [] F87 mm87
theorem ok87 : CallOK Tryd.prog 87 R87 := ruleF_ok sGG86 t87
noncomputable def cs87 : List (FuncId × CallT) := (87, R87) :: cs86
theorem cs87_ok : CallsOK Tryd.prog cs87 := .cons ok87 cs86_ok
noncomputable def GG87 : Rules := mkG [] cs87 ls31_1
theorem sGG87 : Sound Tryd.prog tys GG87 := mk_sound mixed tysOK names (by kernel_rfl) cs87_ok ls31_1_ok
noncomputable def m85 (r : RS) (x' : Int) (K : RS → Prop) : Prop :=
    br (decide ((7 : Int) ≤ RS.state r)) (
     br (decide (RS.state r = (10 : Int))) (K { r with state := (13 : Int), final := x' }) (K { r with state := (11 : Int), final := x' })) (
     br (!decide (RS.state r = (6 : Int))) (
      req (decide ((0 : Nat) + List.length (RS.params r) ≤ List.length (RS.params r))) (
      req (decide (List.length (List.take (List.length (RS.params r)) (RS.params r)) * (8 : Nat) ≤ (140737488351232 : Nat))) (
      req (decide ((0 : Nat) + List.length (List.take (List.length (RS.params r)) (RS.params r)) ≤ List.length (List.take (List.length (RS.params r)) (RS.params r)))) (
      ((List.length (RS.db r) = List.length (RS.db r)) ∧ 
      ((List.length (RS.params r) = List.length (RS.params r)) ∧ 
      ((List.length (RS.out r) = List.length (RS.out r)) ∧ 
      m46 r (4 : Int) (0 : Int) x' (RS.private_ r) (List.take (List.length (List.take (List.length (RS.params r)) (RS.params r))) (List.take (List.length (RS.params r)) (RS.params r))) (RS.inter r) { data := #[] } (fun y0 => K { y0 with state := (0 : Int) })))))))) (K { r with state := (0 : Int) }))
def F85 : AM.Form := ⟨[.p 0 0, .int .u8], [.cells 59 [.int .i64, .sl 1, .int .u8, .sl 2, .int .i64, .str, .str, .int .u8, .sl 3], .seq 5 (.int .u8), .seq 3 (.int .i64), .seq 35 (.pair (.int .i64) (.pair (.int .i32) (.pair (.int .u8) (.pair (.int .u8) (.pair (.slice (.int .i64)) (.pair .str (.pair .str .unit)))))))]⟩
noncomputable def mm85 (ds : List Dat) (K : AV → AH → Prop) : Prop := m85 ⟨(dat ds 1).toInt, (dat ds 7).toList, (dat ds 2).toInt, (dat ds 8).toList, (dat ds 3).toInt, (dat ds 4).toStr, (dat ds 5).toStr, (dat ds 6).toInt, (dat ds 9).toList⟩ ((dat ds 0).toInt) (fun rr => K (.tup []) ⟨[.cells 59 [.c (.int .i64 rr.state), .sl 1 0 rr.db.length, .c (.int .u8 rr.private_), .sl 2 0 rr.params.length, .c (.int .i64 rr.many), .c (.string rr.inter), .c (.string rr.text), .c (.int .u8 rr.final), .sl 3 0 rr.out.length], .seq 5 (.int .u8) rr.db, .seq 3 (.int .i64) rr.params, .seq 35 (.pair (.int .i64) (.pair (.int .i32) (.pair (.int .u8) (.pair (.int .u8) (.pair (.slice (.int .i64)) (.pair .str (.pair .str .unit))))))) rr.out], []⟩)
theorem t85 (ds : List Dat) (K : AV → AH → Prop) : callA Tryd.prog tys GG87 1000 85 (F85.fr ds) (F85.hp ds) (fun v h' => endK Tryd.prog [] .keep (F85.hp ds) (F85.fr ds) v h' K) = mm85 ds K := by kernel_rfl
noncomputable def R85 : CallT := ruleF Tryd.prog [.keep, .keep] [] F85 mm85
theorem ok85 : CallOK Tryd.prog 85 R85 := ruleF_ok sGG87 t85
noncomputable def cs85 : List (FuncId × CallT) := (85, R85) :: cs87
theorem cs85_ok : CallsOK Tryd.prog cs85 := .cons ok85 cs87_ok
noncomputable def GG85 : Rules := mkG [] cs85 ls31_1
theorem sGG85 : Sound Tryd.prog tys GG85 := mk_sound mixed tysOK names (by kernel_rfl) cs85_ok ls31_1_ok
noncomputable def m58 (r : RS) (x' : Int) (K : RS → Prop) : Prop :=
    br (decide ((7 : Int) ≤ RS.state r)) (
     br (decide (RS.state r ≤ (10 : Int))) (K r) (
      ((List.length (RS.db r) = List.length (RS.db r)) ∧ 
      ((List.length (RS.params r) = List.length (RS.params r)) ∧ 
      ((List.length (RS.out r) = List.length (RS.out r)) ∧ 
      m46 r (2 : Int) (0 : Int) x' (0 : Int) [] { data := #[] } { data := #[] } (fun y0 => K y0)))))) (
     ((List.length (RS.db r) = List.length (RS.db r)) ∧ 
     ((List.length (RS.params r) = List.length (RS.params r)) ∧ 
     ((List.length (RS.out r) = List.length (RS.out r)) ∧ 
     m46 r (2 : Int) (0 : Int) x' (0 : Int) [] { data := #[] } { data := #[] } (fun y1 => K y1)))))
def F58 : AM.Form := ⟨[.p 0 0, .int .u8], [.cells 59 [.int .i64, .sl 1, .int .u8, .sl 2, .int .i64, .str, .str, .int .u8, .sl 3], .seq 5 (.int .u8), .seq 3 (.int .i64), .seq 35 (.pair (.int .i64) (.pair (.int .i32) (.pair (.int .u8) (.pair (.int .u8) (.pair (.slice (.int .i64)) (.pair .str (.pair .str .unit)))))))]⟩
noncomputable def mm58 (ds : List Dat) (K : AV → AH → Prop) : Prop := m58 ⟨(dat ds 1).toInt, (dat ds 7).toList, (dat ds 2).toInt, (dat ds 8).toList, (dat ds 3).toInt, (dat ds 4).toStr, (dat ds 5).toStr, (dat ds 6).toInt, (dat ds 9).toList⟩ ((dat ds 0).toInt) (fun rr => K (.tup []) ⟨[.cells 59 [.c (.int .i64 rr.state), .sl 1 0 rr.db.length, .c (.int .u8 rr.private_), .sl 2 0 rr.params.length, .c (.int .i64 rr.many), .c (.string rr.inter), .c (.string rr.text), .c (.int .u8 rr.final), .sl 3 0 rr.out.length], .seq 5 (.int .u8) rr.db, .seq 3 (.int .i64) rr.params, .seq 35 (.pair (.int .i64) (.pair (.int .i32) (.pair (.int .u8) (.pair (.int .u8) (.pair (.slice (.int .i64)) (.pair .str (.pair .str .unit))))))) rr.out], []⟩)
theorem t58 (ds : List Dat) (K : AV → AH → Prop) : callA Tryd.prog tys GG85 1000 58 (F58.fr ds) (F58.hp ds) (fun v h' => endK Tryd.prog [] .keep (F58.hp ds) (F58.fr ds) v h' K) = mm58 ds K := by kernel_rfl
noncomputable def R58 : CallT := ruleF Tryd.prog [.keep, .keep] [] F58 mm58
theorem ok58 : CallOK Tryd.prog 58 R58 := ruleF_ok sGG85 t58
noncomputable def cs58 : List (FuncId × CallT) := (58, R58) :: cs85
theorem cs58_ok : CallsOK Tryd.prog cs58 := .cons ok58 cs85_ok
noncomputable def GG58 : Rules := mkG [] cs58 ls31_1
theorem sGG58 : Sound Tryd.prog tys GG58 := mk_sound mixed tysOK names (by kernel_rfl) cs58_ok ls31_1_ok
noncomputable def m57 (r : RS) (x' : Int) (K : RS → Prop) : Prop :=
    br (decide (RS.state r = (11 : Int))) (
     br (!decide (x' = (127 : Int))) (
      ((List.length (RS.db r) = List.length (RS.db r)) ∧ 
      ((List.length (RS.params r) = List.length (RS.params r)) ∧ 
      ((List.length (RS.out r) = List.length (RS.out r)) ∧ 
      m72 r x' (fun y0 => K y0))))) (K r)) (
     br (decide (x' = (7 : Int))) (
      ((List.length (RS.db r) = List.length (RS.db r)) ∧ 
      ((List.length (RS.params r) = List.length (RS.params r)) ∧ 
      ((List.length (RS.out r) = List.length (RS.out r)) ∧ 
      m46 r (5 : Int) (0 : Int) (0 : Int) (0 : Int) [] { data := #[] } (RS.text r) (fun y1 => K { y1 with state := (0 : Int) }))))) (
      br (decide ((32 : Int) ≤ x')) (
       ((List.length (RS.db r) = List.length (RS.db r)) ∧ 
       ((List.length (RS.params r) = List.length (RS.params r)) ∧ 
       ((List.length (RS.out r) = List.length (RS.out r)) ∧ 
       m72 r x' (fun y2 => K y2))))) (K r)))
def F57 : AM.Form := ⟨[.p 0 0, .int .u8], [.cells 59 [.int .i64, .sl 1, .int .u8, .sl 2, .int .i64, .str, .str, .int .u8, .sl 3], .seq 5 (.int .u8), .seq 3 (.int .i64), .seq 35 (.pair (.int .i64) (.pair (.int .i32) (.pair (.int .u8) (.pair (.int .u8) (.pair (.slice (.int .i64)) (.pair .str (.pair .str .unit)))))))]⟩
noncomputable def mm57 (ds : List Dat) (K : AV → AH → Prop) : Prop := m57 ⟨(dat ds 1).toInt, (dat ds 7).toList, (dat ds 2).toInt, (dat ds 8).toList, (dat ds 3).toInt, (dat ds 4).toStr, (dat ds 5).toStr, (dat ds 6).toInt, (dat ds 9).toList⟩ ((dat ds 0).toInt) (fun rr => K (.tup []) ⟨[.cells 59 [.c (.int .i64 rr.state), .sl 1 0 rr.db.length, .c (.int .u8 rr.private_), .sl 2 0 rr.params.length, .c (.int .i64 rr.many), .c (.string rr.inter), .c (.string rr.text), .c (.int .u8 rr.final), .sl 3 0 rr.out.length], .seq 5 (.int .u8) rr.db, .seq 3 (.int .i64) rr.params, .seq 35 (.pair (.int .i64) (.pair (.int .i32) (.pair (.int .u8) (.pair (.int .u8) (.pair (.slice (.int .i64)) (.pair .str (.pair .str .unit))))))) rr.out], []⟩)
theorem t57 (ds : List Dat) (K : AV → AH → Prop) : callA Tryd.prog tys GG58 1000 57 (F57.fr ds) (F57.hp ds) (fun v h' => endK Tryd.prog [] .keep (F57.hp ds) (F57.fr ds) v h' K) = mm57 ds K := by kernel_rfl
noncomputable def R57 : CallT := ruleF Tryd.prog [.keep, .keep] [] F57 mm57
theorem ok57 : CallOK Tryd.prog 57 R57 := ruleF_ok sGG58 t57
noncomputable def cs57 : List (FuncId × CallT) := (57, R57) :: cs58
theorem cs57_ok : CallsOK Tryd.prog cs57 := .cons ok57 cs58_ok
noncomputable def GG57 : Rules := mkG [] cs57 ls31_1
theorem sGG57 : Sound Tryd.prog tys GG57 := mk_sound mixed tysOK names (by kernel_rfl) cs57_ok ls31_1_ok
noncomputable def m73 (r : RS) (x' : Int) (K : RS → Prop) : Prop :=
    br (decide (x' < (48 : Int))) (
     ((List.length (RS.db r) = List.length (RS.db r)) ∧ 
     ((List.length (RS.params r) = List.length (RS.params r)) ∧ 
     ((List.length (RS.out r) = List.length (RS.out r)) ∧ 
     m74 r x' (fun y0 => K { y0 with state := (2 : Int) }))))) (
     br (decide (x' = (91 : Int))) (K { r with state := (3 : Int) }) (
      br (decide (x' = (93 : Int))) (K { r with state := (12 : Int) }) (
       br (decide (x' = (80 : Int))) (K { r with state := (7 : Int) }) (
        br (decide (x' = (88 : Int))) (K { r with state := (13 : Int) }) (
         br (decide (x' = (94 : Int))) (K { r with state := (13 : Int) }) (
          br (decide (x' = (95 : Int))) (K { r with state := (13 : Int) }) (
           br (decide (x' = (92 : Int))) (K { r with state := (0 : Int) }) (
            ((List.length (RS.db r) = List.length (RS.db r)) ∧ 
            ((List.length (RS.params r) = List.length (RS.params r)) ∧ 
            ((List.length (RS.out r) = List.length (RS.out r)) ∧ 
            m46 r (3 : Int) (0 : Int) x' (0 : Int) [] { data := #[] } { data := #[] } (fun y1 => K { y1 with state := (0 : Int) }))))))))))))
def F73 : AM.Form := ⟨[.p 0 0, .int .u8], [.cells 59 [.int .i64, .sl 1, .int .u8, .sl 2, .int .i64, .str, .str, .int .u8, .sl 3], .seq 5 (.int .u8), .seq 3 (.int .i64), .seq 35 (.pair (.int .i64) (.pair (.int .i32) (.pair (.int .u8) (.pair (.int .u8) (.pair (.slice (.int .i64)) (.pair .str (.pair .str .unit)))))))]⟩
noncomputable def mm73 (ds : List Dat) (K : AV → AH → Prop) : Prop := m73 ⟨(dat ds 1).toInt, (dat ds 7).toList, (dat ds 2).toInt, (dat ds 8).toList, (dat ds 3).toInt, (dat ds 4).toStr, (dat ds 5).toStr, (dat ds 6).toInt, (dat ds 9).toList⟩ ((dat ds 0).toInt) (fun rr => K (.tup []) ⟨[.cells 59 [.c (.int .i64 rr.state), .sl 1 0 rr.db.length, .c (.int .u8 rr.private_), .sl 2 0 rr.params.length, .c (.int .i64 rr.many), .c (.string rr.inter), .c (.string rr.text), .c (.int .u8 rr.final), .sl 3 0 rr.out.length], .seq 5 (.int .u8) rr.db, .seq 3 (.int .i64) rr.params, .seq 35 (.pair (.int .i64) (.pair (.int .i32) (.pair (.int .u8) (.pair (.int .u8) (.pair (.slice (.int .i64)) (.pair .str (.pair .str .unit))))))) rr.out], []⟩)
theorem t73 (ds : List Dat) (K : AV → AH → Prop) : callA Tryd.prog tys GG57 1000 73 (F73.fr ds) (F73.hp ds) (fun v h' => endK Tryd.prog [] .keep (F73.hp ds) (F73.fr ds) v h' K) = mm73 ds K := by kernel_rfl
noncomputable def R73 : CallT := ruleF Tryd.prog [.keep, .keep] [] F73 mm73
theorem ok73 : CallOK Tryd.prog 73 R73 := ruleF_ok sGG57 t73
noncomputable def cs73 : List (FuncId × CallT) := (73, R73) :: cs57
theorem cs73_ok : CallsOK Tryd.prog cs73 := .cons ok73 cs57_ok
noncomputable def GG73 : Rules := mkG [] cs73 ls31_1
theorem sGG73 : Sound Tryd.prog tys GG73 := mk_sound mixed tysOK names (by kernel_rfl) cs73_ok ls31_1_ok
noncomputable def m75 (r : RS) (x' : Int) (K : RS → Prop) : Prop :=
    br (decide ((7 : Int) ≤ RS.state r)) (
     req (inR IntKind.i64 (RS.state r - (7 : Int))) (
     br (decide ((64 : Int) ≤ x')) (
      ((List.length (RS.db r) = List.length (RS.db r)) ∧ 
      ((List.length (RS.params r) = List.length (RS.params r)) ∧ 
      ((List.length (RS.out r) = List.length (RS.out r)) ∧ 
      m85 r x' (fun y0 => K y0))))) (
      br (decide (RS.state r - (7 : Int) = (3 : Int))) (K r) (
       br (decide (x' < (48 : Int))) (
        ((List.length (RS.db r) = List.length (RS.db r)) ∧ 
        ((List.length (RS.params r) = List.length (RS.params r)) ∧ 
        ((List.length (RS.out r) = List.length (RS.out r)) ∧ 
        m74 r x' (fun y1 => K { y1 with state := (7 : Int) + (2 : Int) }))))) (
        br (decide (RS.state r - (7 : Int) = (2 : Int))) (K { r with state := (7 : Int) + (3 : Int) }) (
         br (decide (x' = (58 : Int))) (K { r with state := (7 : Int) + (3 : Int) }) (
          br (decide (RS.state r - (7 : Int) = (1 : Int))) (
           br (decide ((60 : Int) ≤ x')) (K { r with state := (7 : Int) + (3 : Int) }) (
            br (decide ((60 : Int) ≤ x')) (K { r with state := (7 : Int) + (1 : Int), private_ := x' }) (
             br (decide (x' = (59 : Int))) (
              ((List.length (RS.db r) = List.length (RS.db r)) ∧ 
              ((List.length (RS.params r) = List.length (RS.params r)) ∧ 
              ((List.length (RS.out r) = List.length (RS.out r)) ∧ 
              m86 r (fun y2 => K { y2 with state := (7 : Int) + (1 : Int) }))))) (
              ((List.length (RS.db r) = List.length (RS.db r)) ∧ 
              ((List.length (RS.params r) = List.length (RS.params r)) ∧ 
              ((List.length (RS.out r) = List.length (RS.out r)) ∧ 
              m87 r x' (fun y3 => K { y3 with state := (7 : Int) + (1 : Int) })))))))) (
           br (decide ((60 : Int) ≤ x')) (K { r with state := (7 : Int) + (1 : Int), private_ := x' }) (
            br (decide (x' = (59 : Int))) (
             ((List.length (RS.db r) = List.length (RS.db r)) ∧ 
             ((List.length (RS.params r) = List.length (RS.params r)) ∧ 
             ((List.length (RS.out r) = List.length (RS.out r)) ∧ 
             m86 r (fun y4 => K { y4 with state := (7 : Int) + (1 : Int) }))))) (
             ((List.length (RS.db r) = List.length (RS.db r)) ∧ 
             ((List.length (RS.params r) = List.length (RS.params r)) ∧ 
             ((List.length (RS.out r) = List.length (RS.out r)) ∧ 
             m87 r x' (fun y5 => K { y5 with state := (7 : Int) + (1 : Int) })))))))))))))) (
     req (inR IntKind.i64 (RS.state r - (3 : Int))) (
     br (decide ((64 : Int) ≤ x')) (
      ((List.length (RS.db r) = List.length (RS.db r)) ∧ 
      ((List.length (RS.params r) = List.length (RS.params r)) ∧ 
      ((List.length (RS.out r) = List.length (RS.out r)) ∧ 
      m85 r x' (fun y6 => K y6))))) (
      br (decide (RS.state r - (3 : Int) = (3 : Int))) (K r) (
       br (decide (x' < (48 : Int))) (
        ((List.length (RS.db r) = List.length (RS.db r)) ∧ 
        ((List.length (RS.params r) = List.length (RS.params r)) ∧ 
        ((List.length (RS.out r) = List.length (RS.out r)) ∧ 
        m74 r x' (fun y7 => K { y7 with state := (3 : Int) + (2 : Int) }))))) (
        br (decide (RS.state r - (3 : Int) = (2 : Int))) (K { r with state := (3 : Int) + (3 : Int) }) (
         br (decide (x' = (58 : Int))) (K { r with state := (3 : Int) + (3 : Int) }) (
          br (decide (RS.state r - (3 : Int) = (1 : Int))) (
           br (decide ((60 : Int) ≤ x')) (K { r with state := (3 : Int) + (3 : Int) }) (
            br (decide ((60 : Int) ≤ x')) (K { r with state := (3 : Int) + (1 : Int), private_ := x' }) (
             br (decide (x' = (59 : Int))) (
              ((List.length (RS.db r) = List.length (RS.db r)) ∧ 
              ((List.length (RS.params r) = List.length (RS.params r)) ∧ 
              ((List.length (RS.out r) = List.length (RS.out r)) ∧ 
              m86 r (fun y8 => K { y8 with state := (3 : Int) + (1 : Int) }))))) (
              ((List.length (RS.db r) = List.length (RS.db r)) ∧ 
              ((List.length (RS.params r) = List.length (RS.params r)) ∧ 
              ((List.length (RS.out r) = List.length (RS.out r)) ∧ 
              m87 r x' (fun y9 => K { y9 with state := (3 : Int) + (1 : Int) })))))))) (
           br (decide ((60 : Int) ≤ x')) (K { r with state := (3 : Int) + (1 : Int), private_ := x' }) (
            br (decide (x' = (59 : Int))) (
             ((List.length (RS.db r) = List.length (RS.db r)) ∧ 
             ((List.length (RS.params r) = List.length (RS.params r)) ∧ 
             ((List.length (RS.out r) = List.length (RS.out r)) ∧ 
             m86 r (fun y10 => K { y10 with state := (3 : Int) + (1 : Int) }))))) (
             ((List.length (RS.db r) = List.length (RS.db r)) ∧ 
             ((List.length (RS.params r) = List.length (RS.params r)) ∧ 
             ((List.length (RS.out r) = List.length (RS.out r)) ∧ 
             m87 r x' (fun y11 => K { y11 with state := (3 : Int) + (1 : Int) }))))))))))))))
def F75 : AM.Form := ⟨[.p 0 0, .int .u8], [.cells 59 [.int .i64, .sl 1, .int .u8, .sl 2, .int .i64, .str, .str, .int .u8, .sl 3], .seq 5 (.int .u8), .seq 3 (.int .i64), .seq 35 (.pair (.int .i64) (.pair (.int .i32) (.pair (.int .u8) (.pair (.int .u8) (.pair (.slice (.int .i64)) (.pair .str (.pair .str .unit)))))))]⟩
noncomputable def mm75 (ds : List Dat) (K : AV → AH → Prop) : Prop := m75 ⟨(dat ds 1).toInt, (dat ds 7).toList, (dat ds 2).toInt, (dat ds 8).toList, (dat ds 3).toInt, (dat ds 4).toStr, (dat ds 5).toStr, (dat ds 6).toInt, (dat ds 9).toList⟩ ((dat ds 0).toInt) (fun rr => K (.tup []) ⟨[.cells 59 [.c (.int .i64 rr.state), .sl 1 0 rr.db.length, .c (.int .u8 rr.private_), .sl 2 0 rr.params.length, .c (.int .i64 rr.many), .c (.string rr.inter), .c (.string rr.text), .c (.int .u8 rr.final), .sl 3 0 rr.out.length], .seq 5 (.int .u8) rr.db, .seq 3 (.int .i64) rr.params, .seq 35 (.pair (.int .i64) (.pair (.int .i32) (.pair (.int .u8) (.pair (.int .u8) (.pair (.slice (.int .i64)) (.pair .str (.pair .str .unit))))))) rr.out], []⟩)
theorem t75 (ds : List Dat) (K : AV → AH → Prop) : callA Tryd.prog tys GG73 1000 75 (F75.fr ds) (F75.hp ds) (fun v h' => endK Tryd.prog [] .keep (F75.hp ds) (F75.fr ds) v h' K) = mm75 ds K := by kernel_rfl
noncomputable def R75 : CallT := ruleF Tryd.prog [.keep, .keep] [] F75 mm75
theorem ok75 : CallOK Tryd.prog 75 R75 := ruleF_ok sGG73 t75
noncomputable def cs75 : List (FuncId × CallT) := (75, R75) :: cs73
theorem cs75_ok : CallsOK Tryd.prog cs75 := .cons ok75 cs73_ok
noncomputable def GG75 : Rules := mkG [] cs75 ls31_1
theorem sGG75 : Sound Tryd.prog tys GG75 := mk_sound mixed tysOK names (by kernel_rfl) cs75_ok ls31_1_ok
noncomputable def m59 (r : RS) (x' : Int) (K : RS → Prop) : Prop :=
    br (decide (RS.state r = (0 : Int))) (
     req (inR IntKind.i32 x') (
     ((List.length (RS.db r) = List.length (RS.db r)) ∧ 
     ((List.length (RS.params r) = List.length (RS.params r)) ∧ 
     ((List.length (RS.out r) = List.length (RS.out r)) ∧ 
     m46 r (1 : Int) x' (0 : Int) (0 : Int) [] { data := #[] } { data := #[] } (fun y0 => K y0)))))) (
     br (decide (RS.state r = (1 : Int))) (
      ((List.length (RS.db r) = List.length (RS.db r)) ∧ 
      ((List.length (RS.params r) = List.length (RS.params r)) ∧ 
      ((List.length (RS.out r) = List.length (RS.out r)) ∧ 
      m73 r x' (fun y1 => K y1))))) (
      br (decide (RS.state r = (2 : Int))) (
       br (decide (x' < (48 : Int))) (
        ((List.length (RS.db r) = List.length (RS.db r)) ∧ 
        ((List.length (RS.params r) = List.length (RS.params r)) ∧ 
        ((List.length (RS.out r) = List.length (RS.out r)) ∧ 
        m74 r x' (fun y2 => K y2))))) (
        ((List.length (RS.db r) = List.length (RS.db r)) ∧ 
        ((List.length (RS.params r) = List.length (RS.params r)) ∧ 
        ((List.length (RS.out r) = List.length (RS.out r)) ∧ 
        m46 r (3 : Int) (0 : Int) x' (0 : Int) [] (RS.inter r) { data := #[] } (fun y3 => K { y3 with state := (0 : Int) })))))) (
       ((List.length (RS.db r) = List.length (RS.db r)) ∧ 
       ((List.length (RS.params r) = List.length (RS.params r)) ∧ 
       ((List.length (RS.out r) = List.length (RS.out r)) ∧ 
       m75 r x' (fun y4 => K y4)))))))
def F59 : AM.Form := ⟨[.p 0 0, .int .u8], [.cells 59 [.int .i64, .sl 1, .int .u8, .sl 2, .int .i64, .str, .str, .int .u8, .sl 3], .seq 5 (.int .u8), .seq 3 (.int .i64), .seq 35 (.pair (.int .i64) (.pair (.int .i32) (.pair (.int .u8) (.pair (.int .u8) (.pair (.slice (.int .i64)) (.pair .str (.pair .str .unit)))))))]⟩
noncomputable def mm59 (ds : List Dat) (K : AV → AH → Prop) : Prop := m59 ⟨(dat ds 1).toInt, (dat ds 7).toList, (dat ds 2).toInt, (dat ds 8).toList, (dat ds 3).toInt, (dat ds 4).toStr, (dat ds 5).toStr, (dat ds 6).toInt, (dat ds 9).toList⟩ ((dat ds 0).toInt) (fun rr => K (.tup []) ⟨[.cells 59 [.c (.int .i64 rr.state), .sl 1 0 rr.db.length, .c (.int .u8 rr.private_), .sl 2 0 rr.params.length, .c (.int .i64 rr.many), .c (.string rr.inter), .c (.string rr.text), .c (.int .u8 rr.final), .sl 3 0 rr.out.length], .seq 5 (.int .u8) rr.db, .seq 3 (.int .i64) rr.params, .seq 35 (.pair (.int .i64) (.pair (.int .i32) (.pair (.int .u8) (.pair (.int .u8) (.pair (.slice (.int .i64)) (.pair .str (.pair .str .unit))))))) rr.out], []⟩)
theorem t59 (ds : List Dat) (K : AV → AH → Prop) : callA Tryd.prog tys GG75 1000 59 (F59.fr ds) (F59.hp ds) (fun v h' => endK Tryd.prog [] .keep (F59.hp ds) (F59.fr ds) v h' K) = mm59 ds K := by kernel_rfl
noncomputable def R59 : CallT := ruleF Tryd.prog [.keep, .keep] [] F59 mm59
theorem ok59 : CallOK Tryd.prog 59 R59 := ruleF_ok sGG75 t59
noncomputable def cs59 : List (FuncId × CallT) := (59, R59) :: cs75
theorem cs59_ok : CallsOK Tryd.prog cs59 := .cons ok59 cs75_ok
noncomputable def GG59 : Rules := mkG [] cs59 ls31_1
theorem sGG59 : Sound Tryd.prog tys GG59 := mk_sound mixed tysOK names (by kernel_rfl) cs59_ok ls31_1_ok
noncomputable def m37 (r : RS) (x' : Int) (K : RS → Prop) : Prop :=
    br (decide (RS.state r = (0 : Int))) (
     br (decide ((128 : Int) ≤ x')) (
      ((List.length (RS.db r) = List.length (RS.db r)) ∧ 
      ((List.length (RS.params r) = List.length (RS.params r)) ∧ 
      ((List.length (RS.out r) = List.length (RS.out r)) ∧ 
      m54 r [Dat.int x'] (fun y0 y1 => 
       req (decide ((0 : Nat) + List.length y1 ≤ List.length y1)) (
       ((List.length (RS.db y0) = List.length (RS.db y0)) ∧ 
       ((List.length (RS.params y0) = List.length (RS.params y0)) ∧ 
       ((List.length (RS.out y0) = List.length (RS.out y0)) ∧ 
       m31 y0 (List.take (List.length y1) y1) (fun y2 => K y2)))))))))) (
      br (decide (RS.state r = (0 : Int))) (
       ((List.length (RS.db r) = List.length (RS.db r)) ∧ 
       ((List.length (RS.params r) = List.length (RS.params r)) ∧ 
       ((List.length (RS.out r) = List.length (RS.out r)) ∧ 
       m32 r (fun y3 y4 => 
        req (decide ((0 : Nat) + List.length y4 ≤ List.length y4)) (
        ((List.length (RS.db y3) = List.length (RS.db y3)) ∧ 
        ((List.length (RS.params y3) = List.length (RS.params y3)) ∧ 
        ((List.length (RS.out y3) = List.length (RS.out y3)) ∧ 
        m31 y3 (List.take (List.length y4) y4) (fun y5 => 
         br (decide (x' = (24 : Int))) (
          ((List.length (RS.db y5) = List.length (RS.db y5)) ∧ 
          ((List.length (RS.params y5) = List.length (RS.params y5)) ∧ 
          ((List.length (RS.out y5) = List.length (RS.out y5)) ∧ 
          m46 y5 (2 : Int) (0 : Int) x' (0 : Int) [] { data := #[] } { data := #[] } (fun y6 => K { y6 with state := (0 : Int) }))))) (
          br (decide (x' = (26 : Int))) (
           ((List.length (RS.db y5) = List.length (RS.db y5)) ∧ 
           ((List.length (RS.params y5) = List.length (RS.params y5)) ∧ 
           ((List.length (RS.out y5) = List.length (RS.out y5)) ∧ 
           m46 y5 (2 : Int) (0 : Int) x' (0 : Int) [] { data := #[] } { data := #[] } (fun y7 => K { y7 with state := (0 : Int) }))))) (
           br (decide (x' = (27 : Int))) (
            br (decide (RS.state y5 = (12 : Int))) (
             ((List.length (RS.db y5) = List.length (RS.db y5)) ∧ 
             ((List.length (RS.params y5) = List.length (RS.params y5)) ∧ 
             ((List.length (RS.out y5) = List.length (RS.out y5)) ∧ 
             m46 y5 (5 : Int) (0 : Int) (0 : Int) (0 : Int) [] { data := #[] } (RS.text y5) (fun y8 => 
              br (decide (RS.state y8 = (11 : Int))) (
               req (decide ((0 : Nat) + List.length (RS.params y8) ≤ List.length (RS.params y8))) (
               req (decide (List.length (List.take (List.length (RS.params y8)) (RS.params y8)) * (8 : Nat) ≤ (140737488351232 : Nat))) (
               req (decide ((0 : Nat) + List.length (List.take (List.length (RS.params y8)) (RS.params y8)) ≤ List.length (List.take (List.length (RS.params y8)) (RS.params y8)))) (
               ((List.length (RS.db y8) = List.length (RS.db y8)) ∧ 
               ((List.length (RS.params y8) = List.length (RS.params y8)) ∧ 
               ((List.length (RS.out y8) = List.length (RS.out y8)) ∧ 
               m46 y8 (6 : Int) (0 : Int) (RS.final y8) (RS.private_ y8) (List.take (List.length (List.take (List.length (RS.params y8)) (RS.params y8))) (List.take (List.length (RS.params y8)) (RS.params y8))) (RS.inter y8) (RS.text y8) (fun y9 => 
                ((List.length (RS.db y9) = List.length (RS.db y9)) ∧ 
                ((List.length (RS.params y9) = List.length (RS.params y9)) ∧ 
                ((List.length (RS.out y9) = List.length (RS.out y9)) ∧ 
                m56 y9 (fun y10 => K { y10 with state := (1 : Int) })))))))))))) (
               ((List.length (RS.db y8) = List.length (RS.db y8)) ∧ 
               ((List.length (RS.params y8) = List.length (RS.params y8)) ∧ 
               ((List.length (RS.out y8) = List.length (RS.out y8)) ∧ 
               m56 y8 (fun y11 => K { y11 with state := (1 : Int) })))))))))) (
             br (decide (RS.state y5 = (11 : Int))) (
              req (decide ((0 : Nat) + List.length (RS.params y5) ≤ List.length (RS.params y5))) (
              req (decide (List.length (List.take (List.length (RS.params y5)) (RS.params y5)) * (8 : Nat) ≤ (140737488351232 : Nat))) (
              req (decide ((0 : Nat) + List.length (List.take (List.length (RS.params y5)) (RS.params y5)) ≤ List.length (List.take (List.length (RS.params y5)) (RS.params y5)))) (
              ((List.length (RS.db y5) = List.length (RS.db y5)) ∧ 
              ((List.length (RS.params y5) = List.length (RS.params y5)) ∧ 
              ((List.length (RS.out y5) = List.length (RS.out y5)) ∧ 
              m46 y5 (6 : Int) (0 : Int) (RS.final y5) (RS.private_ y5) (List.take (List.length (List.take (List.length (RS.params y5)) (RS.params y5))) (List.take (List.length (RS.params y5)) (RS.params y5))) (RS.inter y5) (RS.text y5) (fun y12 => 
               ((List.length (RS.db y12) = List.length (RS.db y12)) ∧ 
               ((List.length (RS.params y12) = List.length (RS.params y12)) ∧ 
               ((List.length (RS.out y12) = List.length (RS.out y12)) ∧ 
               m56 y12 (fun y13 => K { y13 with state := (1 : Int) })))))))))))) (
              ((List.length (RS.db y5) = List.length (RS.db y5)) ∧ 
              ((List.length (RS.params y5) = List.length (RS.params y5)) ∧ 
              ((List.length (RS.out y5) = List.length (RS.out y5)) ∧ 
              m56 y5 (fun y14 => K { y14 with state := (1 : Int) }))))))) (
            br (decide (RS.state y5 = (12 : Int))) (
             ((List.length (RS.db y5) = List.length (RS.db y5)) ∧ 
             ((List.length (RS.params y5) = List.length (RS.params y5)) ∧ 
             ((List.length (RS.out y5) = List.length (RS.out y5)) ∧ 
             m57 y5 x' (fun y15 => K y15))))) (
             br (decide (RS.state y5 = (11 : Int))) (
              ((List.length (RS.db y5) = List.length (RS.db y5)) ∧ 
              ((List.length (RS.params y5) = List.length (RS.params y5)) ∧ 
              ((List.length (RS.out y5) = List.length (RS.out y5)) ∧ 
              m57 y5 x' (fun y16 => K y16))))) (
              br (decide ((128 : Int) ≤ x')) (K y5) (
               br (decide (RS.state y5 = (13 : Int))) (K y5) (
                br (decide (x' < (32 : Int))) (
                 ((List.length (RS.db y5) = List.length (RS.db y5)) ∧ 
                 ((List.length (RS.params y5) = List.length (RS.params y5)) ∧ 
                 ((List.length (RS.out y5) = List.length (RS.out y5)) ∧ 
                 m58 y5 x' (fun y17 => K y17))))) (
                 br (decide (x' = (127 : Int))) (K y5) (
                  ((List.length (RS.db y5) = List.length (RS.db y5)) ∧ 
                  ((List.length (RS.params y5) = List.length (RS.params y5)) ∧ 
                  ((List.length (RS.out y5) = List.length (RS.out y5)) ∧ 
                  m59 y5 x' (fun y18 => K y18))))))))))))))))))))))) (
       br (decide (x' = (24 : Int))) (
        ((List.length (RS.db r) = List.length (RS.db r)) ∧ 
        ((List.length (RS.params r) = List.length (RS.params r)) ∧ 
        ((List.length (RS.out r) = List.length (RS.out r)) ∧ 
        m46 r (2 : Int) (0 : Int) x' (0 : Int) [] { data := #[] } { data := #[] } (fun y19 => K { y19 with state := (0 : Int) }))))) (
        br (decide (x' = (26 : Int))) (
         ((List.length (RS.db r) = List.length (RS.db r)) ∧ 
         ((List.length (RS.params r) = List.length (RS.params r)) ∧ 
         ((List.length (RS.out r) = List.length (RS.out r)) ∧ 
         m46 r (2 : Int) (0 : Int) x' (0 : Int) [] { data := #[] } { data := #[] } (fun y20 => K { y20 with state := (0 : Int) }))))) (
         br (decide (x' = (27 : Int))) (
          br (decide (RS.state r = (12 : Int))) (
           ((List.length (RS.db r) = List.length (RS.db r)) ∧ 
           ((List.length (RS.params r) = List.length (RS.params r)) ∧ 
           ((List.length (RS.out r) = List.length (RS.out r)) ∧ 
           m46 r (5 : Int) (0 : Int) (0 : Int) (0 : Int) [] { data := #[] } (RS.text r) (fun y21 => 
            br (decide (RS.state y21 = (11 : Int))) (
             req (decide ((0 : Nat) + List.length (RS.params y21) ≤ List.length (RS.params y21))) (
             req (decide (List.length (List.take (List.length (RS.params y21)) (RS.params y21)) * (8 : Nat) ≤ (140737488351232 : Nat))) (
             req (decide ((0 : Nat) + List.length (List.take (List.length (RS.params y21)) (RS.params y21)) ≤ List.length (List.take (List.length (RS.params y21)) (RS.params y21)))) (
             ((List.length (RS.db y21) = List.length (RS.db y21)) ∧ 
             ((List.length (RS.params y21) = List.length (RS.params y21)) ∧ 
             ((List.length (RS.out y21) = List.length (RS.out y21)) ∧ 
             m46 y21 (6 : Int) (0 : Int) (RS.final y21) (RS.private_ y21) (List.take (List.length (List.take (List.length (RS.params y21)) (RS.params y21))) (List.take (List.length (RS.params y21)) (RS.params y21))) (RS.inter y21) (RS.text y21) (fun y22 => 
              ((List.length (RS.db y22) = List.length (RS.db y22)) ∧ 
              ((List.length (RS.params y22) = List.length (RS.params y22)) ∧ 
              ((List.length (RS.out y22) = List.length (RS.out y22)) ∧ 
              m56 y22 (fun y23 => K { y23 with state := (1 : Int) })))))))))))) (
             ((List.length (RS.db y21) = List.length (RS.db y21)) ∧ 
             ((List.length (RS.params y21) = List.length (RS.params y21)) ∧ 
             ((List.length (RS.out y21) = List.length (RS.out y21)) ∧ 
             m56 y21 (fun y24 => K { y24 with state := (1 : Int) })))))))))) (
           br (decide (RS.state r = (11 : Int))) (
            req (decide ((0 : Nat) + List.length (RS.params r) ≤ List.length (RS.params r))) (
            req (decide (List.length (List.take (List.length (RS.params r)) (RS.params r)) * (8 : Nat) ≤ (140737488351232 : Nat))) (
            req (decide ((0 : Nat) + List.length (List.take (List.length (RS.params r)) (RS.params r)) ≤ List.length (List.take (List.length (RS.params r)) (RS.params r)))) (
            ((List.length (RS.db r) = List.length (RS.db r)) ∧ 
            ((List.length (RS.params r) = List.length (RS.params r)) ∧ 
            ((List.length (RS.out r) = List.length (RS.out r)) ∧ 
            m46 r (6 : Int) (0 : Int) (RS.final r) (RS.private_ r) (List.take (List.length (List.take (List.length (RS.params r)) (RS.params r))) (List.take (List.length (RS.params r)) (RS.params r))) (RS.inter r) (RS.text r) (fun y25 => 
             ((List.length (RS.db y25) = List.length (RS.db y25)) ∧ 
             ((List.length (RS.params y25) = List.length (RS.params y25)) ∧ 
             ((List.length (RS.out y25) = List.length (RS.out y25)) ∧ 
             m56 y25 (fun y26 => K { y26 with state := (1 : Int) })))))))))))) (
            ((List.length (RS.db r) = List.length (RS.db r)) ∧ 
            ((List.length (RS.params r) = List.length (RS.params r)) ∧ 
            ((List.length (RS.out r) = List.length (RS.out r)) ∧ 
            m56 r (fun y27 => K { y27 with state := (1 : Int) }))))))) (
          br (decide (RS.state r = (12 : Int))) (
           ((List.length (RS.db r) = List.length (RS.db r)) ∧ 
           ((List.length (RS.params r) = List.length (RS.params r)) ∧ 
           ((List.length (RS.out r) = List.length (RS.out r)) ∧ 
           m57 r x' (fun y28 => K y28))))) (
           br (decide (RS.state r = (11 : Int))) (
            ((List.length (RS.db r) = List.length (RS.db r)) ∧ 
            ((List.length (RS.params r) = List.length (RS.params r)) ∧ 
            ((List.length (RS.out r) = List.length (RS.out r)) ∧ 
            m57 r x' (fun y29 => K y29))))) (
            br (decide ((128 : Int) ≤ x')) (K r) (
             br (decide (RS.state r = (13 : Int))) (K r) (
              br (decide (x' < (32 : Int))) (
               ((List.length (RS.db r) = List.length (RS.db r)) ∧ 
               ((List.length (RS.params r) = List.length (RS.params r)) ∧ 
               ((List.length (RS.out r) = List.length (RS.out r)) ∧ 
               m58 r x' (fun y30 => K y30))))) (
               br (decide (x' = (127 : Int))) (K r) (
                ((List.length (RS.db r) = List.length (RS.db r)) ∧ 
                ((List.length (RS.params r) = List.length (RS.params r)) ∧ 
                ((List.length (RS.out r) = List.length (RS.out r)) ∧ 
                m59 r x' (fun y31 => K y31)))))))))))))))) (
     br (decide (RS.state r = (0 : Int))) (
      ((List.length (RS.db r) = List.length (RS.db r)) ∧ 
      ((List.length (RS.params r) = List.length (RS.params r)) ∧ 
      ((List.length (RS.out r) = List.length (RS.out r)) ∧ 
      m32 r (fun y32 y33 => 
       req (decide ((0 : Nat) + List.length y33 ≤ List.length y33)) (
       ((List.length (RS.db y32) = List.length (RS.db y32)) ∧ 
       ((List.length (RS.params y32) = List.length (RS.params y32)) ∧ 
       ((List.length (RS.out y32) = List.length (RS.out y32)) ∧ 
       m31 y32 (List.take (List.length y33) y33) (fun y34 => 
        br (decide (x' = (24 : Int))) (
         ((List.length (RS.db y34) = List.length (RS.db y34)) ∧ 
         ((List.length (RS.params y34) = List.length (RS.params y34)) ∧ 
         ((List.length (RS.out y34) = List.length (RS.out y34)) ∧ 
         m46 y34 (2 : Int) (0 : Int) x' (0 : Int) [] { data := #[] } { data := #[] } (fun y35 => K { y35 with state := (0 : Int) }))))) (
         br (decide (x' = (26 : Int))) (
          ((List.length (RS.db y34) = List.length (RS.db y34)) ∧ 
          ((List.length (RS.params y34) = List.length (RS.params y34)) ∧ 
          ((List.length (RS.out y34) = List.length (RS.out y34)) ∧ 
          m46 y34 (2 : Int) (0 : Int) x' (0 : Int) [] { data := #[] } { data := #[] } (fun y36 => K { y36 with state := (0 : Int) }))))) (
          br (decide (x' = (27 : Int))) (
           br (decide (RS.state y34 = (12 : Int))) (
            ((List.length (RS.db y34) = List.length (RS.db y34)) ∧ 
            ((List.length (RS.params y34) = List.length (RS.params y34)) ∧ 
            ((List.length (RS.out y34) = List.length (RS.out y34)) ∧ 
            m46 y34 (5 : Int) (0 : Int) (0 : Int) (0 : Int) [] { data := #[] } (RS.text y34) (fun y37 => 
             br (decide (RS.state y37 = (11 : Int))) (
              req (decide ((0 : Nat) + List.length (RS.params y37) ≤ List.length (RS.params y37))) (
              req (decide (List.length (List.take (List.length (RS.params y37)) (RS.params y37)) * (8 : Nat) ≤ (140737488351232 : Nat))) (
              req (decide ((0 : Nat) + List.length (List.take (List.length (RS.params y37)) (RS.params y37)) ≤ List.length (List.take (List.length (RS.params y37)) (RS.params y37)))) (
              ((List.length (RS.db y37) = List.length (RS.db y37)) ∧ 
              ((List.length (RS.params y37) = List.length (RS.params y37)) ∧ 
              ((List.length (RS.out y37) = List.length (RS.out y37)) ∧ 
              m46 y37 (6 : Int) (0 : Int) (RS.final y37) (RS.private_ y37) (List.take (List.length (List.take (List.length (RS.params y37)) (RS.params y37))) (List.take (List.length (RS.params y37)) (RS.params y37))) (RS.inter y37) (RS.text y37) (fun y38 => 
               ((List.length (RS.db y38) = List.length (RS.db y38)) ∧ 
               ((List.length (RS.params y38) = List.length (RS.params y38)) ∧ 
               ((List.length (RS.out y38) = List.length (RS.out y38)) ∧ 
               m56 y38 (fun y39 => K { y39 with state := (1 : Int) })))))))))))) (
              ((List.length (RS.db y37) = List.length (RS.db y37)) ∧ 
              ((List.length (RS.params y37) = List.length (RS.params y37)) ∧ 
              ((List.length (RS.out y37) = List.length (RS.out y37)) ∧ 
              m56 y37 (fun y40 => K { y40 with state := (1 : Int) })))))))))) (
            br (decide (RS.state y34 = (11 : Int))) (
             req (decide ((0 : Nat) + List.length (RS.params y34) ≤ List.length (RS.params y34))) (
             req (decide (List.length (List.take (List.length (RS.params y34)) (RS.params y34)) * (8 : Nat) ≤ (140737488351232 : Nat))) (
             req (decide ((0 : Nat) + List.length (List.take (List.length (RS.params y34)) (RS.params y34)) ≤ List.length (List.take (List.length (RS.params y34)) (RS.params y34)))) (
             ((List.length (RS.db y34) = List.length (RS.db y34)) ∧ 
             ((List.length (RS.params y34) = List.length (RS.params y34)) ∧ 
             ((List.length (RS.out y34) = List.length (RS.out y34)) ∧ 
             m46 y34 (6 : Int) (0 : Int) (RS.final y34) (RS.private_ y34) (List.take (List.length (List.take (List.length (RS.params y34)) (RS.params y34))) (List.take (List.length (RS.params y34)) (RS.params y34))) (RS.inter y34) (RS.text y34) (fun y41 => 
              ((List.length (RS.db y41) = List.length (RS.db y41)) ∧ 
              ((List.length (RS.params y41) = List.length (RS.params y41)) ∧ 
              ((List.length (RS.out y41) = List.length (RS.out y41)) ∧ 
              m56 y41 (fun y42 => K { y42 with state := (1 : Int) })))))))))))) (
             ((List.length (RS.db y34) = List.length (RS.db y34)) ∧ 
             ((List.length (RS.params y34) = List.length (RS.params y34)) ∧ 
             ((List.length (RS.out y34) = List.length (RS.out y34)) ∧ 
             m56 y34 (fun y43 => K { y43 with state := (1 : Int) }))))))) (
           br (decide (RS.state y34 = (12 : Int))) (
            ((List.length (RS.db y34) = List.length (RS.db y34)) ∧ 
            ((List.length (RS.params y34) = List.length (RS.params y34)) ∧ 
            ((List.length (RS.out y34) = List.length (RS.out y34)) ∧ 
            m57 y34 x' (fun y44 => K y44))))) (
            br (decide (RS.state y34 = (11 : Int))) (
             ((List.length (RS.db y34) = List.length (RS.db y34)) ∧ 
             ((List.length (RS.params y34) = List.length (RS.params y34)) ∧ 
             ((List.length (RS.out y34) = List.length (RS.out y34)) ∧ 
             m57 y34 x' (fun y45 => K y45))))) (
             br (decide ((128 : Int) ≤ x')) (K y34) (
              br (decide (RS.state y34 = (13 : Int))) (K y34) (
               br (decide (x' < (32 : Int))) (
                ((List.length (RS.db y34) = List.length (RS.db y34)) ∧ 
                ((List.length (RS.params y34) = List.length (RS.params y34)) ∧ 
                ((List.length (RS.out y34) = List.length (RS.out y34)) ∧ 
                m58 y34 x' (fun y46 => K y46))))) (
                br (decide (x' = (127 : Int))) (K y34) (
                 ((List.length (RS.db y34) = List.length (RS.db y34)) ∧ 
                 ((List.length (RS.params y34) = List.length (RS.params y34)) ∧ 
                 ((List.length (RS.out y34) = List.length (RS.out y34)) ∧ 
                 m59 y34 x' (fun y47 => K y47))))))))))))))))))))))) (
      br (decide (x' = (24 : Int))) (
       ((List.length (RS.db r) = List.length (RS.db r)) ∧ 
       ((List.length (RS.params r) = List.length (RS.params r)) ∧ 
       ((List.length (RS.out r) = List.length (RS.out r)) ∧ 
       m46 r (2 : Int) (0 : Int) x' (0 : Int) [] { data := #[] } { data := #[] } (fun y48 => K { y48 with state := (0 : Int) }))))) (
       br (decide (x' = (26 : Int))) (
        ((List.length (RS.db r) = List.length (RS.db r)) ∧ 
        ((List.length (RS.params r) = List.length (RS.params r)) ∧ 
        ((List.length (RS.out r) = List.length (RS.out r)) ∧ 
        m46 r (2 : Int) (0 : Int) x' (0 : Int) [] { data := #[] } { data := #[] } (fun y49 => K { y49 with state := (0 : Int) }))))) (
        br (decide (x' = (27 : Int))) (
         br (decide (RS.state r = (12 : Int))) (
          ((List.length (RS.db r) = List.length (RS.db r)) ∧ 
          ((List.length (RS.params r) = List.length (RS.params r)) ∧ 
          ((List.length (RS.out r) = List.length (RS.out r)) ∧ 
          m46 r (5 : Int) (0 : Int) (0 : Int) (0 : Int) [] { data := #[] } (RS.text r) (fun y50 => 
           br (decide (RS.state y50 = (11 : Int))) (
            req (decide ((0 : Nat) + List.length (RS.params y50) ≤ List.length (RS.params y50))) (
            req (decide (List.length (List.take (List.length (RS.params y50)) (RS.params y50)) * (8 : Nat) ≤ (140737488351232 : Nat))) (
            req (decide ((0 : Nat) + List.length (List.take (List.length (RS.params y50)) (RS.params y50)) ≤ List.length (List.take (List.length (RS.params y50)) (RS.params y50)))) (
            ((List.length (RS.db y50) = List.length (RS.db y50)) ∧ 
            ((List.length (RS.params y50) = List.length (RS.params y50)) ∧ 
            ((List.length (RS.out y50) = List.length (RS.out y50)) ∧ 
            m46 y50 (6 : Int) (0 : Int) (RS.final y50) (RS.private_ y50) (List.take (List.length (List.take (List.length (RS.params y50)) (RS.params y50))) (List.take (List.length (RS.params y50)) (RS.params y50))) (RS.inter y50) (RS.text y50) (fun y51 => 
             ((List.length (RS.db y51) = List.length (RS.db y51)) ∧ 
             ((List.length (RS.params y51) = List.length (RS.params y51)) ∧ 
             ((List.length (RS.out y51) = List.length (RS.out y51)) ∧ 
             m56 y51 (fun y52 => K { y52 with state := (1 : Int) })))))))))))) (
            ((List.length (RS.db y50) = List.length (RS.db y50)) ∧ 
            ((List.length (RS.params y50) = List.length (RS.params y50)) ∧ 
            ((List.length (RS.out y50) = List.length (RS.out y50)) ∧ 
            m56 y50 (fun y53 => K { y53 with state := (1 : Int) })))))))))) (
          br (decide (RS.state r = (11 : Int))) (
           req (decide ((0 : Nat) + List.length (RS.params r) ≤ List.length (RS.params r))) (
           req (decide (List.length (List.take (List.length (RS.params r)) (RS.params r)) * (8 : Nat) ≤ (140737488351232 : Nat))) (
           req (decide ((0 : Nat) + List.length (List.take (List.length (RS.params r)) (RS.params r)) ≤ List.length (List.take (List.length (RS.params r)) (RS.params r)))) (
           ((List.length (RS.db r) = List.length (RS.db r)) ∧ 
           ((List.length (RS.params r) = List.length (RS.params r)) ∧ 
           ((List.length (RS.out r) = List.length (RS.out r)) ∧ 
           m46 r (6 : Int) (0 : Int) (RS.final r) (RS.private_ r) (List.take (List.length (List.take (List.length (RS.params r)) (RS.params r))) (List.take (List.length (RS.params r)) (RS.params r))) (RS.inter r) (RS.text r) (fun y54 => 
            ((List.length (RS.db y54) = List.length (RS.db y54)) ∧ 
            ((List.length (RS.params y54) = List.length (RS.params y54)) ∧ 
            ((List.length (RS.out y54) = List.length (RS.out y54)) ∧ 
            m56 y54 (fun y55 => K { y55 with state := (1 : Int) })))))))))))) (
           ((List.length (RS.db r) = List.length (RS.db r)) ∧ 
           ((List.length (RS.params r) = List.length (RS.params r)) ∧ 
           ((List.length (RS.out r) = List.length (RS.out r)) ∧ 
           m56 r (fun y56 => K { y56 with state := (1 : Int) }))))))) (
         br (decide (RS.state r = (12 : Int))) (
          ((List.length (RS.db r) = List.length (RS.db r)) ∧ 
          ((List.length (RS.params r) = List.length (RS.params r)) ∧ 
          ((List.length (RS.out r) = List.length (RS.out r)) ∧ 
          m57 r x' (fun y57 => K y57))))) (
          br (decide (RS.state r = (11 : Int))) (
           ((List.length (RS.db r) = List.length (RS.db r)) ∧ 
           ((List.length (RS.params r) = List.length (RS.params r)) ∧ 
           ((List.length (RS.out r) = List.length (RS.out r)) ∧ 
           m57 r x' (fun y58 => K y58))))) (
           br (decide ((128 : Int) ≤ x')) (K r) (
            br (decide (RS.state r = (13 : Int))) (K r) (
             br (decide (x' < (32 : Int))) (
              ((List.length (RS.db r) = List.length (RS.db r)) ∧ 
              ((List.length (RS.params r) = List.length (RS.params r)) ∧ 
              ((List.length (RS.out r) = List.length (RS.out r)) ∧ 
              m58 r x' (fun y59 => K y59))))) (
              br (decide (x' = (127 : Int))) (K r) (
               ((List.length (RS.db r) = List.length (RS.db r)) ∧ 
               ((List.length (RS.params r) = List.length (RS.params r)) ∧ 
               ((List.length (RS.out r) = List.length (RS.out r)) ∧ 
               m59 r x' (fun y60 => K y60)))))))))))))))
def F37 : AM.Form := ⟨[.p 0 0, .int .u8], [.cells 59 [.int .i64, .sl 1, .int .u8, .sl 2, .int .i64, .str, .str, .int .u8, .sl 3], .seq 5 (.int .u8), .seq 3 (.int .i64), .seq 35 (.pair (.int .i64) (.pair (.int .i32) (.pair (.int .u8) (.pair (.int .u8) (.pair (.slice (.int .i64)) (.pair .str (.pair .str .unit)))))))]⟩
noncomputable def mm37 (ds : List Dat) (K : AV → AH → Prop) : Prop := m37 ⟨(dat ds 1).toInt, (dat ds 7).toList, (dat ds 2).toInt, (dat ds 8).toList, (dat ds 3).toInt, (dat ds 4).toStr, (dat ds 5).toStr, (dat ds 6).toInt, (dat ds 9).toList⟩ ((dat ds 0).toInt) (fun rr => K (.tup []) ⟨[.cells 59 [.c (.int .i64 rr.state), .sl 1 0 rr.db.length, .c (.int .u8 rr.private_), .sl 2 0 rr.params.length, .c (.int .i64 rr.many), .c (.string rr.inter), .c (.string rr.text), .c (.int .u8 rr.final), .sl 3 0 rr.out.length], .seq 5 (.int .u8) rr.db, .seq 3 (.int .i64) rr.params, .seq 35 (.pair (.int .i64) (.pair (.int .i32) (.pair (.int .u8) (.pair (.int .u8) (.pair (.slice (.int .i64)) (.pair .str (.pair .str .unit))))))) rr.out], []⟩)
theorem t37 (ds : List Dat) (K : AV → AH → Prop) : callA Tryd.prog tys GG59 1000 37 (F37.fr ds) (F37.hp ds) (fun v h' => endK Tryd.prog [] .keep (F37.hp ds) (F37.fr ds) v h' K) = mm37 ds K := by kernel_rfl
noncomputable def R37 : CallT := ruleF Tryd.prog [.keep, .keep] [] F37 mm37
theorem ok37 : CallOK Tryd.prog 37 R37 := ruleF_ok sGG59 t37
noncomputable def cs37 : List (FuncId × CallT) := (37, R37) :: cs59
theorem cs37_ok : CallsOK Tryd.prog cs37 := .cons ok37 cs59_ok
noncomputable def GG37 : Rules := mkG [] cs37 ls31_1
theorem sGG37 : Sound Tryd.prog tys GG37 := mk_sound mixed tysOK names (by kernel_rfl) cs37_ok ls31_1_ok
noncomputable def l20_3 : Nat → RS → List Dat → Int → (RS → Prop) → Prop
  | 0, _, _, _, _ => False
  | n + 1, r, b, i, E0 =>
    br (decide (i < (↑(List.length b) : Int))) (
     req (decide ((0 : Int) ≤ i) && decide (i < (↑(List.length b) : Int))) (
     req (decide (Int.toNat i < List.length b)) (
     ((List.length (RS.db r) = List.length (RS.db r)) ∧ 
     ((List.length (RS.params r) = List.length (RS.params r)) ∧ 
     ((List.length (RS.out r) = List.length (RS.out r)) ∧ 
     m37 r (Dat.toInt (List.getD b (Int.toNat i) default)) (fun y0 => 
      req (inR IntKind.i64 (i + (1 : Int))) (((List.length (RS.db y0)) = List.length (RS.db y0) ∧ ((List.length (RS.params y0)) = List.length (RS.params y0) ∧ ((List.length (RS.out y0)) = List.length (RS.out y0) ∧ l20_3 n y0 b (i + (1 : Int)) E0))))))))))) (E0 r)
def F20_3 : AM.Form := ⟨mkF 25 [(0, .p 0 0), (1, .ro (.int .u8)), (5, .int .i64)], [.cells 59 [.int .i64, .sl 1, .int .u8, .sl 2, .int .i64, .str, .str, .int .u8, .sl 3], .seq 5 (.int .u8), .seq 3 (.int .i64), .seq 35 (.pair (.int .i64) (.pair (.int .i32) (.pair (.int .u8) (.pair (.int .u8) (.pair (.slice (.int .i64)) (.pair .str (.pair .str .unit)))))))]⟩
noncomputable def mm20_3 (n : Nat) (ds : List Dat) (Q : AExit → List AV → AH → Prop) : Prop := l20_3 n ⟨(dat ds 2).toInt, (dat ds 8).toList, (dat ds 3).toInt, (dat ds 9).toList, (dat ds 4).toInt, (dat ds 5).toStr, (dat ds 6).toStr, (dat ds 7).toInt, (dat ds 10).toList⟩ ((dat ds 0).toList) ((dat ds 1).toInt) (fun rr => Q (AExit.exit 0) (mkAV 25 [(0, .p 0 0)]) ⟨[.cells 59 [.c (.int .i64 rr.state), .sl 1 0 rr.db.length, .c (.int .u8 rr.private_), .sl 2 0 rr.params.length, .c (.int .i64 rr.many), .c (.string rr.inter), .c (.string rr.text), .c (.int .u8 rr.final), .sl 3 0 rr.out.length], .seq 5 (.int .u8) rr.db, .seq 3 (.int .i64) rr.params, .seq 35 (.pair (.int .i64) (.pair (.int .i32) (.pair (.int .u8) (.pair (.int .u8) (.pair (.slice (.int .i64)) (.pair .str (.pair .str .unit))))))) rr.out], []⟩)
theorem t20_3 (n : Nat) (ds : List Dat) (Q : AExit → List AV → AH → Prop) : wpA Tryd.prog tys GG37 1000 20 (theLoop Tryd.prog 20 3) (fun e f' h' => endF Tryd.prog ((fun _ => []) e) ((fun e => match e with | .normal => ⟨[0, 1, 5], []⟩ | .exit 0 => ⟨[0], []⟩ | _ => ⟨[], []⟩) e) ((fun e => match e with | .normal => [] | .exit 0 => [] | _ => []) e) (F20_3.hp ds) f' h' fun f2 h2 => match e with
      | .normal => locL F20_3 (mm20_3 n) f2 h2 Q
      | e => Q e f2 h2) (F20_3.fr ds) (F20_3.hp ds) = mm20_3 (n + 1) ds Q := by kernel_rfl
noncomputable def R20_3 : LoopT := headF Tryd.prog [] ⟨[0, 1, 5], []⟩ [] fun f h Q => ∃ n, locL F20_3 (mm20_3 n) f h Q
theorem ok20_3 : LoopOK Tryd.prog (theLoop Tryd.prog 20 3) R20_3 := ruleL_ok sGG37 (by kernel_rfl) mm20_3 (fun _ _ => rfl) t20_3
noncomputable def ls20_3 : List (FuncId × Nat × LoopT) := (20, 3, R20_3) :: ls31_1
theorem ls20_3_ok : LoopsOK Tryd.prog ls20_3 := .cons (by kernel_rfl) ok20_3 ls31_1_ok
noncomputable def GG20_3 : Rules := mkG [] cs37 ls20_3
theorem sGG20_3 : Sound Tryd.prog tys GG20_3 := mk_sound mixed tysOK names (by kernel_rfl) cs37_ok ls20_3_ok
noncomputable def m20 (r : RS) (b : List Dat) (K : RS → Prop) : Prop :=
    (∃ y0, 
    ((List.length (RS.db r) = List.length (RS.db r)) ∧ 
    ((List.length (RS.params r) = List.length (RS.params r)) ∧ 
    (((0 : Nat) = (0 : Nat)) ∧ 
    l20_3 y0 { state := RS.state r, db := RS.db r, private_ := RS.private_ r, params := RS.params r, many := RS.many r, inter := RS.inter r, text := RS.text r, final := RS.final r, out := [] } b (0 : Int) (fun y1 => K y1)))))
def F20 : AM.Form := ⟨[.p 0 0, .ro (.int .u8)], [.cells 59 [.int .i64, .sl 1, .int .u8, .sl 2, .int .i64, .str, .str, .int .u8, .sl 3], .seq 5 (.int .u8), .seq 3 (.int .i64), .seq 35 (.pair (.int .i64) (.pair (.int .i32) (.pair (.int .u8) (.pair (.int .u8) (.pair (.slice (.int .i64)) (.pair .str (.pair .str .unit)))))))]⟩
noncomputable def mm20 (ds : List Dat) (K : AV → AH → Prop) : Prop := m20 ⟨(dat ds 1).toInt, (dat ds 7).toList, (dat ds 2).toInt, (dat ds 8).toList, (dat ds 3).toInt, (dat ds 4).toStr, (dat ds 5).toStr, (dat ds 6).toInt, (dat ds 9).toList⟩ ((dat ds 0).toList) (fun rr => K (.sl 3 0 rr.out.length) ⟨[.cells 59 [.c (.int .i64 rr.state), .sl 1 0 rr.db.length, .c (.int .u8 rr.private_), .sl 2 0 rr.params.length, .c (.int .i64 rr.many), .c (.string rr.inter), .c (.string rr.text), .c (.int .u8 rr.final), .sl 3 0 rr.out.length], .seq 5 (.int .u8) rr.db, .seq 3 (.int .i64) rr.params, .seq 35 (.pair (.int .i64) (.pair (.int .i32) (.pair (.int .u8) (.pair (.int .u8) (.pair (.slice (.int .i64)) (.pair .str (.pair .str .unit))))))) rr.out], []⟩)
theorem t20 (ds : List Dat) (K : AV → AH → Prop) : callA Tryd.prog tys GG20_3 1000 20 (F20.fr ds) (F20.hp ds) (fun v h' => endK Tryd.prog [] .keep (F20.hp ds) (F20.fr ds) v h' K) = mm20 ds K := by kernel_rfl
noncomputable def R20 : CallT := ruleF Tryd.prog [.keep, (.ro (.int .u8))] [] F20 mm20
theorem ok20 : CallOK Tryd.prog 20 R20 := ruleF_ok sGG20_3 t20
noncomputable def cs20 : List (FuncId × CallT) := (20, R20) :: cs37
theorem cs20_ok : CallsOK Tryd.prog cs20 := .cons ok20 cs37_ok
noncomputable def GG20 : Rules := mkG [] cs20 ls20_3
theorem sGG20 : Sound Tryd.prog tys GG20 := mk_sound mixed tysOK names (by kernel_rfl) cs20_ok ls20_3_ok
noncomputable def m21 (r : RS) (K : RS → Bool → Prop) : Prop :=
    br (decide (RS.state r = (0 : Int))) (K r (decide ((↑(List.length (RS.db r)) : Int) = (0 : Int)))) (K r false)
def F21 : AM.Form := ⟨[.p 0 0], [.cells 59 [.int .i64, .sl 1, .int .u8, .sl 2, .int .i64, .str, .str, .int .u8, .sl 3], .seq 5 (.int .u8), .seq 3 (.int .i64), .seq 35 (.pair (.int .i64) (.pair (.int .i32) (.pair (.int .u8) (.pair (.int .u8) (.pair (.slice (.int .i64)) (.pair .str (.pair .str .unit)))))))]⟩
noncomputable def mm21 (ds : List Dat) (K : AV → AH → Prop) : Prop := m21 ⟨(dat ds 0).toInt, (dat ds 6).toList, (dat ds 1).toInt, (dat ds 7).toList, (dat ds 2).toInt, (dat ds 3).toStr, (dat ds 4).toStr, (dat ds 5).toInt, (dat ds 8).toList⟩ (fun rr rb => K (.c (.bool rb)) ⟨[.cells 59 [.c (.int .i64 rr.state), .sl 1 0 rr.db.length, .c (.int .u8 rr.private_), .sl 2 0 rr.params.length, .c (.int .i64 rr.many), .c (.string rr.inter), .c (.string rr.text), .c (.int .u8 rr.final), .sl 3 0 rr.out.length], .seq 5 (.int .u8) rr.db, .seq 3 (.int .i64) rr.params, .seq 35 (.pair (.int .i64) (.pair (.int .i32) (.pair (.int .u8) (.pair (.int .u8) (.pair (.slice (.int .i64)) (.pair .str (.pair .str .unit))))))) rr.out], []⟩)
theorem t21 (ds : List Dat) (K : AV → AH → Prop) : callA Tryd.prog tys GG20 1000 21 (F21.fr ds) (F21.hp ds) (fun v h' => endK Tryd.prog [] .keep (F21.hp ds) (F21.fr ds) v h' K) = mm21 ds K := by kernel_rfl
noncomputable def R21 : CallT := ruleF Tryd.prog [.keep] [] F21 mm21
theorem ok21 : CallOK Tryd.prog 21 R21 := ruleF_ok sGG20 t21
noncomputable def cs21 : List (FuncId × CallT) := (21, R21) :: cs20
theorem cs21_ok : CallsOK Tryd.prog cs21 := .cons ok21 cs20_ok
noncomputable def GG21 : Rules := mkG [] cs21 ls20_3
theorem sGG21 : Sound Tryd.prog tys GG21 := mk_sound mixed tysOK names (by kernel_rfl) cs21_ok ls20_3_ok
noncomputable def m19  (K : RS → Prop) : Prop := K ({ state := (0 : Int), db := [], private_ := (0 : Int), params := [], many := (0 : Int), inter := { data := #[] }, text := { data := #[] }, final := (0 : Int), out := [] } : RS)
def F19 : AM.Form := ⟨[], []⟩
noncomputable def mm19 (ds : List Dat) (K : AV → AH → Prop) : Prop := m19  (fun rr => K (.p 0 0) ⟨[.cells 59 [.c (.int .i64 rr.state), .sl 1 0 rr.db.length, .c (.int .u8 rr.private_), .sl 2 0 rr.params.length, .c (.int .i64 rr.many), .c (.string rr.inter), .c (.string rr.text), .c (.int .u8 rr.final), .sl 3 0 rr.out.length], .seq 5 (.int .u8) rr.db, .seq 3 (.int .i64) rr.params, .seq 35 (.pair (.int .i64) (.pair (.int .i32) (.pair (.int .u8) (.pair (.int .u8) (.pair (.slice (.int .i64)) (.pair .str (.pair .str .unit))))))) rr.out], []⟩)
theorem t19 (ds : List Dat) (K : AV → AH → Prop) : callA Tryd.prog tys GG21 1000 19 (F19.fr ds) (F19.hp ds) (fun v h' => endK Tryd.prog [] .keep (F19.hp ds) (F19.fr ds) v h' K) = mm19 ds K := by kernel_rfl
noncomputable def R19 : CallT := ruleF Tryd.prog [] [] F19 mm19
theorem ok19 : CallOK Tryd.prog 19 R19 := ruleF_ok sGG21 t19
noncomputable def cs19 : List (FuncId × CallT) := (19, R19) :: cs21
theorem cs19_ok : CallsOK Tryd.prog cs19 := .cons ok19 cs21_ok
noncomputable def GG19 : Rules := mkG [] cs19 ls20_3
theorem sGG19 : Sound Tryd.prog tys GG19 := mk_sound mixed tysOK names (by kernel_rfl) cs19_ok ls20_3_ok
noncomputable def m15 (b : List Dat) (K : List Dat → Prop) : Prop :=
    m19 (fun y0 => 
     ((List.length (RS.db y0) = List.length (RS.db y0)) ∧ 
     ((List.length (RS.params y0) = List.length (RS.params y0)) ∧ 
     ((List.length (RS.out y0) = List.length (RS.out y0)) ∧ 
     m20 y0 b (fun y1 => 
      br (decide (RS.state y1 = (0 : Int))) (
       ((List.length (RS.db y1) = List.length (RS.db y1)) ∧ 
       ((List.length (RS.params y1) = List.length (RS.params y1)) ∧ 
       (((0 : Nat) = (0 : Nat)) ∧ 
       m32 { state := RS.state y1, db := RS.db y1, private_ := RS.private_ y1, params := RS.params y1, many := RS.many y1, inter := RS.inter y1, text := RS.text y1, final := RS.final y1, out := [] } (fun y2 y3 => 
        req (decide ((0 : Nat) + List.length y3 ≤ List.length y3)) (
        ((List.length (RS.db y2) = List.length (RS.db y2)) ∧ 
        ((List.length (RS.params y2) = List.length (RS.params y2)) ∧ 
        ((List.length (RS.out y2) = List.length (RS.out y2)) ∧ 
        m31 y2 (List.take (List.length y3) y3) (fun y4 => 
         req (decide ((0 : Nat) + List.length (RS.out y4) ≤ List.length (RS.out y4))) (
         req (appOK (RS.out y1) (0 : Nat) (List.length (RS.out y1)) (List.length (List.take (List.length (RS.out y4)) (RS.out y4))) (72 : Nat)) (K (dapp (RS.out y1) (0 : Nat) (List.length (RS.out y1)) (List.take (List.length (RS.out y4)) (RS.out y4))))))))))))))) (K (RS.out y1)))))))
def F15 : AM.Form := ⟨[.ro (.int .u8)], []⟩
noncomputable def mm15 (ds : List Dat) (K : AV → AH → Prop) : Prop := m15 ((dat ds 0).toList) (fun rl => K (.sl 0 0 rl.length) ⟨[.seq 35 (.pair (.int .i64) (.pair (.int .i32) (.pair (.int .u8) (.pair (.int .u8) (.pair (.slice (.int .i64)) (.pair .str (.pair .str .unit))))))) rl], []⟩)
theorem t15 (ds : List Dat) (K : AV → AH → Prop) : callA Tryd.prog tys GG19 1000 15 (F15.fr ds) (F15.hp ds) (fun v h' => endK Tryd.prog [] .keep (F15.hp ds) (F15.fr ds) v h' K) = mm15 ds K := by kernel_rfl
noncomputable def R15 : CallT := ruleF Tryd.prog [(.ro (.int .u8))] [] F15 mm15
theorem ok15 : CallOK Tryd.prog 15 R15 := ruleF_ok sGG19 t15
noncomputable def cs15 : List (FuncId × CallT) := (15, R15) :: cs19
theorem cs15_ok : CallsOK Tryd.prog cs15 := .cons ok15 cs19_ok
noncomputable def GG15 : Rules := mkG [] cs15 ls20_3
theorem sGG15 : Sound Tryd.prog tys GG15 := mk_sound mixed tysOK names (by kernel_rfl) cs15_ok ls20_3_ok
end Go.Proofs.YtojdmhfkgkfpaaaDoor
