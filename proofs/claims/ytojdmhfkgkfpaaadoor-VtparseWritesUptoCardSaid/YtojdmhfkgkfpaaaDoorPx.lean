/- Layer 05, the program: its functions as definitions over their data. Printed by tools/dec.py. -/
import Derived.Test.YtojdmhfkgkfpaaaDoorRl
import Derived.Test.YtojdmhfkgkfpaaaDoorAmPat
set_option linter.unusedVariables false
set_option maxRecDepth 100000
namespace Go.Proofs.YtojdmhfkgkfpaaaDoor
open Go.AM Go.LTxt Go.LMem Go.RowKit
def ls0p : List (FuncId × Nat × LoopT) := []
theorem ls0p_ok : LoopsOK Tryd.prog ls0p := .nil
noncomputable def G00p : Rules := mkG [] calls0 ls0p
theorem sG00p : Sound Tryd.prog tys G00p := mk_sound mixed tysOK names (by kernel_rfl) calls0_ok ls0p_ok
noncomputable def l45_2 : Nat → List Dat → List Dat → (List Dat → Prop) → Prop
  | 0, _, _, _ => False
  | fu + 1, l, b, E0 =>
    br (decide ((0 : Int) < (↑(List.length b) : Int))) (
     ((Sh.int IntKind.u8 = Sh.int IntKind.u8) ∧ 
     ((okB b) ∧ 
     ((big (toB b)) ∧ 
     req (appOK l (0 : Nat) (List.length l) (1 : Nat) (4 : Nat)) (
     req (decide ((0 : Int) ≤ (↑(Prod.snd (decP (toB b))) : Int)) && decide ((↑(Prod.snd (decP (toB b))) : Int) ≤ (↑(List.length b) : Int)) && decide ((↑(List.length b) : Int) ≤ (↑(List.length b) : Int))) (((List.length (dapp l (0 : Nat) (List.length l) [Dat.int (↑(Prod.fst (decP (toB b))) : Int)])) = List.length (dapp l (0 : Nat) (List.length l) [Dat.int (↑(Prod.fst (decP (toB b))) : Int)]) ∧ l45_2 fu (dapp l (0 : Nat) (List.length l) [Dat.int (↑(Prod.fst (decP (toB b))) : Int)]) (List.take (List.length b - Prod.snd (decP (toB b))) (List.drop (Prod.snd (decP (toB b))) b)) E0))))))) (E0 l)
def F45_2 : AM.Form := ⟨mkF 22 [(0, .ro (.int .u8)), (3, .sl 0)], [.seq 21 (.int .i32)]⟩
noncomputable def mm45_2 (n : Nat) (ds : List Dat) (Q : AExit → List AV → AH → Prop) : Prop := l45_2 n ((dat ds 1).toList) ((dat ds 0).toList) (fun rl => Q (AExit.exit 0) (mkAV 22 [(3, .sl 0 0 rl.length)]) ⟨[.seq 21 (.int .i32) rl], []⟩)
theorem t45_2 (n : Nat) (ds : List Dat) (Q : AExit → List AV → AH → Prop) : wpA Tryd.prog tys G00p 1000 45 (theLoop Tryd.prog 45 2) (fun e f' h' => endF Tryd.prog ((fun _ => []) e) ((fun e => match e with | .normal => ⟨[0, 3], []⟩ | .exit 0 => ⟨[3], []⟩ | _ => ⟨[], []⟩) e) ((fun e => match e with | .normal => [(3, .row 21 (.int .i32))] | .exit 0 => [(3, .row 21 (.int .i32))] | _ => []) e) (F45_2.hp ds) f' h' fun f2 h2 => match e with
      | .normal => locL F45_2 (mm45_2 n) f2 h2 Q
      | e => Q e f2 h2) (F45_2.fr ds) (F45_2.hp ds) = mm45_2 (n + 1) ds Q := by kernel_rfl
noncomputable def R45_2 : LoopT := headF Tryd.prog [] ⟨[0, 3], []⟩ [(3, .row 21 (.int .i32))] fun f h Q => ∃ n, locL F45_2 (mm45_2 n) f h Q
theorem ok45_2 : LoopOK Tryd.prog (theLoop Tryd.prog 45 2) R45_2 := ruleL_ok sG00p (by kernel_rfl) mm45_2 (fun _ _ => rfl) t45_2
noncomputable def ls45_2 : List (FuncId × Nat × LoopT) := (45, 2, R45_2) :: ls0p
theorem ls45_2_ok : LoopsOK Tryd.prog ls45_2 := .cons (by kernel_rfl) ok45_2 ls0p_ok
noncomputable def GG45_2 : Rules := mkG [] calls0 ls45_2
theorem sGG45_2 : Sound Tryd.prog tys GG45_2 := mk_sound mixed tysOK names (by kernel_rfl) calls0_ok ls45_2_ok
noncomputable def m45 (b : List Dat) (K : List Dat → Prop) : Prop :=
    (∃ y0, 
    (((0 : Nat) = (0 : Nat)) ∧ 
    l45_2 y0 [] b (fun y1 => K y1)))
def F45 : AM.Form := ⟨[.ro (.int .u8)], []⟩
noncomputable def mm45 (ds : List Dat) (K : AV → AH → Prop) : Prop := m45 ((dat ds 0).toList) (fun rl => K (.sl 0 0 rl.length) ⟨[.seq 21 (.int .i32) rl], []⟩)
theorem t45 (ds : List Dat) (K : AV → AH → Prop) : callA Tryd.prog tys GG45_2 1000 45 (F45.fr ds) (F45.hp ds) (fun v h' => endK Tryd.prog [] .keep (F45.hp ds) (F45.fr ds) v h' K) = mm45 ds K := by kernel_rfl
noncomputable def R45 : CallT := ruleF Tryd.prog [(.ro (.int .u8))] [] F45 mm45
theorem ok45 : CallOK Tryd.prog 45 R45 := ruleF_ok sGG45_2 t45
noncomputable def cs45 : List (FuncId × CallT) := (45, R45) :: calls0
theorem cs45_ok : CallsOK Tryd.prog cs45 := .cons ok45 calls0_ok
noncomputable def GG45 : Rules := mkG [] cs45 ls45_2
theorem sGG45 : Sound Tryd.prog tys GG45 := mk_sound mixed tysOK names (by kernel_rfl) cs45_ok ls45_2_ok
structure DS where
  made : Bool
  b : List Dat
noncomputable def l67_5 : Nat → DS → List Dat → (DS → List Dat → Prop) → Prop
  | 0, _, _, _ => False
  | fu + 1, d, l, E0 =>
    br (decide ((0 : Int) < (↑(List.length (DS.b d)) : Int))) (
     req (decide ((0 : Nat) + List.length (DS.b d) ≤ List.length (DS.b d))) (
     ((Sh.int IntKind.u8 = Sh.int IntKind.u8) ∧ 
     ((okB (List.take (List.length (DS.b d)) (DS.b d))) ∧ 
     ((big (toB (List.take (List.length (DS.b d)) (DS.b d)))) ∧ 
     br (fullP (toB (List.take (List.length (DS.b d)) (DS.b d)))) (
      req (decide ((0 : Nat) + List.length (DS.b d) ≤ List.length (DS.b d))) (
      ((Sh.int IntKind.u8 = Sh.int IntKind.u8) ∧ 
      ((okB (List.take (List.length (DS.b d)) (DS.b d))) ∧ 
      ((big (toB (List.take (List.length (DS.b d)) (DS.b d)))) ∧ 
      req (appOK l (0 : Nat) (List.length l) (1 : Nat) (4 : Nat)) (
      req (decide ((0 : Int) ≤ (↑(Prod.snd (decP (toB (List.take (List.length (DS.b d)) (DS.b d))))) : Int)) && decide ((↑(Prod.snd (decP (toB (List.take (List.length (DS.b d)) (DS.b d))))) : Int) ≤ (↑(List.length (DS.b d)) : Int)) && decide ((↑(List.length (DS.b d)) : Int) ≤ (↑(List.length (DS.b d)) : Int))) (
      req (decide ((0 : Nat) + Prod.snd (decP (toB (List.take (List.length (DS.b d)) (DS.b d)))) + (List.length (DS.b d) - Prod.snd (decP (toB (List.take (List.length (DS.b d)) (DS.b d))))) ≤ List.length (DS.b d))) (((List.length (dapp l (0 : Nat) (List.length l) [Dat.int (↑(Prod.fst (decP (toB (List.take (List.length (DS.b d)) (DS.b d))))) : Int)])) = List.length (dapp l (0 : Nat) (List.length l) [Dat.int (↑(Prod.fst (decP (toB (List.take (List.length (DS.b d)) (DS.b d))))) : Int)]) ∧ ((List.length (dcut (DS.b d) ((0 : Nat) + Prod.snd (decP (toB (List.take (List.length (DS.b d)) (DS.b d))))) (List.length (DS.b d) - Prod.snd (decP (toB (List.take (List.length (DS.b d)) (DS.b d))))))) = List.length (dcut (DS.b d) ((0 : Nat) + Prod.snd (decP (toB (List.take (List.length (DS.b d)) (DS.b d))))) (List.length (DS.b d) - Prod.snd (decP (toB (List.take (List.length (DS.b d)) (DS.b d)))))) ∧ l67_5 fu { d with b := dcut (DS.b d) ((0 : Nat) + Prod.snd (decP (toB (List.take (List.length (DS.b d)) (DS.b d))))) (List.length (DS.b d) - Prod.snd (decP (toB (List.take (List.length (DS.b d)) (DS.b d))))) } (dapp l (0 : Nat) (List.length l) [Dat.int (↑(Prod.fst (decP (toB (List.take (List.length (DS.b d)) (DS.b d))))) : Int)]) E0)))))))))) (
      req (decide ((0 : Nat) + List.length (DS.b d) ≤ List.length (DS.b d))) (E0 { d with b := dcut (DS.b d) (0 : Nat) (List.length (DS.b d)) } l))))))) (
     req (decide ((0 : Nat) + List.length (DS.b d) ≤ List.length (DS.b d))) (E0 { d with b := dcut (DS.b d) (0 : Nat) (List.length (DS.b d)) } l))
def F67_5 : AM.Form := ⟨mkF 54 [(0, .p 0 0), (5, .sl 2)], [.cells 71 [.bool, .sl 1], .seq 5 (.int .u8), .seq 21 (.int .i32)]⟩
noncomputable def mm67_5 (n : Nat) (ds : List Dat) (Q : AExit → List AV → AH → Prop) : Prop := l67_5 n ⟨(dat ds 0).toBool, (dat ds 1).toList⟩ ((dat ds 2).toList) (fun rd rl => Q (AExit.exit 0) (mkAV 54 [(0, .p 0 0), (5, .sl 2 0 rl.length)]) ⟨[.cells 71 [.c (.bool rd.made), .sl 1 0 rd.b.length], .seq 5 (.int .u8) rd.b, .seq 21 (.int .i32) rl], []⟩)
theorem t67_5 (n : Nat) (ds : List Dat) (Q : AExit → List AV → AH → Prop) : wpA Tryd.prog tys GG45 1000 67 (theLoop Tryd.prog 67 5) (fun e f' h' => endF Tryd.prog ((fun _ => [(0, 1, .cut 5 (.int .u8))]) e) ((fun e => match e with | .normal => ⟨[0, 5], []⟩ | .exit 0 => ⟨[0, 5], []⟩ | _ => ⟨[], []⟩) e) ((fun e => match e with | .normal => [(5, .row 21 (.int .i32))] | .exit 0 => [(5, .row 21 (.int .i32))] | _ => []) e) (F67_5.hp ds) f' h' fun f2 h2 => match e with
      | .normal => locL F67_5 (mm67_5 n) f2 h2 Q
      | e => Q e f2 h2) (F67_5.fr ds) (F67_5.hp ds) = mm67_5 (n + 1) ds Q := by kernel_rfl
noncomputable def R67_5 : LoopT := headF Tryd.prog [(0, 1, .cut 5 (.int .u8))] ⟨[0, 5], []⟩ [(5, .row 21 (.int .i32))] fun f h Q => ∃ n, locL F67_5 (mm67_5 n) f h Q
theorem ok67_5 : LoopOK Tryd.prog (theLoop Tryd.prog 67 5) R67_5 := ruleL_ok sGG45 (by kernel_rfl) mm67_5 (fun _ _ => rfl) t67_5
noncomputable def ls67_5 : List (FuncId × Nat × LoopT) := (67, 5, R67_5) :: ls45_2
theorem ls67_5_ok : LoopsOK Tryd.prog ls67_5 := .cons (by kernel_rfl) ok67_5 ls45_2_ok
noncomputable def GG67_5 : Rules := mkG [] cs45 ls67_5
theorem sGG67_5 : Sound Tryd.prog tys GG67_5 := mk_sound mixed tysOK names (by kernel_rfl) cs45_ok ls67_5_ok
noncomputable def m67 (d : DS) (b : List Dat) (K : DS → List Dat → Prop) : Prop :=
    br (!DS.made d) (K d []) (
     req (appOK (DS.b d) (0 : Nat) (List.length (DS.b d)) (List.length b) (1 : Nat)) (
     req (decide ((0 : Nat) + List.length (dapp (DS.b d) (0 : Nat) (List.length (DS.b d)) b) ≤ List.length (dapp (DS.b d) (0 : Nat) (List.length (DS.b d)) b))) (
     (∃ y0, 
     (((0 : Nat) = (0 : Nat)) ∧ 
     ((List.length (dcut (dapp (DS.b d) (0 : Nat) (List.length (DS.b d)) b) (0 : Nat) (List.length (dapp (DS.b d) (0 : Nat) (List.length (DS.b d)) b))) = List.length (dcut (dapp (DS.b d) (0 : Nat) (List.length (DS.b d)) b) (0 : Nat) (List.length (dapp (DS.b d) (0 : Nat) (List.length (DS.b d)) b)))) ∧ 
     l67_5 y0 { made := DS.made d, b := dcut (dapp (DS.b d) (0 : Nat) (List.length (DS.b d)) b) (0 : Nat) (List.length (dapp (DS.b d) (0 : Nat) (List.length (DS.b d)) b)) } [] (fun y1 y2 => K y1 y2)))))))
def F67 : AM.Form := ⟨[.p 0 0, .ro (.int .u8)], [.cells 71 [.bool, .sl 1], .seq 5 (.int .u8)]⟩
noncomputable def mm67 (ds : List Dat) (K : AV → AH → Prop) : Prop := m67 ⟨(dat ds 1).toBool, (dat ds 2).toList⟩ ((dat ds 0).toList) (fun rd rl => K (.sl 2 0 rl.length) ⟨[.cells 71 [.c (.bool rd.made), .sl 1 0 rd.b.length], .seq 5 (.int .u8) rd.b, .seq 21 (.int .i32) rl], []⟩)
theorem t67 (ds : List Dat) (K : AV → AH → Prop) : callA Tryd.prog tys GG67_5 1000 67 (F67.fr ds) (F67.hp ds) (fun v h' => endK Tryd.prog [] (.row 21 (.int .i32)) (F67.hp ds) (F67.fr ds) v h' K) = mm67 ds K := by kernel_rfl
noncomputable def R67 : CallT := ruleF Tryd.prog [.keep, (.ro (.int .u8))] [] F67 mm67
theorem ok67 : CallOK Tryd.prog 67 R67 := ruleF_ok sGG67_5 t67
noncomputable def cs67 : List (FuncId × CallT) := (67, R67) :: cs45
theorem cs67_ok : CallsOK Tryd.prog cs67 := .cons ok67 cs45_ok
noncomputable def GG67 : Rules := mkG [] cs67 ls67_5
theorem sGG67 : Sound Tryd.prog tys GG67 := mk_sound mixed tysOK names (by kernel_rfl) cs67_ok ls67_5_ok
noncomputable def m30 (d : DS) (K : DS → List Dat → Prop) : Prop :=
    br (!DS.made d) (K d []) (
     req (decide ((0 : Nat) + List.length (DS.b d) ≤ List.length (DS.b d))) (
     m45 (List.take (List.length (DS.b d)) (DS.b d)) (fun y0 => K { d with b := [] } y0)))
def F30 : AM.Form := ⟨[.p 0 0], [.cells 71 [.bool, .sl 1], .seq 5 (.int .u8)]⟩
noncomputable def mm30 (ds : List Dat) (K : AV → AH → Prop) : Prop := m30 ⟨(dat ds 0).toBool, (dat ds 1).toList⟩ (fun rd rl => K (.sl 2 0 rl.length) ⟨[.cells 71 [.c (.bool rd.made), .sl 1 0 rd.b.length], .seq 5 (.int .u8) rd.b, .seq 21 (.int .i32) rl], []⟩)
theorem t30 (ds : List Dat) (K : AV → AH → Prop) : callA Tryd.prog tys GG67 1000 30 (F30.fr ds) (F30.hp ds) (fun v h' => endK Tryd.prog [] (.row 21 (.int .i32)) (F30.hp ds) (F30.fr ds) v h' K) = mm30 ds K := by kernel_rfl
noncomputable def R30 : CallT := ruleF Tryd.prog [.keep] [] F30 mm30
theorem ok30 : CallOK Tryd.prog 30 R30 := ruleF_ok sGG67 t30
noncomputable def cs30 : List (FuncId × CallT) := (30, R30) :: cs67
theorem cs30_ok : CallsOK Tryd.prog cs30 := .cons ok30 cs67_ok
noncomputable def GG30 : Rules := mkG [] cs30 ls67_5
theorem sGG30 : Sound Tryd.prog tys GG30 := mk_sound mixed tysOK names (by kernel_rfl) cs30_ok ls67_5_ok
structure PS where
  made : Bool
  state : Int
  aKind : Int
  aRune : Int
  aFinal : Int
  aPrivate : Int
  aParams : List Dat
  aInter : ByteArray
  aText : ByteArray
  many : Int
  out : List Dat
noncomputable def l29_1 : Nat → PS → DS → List Dat → Int → Int → (PS → DS → Prop) → Prop
  | 0, _, _, _, _, _, _ => False
  | fu + 1, p, d, xs, n, n2, E0 =>
    br (decide (n2 < n)) (
     req (decide ((0 : Int) ≤ n2) && decide (n2 < (↑(List.length xs) : Int))) (
     req (decide (Int.toNat n2 < List.length xs)) (
     br (decide (Dat.toInt (List.getD xs (Int.toNat n2) default) < (128 : Int))) (
      req (appOK (PS.out p) (0 : Nat) (List.length (PS.out p)) (1 : Nat) (72 : Nat)) (
      req (inR IntKind.i64 (n2 + (1 : Int))) (((List.length (PS.aParams p)) = List.length (PS.aParams p) ∧ ((List.length (dapp (PS.out p) (0 : Nat) (List.length (PS.out p)) [Dat.pair (Dat.int (1 : Int)) (Dat.pair (Dat.int (Dat.toInt (List.getD xs (Int.toNat n2) default))) (Dat.pair (Dat.int (0 : Int)) (Dat.pair (Dat.int (0 : Int)) (Dat.pair (Dat.list []) (Dat.pair (Dat.str { data := #[] }) (Dat.pair (Dat.str { data := #[] }) (Dat.int (0 : Int))))))))])) = List.length (dapp (PS.out p) (0 : Nat) (List.length (PS.out p)) [Dat.pair (Dat.int (1 : Int)) (Dat.pair (Dat.int (Dat.toInt (List.getD xs (Int.toNat n2) default))) (Dat.pair (Dat.int (0 : Int)) (Dat.pair (Dat.int (0 : Int)) (Dat.pair (Dat.list []) (Dat.pair (Dat.str { data := #[] }) (Dat.pair (Dat.str { data := #[] }) (Dat.int (0 : Int))))))))]) ∧ ((List.length (DS.b d)) = List.length (DS.b d) ∧ l29_1 fu { p with out := dapp (PS.out p) (0 : Nat) (List.length (PS.out p)) [Dat.pair (Dat.int (1 : Int)) (Dat.pair (Dat.int (Dat.toInt (List.getD xs (Int.toNat n2) default))) (Dat.pair (Dat.int (0 : Int)) (Dat.pair (Dat.int (0 : Int)) (Dat.pair (Dat.list []) (Dat.pair (Dat.str { data := #[] }) (Dat.pair (Dat.str { data := #[] }) (Dat.int (0 : Int))))))))] } d xs n (n2 + (1 : Int)) E0)))))) (
      br (decide ((159 : Int) < Dat.toInt (List.getD xs (Int.toNat n2) default))) (
       req (appOK (PS.out p) (0 : Nat) (List.length (PS.out p)) (1 : Nat) (72 : Nat)) (
       req (inR IntKind.i64 (n2 + (1 : Int))) (((List.length (PS.aParams p)) = List.length (PS.aParams p) ∧ ((List.length (dapp (PS.out p) (0 : Nat) (List.length (PS.out p)) [Dat.pair (Dat.int (1 : Int)) (Dat.pair (Dat.int (Dat.toInt (List.getD xs (Int.toNat n2) default))) (Dat.pair (Dat.int (0 : Int)) (Dat.pair (Dat.int (0 : Int)) (Dat.pair (Dat.list []) (Dat.pair (Dat.str { data := #[] }) (Dat.pair (Dat.str { data := #[] }) (Dat.int (0 : Int))))))))])) = List.length (dapp (PS.out p) (0 : Nat) (List.length (PS.out p)) [Dat.pair (Dat.int (1 : Int)) (Dat.pair (Dat.int (Dat.toInt (List.getD xs (Int.toNat n2) default))) (Dat.pair (Dat.int (0 : Int)) (Dat.pair (Dat.int (0 : Int)) (Dat.pair (Dat.list []) (Dat.pair (Dat.str { data := #[] }) (Dat.pair (Dat.str { data := #[] }) (Dat.int (0 : Int))))))))]) ∧ ((List.length (DS.b d)) = List.length (DS.b d) ∧ l29_1 fu { p with out := dapp (PS.out p) (0 : Nat) (List.length (PS.out p)) [Dat.pair (Dat.int (1 : Int)) (Dat.pair (Dat.int (Dat.toInt (List.getD xs (Int.toNat n2) default))) (Dat.pair (Dat.int (0 : Int)) (Dat.pair (Dat.int (0 : Int)) (Dat.pair (Dat.list []) (Dat.pair (Dat.str { data := #[] }) (Dat.pair (Dat.str { data := #[] }) (Dat.int (0 : Int))))))))] } d xs n (n2 + (1 : Int)) E0)))))) (
       req (inR IntKind.i64 (n2 + (1 : Int))) (((List.length (PS.aParams p)) = List.length (PS.aParams p) ∧ ((List.length (PS.out p)) = List.length (PS.out p) ∧ ((List.length (DS.b d)) = List.length (DS.b d) ∧ l29_1 fu p d xs n (n2 + (1 : Int)) E0))))))))) (E0 p d)
def F29_1 : AM.Form := ⟨mkF 30 [(0, .p 0 0), (6, .ro (.int .i32)), (7, .int .i64), (8, .int .i64)], [.cells 53 [.bool, .int .i64, .p 1 0, .int .i64, .int .i32, .int .u8, .int .u8, .sl 3, .str, .str, .int .i64, .sl 4], .cells 71 [.bool, .sl 2], .seq 5 (.int .u8), .seq 3 (.int .i64), .seq 35 (.pair (.int .i64) (.pair (.int .i32) (.pair (.int .u8) (.pair (.int .u8) (.pair (.slice (.int .i64)) (.pair .str (.pair .str .unit)))))))]⟩
noncomputable def mm29_1 (n : Nat) (ds : List Dat) (Q : AExit → List AV → AH → Prop) : Prop := l29_1 n ⟨(dat ds 3).toBool, (dat ds 4).toInt, (dat ds 5).toInt, (dat ds 6).toInt, (dat ds 7).toInt, (dat ds 8).toInt, (dat ds 14).toList, (dat ds 9).toStr, (dat ds 10).toStr, (dat ds 11).toInt, (dat ds 15).toList⟩ ⟨(dat ds 12).toBool, (dat ds 13).toList⟩ ((dat ds 0).toList) ((dat ds 1).toInt) ((dat ds 2).toInt) (fun rp rd => Q (AExit.exit 0) (mkAV 30 [(0, .p 0 0)]) ⟨[.cells 53 [.c (.bool rp.made), .c (.int .i64 rp.state), .p 1 0, .c (.int .i64 rp.aKind), .c (.int .i32 rp.aRune), .c (.int .u8 rp.aFinal), .c (.int .u8 rp.aPrivate), .sl 3 0 rp.aParams.length, .c (.string rp.aInter), .c (.string rp.aText), .c (.int .i64 rp.many), .sl 4 0 rp.out.length], .cells 71 [.c (.bool rd.made), .sl 2 0 rd.b.length], .seq 5 (.int .u8) rd.b, .seq 3 (.int .i64) rp.aParams, .seq 35 (.pair (.int .i64) (.pair (.int .i32) (.pair (.int .u8) (.pair (.int .u8) (.pair (.slice (.int .i64)) (.pair .str (.pair .str .unit))))))) rp.out], []⟩)
theorem t29_1 (n : Nat) (ds : List Dat) (Q : AExit → List AV → AH → Prop) : wpA Tryd.prog tys GG30 1000 29 (theLoop Tryd.prog 29 1) (fun e f' h' => endF Tryd.prog ((fun _ => []) e) ((fun e => match e with | .normal => ⟨[0, 6, 7, 8], []⟩ | .exit 0 => ⟨[0], []⟩ | _ => ⟨[], []⟩) e) ((fun e => match e with | .normal => [] | .exit 0 => [] | _ => []) e) (F29_1.hp ds) f' h' fun f2 h2 => match e with
      | .normal => locL F29_1 (mm29_1 n) f2 h2 Q
      | e => Q e f2 h2) (F29_1.fr ds) (F29_1.hp ds) = mm29_1 (n + 1) ds Q := by kernel_rfl
noncomputable def R29_1 : LoopT := headF Tryd.prog [] ⟨[0, 6, 7, 8], []⟩ [] fun f h Q => ∃ n, locL F29_1 (mm29_1 n) f h Q
theorem ok29_1 : LoopOK Tryd.prog (theLoop Tryd.prog 29 1) R29_1 := ruleL_ok sGG30 (by kernel_rfl) mm29_1 (fun _ _ => rfl) t29_1
noncomputable def ls29_1 : List (FuncId × Nat × LoopT) := (29, 1, R29_1) :: ls67_5
theorem ls29_1_ok : LoopsOK Tryd.prog ls29_1 := .cons (by kernel_rfl) ok29_1 ls67_5_ok
noncomputable def GG29_1 : Rules := mkG [] cs30 ls29_1
theorem sGG29_1 : Sound Tryd.prog tys GG29_1 := mk_sound mixed tysOK names (by kernel_rfl) cs30_ok ls29_1_ok
noncomputable def m29 (p : PS) (d : DS) (l : List Dat) (K : PS → DS → Prop) : Prop :=
    (∃ y0, 
    ((List.length (PS.aParams p) = List.length (PS.aParams p)) ∧ 
    ((List.length (PS.out p) = List.length (PS.out p)) ∧ 
    ((List.length (DS.b d) = List.length (DS.b d)) ∧ 
    l29_1 y0 p d l (↑(List.length l) : Int) (0 : Int) (fun y1 y2 => K y1 y2)))))
def F29 : AM.Form := ⟨[.p 0 0, .ro (.int .i32)], [.cells 53 [.bool, .int .i64, .p 1 0, .int .i64, .int .i32, .int .u8, .int .u8, .sl 3, .str, .str, .int .i64, .sl 4], .cells 71 [.bool, .sl 2], .seq 5 (.int .u8), .seq 3 (.int .i64), .seq 35 (.pair (.int .i64) (.pair (.int .i32) (.pair (.int .u8) (.pair (.int .u8) (.pair (.slice (.int .i64)) (.pair .str (.pair .str .unit)))))))]⟩
noncomputable def mm29 (ds : List Dat) (K : AV → AH → Prop) : Prop := m29 ⟨(dat ds 1).toBool, (dat ds 2).toInt, (dat ds 3).toInt, (dat ds 4).toInt, (dat ds 5).toInt, (dat ds 6).toInt, (dat ds 12).toList, (dat ds 7).toStr, (dat ds 8).toStr, (dat ds 9).toInt, (dat ds 13).toList⟩ ⟨(dat ds 10).toBool, (dat ds 11).toList⟩ ((dat ds 0).toList) (fun rp rd => K (.tup []) ⟨[.cells 53 [.c (.bool rp.made), .c (.int .i64 rp.state), .p 1 0, .c (.int .i64 rp.aKind), .c (.int .i32 rp.aRune), .c (.int .u8 rp.aFinal), .c (.int .u8 rp.aPrivate), .sl 3 0 rp.aParams.length, .c (.string rp.aInter), .c (.string rp.aText), .c (.int .i64 rp.many), .sl 4 0 rp.out.length], .cells 71 [.c (.bool rd.made), .sl 2 0 rd.b.length], .seq 5 (.int .u8) rd.b, .seq 3 (.int .i64) rp.aParams, .seq 35 (.pair (.int .i64) (.pair (.int .i32) (.pair (.int .u8) (.pair (.int .u8) (.pair (.slice (.int .i64)) (.pair .str (.pair .str .unit))))))) rp.out], []⟩)
theorem t29 (ds : List Dat) (K : AV → AH → Prop) : callA Tryd.prog tys GG29_1 1000 29 (F29.fr ds) (F29.hp ds) (fun v h' => endK Tryd.prog [] .keep (F29.hp ds) (F29.fr ds) v h' K) = mm29 ds K := by kernel_rfl
noncomputable def R29 : CallT := ruleF Tryd.prog [.keep, (.ro (.int .i32))] [] F29 mm29
theorem ok29 : CallOK Tryd.prog 29 R29 := ruleF_ok sGG29_1 t29
noncomputable def cs29 : List (FuncId × CallT) := (29, R29) :: cs30
theorem cs29_ok : CallsOK Tryd.prog cs29 := .cons ok29 cs30_ok
noncomputable def GG29 : Rules := mkG [] cs29 ls29_1
theorem sGG29 : Sound Tryd.prog tys GG29 := mk_sound mixed tysOK names (by kernel_rfl) cs29_ok ls29_1_ok
noncomputable def m48 (p : PS) (d : DS) (b : Int) (K : PS → DS → Prop) : Prop :=
    req (appOK (PS.out p) (0 : Nat) (List.length (PS.out p)) (1 : Nat) (72 : Nat)) (K { p with out := dapp (PS.out p) (0 : Nat) (List.length (PS.out p)) [Dat.pair (Dat.int (2 : Int)) (Dat.pair (Dat.int (0 : Int)) (Dat.pair (Dat.int b) (Dat.pair (Dat.int (0 : Int)) (Dat.pair (Dat.list []) (Dat.pair (Dat.str { data := #[] }) (Dat.pair (Dat.str { data := #[] }) (Dat.int (0 : Int))))))))] } d)
def F48 : AM.Form := ⟨[.p 0 0, .int .u8], [.cells 53 [.bool, .int .i64, .p 1 0, .int .i64, .int .i32, .int .u8, .int .u8, .sl 3, .str, .str, .int .i64, .sl 4], .cells 71 [.bool, .sl 2], .seq 5 (.int .u8), .seq 3 (.int .i64), .seq 35 (.pair (.int .i64) (.pair (.int .i32) (.pair (.int .u8) (.pair (.int .u8) (.pair (.slice (.int .i64)) (.pair .str (.pair .str .unit)))))))]⟩
noncomputable def mm48 (ds : List Dat) (K : AV → AH → Prop) : Prop := m48 ⟨(dat ds 1).toBool, (dat ds 2).toInt, (dat ds 3).toInt, (dat ds 4).toInt, (dat ds 5).toInt, (dat ds 6).toInt, (dat ds 12).toList, (dat ds 7).toStr, (dat ds 8).toStr, (dat ds 9).toInt, (dat ds 13).toList⟩ ⟨(dat ds 10).toBool, (dat ds 11).toList⟩ ((dat ds 0).toInt) (fun rp rd => K (.tup []) ⟨[.cells 53 [.c (.bool rp.made), .c (.int .i64 rp.state), .p 1 0, .c (.int .i64 rp.aKind), .c (.int .i32 rp.aRune), .c (.int .u8 rp.aFinal), .c (.int .u8 rp.aPrivate), .sl 3 0 rp.aParams.length, .c (.string rp.aInter), .c (.string rp.aText), .c (.int .i64 rp.many), .sl 4 0 rp.out.length], .cells 71 [.c (.bool rd.made), .sl 2 0 rd.b.length], .seq 5 (.int .u8) rd.b, .seq 3 (.int .i64) rp.aParams, .seq 35 (.pair (.int .i64) (.pair (.int .i32) (.pair (.int .u8) (.pair (.int .u8) (.pair (.slice (.int .i64)) (.pair .str (.pair .str .unit))))))) rp.out], []⟩)
theorem t48 (ds : List Dat) (K : AV → AH → Prop) : callA Tryd.prog tys GG29 1000 48 (F48.fr ds) (F48.hp ds) (fun v h' => endK Tryd.prog [] .keep (F48.hp ds) (F48.fr ds) v h' K) = mm48 ds K := by kernel_rfl
noncomputable def R48 : CallT := ruleF Tryd.prog [.keep, .keep] [] F48 mm48
theorem ok48 : CallOK Tryd.prog 48 R48 := ruleF_ok sGG29 t48
noncomputable def cs48 : List (FuncId × CallT) := (48, R48) :: cs29
theorem cs48_ok : CallsOK Tryd.prog cs48 := .cons ok48 cs29_ok
noncomputable def GG48 : Rules := mkG [] cs48 ls29_1
theorem sGG48 : Sound Tryd.prog tys GG48 := mk_sound mixed tysOK names (by kernel_rfl) cs48_ok ls29_1_ok
noncomputable def m49 (p : PS) (d : DS) (kind : Int) (K : PS → DS → Prop) : Prop :=
    br (decide (List.length (PS.aParams p) = (0 : Nat))) (
     ((
      req (appOK (PS.out p) (0 : Nat) (List.length (PS.out p)) (1 : Nat) (72 : Nat)) (K { p with out := dapp (PS.out p) (0 : Nat) (List.length (PS.out p)) [Dat.pair (Dat.int kind) (Dat.pair (Dat.int (PS.aRune p)) (Dat.pair (Dat.int (PS.aFinal p)) (Dat.pair (Dat.int (PS.aPrivate p)) (Dat.pair (Dat.list []) (Dat.pair (Dat.str (PS.aInter p)) (Dat.pair (Dat.str (PS.aText p)) (Dat.int (0 : Int))))))))] } d)) ∧ (
      req (decide ((0 : Nat) + List.length (PS.aParams p) ≤ List.length (PS.aParams p))) (
      req (appOK [] (0 : Nat) (0 : Nat) (List.length (List.take (List.length (PS.aParams p)) (PS.aParams p))) (8 : Nat)) (
      req (decide ((0 : Nat) + List.length (dapp [] (0 : Nat) (0 : Nat) (List.take (List.length (PS.aParams p)) (PS.aParams p))) ≤ List.length (dapp [] (0 : Nat) (0 : Nat) (List.take (List.length (PS.aParams p)) (PS.aParams p))))) (
      req (appOK (PS.out p) (0 : Nat) (List.length (PS.out p)) (1 : Nat) (72 : Nat)) (K { p with out := dapp (PS.out p) (0 : Nat) (List.length (PS.out p)) [Dat.pair (Dat.int kind) (Dat.pair (Dat.int (PS.aRune p)) (Dat.pair (Dat.int (PS.aFinal p)) (Dat.pair (Dat.int (PS.aPrivate p)) (Dat.pair (Dat.list (List.take (List.length (dapp [] (0 : Nat) (0 : Nat) (List.take (List.length (PS.aParams p)) (PS.aParams p)))) (dapp [] (0 : Nat) (0 : Nat) (List.take (List.length (PS.aParams p)) (PS.aParams p))))) (Dat.pair (Dat.str (PS.aInter p)) (Dat.pair (Dat.str (PS.aText p)) (Dat.int (0 : Int))))))))] } d))))))) (
     req (decide ((0 : Nat) + List.length (PS.aParams p) ≤ List.length (PS.aParams p))) (
     req (appOK [] (0 : Nat) (0 : Nat) (List.length (List.take (List.length (PS.aParams p)) (PS.aParams p))) (8 : Nat)) (
     req (decide ((0 : Nat) + List.length (dapp [] (0 : Nat) (0 : Nat) (List.take (List.length (PS.aParams p)) (PS.aParams p))) ≤ List.length (dapp [] (0 : Nat) (0 : Nat) (List.take (List.length (PS.aParams p)) (PS.aParams p))))) (
     req (appOK (PS.out p) (0 : Nat) (List.length (PS.out p)) (1 : Nat) (72 : Nat)) (K { p with out := dapp (PS.out p) (0 : Nat) (List.length (PS.out p)) [Dat.pair (Dat.int kind) (Dat.pair (Dat.int (PS.aRune p)) (Dat.pair (Dat.int (PS.aFinal p)) (Dat.pair (Dat.int (PS.aPrivate p)) (Dat.pair (Dat.list (List.take (List.length (dapp [] (0 : Nat) (0 : Nat) (List.take (List.length (PS.aParams p)) (PS.aParams p)))) (dapp [] (0 : Nat) (0 : Nat) (List.take (List.length (PS.aParams p)) (PS.aParams p))))) (Dat.pair (Dat.str (PS.aInter p)) (Dat.pair (Dat.str (PS.aText p)) (Dat.int (0 : Int))))))))] } d)))))
def F49 : AM.Form := ⟨[.p 0 0, .int .i64], [.cells 53 [.bool, .int .i64, .p 1 0, .int .i64, .int .i32, .int .u8, .int .u8, .sl 3, .str, .str, .int .i64, .sl 4], .cells 71 [.bool, .sl 2], .seq 5 (.int .u8), .seq 3 (.int .i64), .seq 35 (.pair (.int .i64) (.pair (.int .i32) (.pair (.int .u8) (.pair (.int .u8) (.pair (.slice (.int .i64)) (.pair .str (.pair .str .unit)))))))]⟩
noncomputable def mm49 (ds : List Dat) (K : AV → AH → Prop) : Prop := m49 ⟨(dat ds 1).toBool, (dat ds 2).toInt, (dat ds 3).toInt, (dat ds 4).toInt, (dat ds 5).toInt, (dat ds 6).toInt, (dat ds 12).toList, (dat ds 7).toStr, (dat ds 8).toStr, (dat ds 9).toInt, (dat ds 13).toList⟩ ⟨(dat ds 10).toBool, (dat ds 11).toList⟩ ((dat ds 0).toInt) (fun rp rd => K (.tup []) ⟨[.cells 53 [.c (.bool rp.made), .c (.int .i64 rp.state), .p 1 0, .c (.int .i64 rp.aKind), .c (.int .i32 rp.aRune), .c (.int .u8 rp.aFinal), .c (.int .u8 rp.aPrivate), .sl 3 0 rp.aParams.length, .c (.string rp.aInter), .c (.string rp.aText), .c (.int .i64 rp.many), .sl 4 0 rp.out.length], .cells 71 [.c (.bool rd.made), .sl 2 0 rd.b.length], .seq 5 (.int .u8) rd.b, .seq 3 (.int .i64) rp.aParams, .seq 35 (.pair (.int .i64) (.pair (.int .i32) (.pair (.int .u8) (.pair (.int .u8) (.pair (.slice (.int .i64)) (.pair .str (.pair .str .unit))))))) rp.out], []⟩)
theorem t49 (ds : List Dat) (K : AV → AH → Prop) : callA Tryd.prog tys GG48 1000 49 (F49.fr ds) (F49.hp ds) (fun v h' => endK Tryd.prog [] .keep (F49.hp ds) (F49.fr ds) v h' K) = mm49 ds K := by kernel_rfl
noncomputable def R49 : CallT := ruleF Tryd.prog [.keep, .keep] [] F49 mm49
theorem ok49 : CallOK Tryd.prog 49 R49 := ruleF_ok sGG48 t49
noncomputable def cs49 : List (FuncId × CallT) := (49, R49) :: cs48
theorem cs49_ok : CallsOK Tryd.prog cs49 := .cons ok49 cs48_ok
noncomputable def GG49 : Rules := mkG [] cs49 ls29_1
theorem sGG49 : Sound Tryd.prog tys GG49 := mk_sound mixed tysOK names (by kernel_rfl) cs49_ok ls29_1_ok
noncomputable def m69 (p : PS) (d : DS) (b : Int) (K : PS → DS → Prop) : Prop :=
    br (decide ((↑(ByteArray.size (PS.aInter p)) : Int) < (2 : Int))) (
     req (inR IntKind.i32 b) (
     req (decide (ByteArray.size (PS.aInter p) + ByteArray.size (Utf8.encode b) ≤ (9223372036854775807 : Nat))) (K { p with aInter := PS.aInter p ++ Utf8.encode b } d))) (K p d)
def F69 : AM.Form := ⟨[.p 0 0, .int .u8], [.cells 53 [.bool, .int .i64, .p 1 0, .int .i64, .int .i32, .int .u8, .int .u8, .sl 3, .str, .str, .int .i64, .sl 4], .cells 71 [.bool, .sl 2], .seq 5 (.int .u8), .seq 3 (.int .i64), .seq 35 (.pair (.int .i64) (.pair (.int .i32) (.pair (.int .u8) (.pair (.int .u8) (.pair (.slice (.int .i64)) (.pair .str (.pair .str .unit)))))))]⟩
noncomputable def mm69 (ds : List Dat) (K : AV → AH → Prop) : Prop := m69 ⟨(dat ds 1).toBool, (dat ds 2).toInt, (dat ds 3).toInt, (dat ds 4).toInt, (dat ds 5).toInt, (dat ds 6).toInt, (dat ds 12).toList, (dat ds 7).toStr, (dat ds 8).toStr, (dat ds 9).toInt, (dat ds 13).toList⟩ ⟨(dat ds 10).toBool, (dat ds 11).toList⟩ ((dat ds 0).toInt) (fun rp rd => K (.tup []) ⟨[.cells 53 [.c (.bool rp.made), .c (.int .i64 rp.state), .p 1 0, .c (.int .i64 rp.aKind), .c (.int .i32 rp.aRune), .c (.int .u8 rp.aFinal), .c (.int .u8 rp.aPrivate), .sl 3 0 rp.aParams.length, .c (.string rp.aInter), .c (.string rp.aText), .c (.int .i64 rp.many), .sl 4 0 rp.out.length], .cells 71 [.c (.bool rd.made), .sl 2 0 rd.b.length], .seq 5 (.int .u8) rd.b, .seq 3 (.int .i64) rp.aParams, .seq 35 (.pair (.int .i64) (.pair (.int .i32) (.pair (.int .u8) (.pair (.int .u8) (.pair (.slice (.int .i64)) (.pair .str (.pair .str .unit))))))) rp.out], []⟩)
theorem t69 (ds : List Dat) (K : AV → AH → Prop) : callA Tryd.prog tys GG49 1000 69 (F69.fr ds) (F69.hp ds) (fun v h' => endK Tryd.prog [] .keep (F69.hp ds) (F69.fr ds) v h' K) = mm69 ds K := by kernel_rfl
noncomputable def R69 : CallT := ruleF Tryd.prog [.keep, .keep] [] F69 mm69
theorem ok69 : CallOK Tryd.prog 69 R69 := ruleF_ok sGG49 t69
noncomputable def cs69 : List (FuncId × CallT) := (69, R69) :: cs49
theorem cs69_ok : CallsOK Tryd.prog cs69 := .cons ok69 cs49_ok
noncomputable def GG69 : Rules := mkG [] cs69 ls29_1
theorem sGG69 : Sound Tryd.prog tys GG69 := mk_sound mixed tysOK names (by kernel_rfl) cs69_ok ls29_1_ok
noncomputable def m68 (p : PS) (d : DS) (b : Int) (K : PS → DS → Prop) : Prop :=
    br (decide ((↑(ByteArray.size (PS.aText p)) : Int) < (1024 : Int))) (
     req (decide (ByteArray.size (PS.aText p) + ByteArray.size (strD [Dat.int b]) ≤ (9223372036854775807 : Nat))) (K { p with aText := PS.aText p ++ strD [Dat.int b] } d)) (K p d)
def F68 : AM.Form := ⟨[.p 0 0, .int .u8], [.cells 53 [.bool, .int .i64, .p 1 0, .int .i64, .int .i32, .int .u8, .int .u8, .sl 3, .str, .str, .int .i64, .sl 4], .cells 71 [.bool, .sl 2], .seq 5 (.int .u8), .seq 3 (.int .i64), .seq 35 (.pair (.int .i64) (.pair (.int .i32) (.pair (.int .u8) (.pair (.int .u8) (.pair (.slice (.int .i64)) (.pair .str (.pair .str .unit)))))))]⟩
noncomputable def mm68 (ds : List Dat) (K : AV → AH → Prop) : Prop := m68 ⟨(dat ds 1).toBool, (dat ds 2).toInt, (dat ds 3).toInt, (dat ds 4).toInt, (dat ds 5).toInt, (dat ds 6).toInt, (dat ds 12).toList, (dat ds 7).toStr, (dat ds 8).toStr, (dat ds 9).toInt, (dat ds 13).toList⟩ ⟨(dat ds 10).toBool, (dat ds 11).toList⟩ ((dat ds 0).toInt) (fun rp rd => K (.tup []) ⟨[.cells 53 [.c (.bool rp.made), .c (.int .i64 rp.state), .p 1 0, .c (.int .i64 rp.aKind), .c (.int .i32 rp.aRune), .c (.int .u8 rp.aFinal), .c (.int .u8 rp.aPrivate), .sl 3 0 rp.aParams.length, .c (.string rp.aInter), .c (.string rp.aText), .c (.int .i64 rp.many), .sl 4 0 rp.out.length], .cells 71 [.c (.bool rd.made), .sl 2 0 rd.b.length], .seq 5 (.int .u8) rd.b, .seq 3 (.int .i64) rp.aParams, .seq 35 (.pair (.int .i64) (.pair (.int .i32) (.pair (.int .u8) (.pair (.int .u8) (.pair (.slice (.int .i64)) (.pair .str (.pair .str .unit))))))) rp.out], []⟩)
theorem t68 (ds : List Dat) (K : AV → AH → Prop) : callA Tryd.prog tys GG69 1000 68 (F68.fr ds) (F68.hp ds) (fun v h' => endK Tryd.prog [] .keep (F68.hp ds) (F68.fr ds) v h' K) = mm68 ds K := by kernel_rfl
noncomputable def R68 : CallT := ruleF Tryd.prog [.keep, .keep] [] F68 mm68
theorem ok68 : CallOK Tryd.prog 68 R68 := ruleF_ok sGG69 t68
noncomputable def cs68 : List (FuncId × CallT) := (68, R68) :: cs69
theorem cs68_ok : CallsOK Tryd.prog cs68 := .cons ok68 cs69_ok
noncomputable def GG68 : Rules := mkG [] cs68 ls29_1
theorem sGG68 : Sound Tryd.prog tys GG68 := mk_sound mixed tysOK names (by kernel_rfl) cs68_ok ls29_1_ok
noncomputable def m84 (p : PS) (d : DS) (b : Int) (K : PS → DS → Prop) : Prop :=
    br (decide (PS.many p = (0 : Int))) (
     br (decide (b = (59 : Int))) (
      req (appOK [Dat.int (-1 : Int)] (0 : Nat) (1 : Nat) (1 : Nat) (8 : Nat)) (
      req (decide ((0 : Nat) + List.length (dapp [Dat.int (-1 : Int)] (0 : Nat) (1 : Nat) [Dat.int (-1 : Int)]) ≤ List.length (dapp [Dat.int (-1 : Int)] (0 : Nat) (1 : Nat) [Dat.int (-1 : Int)]))) (K { p with aParams := dcut (dapp [Dat.int (-1 : Int)] (0 : Nat) (1 : Nat) [Dat.int (-1 : Int)]) (0 : Nat) (List.length (dapp [Dat.int (-1 : Int)] (0 : Nat) (1 : Nat) [Dat.int (-1 : Int)])), many := (1 : Int) + (1 : Int) } d))) (
      req (inR IntKind.i64 (IntKind.wrap IntKind.u8 (b - (48 : Int)))) (
      req (inR IntKind.i64 ((if true = true then max (-1 : Int) (0 : Int) else min (-1 : Int) (0 : Int)) * (10 : Int) + IntKind.wrap IntKind.u8 (b - (48 : Int)))) (K { p with aParams := [Dat.int (if false = true then max ((if true = true then max (-1 : Int) (0 : Int) else min (-1 : Int) (0 : Int)) * (10 : Int) + IntKind.wrap IntKind.u8 (b - (48 : Int))) (65535 : Int) else min ((if true = true then max (-1 : Int) (0 : Int) else min (-1 : Int) (0 : Int)) * (10 : Int) + IntKind.wrap IntKind.u8 (b - (48 : Int))) (65535 : Int))], many := (1 : Int) } d)))) (
     br (decide (b = (59 : Int))) (
      req (inR IntKind.i64 (PS.many p + (1 : Int))) (
      br (decide (PS.many p + (1 : Int) ≤ (16 : Int))) (
       req (appOK (PS.aParams p) (0 : Nat) (List.length (PS.aParams p)) (1 : Nat) (8 : Nat)) (
       req (decide ((0 : Nat) + List.length (dapp (PS.aParams p) (0 : Nat) (List.length (PS.aParams p)) [Dat.int (-1 : Int)]) ≤ List.length (dapp (PS.aParams p) (0 : Nat) (List.length (PS.aParams p)) [Dat.int (-1 : Int)]))) (K { p with aParams := dcut (dapp (PS.aParams p) (0 : Nat) (List.length (PS.aParams p)) [Dat.int (-1 : Int)]) (0 : Nat) (List.length (dapp (PS.aParams p) (0 : Nat) (List.length (PS.aParams p)) [Dat.int (-1 : Int)])), many := PS.many p + (1 : Int) } d))) (
       req (decide ((0 : Nat) + List.length (PS.aParams p) ≤ List.length (PS.aParams p))) (K { p with aParams := dcut (PS.aParams p) (0 : Nat) (List.length (PS.aParams p)), many := PS.many p + (1 : Int) } d)))) (
      br (decide (PS.many p ≤ (16 : Int))) (
       req (inR IntKind.i64 (PS.many p - (1 : Int))) (
       req (decide ((0 : Int) ≤ PS.many p - (1 : Int)) && decide (PS.many p - (1 : Int) < (↑(List.length (PS.aParams p)) : Int))) (
       req (decide ((0 : Nat) + Int.toNat (PS.many p - (1 : Int)) < List.length (PS.aParams p))) (
       req (inR IntKind.i64 ((if true = true then max (Dat.toInt (List.getD (PS.aParams p) ((0 : Nat) + Int.toNat (PS.many p - (1 : Int))) default)) (0 : Int) else min (Dat.toInt (List.getD (PS.aParams p) ((0 : Nat) + Int.toNat (PS.many p - (1 : Int))) default)) (0 : Int)) * (10 : Int))) (
       req (inR IntKind.i64 (IntKind.wrap IntKind.u8 (b - (48 : Int)))) (
       req (inR IntKind.i64 ((if true = true then max (Dat.toInt (List.getD (PS.aParams p) ((0 : Nat) + Int.toNat (PS.many p - (1 : Int))) default)) (0 : Int) else min (Dat.toInt (List.getD (PS.aParams p) ((0 : Nat) + Int.toNat (PS.many p - (1 : Int))) default)) (0 : Int)) * (10 : Int) + IntKind.wrap IntKind.u8 (b - (48 : Int)))) (
       req (decide ((0 : Nat) + Int.toNat (PS.many p - (1 : Int)) < List.length (PS.aParams p))) (
       req (decide ((0 : Nat) + List.length (PS.aParams p) ≤ List.length (List.set (PS.aParams p) ((0 : Nat) + Int.toNat (PS.many p - (1 : Int))) (Dat.int (if false = true then max ((if true = true then max (Dat.toInt (List.getD (PS.aParams p) ((0 : Nat) + Int.toNat (PS.many p - (1 : Int))) default)) (0 : Int) else min (Dat.toInt (List.getD (PS.aParams p) ((0 : Nat) + Int.toNat (PS.many p - (1 : Int))) default)) (0 : Int)) * (10 : Int) + IntKind.wrap IntKind.u8 (b - (48 : Int))) (65535 : Int) else min ((if true = true then max (Dat.toInt (List.getD (PS.aParams p) ((0 : Nat) + Int.toNat (PS.many p - (1 : Int))) default)) (0 : Int) else min (Dat.toInt (List.getD (PS.aParams p) ((0 : Nat) + Int.toNat (PS.many p - (1 : Int))) default)) (0 : Int)) * (10 : Int) + IntKind.wrap IntKind.u8 (b - (48 : Int))) (65535 : Int)))))) (K { p with aParams := dcut (List.set (PS.aParams p) ((0 : Nat) + Int.toNat (PS.many p - (1 : Int))) (Dat.int (if false = true then max ((if true = true then max (Dat.toInt (List.getD (PS.aParams p) ((0 : Nat) + Int.toNat (PS.many p - (1 : Int))) default)) (0 : Int) else min (Dat.toInt (List.getD (PS.aParams p) ((0 : Nat) + Int.toNat (PS.many p - (1 : Int))) default)) (0 : Int)) * (10 : Int) + IntKind.wrap IntKind.u8 (b - (48 : Int))) (65535 : Int) else min ((if true = true then max (Dat.toInt (List.getD (PS.aParams p) ((0 : Nat) + Int.toNat (PS.many p - (1 : Int))) default)) (0 : Int) else min (Dat.toInt (List.getD (PS.aParams p) ((0 : Nat) + Int.toNat (PS.many p - (1 : Int))) default)) (0 : Int)) * (10 : Int) + IntKind.wrap IntKind.u8 (b - (48 : Int))) (65535 : Int)))) (0 : Nat) (List.length (PS.aParams p)) } d))))))))) (
       req (decide ((0 : Nat) + List.length (PS.aParams p) ≤ List.length (PS.aParams p))) (K { p with aParams := dcut (PS.aParams p) (0 : Nat) (List.length (PS.aParams p)) } d))))
def F84 : AM.Form := ⟨[.p 0 0, .int .u8], [.cells 53 [.bool, .int .i64, .p 1 0, .int .i64, .int .i32, .int .u8, .int .u8, .sl 3, .str, .str, .int .i64, .sl 4], .cells 71 [.bool, .sl 2], .seq 5 (.int .u8), .seq 3 (.int .i64), .seq 35 (.pair (.int .i64) (.pair (.int .i32) (.pair (.int .u8) (.pair (.int .u8) (.pair (.slice (.int .i64)) (.pair .str (.pair .str .unit)))))))]⟩
noncomputable def mm84 (ds : List Dat) (K : AV → AH → Prop) : Prop := m84 ⟨(dat ds 1).toBool, (dat ds 2).toInt, (dat ds 3).toInt, (dat ds 4).toInt, (dat ds 5).toInt, (dat ds 6).toInt, (dat ds 12).toList, (dat ds 7).toStr, (dat ds 8).toStr, (dat ds 9).toInt, (dat ds 13).toList⟩ ⟨(dat ds 10).toBool, (dat ds 11).toList⟩ ((dat ds 0).toInt) (fun rp rd => K (.tup []) ⟨[.cells 53 [.c (.bool rp.made), .c (.int .i64 rp.state), .p 1 0, .c (.int .i64 rp.aKind), .c (.int .i32 rp.aRune), .c (.int .u8 rp.aFinal), .c (.int .u8 rp.aPrivate), .sl 3 0 rp.aParams.length, .c (.string rp.aInter), .c (.string rp.aText), .c (.int .i64 rp.many), .sl 4 0 rp.out.length], .cells 71 [.c (.bool rd.made), .sl 2 0 rd.b.length], .seq 5 (.int .u8) rd.b, .seq 3 (.int .i64) rp.aParams, .seq 35 (.pair (.int .i64) (.pair (.int .i32) (.pair (.int .u8) (.pair (.int .u8) (.pair (.slice (.int .i64)) (.pair .str (.pair .str .unit))))))) rp.out], []⟩)
theorem t84 (ds : List Dat) (K : AV → AH → Prop) : callA Tryd.prog tys GG68 1000 84 (F84.fr ds) (F84.hp ds) (fun v h' => endK Tryd.prog [(0, 7, .cut 3 (.int .i64))] .keep (F84.hp ds) (F84.fr ds) v h' K) = mm84 ds K := by kernel_rfl
noncomputable def R84 : CallT := ruleF Tryd.prog [.keep, .keep] [] F84 mm84
theorem ok84 : CallOK Tryd.prog 84 R84 := ruleF_ok sGG68 t84
noncomputable def cs84 : List (FuncId × CallT) := (84, R84) :: cs68
theorem cs84_ok : CallsOK Tryd.prog cs84 := .cons ok84 cs68_ok
noncomputable def GG84 : Rules := mkG [] cs84 ls29_1
theorem sGG84 : Sound Tryd.prog tys GG84 := mk_sound mixed tysOK names (by kernel_rfl) cs84_ok ls29_1_ok
noncomputable def m70 (p : PS) (d : DS) (b : Int) (kind : Int) (K : PS → DS → Prop) : Prop :=
    ((List.length (PS.aParams p) = List.length (PS.aParams p)) ∧ 
    ((List.length (PS.out p) = List.length (PS.out p)) ∧ 
    ((List.length (DS.b d) = List.length (DS.b d)) ∧ 
    m49 { made := PS.made p, state := PS.state p, aKind := PS.aKind p, aRune := PS.aRune p, aFinal := b, aPrivate := PS.aPrivate p, aParams := PS.aParams p, aInter := PS.aInter p, aText := PS.aText p, many := PS.many p, out := PS.out p } d kind (fun y0 y1 => K { y0 with state := (0 : Int) } y1))))
def F70 : AM.Form := ⟨[.p 0 0, .int .u8, .int .i64], [.cells 53 [.bool, .int .i64, .p 1 0, .int .i64, .int .i32, .int .u8, .int .u8, .sl 3, .str, .str, .int .i64, .sl 4], .cells 71 [.bool, .sl 2], .seq 5 (.int .u8), .seq 3 (.int .i64), .seq 35 (.pair (.int .i64) (.pair (.int .i32) (.pair (.int .u8) (.pair (.int .u8) (.pair (.slice (.int .i64)) (.pair .str (.pair .str .unit)))))))]⟩
noncomputable def mm70 (ds : List Dat) (K : AV → AH → Prop) : Prop := m70 ⟨(dat ds 2).toBool, (dat ds 3).toInt, (dat ds 4).toInt, (dat ds 5).toInt, (dat ds 6).toInt, (dat ds 7).toInt, (dat ds 13).toList, (dat ds 8).toStr, (dat ds 9).toStr, (dat ds 10).toInt, (dat ds 14).toList⟩ ⟨(dat ds 11).toBool, (dat ds 12).toList⟩ ((dat ds 0).toInt) ((dat ds 1).toInt) (fun rp rd => K (.tup []) ⟨[.cells 53 [.c (.bool rp.made), .c (.int .i64 rp.state), .p 1 0, .c (.int .i64 rp.aKind), .c (.int .i32 rp.aRune), .c (.int .u8 rp.aFinal), .c (.int .u8 rp.aPrivate), .sl 3 0 rp.aParams.length, .c (.string rp.aInter), .c (.string rp.aText), .c (.int .i64 rp.many), .sl 4 0 rp.out.length], .cells 71 [.c (.bool rd.made), .sl 2 0 rd.b.length], .seq 5 (.int .u8) rd.b, .seq 3 (.int .i64) rp.aParams, .seq 35 (.pair (.int .i64) (.pair (.int .i32) (.pair (.int .u8) (.pair (.int .u8) (.pair (.slice (.int .i64)) (.pair .str (.pair .str .unit))))))) rp.out], []⟩)
theorem t70 (ds : List Dat) (K : AV → AH → Prop) : callA Tryd.prog tys GG84 1000 70 (F70.fr ds) (F70.hp ds) (fun v h' => endK Tryd.prog [] .keep (F70.hp ds) (F70.fr ds) v h' K) = mm70 ds K := by kernel_rfl
noncomputable def R70 : CallT := ruleF Tryd.prog [.keep, .keep, .keep] [] F70 mm70
theorem ok70 : CallOK Tryd.prog 70 R70 := ruleF_ok sGG84 t70
noncomputable def cs70 : List (FuncId × CallT) := (70, R70) :: cs84
theorem cs70_ok : CallsOK Tryd.prog cs70 := .cons ok70 cs84_ok
noncomputable def GG70 : Rules := mkG [] cs70 ls29_1
theorem sGG70 : Sound Tryd.prog tys GG70 := mk_sound mixed tysOK names (by kernel_rfl) cs70_ok ls29_1_ok
noncomputable def m71 (p : PS) (d : DS) (b : Int) (first : Int) (at' : Int) (K : PS → DS → Prop) : Prop :=
    br (decide (at' = (0 : Int))) (
     br (decide ((60 : Int) ≤ b)) (
      req (inR IntKind.i64 (first + (1 : Int))) (K { p with state := first + (1 : Int), aPrivate := b } d)) (
      br (decide (b ≤ (57 : Int))) (
       ((List.length (PS.aParams p) = List.length (PS.aParams p)) ∧ 
       ((List.length (PS.out p) = List.length (PS.out p)) ∧ 
       ((List.length (DS.b d) = List.length (DS.b d)) ∧ 
       m84 p d b (fun y0 y1 => 
        req (inR IntKind.i64 (first + (1 : Int))) (K { y0 with state := first + (1 : Int) } y1)))))) (
       br (decide (b = (59 : Int))) (
        ((List.length (PS.aParams p) = List.length (PS.aParams p)) ∧ 
        ((List.length (PS.out p) = List.length (PS.out p)) ∧ 
        ((List.length (DS.b d) = List.length (DS.b d)) ∧ 
        m84 p d b (fun y2 y3 => 
         req (inR IntKind.i64 (first + (1 : Int))) (K { y2 with state := first + (1 : Int) } y3)))))) (
        req (inR IntKind.i64 (first + (3 : Int))) (K { p with state := first + (3 : Int) } d))))) (
     br (decide (at' = (1 : Int))) (
      br (decide (b ≤ (57 : Int))) (
       ((List.length (PS.aParams p) = List.length (PS.aParams p)) ∧ 
       ((List.length (PS.out p) = List.length (PS.out p)) ∧ 
       ((List.length (DS.b d) = List.length (DS.b d)) ∧ 
       m84 p d b (fun y4 y5 => 
        req (inR IntKind.i64 (first + (1 : Int))) (K { y4 with state := first + (1 : Int) } y5)))))) (
       br (decide (b = (59 : Int))) (
        ((List.length (PS.aParams p) = List.length (PS.aParams p)) ∧ 
        ((List.length (PS.out p) = List.length (PS.out p)) ∧ 
        ((List.length (DS.b d) = List.length (DS.b d)) ∧ 
        m84 p d b (fun y6 y7 => 
         req (inR IntKind.i64 (first + (1 : Int))) (K { y6 with state := first + (1 : Int) } y7)))))) (
        req (inR IntKind.i64 (first + (3 : Int))) (K { p with state := first + (3 : Int) } d)))) (
      req (inR IntKind.i64 (first + (3 : Int))) (K { p with state := first + (3 : Int) } d)))
def F71 : AM.Form := ⟨[.p 0 0, .int .u8, .int .i64, .int .i64], [.cells 53 [.bool, .int .i64, .p 1 0, .int .i64, .int .i32, .int .u8, .int .u8, .sl 3, .str, .str, .int .i64, .sl 4], .cells 71 [.bool, .sl 2], .seq 5 (.int .u8), .seq 3 (.int .i64), .seq 35 (.pair (.int .i64) (.pair (.int .i32) (.pair (.int .u8) (.pair (.int .u8) (.pair (.slice (.int .i64)) (.pair .str (.pair .str .unit)))))))]⟩
noncomputable def mm71 (ds : List Dat) (K : AV → AH → Prop) : Prop := m71 ⟨(dat ds 3).toBool, (dat ds 4).toInt, (dat ds 5).toInt, (dat ds 6).toInt, (dat ds 7).toInt, (dat ds 8).toInt, (dat ds 14).toList, (dat ds 9).toStr, (dat ds 10).toStr, (dat ds 11).toInt, (dat ds 15).toList⟩ ⟨(dat ds 12).toBool, (dat ds 13).toList⟩ ((dat ds 0).toInt) ((dat ds 1).toInt) ((dat ds 2).toInt) (fun rp rd => K (.tup []) ⟨[.cells 53 [.c (.bool rp.made), .c (.int .i64 rp.state), .p 1 0, .c (.int .i64 rp.aKind), .c (.int .i32 rp.aRune), .c (.int .u8 rp.aFinal), .c (.int .u8 rp.aPrivate), .sl 3 0 rp.aParams.length, .c (.string rp.aInter), .c (.string rp.aText), .c (.int .i64 rp.many), .sl 4 0 rp.out.length], .cells 71 [.c (.bool rd.made), .sl 2 0 rd.b.length], .seq 5 (.int .u8) rd.b, .seq 3 (.int .i64) rp.aParams, .seq 35 (.pair (.int .i64) (.pair (.int .i32) (.pair (.int .u8) (.pair (.int .u8) (.pair (.slice (.int .i64)) (.pair .str (.pair .str .unit))))))) rp.out], []⟩)
theorem t71 (ds : List Dat) (K : AV → AH → Prop) : callA Tryd.prog tys GG70 1000 71 (F71.fr ds) (F71.hp ds) (fun v h' => endK Tryd.prog [] .keep (F71.hp ds) (F71.fr ds) v h' K) = mm71 ds K := by kernel_rfl
noncomputable def R71 : CallT := ruleF Tryd.prog [.keep, .keep, .keep, .keep] [] F71 mm71
theorem ok71 : CallOK Tryd.prog 71 R71 := ruleF_ok sGG70 t71
noncomputable def cs71 : List (FuncId × CallT) := (71, R71) :: cs70
theorem cs71_ok : CallsOK Tryd.prog cs71 := .cons ok71 cs70_ok
noncomputable def GG71 : Rules := mkG [] cs71 ls29_1
theorem sGG71 : Sound Tryd.prog tys GG71 := mk_sound mixed tysOK names (by kernel_rfl) cs71_ok ls29_1_ok
noncomputable def m51 (p : PS) (d : DS) (b : Int) (K : PS → DS → Prop) : Prop :=
    br (decide (PS.state p = (13 : Int))) (K p d) (
     br (decide (b = (127 : Int))) (
      br (decide (PS.state p = (11 : Int))) (K p d) (
       br (decide (PS.state p = (11 : Int))) (
        ((List.length (PS.aParams p) = List.length (PS.aParams p)) ∧ 
        ((List.length (PS.out p) = List.length (PS.out p)) ∧ 
        ((List.length (DS.b d) = List.length (DS.b d)) ∧ 
        m68 p d b (fun y0 y1 => K y0 y1))))) (
        br (decide (b = (7 : Int))) (
         ((List.length (PS.aParams p) = List.length (PS.aParams p)) ∧ 
         ((List.length (PS.out p) = List.length (PS.out p)) ∧ 
         ((List.length (DS.b d) = List.length (DS.b d)) ∧ 
         m49 p d (5 : Int) (fun y2 y3 => K { y2 with state := (0 : Int) } y3))))) (
         br (decide ((32 : Int) ≤ b)) (
          ((List.length (PS.aParams p) = List.length (PS.aParams p)) ∧ 
          ((List.length (PS.out p) = List.length (PS.out p)) ∧ 
          ((List.length (DS.b d) = List.length (DS.b d)) ∧ 
          m68 p d b (fun y4 y5 => K y4 y5))))) (K p d))))) (
      br (decide (PS.state p = (11 : Int))) (
       ((List.length (PS.aParams p) = List.length (PS.aParams p)) ∧ 
       ((List.length (PS.out p) = List.length (PS.out p)) ∧ 
       ((List.length (DS.b d) = List.length (DS.b d)) ∧ 
       m68 p d b (fun y6 y7 => K y6 y7))))) (
       br (decide (b = (7 : Int))) (
        ((List.length (PS.aParams p) = List.length (PS.aParams p)) ∧ 
        ((List.length (PS.out p) = List.length (PS.out p)) ∧ 
        ((List.length (DS.b d) = List.length (DS.b d)) ∧ 
        m49 p d (5 : Int) (fun y8 y9 => K { y8 with state := (0 : Int) } y9))))) (
        br (decide ((32 : Int) ≤ b)) (
         ((List.length (PS.aParams p) = List.length (PS.aParams p)) ∧ 
         ((List.length (PS.out p) = List.length (PS.out p)) ∧ 
         ((List.length (DS.b d) = List.length (DS.b d)) ∧ 
         m68 p d b (fun y10 y11 => K y10 y11))))) (K p d)))))
def F51 : AM.Form := ⟨[.p 0 0, .int .u8], [.cells 53 [.bool, .int .i64, .p 1 0, .int .i64, .int .i32, .int .u8, .int .u8, .sl 3, .str, .str, .int .i64, .sl 4], .cells 71 [.bool, .sl 2], .seq 5 (.int .u8), .seq 3 (.int .i64), .seq 35 (.pair (.int .i64) (.pair (.int .i32) (.pair (.int .u8) (.pair (.int .u8) (.pair (.slice (.int .i64)) (.pair .str (.pair .str .unit)))))))]⟩
noncomputable def mm51 (ds : List Dat) (K : AV → AH → Prop) : Prop := m51 ⟨(dat ds 1).toBool, (dat ds 2).toInt, (dat ds 3).toInt, (dat ds 4).toInt, (dat ds 5).toInt, (dat ds 6).toInt, (dat ds 12).toList, (dat ds 7).toStr, (dat ds 8).toStr, (dat ds 9).toInt, (dat ds 13).toList⟩ ⟨(dat ds 10).toBool, (dat ds 11).toList⟩ ((dat ds 0).toInt) (fun rp rd => K (.tup []) ⟨[.cells 53 [.c (.bool rp.made), .c (.int .i64 rp.state), .p 1 0, .c (.int .i64 rp.aKind), .c (.int .i32 rp.aRune), .c (.int .u8 rp.aFinal), .c (.int .u8 rp.aPrivate), .sl 3 0 rp.aParams.length, .c (.string rp.aInter), .c (.string rp.aText), .c (.int .i64 rp.many), .sl 4 0 rp.out.length], .cells 71 [.c (.bool rd.made), .sl 2 0 rd.b.length], .seq 5 (.int .u8) rd.b, .seq 3 (.int .i64) rp.aParams, .seq 35 (.pair (.int .i64) (.pair (.int .i32) (.pair (.int .u8) (.pair (.int .u8) (.pair (.slice (.int .i64)) (.pair .str (.pair .str .unit))))))) rp.out], []⟩)
theorem t51 (ds : List Dat) (K : AV → AH → Prop) : callA Tryd.prog tys GG71 1000 51 (F51.fr ds) (F51.hp ds) (fun v h' => endK Tryd.prog [] .keep (F51.hp ds) (F51.fr ds) v h' K) = mm51 ds K := by kernel_rfl
noncomputable def R51 : CallT := ruleF Tryd.prog [.keep, .keep] [] F51 mm51
theorem ok51 : CallOK Tryd.prog 51 R51 := ruleF_ok sGG71 t51
noncomputable def cs51 : List (FuncId × CallT) := (51, R51) :: cs71
theorem cs51_ok : CallsOK Tryd.prog cs51 := .cons ok51 cs71_ok
noncomputable def GG51 : Rules := mkG [] cs51 ls29_1
theorem sGG51 : Sound Tryd.prog tys GG51 := mk_sound mixed tysOK names (by kernel_rfl) cs51_ok ls29_1_ok
noncomputable def m50 (p : PS) (d : DS) (b : Int) (K : PS → DS → Prop) : Prop :=
    br (decide ((128 : Int) ≤ b)) (
     ((List.length (DS.b d) = List.length (DS.b d)) ∧ 
     m67 d [Dat.int b] (fun y0 y1 => 
      req (decide ((0 : Nat) + List.length y1 ≤ List.length y1)) (
      ((List.length (PS.aParams p) = List.length (PS.aParams p)) ∧ 
      ((List.length (PS.out p) = List.length (PS.out p)) ∧ 
      ((List.length (DS.b y0) = List.length (DS.b y0)) ∧ 
      m29 p y0 (List.take (List.length y1) y1) (fun y2 y3 => K y2 y3)))))))) (
     br (decide (b < (32 : Int))) (
      ((List.length (PS.aParams p) = List.length (PS.aParams p)) ∧ 
      ((List.length (PS.out p) = List.length (PS.out p)) ∧ 
      ((List.length (DS.b d) = List.length (DS.b d)) ∧ 
      m48 p d b (fun y4 y5 => K y4 y5))))) (
      br (decide (b < (127 : Int))) (
       req (inR IntKind.i32 b) (
       ((List.length (PS.aParams p) = List.length (PS.aParams p)) ∧ 
       ((List.length (PS.out p) = List.length (PS.out p)) ∧ 
       ((List.length (DS.b d) = List.length (DS.b d)) ∧ 
       m29 p d [Dat.int b] (fun y6 y7 => K y6 y7)))))) (K p d)))
def F50 : AM.Form := ⟨[.p 0 0, .int .u8], [.cells 53 [.bool, .int .i64, .p 1 0, .int .i64, .int .i32, .int .u8, .int .u8, .sl 3, .str, .str, .int .i64, .sl 4], .cells 71 [.bool, .sl 2], .seq 5 (.int .u8), .seq 3 (.int .i64), .seq 35 (.pair (.int .i64) (.pair (.int .i32) (.pair (.int .u8) (.pair (.int .u8) (.pair (.slice (.int .i64)) (.pair .str (.pair .str .unit)))))))]⟩
noncomputable def mm50 (ds : List Dat) (K : AV → AH → Prop) : Prop := m50 ⟨(dat ds 1).toBool, (dat ds 2).toInt, (dat ds 3).toInt, (dat ds 4).toInt, (dat ds 5).toInt, (dat ds 6).toInt, (dat ds 12).toList, (dat ds 7).toStr, (dat ds 8).toStr, (dat ds 9).toInt, (dat ds 13).toList⟩ ⟨(dat ds 10).toBool, (dat ds 11).toList⟩ ((dat ds 0).toInt) (fun rp rd => K (.tup []) ⟨[.cells 53 [.c (.bool rp.made), .c (.int .i64 rp.state), .p 1 0, .c (.int .i64 rp.aKind), .c (.int .i32 rp.aRune), .c (.int .u8 rp.aFinal), .c (.int .u8 rp.aPrivate), .sl 3 0 rp.aParams.length, .c (.string rp.aInter), .c (.string rp.aText), .c (.int .i64 rp.many), .sl 4 0 rp.out.length], .cells 71 [.c (.bool rd.made), .sl 2 0 rd.b.length], .seq 5 (.int .u8) rd.b, .seq 3 (.int .i64) rp.aParams, .seq 35 (.pair (.int .i64) (.pair (.int .i32) (.pair (.int .u8) (.pair (.int .u8) (.pair (.slice (.int .i64)) (.pair .str (.pair .str .unit))))))) rp.out], []⟩)
theorem t50 (ds : List Dat) (K : AV → AH → Prop) : callA Tryd.prog tys GG51 1000 50 (F50.fr ds) (F50.hp ds) (fun v h' => endK Tryd.prog [] .keep (F50.hp ds) (F50.fr ds) v h' K) = mm50 ds K := by kernel_rfl
noncomputable def R50 : CallT := ruleF Tryd.prog [.keep, .keep] [] F50 mm50
theorem ok50 : CallOK Tryd.prog 50 R50 := ruleF_ok sGG51 t50
noncomputable def cs50 : List (FuncId × CallT) := (50, R50) :: cs51
theorem cs50_ok : CallsOK Tryd.prog cs50 := .cons ok50 cs51_ok
noncomputable def GG50 : Rules := mkG [] cs50 ls29_1
theorem sGG50 : Sound Tryd.prog tys GG50 := mk_sound mixed tysOK names (by kernel_rfl) cs50_ok ls29_1_ok
noncomputable def m52 (p : PS) (d : DS) (b : Int) (K : PS → DS → Prop) : Prop :=
    br (decide (b = (127 : Int))) (K p d) (
     br (decide (b < (48 : Int))) (
      ((List.length (PS.aParams p) = List.length (PS.aParams p)) ∧ 
      ((List.length (PS.out p) = List.length (PS.out p)) ∧ 
      ((List.length (DS.b d) = List.length (DS.b d)) ∧ 
      m69 p d b (fun y0 y1 => K { y0 with state := (2 : Int) } y1))))) (
      br (decide (PS.state p = (2 : Int))) (
       ((List.length (PS.aParams p) = List.length (PS.aParams p)) ∧ 
       ((List.length (PS.out p) = List.length (PS.out p)) ∧ 
       ((List.length (DS.b d) = List.length (DS.b d)) ∧ 
       m70 p d b (3 : Int) (fun y2 y3 => K y2 y3))))) (
       br (decide (b = (91 : Int))) (K { p with state := (3 : Int) } d) (
        br (decide (b = (93 : Int))) (K { p with state := (12 : Int) } d) (
         br (decide (b = (80 : Int))) (K { p with state := (7 : Int) } d) (
          br (decide (b = (88 : Int))) (K { p with state := (13 : Int) } d) (
           br (decide (b = (94 : Int))) (K { p with state := (13 : Int) } d) (
            br (decide (b = (95 : Int))) (K { p with state := (13 : Int) } d) (
             br (decide (b = (92 : Int))) (K { p with state := (0 : Int) } d) (
              ((List.length (PS.aParams p) = List.length (PS.aParams p)) ∧ 
              ((List.length (PS.out p) = List.length (PS.out p)) ∧ 
              ((List.length (DS.b d) = List.length (DS.b d)) ∧ 
              m70 p d b (3 : Int) (fun y4 y5 => K y4 y5))))))))))))))
def F52 : AM.Form := ⟨[.p 0 0, .int .u8], [.cells 53 [.bool, .int .i64, .p 1 0, .int .i64, .int .i32, .int .u8, .int .u8, .sl 3, .str, .str, .int .i64, .sl 4], .cells 71 [.bool, .sl 2], .seq 5 (.int .u8), .seq 3 (.int .i64), .seq 35 (.pair (.int .i64) (.pair (.int .i32) (.pair (.int .u8) (.pair (.int .u8) (.pair (.slice (.int .i64)) (.pair .str (.pair .str .unit)))))))]⟩
noncomputable def mm52 (ds : List Dat) (K : AV → AH → Prop) : Prop := m52 ⟨(dat ds 1).toBool, (dat ds 2).toInt, (dat ds 3).toInt, (dat ds 4).toInt, (dat ds 5).toInt, (dat ds 6).toInt, (dat ds 12).toList, (dat ds 7).toStr, (dat ds 8).toStr, (dat ds 9).toInt, (dat ds 13).toList⟩ ⟨(dat ds 10).toBool, (dat ds 11).toList⟩ ((dat ds 0).toInt) (fun rp rd => K (.tup []) ⟨[.cells 53 [.c (.bool rp.made), .c (.int .i64 rp.state), .p 1 0, .c (.int .i64 rp.aKind), .c (.int .i32 rp.aRune), .c (.int .u8 rp.aFinal), .c (.int .u8 rp.aPrivate), .sl 3 0 rp.aParams.length, .c (.string rp.aInter), .c (.string rp.aText), .c (.int .i64 rp.many), .sl 4 0 rp.out.length], .cells 71 [.c (.bool rd.made), .sl 2 0 rd.b.length], .seq 5 (.int .u8) rd.b, .seq 3 (.int .i64) rp.aParams, .seq 35 (.pair (.int .i64) (.pair (.int .i32) (.pair (.int .u8) (.pair (.int .u8) (.pair (.slice (.int .i64)) (.pair .str (.pair .str .unit))))))) rp.out], []⟩)
theorem t52 (ds : List Dat) (K : AV → AH → Prop) : callA Tryd.prog tys GG50 1000 52 (F52.fr ds) (F52.hp ds) (fun v h' => endK Tryd.prog [] .keep (F52.hp ds) (F52.fr ds) v h' K) = mm52 ds K := by kernel_rfl
noncomputable def R52 : CallT := ruleF Tryd.prog [.keep, .keep] [] F52 mm52
theorem ok52 : CallOK Tryd.prog 52 R52 := ruleF_ok sGG50 t52
noncomputable def cs52 : List (FuncId × CallT) := (52, R52) :: cs50
theorem cs52_ok : CallsOK Tryd.prog cs52 := .cons ok52 cs50_ok
noncomputable def GG52 : Rules := mkG [] cs52 ls29_1
theorem sGG52 : Sound Tryd.prog tys GG52 := mk_sound mixed tysOK names (by kernel_rfl) cs52_ok ls29_1_ok
noncomputable def m53 (p : PS) (d : DS) (b : Int) (K : PS → DS → Prop) : Prop :=
    br (decide ((7 : Int) ≤ PS.state p)) (
     req (inR IntKind.i64 (PS.state p - (7 : Int))) (
     br (decide (b = (127 : Int))) (K p d) (
      br (decide ((64 : Int) ≤ b)) (
       br (decide (PS.state p - (7 : Int) = (3 : Int))) (K { p with state := (13 : Int) } d) (
        br (decide ((64 : Int) ≤ b)) (
         br (decide ((64 : Int) ≤ b)) (K { p with state := (11 : Int), aFinal := b } d) (
          br (decide (PS.state p - (7 : Int) = (3 : Int))) (K p d) (
           br (decide (b < (48 : Int))) (
            ((List.length (PS.aParams p) = List.length (PS.aParams p)) ∧ 
            ((List.length (PS.out p) = List.length (PS.out p)) ∧ 
            ((List.length (DS.b d) = List.length (DS.b d)) ∧ 
            m69 p d b (fun y0 y1 => K { y0 with state := (7 : Int) + (2 : Int) } y1))))) (
            ((List.length (PS.aParams p) = List.length (PS.aParams p)) ∧ 
            ((List.length (PS.out p) = List.length (PS.out p)) ∧ 
            ((List.length (DS.b d) = List.length (DS.b d)) ∧ 
            m71 p d b (7 : Int) (PS.state p - (7 : Int)) (fun y2 y3 => K y2 y3)))))))) (
         br (decide ((64 : Int) ≤ b)) (K { p with state := (11 : Int), aFinal := b } d) (
          br (decide (PS.state p - (7 : Int) = (3 : Int))) (K p d) (
           br (decide (b < (48 : Int))) (
            ((List.length (PS.aParams p) = List.length (PS.aParams p)) ∧ 
            ((List.length (PS.out p) = List.length (PS.out p)) ∧ 
            ((List.length (DS.b d) = List.length (DS.b d)) ∧ 
            m69 p d b (fun y4 y5 => K { y4 with state := (7 : Int) + (2 : Int) } y5))))) (
            ((List.length (PS.aParams p) = List.length (PS.aParams p)) ∧ 
            ((List.length (PS.out p) = List.length (PS.out p)) ∧ 
            ((List.length (DS.b d) = List.length (DS.b d)) ∧ 
            m71 p d b (7 : Int) (PS.state p - (7 : Int)) (fun y6 y7 => K y6 y7)))))))))) (
       br (decide ((64 : Int) ≤ b)) (
        br (decide ((64 : Int) ≤ b)) (K { p with state := (11 : Int), aFinal := b } d) (
         br (decide (PS.state p - (7 : Int) = (3 : Int))) (K p d) (
          br (decide (b < (48 : Int))) (
           ((List.length (PS.aParams p) = List.length (PS.aParams p)) ∧ 
           ((List.length (PS.out p) = List.length (PS.out p)) ∧ 
           ((List.length (DS.b d) = List.length (DS.b d)) ∧ 
           m69 p d b (fun y8 y9 => K { y8 with state := (7 : Int) + (2 : Int) } y9))))) (
           ((List.length (PS.aParams p) = List.length (PS.aParams p)) ∧ 
           ((List.length (PS.out p) = List.length (PS.out p)) ∧ 
           ((List.length (DS.b d) = List.length (DS.b d)) ∧ 
           m71 p d b (7 : Int) (PS.state p - (7 : Int)) (fun y10 y11 => K y10 y11)))))))) (
        br (decide ((64 : Int) ≤ b)) (K { p with state := (11 : Int), aFinal := b } d) (
         br (decide (PS.state p - (7 : Int) = (3 : Int))) (K p d) (
          br (decide (b < (48 : Int))) (
           ((List.length (PS.aParams p) = List.length (PS.aParams p)) ∧ 
           ((List.length (PS.out p) = List.length (PS.out p)) ∧ 
           ((List.length (DS.b d) = List.length (DS.b d)) ∧ 
           m69 p d b (fun y12 y13 => K { y12 with state := (7 : Int) + (2 : Int) } y13))))) (
           ((List.length (PS.aParams p) = List.length (PS.aParams p)) ∧ 
           ((List.length (PS.out p) = List.length (PS.out p)) ∧ 
           ((List.length (DS.b d) = List.length (DS.b d)) ∧ 
           m71 p d b (7 : Int) (PS.state p - (7 : Int)) (fun y14 y15 => K y14 y15)))))))))))) (
     req (inR IntKind.i64 (PS.state p - (3 : Int))) (
     br (decide (b = (127 : Int))) (K p d) (
      br (decide ((64 : Int) ≤ b)) (
       br (decide (PS.state p - (3 : Int) = (3 : Int))) (K { p with state := (0 : Int) } d) (
        br (decide ((64 : Int) ≤ b)) (
         ((List.length (PS.aParams p) = List.length (PS.aParams p)) ∧ 
         ((List.length (PS.out p) = List.length (PS.out p)) ∧ 
         ((List.length (DS.b d) = List.length (DS.b d)) ∧ 
         m70 p d b (4 : Int) (fun y16 y17 => K y16 y17))))) (
         br (decide ((64 : Int) ≤ b)) (K { p with state := (11 : Int), aFinal := b } d) (
          br (decide (PS.state p - (3 : Int) = (3 : Int))) (K p d) (
           br (decide (b < (48 : Int))) (
            ((List.length (PS.aParams p) = List.length (PS.aParams p)) ∧ 
            ((List.length (PS.out p) = List.length (PS.out p)) ∧ 
            ((List.length (DS.b d) = List.length (DS.b d)) ∧ 
            m69 p d b (fun y18 y19 => K { y18 with state := (3 : Int) + (2 : Int) } y19))))) (
            ((List.length (PS.aParams p) = List.length (PS.aParams p)) ∧ 
            ((List.length (PS.out p) = List.length (PS.out p)) ∧ 
            ((List.length (DS.b d) = List.length (DS.b d)) ∧ 
            m71 p d b (3 : Int) (PS.state p - (3 : Int)) (fun y20 y21 => K y20 y21)))))))))) (
       br (decide ((64 : Int) ≤ b)) (
        ((List.length (PS.aParams p) = List.length (PS.aParams p)) ∧ 
        ((List.length (PS.out p) = List.length (PS.out p)) ∧ 
        ((List.length (DS.b d) = List.length (DS.b d)) ∧ 
        m70 p d b (4 : Int) (fun y22 y23 => K y22 y23))))) (
        br (decide ((64 : Int) ≤ b)) (K { p with state := (11 : Int), aFinal := b } d) (
         br (decide (PS.state p - (3 : Int) = (3 : Int))) (K p d) (
          br (decide (b < (48 : Int))) (
           ((List.length (PS.aParams p) = List.length (PS.aParams p)) ∧ 
           ((List.length (PS.out p) = List.length (PS.out p)) ∧ 
           ((List.length (DS.b d) = List.length (DS.b d)) ∧ 
           m69 p d b (fun y24 y25 => K { y24 with state := (3 : Int) + (2 : Int) } y25))))) (
           ((List.length (PS.aParams p) = List.length (PS.aParams p)) ∧ 
           ((List.length (PS.out p) = List.length (PS.out p)) ∧ 
           ((List.length (DS.b d) = List.length (DS.b d)) ∧ 
           m71 p d b (3 : Int) (PS.state p - (3 : Int)) (fun y26 y27 => K y26 y27))))))))))))
def F53 : AM.Form := ⟨[.p 0 0, .int .u8], [.cells 53 [.bool, .int .i64, .p 1 0, .int .i64, .int .i32, .int .u8, .int .u8, .sl 3, .str, .str, .int .i64, .sl 4], .cells 71 [.bool, .sl 2], .seq 5 (.int .u8), .seq 3 (.int .i64), .seq 35 (.pair (.int .i64) (.pair (.int .i32) (.pair (.int .u8) (.pair (.int .u8) (.pair (.slice (.int .i64)) (.pair .str (.pair .str .unit)))))))]⟩
noncomputable def mm53 (ds : List Dat) (K : AV → AH → Prop) : Prop := m53 ⟨(dat ds 1).toBool, (dat ds 2).toInt, (dat ds 3).toInt, (dat ds 4).toInt, (dat ds 5).toInt, (dat ds 6).toInt, (dat ds 12).toList, (dat ds 7).toStr, (dat ds 8).toStr, (dat ds 9).toInt, (dat ds 13).toList⟩ ⟨(dat ds 10).toBool, (dat ds 11).toList⟩ ((dat ds 0).toInt) (fun rp rd => K (.tup []) ⟨[.cells 53 [.c (.bool rp.made), .c (.int .i64 rp.state), .p 1 0, .c (.int .i64 rp.aKind), .c (.int .i32 rp.aRune), .c (.int .u8 rp.aFinal), .c (.int .u8 rp.aPrivate), .sl 3 0 rp.aParams.length, .c (.string rp.aInter), .c (.string rp.aText), .c (.int .i64 rp.many), .sl 4 0 rp.out.length], .cells 71 [.c (.bool rd.made), .sl 2 0 rd.b.length], .seq 5 (.int .u8) rd.b, .seq 3 (.int .i64) rp.aParams, .seq 35 (.pair (.int .i64) (.pair (.int .i32) (.pair (.int .u8) (.pair (.int .u8) (.pair (.slice (.int .i64)) (.pair .str (.pair .str .unit))))))) rp.out], []⟩)
theorem t53 (ds : List Dat) (K : AV → AH → Prop) : callA Tryd.prog tys GG52 1000 53 (F53.fr ds) (F53.hp ds) (fun v h' => endK Tryd.prog [] .keep (F53.hp ds) (F53.fr ds) v h' K) = mm53 ds K := by kernel_rfl
noncomputable def R53 : CallT := ruleF Tryd.prog [.keep, .keep] [] F53 mm53
theorem ok53 : CallOK Tryd.prog 53 R53 := ruleF_ok sGG52 t53
noncomputable def cs53 : List (FuncId × CallT) := (53, R53) :: cs52
theorem cs53_ok : CallsOK Tryd.prog cs53 := .cons ok53 cs52_ok
noncomputable def GG53 : Rules := mkG [] cs53 ls29_1
theorem sGG53 : Sound Tryd.prog tys GG53 := mk_sound mixed tysOK names (by kernel_rfl) cs53_ok ls29_1_ok
noncomputable def m35 (p : PS) (d : DS) (b : Int) (K : PS → DS → Prop) : Prop :=
    br (decide (PS.state p = (0 : Int))) (
     br (decide (b < (128 : Int))) (
      ((List.length (DS.b d) = List.length (DS.b d)) ∧ 
      m30 d (fun y0 y1 => 
       req (decide ((0 : Nat) + List.length y1 ≤ List.length y1)) (
       ((List.length (PS.aParams p) = List.length (PS.aParams p)) ∧ 
       ((List.length (PS.out p) = List.length (PS.out p)) ∧ 
       ((List.length (DS.b y0) = List.length (DS.b y0)) ∧ 
       m29 p y0 (List.take (List.length y1) y1) (fun y2 y3 => 
        br (decide (b = (24 : Int))) (
         ((List.length (PS.aParams y2) = List.length (PS.aParams y2)) ∧ 
         ((List.length (PS.out y2) = List.length (PS.out y2)) ∧ 
         ((List.length (DS.b y3) = List.length (DS.b y3)) ∧ 
         m48 { made := PS.made y2, state := (0 : Int), aKind := PS.aKind y2, aRune := PS.aRune y2, aFinal := PS.aFinal y2, aPrivate := PS.aPrivate y2, aParams := PS.aParams y2, aInter := PS.aInter y2, aText := PS.aText y2, many := PS.many y2, out := PS.out y2 } y3 b (fun y4 y5 => K y4 y5))))) (
         br (decide (b = (26 : Int))) (
          ((List.length (PS.aParams y2) = List.length (PS.aParams y2)) ∧ 
          ((List.length (PS.out y2) = List.length (PS.out y2)) ∧ 
          ((List.length (DS.b y3) = List.length (DS.b y3)) ∧ 
          m48 { made := PS.made y2, state := (0 : Int), aKind := PS.aKind y2, aRune := PS.aRune y2, aFinal := PS.aFinal y2, aPrivate := PS.aPrivate y2, aParams := PS.aParams y2, aInter := PS.aInter y2, aText := PS.aText y2, many := PS.many y2, out := PS.out y2 } y3 b (fun y6 y7 => K y6 y7))))) (
          br (decide (b = (27 : Int))) (
           br (decide (PS.state y2 = (12 : Int))) (
            ((List.length (PS.aParams y2) = List.length (PS.aParams y2)) ∧ 
            ((List.length (PS.out y2) = List.length (PS.out y2)) ∧ 
            ((List.length (DS.b y3) = List.length (DS.b y3)) ∧ 
            m49 y2 y3 (5 : Int) (fun y8 y9 => K { y8 with state := (1 : Int), aKind := (0 : Int), aRune := (0 : Int), aFinal := (0 : Int), aPrivate := (0 : Int), aParams := [], aInter := { data := #[] }, aText := { data := #[] }, many := (0 : Int) } y9))))) (
            br (decide (PS.state y2 = (11 : Int))) (
             ((List.length (PS.aParams y2) = List.length (PS.aParams y2)) ∧ 
             ((List.length (PS.out y2) = List.length (PS.out y2)) ∧ 
             ((List.length (DS.b y3) = List.length (DS.b y3)) ∧ 
             m49 y2 y3 (6 : Int) (fun y10 y11 => K { y10 with state := (1 : Int), aKind := (0 : Int), aRune := (0 : Int), aFinal := (0 : Int), aPrivate := (0 : Int), aParams := [], aInter := { data := #[] }, aText := { data := #[] }, many := (0 : Int) } y11))))) (K { y2 with state := (1 : Int), aKind := (0 : Int), aRune := (0 : Int), aFinal := (0 : Int), aPrivate := (0 : Int), aParams := [], aInter := { data := #[] }, aText := { data := #[] }, many := (0 : Int) } y3))) (
           br (decide (PS.state y2 = (0 : Int))) (
            ((List.length (PS.aParams y2) = List.length (PS.aParams y2)) ∧ 
            ((List.length (PS.out y2) = List.length (PS.out y2)) ∧ 
            ((List.length (DS.b y3) = List.length (DS.b y3)) ∧ 
            m50 y2 y3 b (fun y12 y13 => K y12 y13))))) (
            br (decide (PS.state y2 = (12 : Int))) (
             ((List.length (PS.aParams y2) = List.length (PS.aParams y2)) ∧ 
             ((List.length (PS.out y2) = List.length (PS.out y2)) ∧ 
             ((List.length (DS.b y3) = List.length (DS.b y3)) ∧ 
             m51 y2 y3 b (fun y14 y15 => K y14 y15))))) (
             br (decide (PS.state y2 = (11 : Int))) (
              ((List.length (PS.aParams y2) = List.length (PS.aParams y2)) ∧ 
              ((List.length (PS.out y2) = List.length (PS.out y2)) ∧ 
              ((List.length (DS.b y3) = List.length (DS.b y3)) ∧ 
              m51 y2 y3 b (fun y16 y17 => K y16 y17))))) (
              br (decide (PS.state y2 = (13 : Int))) (
               ((List.length (PS.aParams y2) = List.length (PS.aParams y2)) ∧ 
               ((List.length (PS.out y2) = List.length (PS.out y2)) ∧ 
               ((List.length (DS.b y3) = List.length (DS.b y3)) ∧ 
               m51 y2 y3 b (fun y18 y19 => K y18 y19))))) (
               br (decide ((128 : Int) ≤ b)) (K y2 y3) (
                br (decide (b < (32 : Int))) (
                 br (decide (PS.state y2 < (7 : Int))) (
                  ((List.length (PS.aParams y2) = List.length (PS.aParams y2)) ∧ 
                  ((List.length (PS.out y2) = List.length (PS.out y2)) ∧ 
                  ((List.length (DS.b y3) = List.length (DS.b y3)) ∧ 
                  m48 y2 y3 b (fun y20 y21 => K y20 y21))))) (K y2 y3)) (
                 br (decide (PS.state y2 = (1 : Int))) (
                  ((List.length (PS.aParams y2) = List.length (PS.aParams y2)) ∧ 
                  ((List.length (PS.out y2) = List.length (PS.out y2)) ∧ 
                  ((List.length (DS.b y3) = List.length (DS.b y3)) ∧ 
                  m52 y2 y3 b (fun y22 y23 => K y22 y23))))) (
                  br (decide (PS.state y2 = (2 : Int))) (
                   ((List.length (PS.aParams y2) = List.length (PS.aParams y2)) ∧ 
                   ((List.length (PS.out y2) = List.length (PS.out y2)) ∧ 
                   ((List.length (DS.b y3) = List.length (DS.b y3)) ∧ 
                   m52 y2 y3 b (fun y24 y25 => K y24 y25))))) (
                   ((List.length (PS.aParams y2) = List.length (PS.aParams y2)) ∧ 
                   ((List.length (PS.out y2) = List.length (PS.out y2)) ∧ 
                   ((List.length (DS.b y3) = List.length (DS.b y3)) ∧ 
                   m53 y2 y3 b (fun y26 y27 => K y26 y27))))))))))))))))))))))) (
      br (decide (b = (24 : Int))) (
       ((List.length (PS.aParams p) = List.length (PS.aParams p)) ∧ 
       ((List.length (PS.out p) = List.length (PS.out p)) ∧ 
       ((List.length (DS.b d) = List.length (DS.b d)) ∧ 
       m48 { made := PS.made p, state := (0 : Int), aKind := PS.aKind p, aRune := PS.aRune p, aFinal := PS.aFinal p, aPrivate := PS.aPrivate p, aParams := PS.aParams p, aInter := PS.aInter p, aText := PS.aText p, many := PS.many p, out := PS.out p } d b (fun y28 y29 => K y28 y29))))) (
       br (decide (b = (26 : Int))) (
        ((List.length (PS.aParams p) = List.length (PS.aParams p)) ∧ 
        ((List.length (PS.out p) = List.length (PS.out p)) ∧ 
        ((List.length (DS.b d) = List.length (DS.b d)) ∧ 
        m48 { made := PS.made p, state := (0 : Int), aKind := PS.aKind p, aRune := PS.aRune p, aFinal := PS.aFinal p, aPrivate := PS.aPrivate p, aParams := PS.aParams p, aInter := PS.aInter p, aText := PS.aText p, many := PS.many p, out := PS.out p } d b (fun y30 y31 => K y30 y31))))) (
        br (decide (b = (27 : Int))) (
         br (decide (PS.state p = (12 : Int))) (
          ((List.length (PS.aParams p) = List.length (PS.aParams p)) ∧ 
          ((List.length (PS.out p) = List.length (PS.out p)) ∧ 
          ((List.length (DS.b d) = List.length (DS.b d)) ∧ 
          m49 p d (5 : Int) (fun y32 y33 => K { y32 with state := (1 : Int), aKind := (0 : Int), aRune := (0 : Int), aFinal := (0 : Int), aPrivate := (0 : Int), aParams := [], aInter := { data := #[] }, aText := { data := #[] }, many := (0 : Int) } y33))))) (
          br (decide (PS.state p = (11 : Int))) (
           ((List.length (PS.aParams p) = List.length (PS.aParams p)) ∧ 
           ((List.length (PS.out p) = List.length (PS.out p)) ∧ 
           ((List.length (DS.b d) = List.length (DS.b d)) ∧ 
           m49 p d (6 : Int) (fun y34 y35 => K { y34 with state := (1 : Int), aKind := (0 : Int), aRune := (0 : Int), aFinal := (0 : Int), aPrivate := (0 : Int), aParams := [], aInter := { data := #[] }, aText := { data := #[] }, many := (0 : Int) } y35))))) (K { p with state := (1 : Int), aKind := (0 : Int), aRune := (0 : Int), aFinal := (0 : Int), aPrivate := (0 : Int), aParams := [], aInter := { data := #[] }, aText := { data := #[] }, many := (0 : Int) } d))) (
         br (decide (PS.state p = (0 : Int))) (
          ((List.length (PS.aParams p) = List.length (PS.aParams p)) ∧ 
          ((List.length (PS.out p) = List.length (PS.out p)) ∧ 
          ((List.length (DS.b d) = List.length (DS.b d)) ∧ 
          m50 p d b (fun y36 y37 => K y36 y37))))) (
          br (decide (PS.state p = (12 : Int))) (
           ((List.length (PS.aParams p) = List.length (PS.aParams p)) ∧ 
           ((List.length (PS.out p) = List.length (PS.out p)) ∧ 
           ((List.length (DS.b d) = List.length (DS.b d)) ∧ 
           m51 p d b (fun y38 y39 => K y38 y39))))) (
           br (decide (PS.state p = (11 : Int))) (
            ((List.length (PS.aParams p) = List.length (PS.aParams p)) ∧ 
            ((List.length (PS.out p) = List.length (PS.out p)) ∧ 
            ((List.length (DS.b d) = List.length (DS.b d)) ∧ 
            m51 p d b (fun y40 y41 => K y40 y41))))) (
            br (decide (PS.state p = (13 : Int))) (
             ((List.length (PS.aParams p) = List.length (PS.aParams p)) ∧ 
             ((List.length (PS.out p) = List.length (PS.out p)) ∧ 
             ((List.length (DS.b d) = List.length (DS.b d)) ∧ 
             m51 p d b (fun y42 y43 => K y42 y43))))) (
             br (decide ((128 : Int) ≤ b)) (K p d) (
              br (decide (b < (32 : Int))) (
               br (decide (PS.state p < (7 : Int))) (
                ((List.length (PS.aParams p) = List.length (PS.aParams p)) ∧ 
                ((List.length (PS.out p) = List.length (PS.out p)) ∧ 
                ((List.length (DS.b d) = List.length (DS.b d)) ∧ 
                m48 p d b (fun y44 y45 => K y44 y45))))) (K p d)) (
               br (decide (PS.state p = (1 : Int))) (
                ((List.length (PS.aParams p) = List.length (PS.aParams p)) ∧ 
                ((List.length (PS.out p) = List.length (PS.out p)) ∧ 
                ((List.length (DS.b d) = List.length (DS.b d)) ∧ 
                m52 p d b (fun y46 y47 => K y46 y47))))) (
                br (decide (PS.state p = (2 : Int))) (
                 ((List.length (PS.aParams p) = List.length (PS.aParams p)) ∧ 
                 ((List.length (PS.out p) = List.length (PS.out p)) ∧ 
                 ((List.length (DS.b d) = List.length (DS.b d)) ∧ 
                 m52 p d b (fun y48 y49 => K y48 y49))))) (
                 ((List.length (PS.aParams p) = List.length (PS.aParams p)) ∧ 
                 ((List.length (PS.out p) = List.length (PS.out p)) ∧ 
                 ((List.length (DS.b d) = List.length (DS.b d)) ∧ 
                 m53 p d b (fun y50 y51 => K y50 y51))))))))))))))))) (
     br (decide (b = (24 : Int))) (
      ((List.length (PS.aParams p) = List.length (PS.aParams p)) ∧ 
      ((List.length (PS.out p) = List.length (PS.out p)) ∧ 
      ((List.length (DS.b d) = List.length (DS.b d)) ∧ 
      m48 { made := PS.made p, state := (0 : Int), aKind := PS.aKind p, aRune := PS.aRune p, aFinal := PS.aFinal p, aPrivate := PS.aPrivate p, aParams := PS.aParams p, aInter := PS.aInter p, aText := PS.aText p, many := PS.many p, out := PS.out p } d b (fun y52 y53 => K y52 y53))))) (
      br (decide (b = (26 : Int))) (
       ((List.length (PS.aParams p) = List.length (PS.aParams p)) ∧ 
       ((List.length (PS.out p) = List.length (PS.out p)) ∧ 
       ((List.length (DS.b d) = List.length (DS.b d)) ∧ 
       m48 { made := PS.made p, state := (0 : Int), aKind := PS.aKind p, aRune := PS.aRune p, aFinal := PS.aFinal p, aPrivate := PS.aPrivate p, aParams := PS.aParams p, aInter := PS.aInter p, aText := PS.aText p, many := PS.many p, out := PS.out p } d b (fun y54 y55 => K y54 y55))))) (
       br (decide (b = (27 : Int))) (
        br (decide (PS.state p = (12 : Int))) (
         ((List.length (PS.aParams p) = List.length (PS.aParams p)) ∧ 
         ((List.length (PS.out p) = List.length (PS.out p)) ∧ 
         ((List.length (DS.b d) = List.length (DS.b d)) ∧ 
         m49 p d (5 : Int) (fun y56 y57 => K { y56 with state := (1 : Int), aKind := (0 : Int), aRune := (0 : Int), aFinal := (0 : Int), aPrivate := (0 : Int), aParams := [], aInter := { data := #[] }, aText := { data := #[] }, many := (0 : Int) } y57))))) (
         br (decide (PS.state p = (11 : Int))) (
          ((List.length (PS.aParams p) = List.length (PS.aParams p)) ∧ 
          ((List.length (PS.out p) = List.length (PS.out p)) ∧ 
          ((List.length (DS.b d) = List.length (DS.b d)) ∧ 
          m49 p d (6 : Int) (fun y58 y59 => K { y58 with state := (1 : Int), aKind := (0 : Int), aRune := (0 : Int), aFinal := (0 : Int), aPrivate := (0 : Int), aParams := [], aInter := { data := #[] }, aText := { data := #[] }, many := (0 : Int) } y59))))) (K { p with state := (1 : Int), aKind := (0 : Int), aRune := (0 : Int), aFinal := (0 : Int), aPrivate := (0 : Int), aParams := [], aInter := { data := #[] }, aText := { data := #[] }, many := (0 : Int) } d))) (
        br (decide (PS.state p = (0 : Int))) (
         ((List.length (PS.aParams p) = List.length (PS.aParams p)) ∧ 
         ((List.length (PS.out p) = List.length (PS.out p)) ∧ 
         ((List.length (DS.b d) = List.length (DS.b d)) ∧ 
         m50 p d b (fun y60 y61 => K y60 y61))))) (
         br (decide (PS.state p = (12 : Int))) (
          ((List.length (PS.aParams p) = List.length (PS.aParams p)) ∧ 
          ((List.length (PS.out p) = List.length (PS.out p)) ∧ 
          ((List.length (DS.b d) = List.length (DS.b d)) ∧ 
          m51 p d b (fun y62 y63 => K y62 y63))))) (
          br (decide (PS.state p = (11 : Int))) (
           ((List.length (PS.aParams p) = List.length (PS.aParams p)) ∧ 
           ((List.length (PS.out p) = List.length (PS.out p)) ∧ 
           ((List.length (DS.b d) = List.length (DS.b d)) ∧ 
           m51 p d b (fun y64 y65 => K y64 y65))))) (
           br (decide (PS.state p = (13 : Int))) (
            ((List.length (PS.aParams p) = List.length (PS.aParams p)) ∧ 
            ((List.length (PS.out p) = List.length (PS.out p)) ∧ 
            ((List.length (DS.b d) = List.length (DS.b d)) ∧ 
            m51 p d b (fun y66 y67 => K y66 y67))))) (
            br (decide ((128 : Int) ≤ b)) (K p d) (
             br (decide (b < (32 : Int))) (
              br (decide (PS.state p < (7 : Int))) (
               ((List.length (PS.aParams p) = List.length (PS.aParams p)) ∧ 
               ((List.length (PS.out p) = List.length (PS.out p)) ∧ 
               ((List.length (DS.b d) = List.length (DS.b d)) ∧ 
               m48 p d b (fun y68 y69 => K y68 y69))))) (K p d)) (
              br (decide (PS.state p = (1 : Int))) (
               ((List.length (PS.aParams p) = List.length (PS.aParams p)) ∧ 
               ((List.length (PS.out p) = List.length (PS.out p)) ∧ 
               ((List.length (DS.b d) = List.length (DS.b d)) ∧ 
               m52 p d b (fun y70 y71 => K y70 y71))))) (
               br (decide (PS.state p = (2 : Int))) (
                ((List.length (PS.aParams p) = List.length (PS.aParams p)) ∧ 
                ((List.length (PS.out p) = List.length (PS.out p)) ∧ 
                ((List.length (DS.b d) = List.length (DS.b d)) ∧ 
                m52 p d b (fun y72 y73 => K y72 y73))))) (
                ((List.length (PS.aParams p) = List.length (PS.aParams p)) ∧ 
                ((List.length (PS.out p) = List.length (PS.out p)) ∧ 
                ((List.length (DS.b d) = List.length (DS.b d)) ∧ 
                m53 p d b (fun y74 y75 => K y74 y75))))))))))))))))
def F35 : AM.Form := ⟨[.p 0 0, .int .u8], [.cells 53 [.bool, .int .i64, .p 1 0, .int .i64, .int .i32, .int .u8, .int .u8, .sl 3, .str, .str, .int .i64, .sl 4], .cells 71 [.bool, .sl 2], .seq 5 (.int .u8), .seq 3 (.int .i64), .seq 35 (.pair (.int .i64) (.pair (.int .i32) (.pair (.int .u8) (.pair (.int .u8) (.pair (.slice (.int .i64)) (.pair .str (.pair .str .unit)))))))]⟩
noncomputable def mm35 (ds : List Dat) (K : AV → AH → Prop) : Prop := m35 ⟨(dat ds 1).toBool, (dat ds 2).toInt, (dat ds 3).toInt, (dat ds 4).toInt, (dat ds 5).toInt, (dat ds 6).toInt, (dat ds 12).toList, (dat ds 7).toStr, (dat ds 8).toStr, (dat ds 9).toInt, (dat ds 13).toList⟩ ⟨(dat ds 10).toBool, (dat ds 11).toList⟩ ((dat ds 0).toInt) (fun rp rd => K (.tup []) ⟨[.cells 53 [.c (.bool rp.made), .c (.int .i64 rp.state), .p 1 0, .c (.int .i64 rp.aKind), .c (.int .i32 rp.aRune), .c (.int .u8 rp.aFinal), .c (.int .u8 rp.aPrivate), .sl 3 0 rp.aParams.length, .c (.string rp.aInter), .c (.string rp.aText), .c (.int .i64 rp.many), .sl 4 0 rp.out.length], .cells 71 [.c (.bool rd.made), .sl 2 0 rd.b.length], .seq 5 (.int .u8) rd.b, .seq 3 (.int .i64) rp.aParams, .seq 35 (.pair (.int .i64) (.pair (.int .i32) (.pair (.int .u8) (.pair (.int .u8) (.pair (.slice (.int .i64)) (.pair .str (.pair .str .unit))))))) rp.out], []⟩)
theorem t35 (ds : List Dat) (K : AV → AH → Prop) : callA Tryd.prog tys GG53 1000 35 (F35.fr ds) (F35.hp ds) (fun v h' => endK Tryd.prog [] .keep (F35.hp ds) (F35.fr ds) v h' K) = mm35 ds K := by kernel_rfl
noncomputable def R35 : CallT := ruleF Tryd.prog [.keep, .keep] [] F35 mm35
theorem ok35 : CallOK Tryd.prog 35 R35 := ruleF_ok sGG53 t35
noncomputable def cs35 : List (FuncId × CallT) := (35, R35) :: cs53
theorem cs35_ok : CallsOK Tryd.prog cs35 := .cons ok35 cs53_ok
noncomputable def GG35 : Rules := mkG [] cs35 ls29_1
theorem sGG35 : Sound Tryd.prog tys GG35 := mk_sound mixed tysOK names (by kernel_rfl) cs35_ok ls29_1_ok
noncomputable def l17_5 : Nat → PS → DS → List Dat → Int → Int → (PS → DS → Prop) → Prop
  | 0, _, _, _, _, _, _ => False
  | fu + 1, p, d, xs, n, n2, E0 =>
    br (decide (n2 < n)) (
     req (decide ((0 : Int) ≤ n2) && decide (n2 < (↑(List.length xs) : Int))) (
     req (decide (Int.toNat n2 < List.length xs)) (
     ((List.length (PS.aParams p) = List.length (PS.aParams p)) ∧ 
     ((List.length (PS.out p) = List.length (PS.out p)) ∧ 
     ((List.length (DS.b d) = List.length (DS.b d)) ∧ 
     m35 p d (Dat.toInt (List.getD xs (Int.toNat n2) default)) (fun y0 y1 => 
      req (inR IntKind.i64 (n2 + (1 : Int))) (((List.length (PS.aParams y0)) = List.length (PS.aParams y0) ∧ ((List.length (PS.out y0)) = List.length (PS.out y0) ∧ ((List.length (DS.b y1)) = List.length (DS.b y1) ∧ l17_5 fu y0 y1 xs n (n2 + (1 : Int)) E0))))))))))) (E0 p d)
def F17_5 : AM.Form := ⟨mkF 31 [(0, .p 0 0), (13, .ro (.int .u8)), (14, .int .i64), (15, .int .i64)], [.cells 53 [.bool, .int .i64, .p 1 0, .int .i64, .int .i32, .int .u8, .int .u8, .sl 3, .str, .str, .int .i64, .sl 4], .cells 71 [.bool, .sl 2], .seq 5 (.int .u8), .seq 3 (.int .i64), .seq 35 (.pair (.int .i64) (.pair (.int .i32) (.pair (.int .u8) (.pair (.int .u8) (.pair (.slice (.int .i64)) (.pair .str (.pair .str .unit)))))))]⟩
noncomputable def mm17_5 (n : Nat) (ds : List Dat) (Q : AExit → List AV → AH → Prop) : Prop := l17_5 n ⟨(dat ds 3).toBool, (dat ds 4).toInt, (dat ds 5).toInt, (dat ds 6).toInt, (dat ds 7).toInt, (dat ds 8).toInt, (dat ds 14).toList, (dat ds 9).toStr, (dat ds 10).toStr, (dat ds 11).toInt, (dat ds 15).toList⟩ ⟨(dat ds 12).toBool, (dat ds 13).toList⟩ ((dat ds 0).toList) ((dat ds 1).toInt) ((dat ds 2).toInt) (fun rp rd => Q (AExit.exit 0) (mkAV 31 [(0, .p 0 0)]) ⟨[.cells 53 [.c (.bool rp.made), .c (.int .i64 rp.state), .p 1 0, .c (.int .i64 rp.aKind), .c (.int .i32 rp.aRune), .c (.int .u8 rp.aFinal), .c (.int .u8 rp.aPrivate), .sl 3 0 rp.aParams.length, .c (.string rp.aInter), .c (.string rp.aText), .c (.int .i64 rp.many), .sl 4 0 rp.out.length], .cells 71 [.c (.bool rd.made), .sl 2 0 rd.b.length], .seq 5 (.int .u8) rd.b, .seq 3 (.int .i64) rp.aParams, .seq 35 (.pair (.int .i64) (.pair (.int .i32) (.pair (.int .u8) (.pair (.int .u8) (.pair (.slice (.int .i64)) (.pair .str (.pair .str .unit))))))) rp.out], []⟩)
theorem t17_5 (n : Nat) (ds : List Dat) (Q : AExit → List AV → AH → Prop) : wpA Tryd.prog tys GG35 1000 17 (theLoop Tryd.prog 17 5) (fun e f' h' => endF Tryd.prog ((fun _ => []) e) ((fun e => match e with | .normal => ⟨[0, 13, 14, 15], []⟩ | .exit 0 => ⟨[0], []⟩ | _ => ⟨[], []⟩) e) ((fun e => match e with | .normal => [] | .exit 0 => [] | _ => []) e) (F17_5.hp ds) f' h' fun f2 h2 => match e with
      | .normal => locL F17_5 (mm17_5 n) f2 h2 Q
      | e => Q e f2 h2) (F17_5.fr ds) (F17_5.hp ds) = mm17_5 (n + 1) ds Q := by kernel_rfl
noncomputable def R17_5 : LoopT := headF Tryd.prog [] ⟨[0, 13, 14, 15], []⟩ [] fun f h Q => ∃ n, locL F17_5 (mm17_5 n) f h Q
theorem ok17_5 : LoopOK Tryd.prog (theLoop Tryd.prog 17 5) R17_5 := ruleL_ok sGG35 (by kernel_rfl) mm17_5 (fun _ _ => rfl) t17_5
noncomputable def ls17_5 : List (FuncId × Nat × LoopT) := (17, 5, R17_5) :: ls29_1
theorem ls17_5_ok : LoopsOK Tryd.prog ls17_5 := .cons (by kernel_rfl) ok17_5 ls29_1_ok
noncomputable def GG17_5 : Rules := mkG [] cs35 ls17_5
theorem sGG17_5 : Sound Tryd.prog tys GG17_5 := mk_sound mixed tysOK names (by kernel_rfl) cs35_ok ls17_5_ok
noncomputable def m17 (p : PS) (d : DS) (b : List Dat) (K : PS → DS → List Dat → Prop) : Prop :=
    br (!PS.made p) (K p d []) (
     (∃ y0, 
     ((List.length (PS.aParams p) = List.length (PS.aParams p)) ∧ 
     (((0 : Nat) = (0 : Nat)) ∧ 
     ((List.length (DS.b d) = List.length (DS.b d)) ∧ 
     l17_5 y0 { made := PS.made p, state := PS.state p, aKind := PS.aKind p, aRune := PS.aRune p, aFinal := PS.aFinal p, aPrivate := PS.aPrivate p, aParams := PS.aParams p, aInter := PS.aInter p, aText := PS.aText p, many := PS.many p, out := [] } d b (↑(List.length b) : Int) (0 : Int) (fun y1 y2 => K { y1 with out := [] } y2 (PS.out y1)))))))
def F17 : AM.Form := ⟨[.p 0 0, .ro (.int .u8)], [.cells 53 [.bool, .int .i64, .p 1 0, .int .i64, .int .i32, .int .u8, .int .u8, .sl 3, .str, .str, .int .i64, .sl 4], .cells 71 [.bool, .sl 2], .seq 5 (.int .u8), .seq 3 (.int .i64), .seq 35 (.pair (.int .i64) (.pair (.int .i32) (.pair (.int .u8) (.pair (.int .u8) (.pair (.slice (.int .i64)) (.pair .str (.pair .str .unit)))))))]⟩
noncomputable def mm17 (ds : List Dat) (K : AV → AH → Prop) : Prop := m17 ⟨(dat ds 1).toBool, (dat ds 2).toInt, (dat ds 3).toInt, (dat ds 4).toInt, (dat ds 5).toInt, (dat ds 6).toInt, (dat ds 12).toList, (dat ds 7).toStr, (dat ds 8).toStr, (dat ds 9).toInt, (dat ds 13).toList⟩ ⟨(dat ds 10).toBool, (dat ds 11).toList⟩ ((dat ds 0).toList) (fun rp rd rl => K (.sl 5 0 rl.length) ⟨[.cells 53 [.c (.bool rp.made), .c (.int .i64 rp.state), .p 1 0, .c (.int .i64 rp.aKind), .c (.int .i32 rp.aRune), .c (.int .u8 rp.aFinal), .c (.int .u8 rp.aPrivate), .sl 3 0 rp.aParams.length, .c (.string rp.aInter), .c (.string rp.aText), .c (.int .i64 rp.many), .sl 4 0 rp.out.length], .cells 71 [.c (.bool rd.made), .sl 2 0 rd.b.length], .seq 5 (.int .u8) rd.b, .seq 3 (.int .i64) rp.aParams, .seq 35 (.pair (.int .i64) (.pair (.int .i32) (.pair (.int .u8) (.pair (.int .u8) (.pair (.slice (.int .i64)) (.pair .str (.pair .str .unit))))))) rp.out, .seq 35 (.pair (.int .i64) (.pair (.int .i32) (.pair (.int .u8) (.pair (.int .u8) (.pair (.slice (.int .i64)) (.pair .str (.pair .str .unit))))))) rl], []⟩)
theorem t17 (ds : List Dat) (K : AV → AH → Prop) : callA Tryd.prog tys GG17_5 1000 17 (F17.fr ds) (F17.hp ds) (fun v h' => endK Tryd.prog [] (.row 35 (.pair (.int .i64) (.pair (.int .i32) (.pair (.int .u8) (.pair (.int .u8) (.pair (.slice (.int .i64)) (.pair .str (.pair .str .unit)))))))) (F17.hp ds) (F17.fr ds) v h' K) = mm17 ds K := by kernel_rfl
noncomputable def R17 : CallT := ruleF Tryd.prog [.keep, (.ro (.int .u8))] [] F17 mm17
theorem ok17 : CallOK Tryd.prog 17 R17 := ruleF_ok sGG17_5 t17
noncomputable def cs17 : List (FuncId × CallT) := (17, R17) :: cs35
theorem cs17_ok : CallsOK Tryd.prog cs17 := .cons ok17 cs35_ok
noncomputable def GG17 : Rules := mkG [] cs17 ls17_5
theorem sGG17 : Sound Tryd.prog tys GG17 := mk_sound mixed tysOK names (by kernel_rfl) cs17_ok ls17_5_ok
noncomputable def m18 (p : PS) (d : DS) (K : PS → DS → Bool → Prop) : Prop :=
    br (!!PS.made p) (
     br (decide (PS.state p = (0 : Int))) (
      br (!DS.made d) (K p d true) (K p d (decide ((↑(List.length (DS.b d)) : Int) = (0 : Int))))) (K p d false)) (K p d false)
def F18 : AM.Form := ⟨[.p 0 0], [.cells 53 [.bool, .int .i64, .p 1 0, .int .i64, .int .i32, .int .u8, .int .u8, .sl 3, .str, .str, .int .i64, .sl 4], .cells 71 [.bool, .sl 2], .seq 5 (.int .u8), .seq 3 (.int .i64), .seq 35 (.pair (.int .i64) (.pair (.int .i32) (.pair (.int .u8) (.pair (.int .u8) (.pair (.slice (.int .i64)) (.pair .str (.pair .str .unit)))))))]⟩
noncomputable def mm18 (ds : List Dat) (K : AV → AH → Prop) : Prop := m18 ⟨(dat ds 0).toBool, (dat ds 1).toInt, (dat ds 2).toInt, (dat ds 3).toInt, (dat ds 4).toInt, (dat ds 5).toInt, (dat ds 11).toList, (dat ds 6).toStr, (dat ds 7).toStr, (dat ds 8).toInt, (dat ds 12).toList⟩ ⟨(dat ds 9).toBool, (dat ds 10).toList⟩ (fun rp rd rb => K (.c (.bool rb)) ⟨[.cells 53 [.c (.bool rp.made), .c (.int .i64 rp.state), .p 1 0, .c (.int .i64 rp.aKind), .c (.int .i32 rp.aRune), .c (.int .u8 rp.aFinal), .c (.int .u8 rp.aPrivate), .sl 3 0 rp.aParams.length, .c (.string rp.aInter), .c (.string rp.aText), .c (.int .i64 rp.many), .sl 4 0 rp.out.length], .cells 71 [.c (.bool rd.made), .sl 2 0 rd.b.length], .seq 5 (.int .u8) rd.b, .seq 3 (.int .i64) rp.aParams, .seq 35 (.pair (.int .i64) (.pair (.int .i32) (.pair (.int .u8) (.pair (.int .u8) (.pair (.slice (.int .i64)) (.pair .str (.pair .str .unit))))))) rp.out], []⟩)
theorem t18 (ds : List Dat) (K : AV → AH → Prop) : callA Tryd.prog tys GG17 1000 18 (F18.fr ds) (F18.hp ds) (fun v h' => endK Tryd.prog [] .keep (F18.hp ds) (F18.fr ds) v h' K) = mm18 ds K := by kernel_rfl
noncomputable def R18 : CallT := ruleF Tryd.prog [.keep] [] F18 mm18
theorem ok18 : CallOK Tryd.prog 18 R18 := ruleF_ok sGG17 t18
noncomputable def cs18 : List (FuncId × CallT) := (18, R18) :: cs17
theorem cs18_ok : CallsOK Tryd.prog cs18 := .cons ok18 cs17_ok
noncomputable def GG18 : Rules := mkG [] cs18 ls17_5
theorem sGG18 : Sound Tryd.prog tys GG18 := mk_sound mixed tysOK names (by kernel_rfl) cs18_ok ls17_5_ok
noncomputable def m16  (K : PS → DS → Prop) : Prop := K ({ made := true, state := (0 : Int), aKind := (0 : Int), aRune := (0 : Int), aFinal := (0 : Int), aPrivate := (0 : Int), aParams := [], aInter := { data := #[] }, aText := { data := #[] }, many := (0 : Int), out := [] } : PS) ({ made := true, b := [] } : DS)
def F16 : AM.Form := ⟨[], []⟩
noncomputable def mm16 (ds : List Dat) (K : AV → AH → Prop) : Prop := m16  (fun rp rd => K (.p 0 0) ⟨[.cells 53 [.c (.bool rp.made), .c (.int .i64 rp.state), .p 1 0, .c (.int .i64 rp.aKind), .c (.int .i32 rp.aRune), .c (.int .u8 rp.aFinal), .c (.int .u8 rp.aPrivate), .sl 3 0 rp.aParams.length, .c (.string rp.aInter), .c (.string rp.aText), .c (.int .i64 rp.many), .sl 4 0 rp.out.length], .cells 71 [.c (.bool rd.made), .sl 2 0 rd.b.length], .seq 5 (.int .u8) rd.b, .seq 3 (.int .i64) rp.aParams, .seq 35 (.pair (.int .i64) (.pair (.int .i32) (.pair (.int .u8) (.pair (.int .u8) (.pair (.slice (.int .i64)) (.pair .str (.pair .str .unit))))))) rp.out], []⟩)
theorem t16 (ds : List Dat) (K : AV → AH → Prop) : callA Tryd.prog tys GG18 1000 16 (F16.fr ds) (F16.hp ds) (fun v h' => endK Tryd.prog [] .keep (F16.hp ds) (F16.fr ds) v h' K) = mm16 ds K := by kernel_rfl
noncomputable def R16 : CallT := ruleF Tryd.prog [] [] F16 mm16
theorem ok16 : CallOK Tryd.prog 16 R16 := ruleF_ok sGG18 t16
noncomputable def cs16 : List (FuncId × CallT) := (16, R16) :: cs18
theorem cs16_ok : CallsOK Tryd.prog cs16 := .cons ok16 cs18_ok
noncomputable def GG16 : Rules := mkG [] cs16 ls17_5
theorem sGG16 : Sound Tryd.prog tys GG16 := mk_sound mixed tysOK names (by kernel_rfl) cs16_ok ls17_5_ok
noncomputable def m14 (b : List Dat) (K : List Dat → Prop) : Prop :=
    m16 (fun y0 y1 => 
     ((List.length (PS.aParams y0) = List.length (PS.aParams y0)) ∧ 
     ((List.length (PS.out y0) = List.length (PS.out y0)) ∧ 
     ((List.length (DS.b y1) = List.length (DS.b y1)) ∧ 
     m17 y0 y1 b (fun y2 y3 y4 => 
      br (decide (PS.state y2 = (0 : Int))) (
       ((List.length (DS.b y3) = List.length (DS.b y3)) ∧ 
       m30 y3 (fun y5 y6 => 
        req (decide ((0 : Nat) + List.length y6 ≤ List.length y6)) (
        ((List.length (PS.aParams y2) = List.length (PS.aParams y2)) ∧ 
        ((List.length (PS.out y2) = List.length (PS.out y2)) ∧ 
        ((List.length (DS.b y5) = List.length (DS.b y5)) ∧ 
        m29 y2 y5 (List.take (List.length y6) y6) (fun y7 y8 => 
         req (decide ((0 : Nat) + List.length (PS.out y7) ≤ List.length (PS.out y7))) (
         req (appOK y4 (0 : Nat) (List.length y4) (List.length (List.take (List.length (PS.out y7)) (PS.out y7))) (72 : Nat)) (K (dapp y4 (0 : Nat) (List.length y4) (List.take (List.length (PS.out y7)) (PS.out y7))))))))))))) (
       req (decide ((0 : Nat) + List.length (PS.out y2) ≤ List.length (PS.out y2))) (
       req (appOK y4 (0 : Nat) (List.length y4) (List.length (List.take (List.length (PS.out y2)) (PS.out y2))) (72 : Nat)) (K (dapp y4 (0 : Nat) (List.length y4) (List.take (List.length (PS.out y2)) (PS.out y2)))))))))))
def F14 : AM.Form := ⟨[.ro (.int .u8)], []⟩
noncomputable def mm14 (ds : List Dat) (K : AV → AH → Prop) : Prop := m14 ((dat ds 0).toList) (fun rl => K (.sl 0 0 rl.length) ⟨[.seq 35 (.pair (.int .i64) (.pair (.int .i32) (.pair (.int .u8) (.pair (.int .u8) (.pair (.slice (.int .i64)) (.pair .str (.pair .str .unit))))))) rl], []⟩)
theorem t14 (ds : List Dat) (K : AV → AH → Prop) : callA Tryd.prog tys GG16 1000 14 (F14.fr ds) (F14.hp ds) (fun v h' => endK Tryd.prog [] .keep (F14.hp ds) (F14.fr ds) v h' K) = mm14 ds K := by kernel_rfl
noncomputable def R14 : CallT := ruleF Tryd.prog [(.ro (.int .u8))] [] F14 mm14
theorem ok14 : CallOK Tryd.prog 14 R14 := ruleF_ok sGG16 t14
noncomputable def cs14 : List (FuncId × CallT) := (14, R14) :: cs16
theorem cs14_ok : CallsOK Tryd.prog cs14 := .cons ok14 cs16_ok
noncomputable def GG14 : Rules := mkG [] cs14 ls17_5
theorem sGG14 : Sound Tryd.prog tys GG14 := mk_sound mixed tysOK names (by kernel_rfl) cs14_ok ls17_5_ok
end Go.Proofs.YtojdmhfkgkfpaaaDoor
