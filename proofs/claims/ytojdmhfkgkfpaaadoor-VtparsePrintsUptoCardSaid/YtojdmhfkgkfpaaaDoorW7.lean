/- VtparsePrints answers true for every input of bulk at most 1048576; conditions: the second form's bound, the listed tables. -/
import Derived.Test.YtojdmhfkgkfpaaaDoorLz
import Derived.Test.YtojdmhfkgkfpaaaDoorPz
import Derived.Test.YtojdmhfkgkfpaaaDoorCards
import Derived.Test.YtojdmhfkgkfpaaaDoorTie
import Derived.WalkKit
import Derived.ProofKit
import Derived.OpenShut
import Derived.Deep.DeepHandedRow
import Derived.Lib.LaidTab
set_option linter.unusedVariables false
set_option maxRecDepth 100000
namespace Go.Proofs.YtojdmhfkgkfpaaaDoor
open Go.AM Go.LTxt Go.LMem Go.RowKit
noncomputable def p7_r5 (l : List Dat) (r : Int) (xs : List Dat) (n : Int) (n2 : Int) (E0 : List Dat → Int → List Dat → Int → Int → Bool → Prop) : Prop :=
    br (decide ((32 : Int) ≤ r)) (
     br (!decide (r = (127 : Int))) (
      br (decide ((128 : Int) ≤ r)) (
       br (!decide (r ≤ (159 : Int))) (
        br (decide (r < (55296 : Int))) (E0 l r xs n n2 (decide (r ≤ (1114111 : Int)))) (
         br (decide ((57343 : Int) < r)) (E0 l r xs n n2 (decide (r ≤ (1114111 : Int)))) (E0 l r xs n n2 false))) (E0 l r xs n n2 false)) (
       br (decide (r < (55296 : Int))) (E0 l r xs n n2 (decide (r ≤ (1114111 : Int)))) (
        br (decide ((57343 : Int) < r)) (E0 l r xs n n2 (decide (r ≤ (1114111 : Int)))) (E0 l r xs n n2 false)))) (E0 l r xs n n2 false)) (E0 l r xs n n2 false)
def F7_r5 : AM.Form := ⟨mkF 80 [(3, .sl 0), (5, .int .i32), (9, .ro (.int .i32)), (10, .int .i64), (11, .int .i64)], [.seq 21 (.int .i32)]⟩
noncomputable def mm7_r5 (ds : List Dat) (Q : AExit → List AV → AH → Prop) : Prop := p7_r5 ((dat ds 4).toList) ((dat ds 0).toInt) ((dat ds 1).toList) ((dat ds 2).toInt) ((dat ds 3).toInt) (fun rl rn rxs rn2 rn3 rb => Q .normal (mkAV 80 [(3, .sl 0 0 rl.length), (5, .c (.int .i32 rn)), (9, .ro (.int .i32) rxs), (10, .c (.int .i64 rn2)), (11, .c (.int .i64 rn3)), (41, .c (.bool rb))]) ⟨[.seq 21 (.int .i32) rl], []⟩)
theorem t7_r5 (ds : List Dat) (Q : AExit → List AV → AH → Prop) : wpA Tryd.prog tys GG3 1000 7 (theReg Tryd.prog 7 5) (fun e f' h' => endF Tryd.prog ((fun _ => []) e) ((fun _ => ⟨[3, 5, 9, 10, 11, 41], []⟩) e) ((fun _ => []) e) (F7_r5.hp ds) f' h' fun f2 h2 => Q e f2 h2) (F7_r5.fr ds) (F7_r5.hp ds) = mm7_r5 ds Q := by kernel_rfl
noncomputable def R7_r5 : LoopT := headF Tryd.prog [] ⟨[3, 5, 9, 10, 11], []⟩ [(3, .row 21 (.int .i32))] (locL F7_r5 mm7_r5)
theorem ok7_r5 : RegOK Tryd.prog (theReg Tryd.prog 7 5) R7_r5 := ruleP_ok sGG3 (by kernel_rfl) mm7_r5 t7_r5
noncomputable def rs7_r5 : List (FuncId × Nat × LoopT) := (7, 5, R7_r5) :: []
theorem rs7_r5_ok : RegsOK Tryd.prog rs7_r5 := .cons (by kernel_rfl) ok7_r5 .nil
noncomputable def GG7_r5 : Rules := mkG [] cs3 ls13_4 rs7_r5
theorem sGG7_r5 : Sound Tryd.prog tys GG7_r5 := mk_sound mixed tysOK names (by kernel_rfl) cs3_ok ls13_4_ok rs7_r5_ok
noncomputable def l7_3 : Nat → List Dat → List Dat → Int → Int → (List Dat → Prop) → Prop
  | 0, _, _, _, _, _ => False
  | fu + 1, l, xs, n, n2, E0 =>
    br (decide (n2 < n)) (
     req (decide ((0 : Int) ≤ n2) && decide (n2 < (↑(List.length xs) : Int))) (
     req (decide (Int.toNat n2 < List.length xs)) (
     ((List.length l = List.length l) ∧ 
     p7_r5 l (Dat.toInt (List.getD xs (Int.toNat n2) default)) xs n n2 (fun y0 y1 y2 y3 y4 y5 => 
      br (y5) (
       req (appOK y0 (0 : Nat) (List.length y0) (1 : Nat) (4 : Nat)) (
       req (inR IntKind.i64 (y4 + (1 : Int))) (((List.length (dapp y0 (0 : Nat) (List.length y0) [Dat.int y1])) = List.length (dapp y0 (0 : Nat) (List.length y0) [Dat.int y1]) ∧ l7_3 fu (dapp y0 (0 : Nat) (List.length y0) [Dat.int y1]) y2 y3 (y4 + (1 : Int)) E0)))) (
       req (inR IntKind.i64 (y4 + (1 : Int))) (((List.length y0) = List.length y0 ∧ l7_3 fu y0 y2 y3 (y4 + (1 : Int)) E0)))))))) (E0 l)
def F7_3 : AM.Form := ⟨mkF 80 [(3, .sl 0), (9, .ro (.int .i32)), (10, .int .i64), (11, .int .i64)], [.seq 21 (.int .i32)]⟩
noncomputable def mm7_3 (n : Nat) (ds : List Dat) (Q : AExit → List AV → AH → Prop) : Prop := l7_3 n ((dat ds 3).toList) ((dat ds 0).toList) ((dat ds 1).toInt) ((dat ds 2).toInt) (fun rl => Q (AExit.exit 0) (mkAV 80 [(3, .sl 0 0 rl.length)]) ⟨[.seq 21 (.int .i32) rl], []⟩)
theorem t7_3 (n : Nat) (ds : List Dat) (Q : AExit → List AV → AH → Prop) : wpA Tryd.prog tys GG7_r5 1000 7 (theLoop Tryd.prog 7 3) (fun e f' h' => endF Tryd.prog ((fun _ => []) e) ((fun e => match e with | .normal => ⟨[3, 9, 10, 11], []⟩ | .exit 0 => ⟨[3], []⟩ | _ => ⟨[], []⟩) e) ((fun e => match e with | .normal => [(3, .row 21 (.int .i32))] | .exit 0 => [(3, .row 21 (.int .i32))] | _ => []) e) (F7_3.hp ds) f' h' fun f2 h2 => match e with
      | .normal => locL F7_3 (mm7_3 n) f2 h2 Q
      | e => Q e f2 h2) (F7_3.fr ds) (F7_3.hp ds) = mm7_3 (n + 1) ds Q := by kernel_rfl
noncomputable def R7_3 : LoopT := headF Tryd.prog [] ⟨[3, 9, 10, 11], []⟩ [(3, .row 21 (.int .i32))] fun f h Q => ∃ n, locL F7_3 (mm7_3 n) f h Q
theorem ok7_3 : LoopOK Tryd.prog (theLoop Tryd.prog 7 3) R7_3 := ruleL_ok sGG7_r5 (by kernel_rfl) mm7_3 (fun _ _ => rfl) t7_3
noncomputable def ls7_3 : List (FuncId × Nat × LoopT) := (7, 3, R7_3) :: ls13_4
theorem ls7_3_ok : LoopsOK Tryd.prog ls7_3 := .cons (by kernel_rfl) ok7_3 ls13_4_ok
noncomputable def GG7_3 : Rules := mkG [] cs3 ls7_3 rs7_r5
theorem sGG7_3 : Sound Tryd.prog tys GG7_3 := mk_sound mixed tysOK names (by kernel_rfl) cs3_ok ls7_3_ok rs7_r5_ok
noncomputable def l7_12 : Nat → List Dat → List Dat → Int → Int → (Prop) → (Bool → Prop) → Prop
  | 0, _, _, _, _, _, _ => False
  | fu + 1, l, l2, n, n2, E2, R_ =>
    br (decide (n2 < n)) (
     req (decide ((0 : Int) ≤ n2) && decide (n2 < (↑(List.length l2) : Int))) (
     req (decide ((0 : Nat) + Int.toNat n2 < List.length l2)) (
     br (!decide (Dat.toInt (Dat.fst (List.getD l2 ((0 : Nat) + Int.toNat n2) default)) = (1 : Int))) (R_ false) (
      req (decide ((0 : Int) ≤ n2) && decide (n2 < (↑(List.length l) : Int))) (
      req (decide ((0 : Nat) + Int.toNat n2 < List.length l)) (
      br (!decide (Dat.toInt (Dat.fst (Dat.snd (List.getD l2 ((0 : Nat) + Int.toNat n2) default))) = Dat.toInt (List.getD l ((0 : Nat) + Int.toNat n2) default))) (R_ false) (
       req (inR IntKind.i64 (n2 + (1 : Int))) (((List.length l) = List.length l ∧ ((List.length l2) = List.length l2 ∧ l7_12 fu l l2 n (n2 + (1 : Int)) E2 R_)))))))))) (E2)
def F7_12 : AM.Form := ⟨mkF 80 [(3, .sl 0), (60, .sl 1), (61, .int .i64), (62, .int .i64)], [.seq 21 (.int .i32), .seq 35 (.pair (.int .i64) (.pair (.int .i32) (.pair (.int .u8) (.pair (.int .u8) (.pair (.slice (.int .i64)) (.pair .str (.pair .str .unit)))))))]⟩
noncomputable def mm7_12 (n : Nat) (ds : List Dat) (Q : AExit → List AV → AH → Prop) : Prop := l7_12 n ((dat ds 2).toList) ((dat ds 3).toList) ((dat ds 0).toInt) ((dat ds 1).toInt) (Q (AExit.exit 2) (mkAV 80 []) ⟨[], []⟩) (fun rb => Q AExit.ret (mkAV 80 [(2, .c (.bool rb))]) ⟨[], []⟩)
theorem t7_12 (n : Nat) (ds : List Dat) (Q : AExit → List AV → AH → Prop) : wpA Tryd.prog tys GG7_3 1000 7 (theLoop Tryd.prog 7 12) (fun e f' h' => endF Tryd.prog ((fun _ => []) e) ((fun e => match e with | .normal => ⟨[3, 60, 61, 62], []⟩ | .exit 2 => ⟨[], []⟩ | .ret => ⟨[2], []⟩ | _ => ⟨[], []⟩) e) ((fun e => match e with | .normal => [] | .exit 2 => [] | .ret => [] | _ => []) e) (F7_12.hp ds) f' h' fun f2 h2 => match e with
      | .normal => locL F7_12 (mm7_12 n) f2 h2 Q
      | e => Q e f2 h2) (F7_12.fr ds) (F7_12.hp ds) = mm7_12 (n + 1) ds Q := by kernel_rfl
noncomputable def R7_12 : LoopT := headF Tryd.prog [] ⟨[3, 60, 61, 62], []⟩ [] fun f h Q => ∃ n, locL F7_12 (mm7_12 n) f h Q
theorem ok7_12 : LoopOK Tryd.prog (theLoop Tryd.prog 7 12) R7_12 := ruleL_ok sGG7_3 (by kernel_rfl) mm7_12 (fun _ _ => rfl) t7_12
noncomputable def ls7_12 : List (FuncId × Nat × LoopT) := (7, 12, R7_12) :: ls7_3
theorem ls7_12_ok : LoopsOK Tryd.prog ls7_12 := .cons (by kernel_rfl) ok7_12 ls7_3_ok
noncomputable def GG7_12 : Rules := mkG [] cs3 ls7_12 rs7_r5
theorem sGG7_12 : Sound Tryd.prog tys GG7_12 := mk_sound mixed tysOK names (by kernel_rfl) cs3_ok ls7_12_ok rs7_r5_ok
noncomputable def m7 (l : List Dat) (K : Bool → Prop) : Prop :=
    (∃ y0, 
    (((0 : Nat) = (0 : Nat)) ∧ 
    l7_3 y0 [] l (↑(List.length l) : Int) (0 : Int) (fun y1 => 
     req (decide ((0 : Nat) + List.length y1 ≤ List.length y1)) (
     req (decide ((0 : Nat) + ByteArray.size (runeStrD (List.take (List.length y1) y1)) ≤ List.length (bytesD (runeStrD (List.take (List.length y1) y1))))) (
     m14 (List.take (ByteArray.size (runeStrD (List.take (List.length y1) y1))) (bytesD (runeStrD (List.take (List.length y1) y1)))) (fun y2 => 
      br (!decide ((↑(List.length y2) : Int) = (↑(List.length y1) : Int))) (K false) (
       (∃ y3, 
       ((List.length y1 = List.length y1) ∧ 
       ((List.length y2 = List.length y2) ∧ 
       l7_12 y3 y1 y2 (↑(List.length y2) : Int) (0 : Int) (K true) (fun y4 => K y4)))))))))))
def F7 : AM.Form := ⟨[.ro (.int .i32)], []⟩
noncomputable def mm7 (ds : List Dat) (K : AV → AH → Prop) : Prop := m7 ((dat ds 0).toList) (fun rb => K (.c (.bool rb)) ⟨[], []⟩)
theorem t7 (ds : List Dat) (K : AV → AH → Prop) : callA Tryd.prog tys GG7_12 1000 7 (F7.fr ds) (F7.hp ds) (fun v h' => endK Tryd.prog [] .keep (F7.hp ds) (F7.fr ds) v h' K) = mm7 ds K := by kernel_rfl
noncomputable def R7 : CallT := ruleF Tryd.prog [(.ro (.int .i32))] [] F7 mm7
theorem ok7 : CallOK Tryd.prog 7 R7 := ruleF_ok sGG7_12 t7
noncomputable def cs7 : List (FuncId × CallT) := (7, R7) :: cs3
theorem cs7_ok : CallsOK Tryd.prog cs7 := .cons ok7 cs3_ok
noncomputable def GG7 : Rules := mkG [] cs7 ls7_12 rs7_r5
theorem sGG7 : Sound Tryd.prog tys GG7 := mk_sound mixed tysOK names (by kernel_rfl) cs7_ok ls7_12_ok rs7_r5_ok
end Go.Proofs.YtojdmhfkgkfpaaaDoor

set_option linter.unusedVariables false
set_option linter.unusedSimpArgs false
set_option maxRecDepth 100000
namespace Go.Proofs.YtojdmhfkgkfpaaaDoor
open Go.AM Go.LTxt Go.LMem Go.RowKit
set_option maxHeartbeats 0
theorem b_cons0 (x : UInt8) (l : List UInt8) : b_ (x :: l) 0 = x.toNat := rfl
theorem b_cons1 (x y : UInt8) (l : List UInt8) : b_ (x :: y :: l) 1 = y.toNat := rfl
theorem b_cons2 (x y z : UInt8) (l : List UInt8) : b_ (x :: y :: z :: l) 2 = z.toNat := rfl
theorem b_cons3 (x y z t : UInt8) (l : List UInt8) : b_ (x :: y :: z :: t :: l) 3 = t.toNat := rfl
/-- a head that is begun and not whole is held -/
theorem putD_part {l : List UInt8} {m : Nat} (h : 0 < l.length) (hm : l.length < m) (hh : head l = (l.length, m)) : putD l = ([], l) := by
  refine putD_hold l h ?_
  unfold whole
  rw [hh]
  simp
  omega
/-- a whole one is said -/
theorem putD_whole {l : List UInt8} (h : 0 < l.length) (hh : head l = (l.length, l.length)) : putD l = ([value l], []) := by
  have hw : whole l = true := by
    unfold whole
    rw [hh]
    simp [h]
  have hd : dec l = (value l, l.length) := by
    unfold dec
    rw [hh]
    simp [h]
  rw [putD_step l h hw, hd]
  simp [putD_nil]
theorem need2 {b : Nat} (h0 : 194 ≤ b) (h1 : b ≤ 223) : need b = 2 := by unfold need; simp [h0, h1, show ¬ b < 128 by omega]
theorem need3 {b : Nat} (h0 : 224 ≤ b) (h1 : b ≤ 239) : need b = 3 := by unfold need; simp [h0, h1, show ¬ b < 128 by omega, show ¬ b ≤ 223 by omega]
theorem need4 {b : Nat} (h0 : 240 ≤ b) (h1 : b ≤ 244) : need b = 4 := by unfold need; simp [h0, h1, show ¬ b < 128 by omega, show ¬ b ≤ 223 by omega, show ¬ b ≤ 239 by omega]
theorem contB_of {b : Nat} (h0 : 128 ≤ b) (h1 : b ≤ 191) : contB b = true := by simp [contB, h0, h1]
theorem second_of {a b : Nat} (h0 : 128 ≤ b) (h1 : b ≤ 191) (h2 : a = 224 → 160 ≤ b) (h3 : a = 240 → 144 ≤ b) (h4 : a = 237 → b ≤ 159) (h5 : a = 244 → b ≤ 143) : second a b = true := by
  unfold second
  rw [Bool.and_eq_true]
  refine ⟨decide_eq_true ?_, decide_eq_true ?_⟩
  · split
    · exact h2 ‹_›
    · split
      · exact h3 ‹_›
      · exact h0
  · split
    · exact h4 ‹_›
    · split
      · exact h5 ‹_›
      · exact h1
def encU (n : Int) : List UInt8 := (Utf8.encode n).data.toList
def u8 (n : Nat) : UInt8 := UInt8.ofNat n
theorem u8_nat {n : Nat} (h : n < 256) : (u8 n).toNat = n := by simp [u8, Nat.mod_eq_of_lt h]
theorem u8_int {n : Nat} (h : n < 256) : UInt8.ofNat (Dat.toInt (.int ((u8 n).toNat : Int))).toNat = u8 n := by
  simp only [Dat.toInt, Int.toNat_natCast, u8_nat h]
  rfl
def printable (r : Int) : Bool := decide (32 ≤ r) && !decide (r = 127) && !(decide (128 ≤ r) && decide (r ≤ 159)) && (decide (r < 55296) || decide (57343 < r)) && decide (r ≤ 1114111)
def prAct (r : Int) : Dat := act 1 r 0 0 [] e0 e0
def Xh (l : List UInt8) : X := ⟨0, l, 0, [], 0, e0, e0, 0⟩
theorem step_hi {l : List UInt8} {b : Int} (h : 128 ≤ b) : step (Xh l) b = (Xh (putD (l ++ [UInt8.ofNat b.toNat])).2, prD (iD (putD (l ++ [UInt8.ofNat b.toNat])).1)) := by
  have h0 : (Xh l).st = 0 := rfl
  unfold step
  rw [if_pos h0, if_pos h]
  rfl
theorem prD_nil : prD (iD []) = [] := rfl
theorem prD_say {r : Int} (h : r < 128 ∨ 159 < r) : prD (iD [r]) = [prAct r] := by
  show prD [Dat.int r] = _
  have h' : (Dat.int r).toInt < 128 ∨ 159 < (Dat.int r).toInt := h
  rw [prD_cons, if_pos h']
  rfl
theorem steps_cons (x : X) (b : UInt8) (l : List UInt8) : steps x (bD (b :: l)) = ((steps (step x b.toNat).1 (bD l)).1, (step x b.toNat).2 ++ (steps (step x b.toNat).1 (bD l)).2) := rfl
theorem step_hold {l : List UInt8} {b : UInt8} (h : 128 ≤ b.toNat) (hp : putD (l ++ [b]) = ([], l ++ [b])) : step (Xh l) b.toNat = (Xh (l ++ [b]), []) := by
  rw [step_hi (by omega), Int.toNat_natCast, UInt8.ofNat_toNat, hp]
  rfl
theorem step_say {l : List UInt8} {b : UInt8} {r : Int} (h : 128 ≤ b.toNat) (hp : putD (l ++ [b]) = ([r], [])) (hr : r < 128 ∨ 159 < r) : step (Xh l) b.toNat = (X0, [prAct r]) := by
  rw [step_hi (by omega), Int.toNat_natCast, UInt8.ofNat_toNat, hp, prD_say hr]
  rfl
theorem X0_held : X0 = Xh [] := rfl
theorem steps_two {a b : UInt8} {r : Int} (ha : 194 ≤ a.toNat) (ha' : a.toNat ≤ 223) (hb : 128 ≤ b.toNat) (hb' : b.toNat ≤ 191) (hv : value [a, b] = r) (hr : r < 128 ∨ 159 < r) : steps X0 (bD [a, b]) = (X0, [prAct r]) := by
  have n2 := need2 ha ha'
  have s2 := second_of (a := a.toNat) hb hb' (by omega) (by omega) (by omega) (by omega)
  have c2 := contB_of hb hb'
  have h1 : putD ([] ++ [a]) = ([], [] ++ [a]) := putD_part (m := 2) (by simp) (by simp) (by rw [head_nat]; simp [headN, b_cons0, n2])
  have h2 : putD ([a] ++ [b]) = ([r], []) := by
    rw [← hv]
    exact putD_whole (by simp) (by rw [head_nat]; simp [headN, b_cons0, b_cons1, n2, s2, c2])
  rw [X0_held, steps_cons, step_hold (by omega) h1, steps_cons, List.nil_append, step_say (by omega) h2 hr]
  rfl
theorem steps_three {a b c : UInt8} {r : Int} (ha : 224 ≤ a.toNat) (ha' : a.toNat ≤ 239) (hb : 128 ≤ b.toNat) (hb' : b.toNat ≤ 191) (h5 : a.toNat = 224 → 160 ≤ b.toNat) (h6 : a.toNat = 237 → b.toNat ≤ 159) (hc : 128 ≤ c.toNat) (hc' : c.toNat ≤ 191)
    (hv : value [a, b, c] = r) (hr : r < 128 ∨ 159 < r) : steps X0 (bD [a, b, c]) = (X0, [prAct r]) := by
  have n2 := need3 ha ha'
  have s2 := second_of (a := a.toNat) hb hb' h5 (by omega) h6 (by omega)
  have c2 := contB_of hb hb'
  have c3 := contB_of hc hc'
  have h1 : putD ([] ++ [a]) = ([], [] ++ [a]) := putD_part (m := 3) (by simp) (by simp) (by rw [head_nat]; simp [headN, b_cons0, n2])
  have h2 : putD ([a] ++ [b]) = ([], [a] ++ [b]) := putD_part (m := 3) (by simp) (by simp) (by rw [head_nat]; simp [headN, b_cons0, b_cons1, n2, s2, c2])
  have h3 : putD ([a, b] ++ [c]) = ([r], []) := by
    rw [← hv]
    exact putD_whole (by simp) (by rw [head_nat]; simp [headN, b_cons0, b_cons1, b_cons2, n2, s2, c2, c3])
  rw [X0_held, steps_cons, step_hold (by omega) h1, steps_cons, List.nil_append, step_hold (by omega) h2, steps_cons]
  have h3' : putD (([a] ++ [b]) ++ [c]) = ([r], []) := h3
  rw [step_say (by omega) h3' hr]
  rfl
theorem steps_four {a b c d : UInt8} {r : Int} (ha : 240 ≤ a.toNat) (ha' : a.toNat ≤ 244) (hb : 128 ≤ b.toNat) (hb' : b.toNat ≤ 191) (h5 : a.toNat = 240 → 144 ≤ b.toNat) (h6 : a.toNat = 244 → b.toNat ≤ 143) (hc : 128 ≤ c.toNat) (hc' : c.toNat ≤ 191) (hd : 128 ≤ d.toNat) (hd' : d.toNat ≤ 191)
    (hv : value [a, b, c, d] = r) (hr : r < 128 ∨ 159 < r) : steps X0 (bD [a, b, c, d]) = (X0, [prAct r]) := by
  have n2 := need4 ha ha'
  have s2 := second_of (a := a.toNat) hb hb' (by omega) h5 (by omega) h6
  have c2 := contB_of hb hb'
  have c3 := contB_of hc hc'
  have c4 := contB_of hd hd'
  have h1 : putD ([] ++ [a]) = ([], [] ++ [a]) := putD_part (m := 4) (by simp) (by simp) (by rw [head_nat]; simp [headN, b_cons0, n2])
  have h2 : putD ([a] ++ [b]) = ([], [a] ++ [b]) := putD_part (m := 4) (by simp) (by simp) (by rw [head_nat]; simp [headN, b_cons0, b_cons1, n2, s2, c2])
  have h3 : putD (([a] ++ [b]) ++ [c]) = ([], ([a] ++ [b]) ++ [c]) := putD_part (m := 4) (by simp) (by simp) (by rw [head_nat]; simp [headN, b_cons0, b_cons1, b_cons2, n2, s2, c2, c3])
  have h4 : putD ((([a] ++ [b]) ++ [c]) ++ [d]) = ([r], []) := by
    rw [← hv]
    exact putD_whole (l := [a, b, c, d]) (by simp) (by rw [head_nat]; simp [headN, b_cons0, b_cons1, b_cons2, b_cons3, n2, s2, c2, c3, c4])
  rw [X0_held, steps_cons, step_hold (by omega) h1, steps_cons, List.nil_append, step_hold (by omega) h2, steps_cons, step_hold (by omega) h3, steps_cons, step_say (by omega) h4 hr]
  rfl
theorem steps_low {r : Int} (h0 : 32 ≤ r) (h1 : r < 127) : steps X0 [.int r] = (X0, [prAct r]) := by
  have e : step X0 r = (X0, [prAct r]) := by
    have h0' : X0.st = 0 := rfl
    have hh : prD (rD X0.held) = [] := by simp [X0, rD, runes_nil, prD]
    unfold step
    rw [if_pos h0', hh, if_neg (by omega), if_neg (by omega), if_neg (by omega), if_neg (by omega), if_neg (by omega), if_neg (by omega)]
    rfl
  simp only [steps, Dat.toInt]
  rw [e]
  rfl
theorem steps_rune {r : Int} (h : printable r = true) : steps X0 (bD (encU r)) = (X0, [prAct r]) := by
  simp only [printable, Bool.and_eq_true, decide_eq_true_eq, Bool.not_eq_true', Bool.and_eq_false_iff, decide_eq_false_iff_not, Bool.or_eq_true] at h
  obtain ⟨⟨⟨⟨q0, q1⟩, q2⟩, q3⟩, q4⟩ := h
  obtain ⟨n, rfl⟩ : ∃ n : Nat, r = n := ⟨r.toNat, by omega⟩
  have hval : Utf8.valid (n : Int) = true := by
    unfold Utf8.valid
    simp
    omega
  have hr : (n : Int) < 128 ∨ 159 < (n : Int) := by omega
  unfold encU Utf8.encode
  rw [if_pos hval, Int.toNat_natCast]
  dsimp only
  by_cases c1 : n < 128
  · rw [if_pos c1]
    show steps X0 (bD [u8 n]) = _
    have : bD [u8 n] = [.int (n : Int)] := by simp only [bD, List.map_cons, List.map_nil]; rw [u8_nat (by omega)]
    rw [this]
    exact steps_low (by omega) (by omega)
  rw [if_neg c1]
  by_cases c2 : n < 2048
  · rw [if_pos c2]
    show steps X0 (bD [u8 (192 + n / 64), u8 (128 + n % 64)]) = _
    have e1 : (u8 (192 + n / 64)).toNat = 192 + n / 64 := u8_nat (by omega)
    have e2 : (u8 (128 + n % 64)).toNat = 128 + n % 64 := u8_nat (by omega)
    refine steps_two (by omega) (by omega) (by omega) (by omega) ?_ hr
    simp only [value, e1, e2]
    omega
  rw [if_neg c2]
  by_cases c3 : n < 65536
  · rw [if_pos c3]
    show steps X0 (bD [u8 (224 + n / 4096), u8 (128 + n / 64 % 64), u8 (128 + n % 64)]) = _
    have e1 : (u8 (224 + n / 4096)).toNat = 224 + n / 4096 := u8_nat (by omega)
    have e2 : (u8 (128 + n / 64 % 64)).toNat = 128 + n / 64 % 64 := u8_nat (by omega)
    have e3 : (u8 (128 + n % 64)).toNat = 128 + n % 64 := u8_nat (by omega)
    refine steps_three (by omega) (by omega) (by omega) (by omega) (by omega) (by omega) (by omega) (by omega) ?_ hr
    simp only [value, e1, e2, e3]
    omega
  rw [if_neg c3]
  show steps X0 (bD [u8 (240 + n / 262144), u8 (128 + n / 4096 % 64), u8 (128 + n / 64 % 64), u8 (128 + n % 64)]) = _
  have e1 : (u8 (240 + n / 262144)).toNat = 240 + n / 262144 := u8_nat (by omega)
  have e2 : (u8 (128 + n / 4096 % 64)).toNat = 128 + n / 4096 % 64 := u8_nat (by omega)
  have e3 : (u8 (128 + n / 64 % 64)).toNat = 128 + n / 64 % 64 := u8_nat (by omega)
  have e4 : (u8 (128 + n % 64)).toNat = 128 + n % 64 := u8_nat (by omega)
  refine steps_four (by omega) (by omega) (by omega) (by omega) (by omega) (by omega) (by omega) (by omega) (by omega) (by omega) ?_ hr
  simp only [value, e1, e2, e3, e4]
  omega
theorem encU_len (r : Int) : (encU r).length ≤ 4 := by
  unfold encU Utf8.encode
  dsimp only
  repeat' split
  all_goals simp
theorem bD_append (a b : List UInt8) : bD (a ++ b) = bD a ++ bD b := by simp [bD]
/-- the bytes of runes -/
def encL : List Dat → List UInt8
  | [] => []
  | d :: l => encU d.toInt ++ encL l
theorem encL_len : ∀ (l : List Dat), (encL l).length ≤ 4 * l.length
  | [] => by simp [encL]
  | d :: l => by
    have h1 := encU_len d.toInt
    have h2 := encL_len l
    simp only [encL, List.length_append, List.length_cons]
    omega
theorem steps_runes : ∀ (l : List Dat), (∀ d ∈ l, printable d.toInt = true) → steps X0 (bD (encL l)) = (X0, l.map fun d => prAct d.toInt)
  | [], _ => rfl
  | d :: l, h => by
    simp only [encL, bD_append]
    rw [steps_app, steps_rune (h d (List.mem_cons_self ..))]
    simp only [List.map_cons]
    rw [steps_runes l fun x hx => h x (List.mem_cons_of_mem _ hx)]
    rfl
theorem allD_runes {l : List Dat} (h : ∀ d ∈ l, printable d.toInt = true) : allD (bD (encL l)) = l.map fun d => prAct d.toInt := by
  unfold allD
  have h0' : X0.st = 0 := rfl
  rw [steps_runes l h]
  dsimp only
  rw [if_pos h0']
  show _ ++ prD (rD []) = _
  have : prD (rD []) = [] := by simp [rD, runes_nil, prD]
  rw [this, List.append_nil]
theorem runeStr_bytes : ∀ (l : List Dat) (s : ByteArray), (l.foldl (fun s d => s ++ Utf8.encode d.toInt) s).data.toList = s.data.toList ++ encL l
  | [], s => by simp [encL]
  | d :: l, s => by
    simp only [List.foldl_cons, encL]
    rw [runeStr_bytes l]
    simp [encU]
theorem bytes_runes (l : List Dat) : bytesD (runeStrD l) = bD (encL l) := by
  unfold bytesD runeStrD bD
  rw [runeStr_bytes]
  simp
end Go.Proofs.YtojdmhfkgkfpaaaDoor

set_option linter.unusedVariables false
set_option linter.unusedSimpArgs false
set_option maxRecDepth 100000
namespace Go.Proofs.YtojdmhfkgkfpaaaDoor
open Go.AM Go.LTxt Go.LMem Go.RowKit
set_option maxHeartbeats 0
theorem vp7 {l : List Dat} {r : Int} {xs : List Dat} {n n2 : Int} {E : List Dat → Int → List Dat → Int → Int → Bool → Prop} (hE : E l r xs n n2 (printable r)) : p7_r5 l r xs n n2 E := by
  unfold p7_r5
  unfold printable at hE
  generalize decide (32 ≤ r) = c0 at *
  generalize decide (r = 127) = c1 at *
  generalize decide (128 ≤ r) = c2 at *
  generalize decide (r ≤ 159) = c3 at *
  generalize decide (r < 55296) = c4 at *
  generalize decide (57343 < r) = c5 at *
  generalize decide (r ≤ 1114111) = c6 at *
  cases c0 <;> cases c1 <;> cases c2 <;> cases c3 <;> cases c4 <;> cases c5 <;> exact hE
/-- the runes that are printed -/
def fl (xs : List Dat) : List Dat := (xs.filter fun d => printable d.toInt).map fun d => .int d.toInt
theorem fl_cons (d : Dat) (l : List Dat) : fl (d :: l) = (if printable d.toInt = true then [.int d.toInt] else []) ++ fl l := by
  unfold fl
  rw [List.filter_cons]
  by_cases h : printable d.toInt = true <;> simp [h]
theorem fl_print (xs : List Dat) : ∀ d ∈ fl xs, printable d.toInt = true := by
  intro d hd
  unfold fl at hd
  rw [List.mem_map] at hd
  obtain ⟨y, hy, rfl⟩ := hd
  show printable y.toInt = true
  have := (List.mem_filter.1 hy).2
  exact this
theorem fl_len (xs : List Dat) : (fl xs).length ≤ xs.length := by
  unfold fl
  rw [List.length_map]
  exact List.length_filter_le _ _
theorem r7_3 (xs : List Dat) (hl : xs.length ≤ limB) (E0 : List Dat → Prop) (n : Nat) : ∀ (l : List Dat) (k : Nat), xs.length - k < n → l.length ≤ k → k ≤ xs.length → E0 (l ++ fl (xs.drop k)) → l7_3 n l xs xs.length k E0 := by
  have hlim : limB = 16777216 := rfl
  induction n with
  | zero => intro l k h; omega
  | succ n ih =>
    intro l k h hlk hkx hE
    unfold l7_3
    rw [Int.toNat_natCast]
    refine br_mk (fun h2 => ?_) (fun h2 => ?_)
    · have hk : k < xs.length := by simpa using h2
      have h3 : (decide ((0 : Int) ≤ (k : Int)) && decide ((k : Int) < (xs.length : Int))) = true := by simp; omega
      have h4 : decide (k < xs.length) = true := by simpa using hk
      have e := in64 k (by omega)
      have ha : appOK l 0 l.length 1 4 = true := app_ok (by omega)
      rw [drop_cons hk, fl_cons] at hE
      rw [h3, req_t, h4, req_t]
      refine ⟨rfl, vp7 ?_⟩
      rw [show (k : Int) + 1 = ((k + 1 : Nat) : Int) by omega] at e ⊢
      rw [e, req_t, req_t, ha, req_t, dapp_full]
      refine br_mk (fun hp => ⟨rfl, ?_⟩) (fun hp => ⟨rfl, ?_⟩)
      · rw [if_pos hp, ← List.append_assoc] at hE
        exact ih _ (k + 1) (by omega) (by simp; omega) (by omega) hE
      · rw [if_neg (by rw [hp]; decide), List.nil_append] at hE
        exact ih _ (k + 1) (by omega) (by omega) (by omega) hE
    · have hk : xs.length ≤ k := by have := of_decide_eq_false h2; omega
      rw [List.drop_of_length_le hk] at hE
      simpa [fl] using hE
theorem prAct_kind (r : Int) : Dat.toInt (Dat.fst (prAct r)) = 1 := rfl
theorem prAct_rune (r : Int) : Dat.toInt (Dat.fst (Dat.snd (prAct r))) = r := rfl
theorem r7_12 (l : List Dat) (hl : l.length ≤ limB) (E2 : Prop) (R_ : Bool → Prop) (hE : E2) (n : Nat) : ∀ (k : Nat), l.length - k < n → l7_12 n l (l.map fun d => prAct d.toInt) l.length k E2 R_ := by
  have hlim : limB = 16777216 := rfl
  induction n with
  | zero => intro k h; omega
  | succ n ih =>
    intro k h
    unfold l7_12
    rw [Int.toNat_natCast, Nat.zero_add]
    refine br_mk (fun h2 => ?_) (fun h2 => hE)
    have hk : k < l.length := by simpa using h2
    have hk' : k < (l.map fun d => prAct d.toInt).length := by simpa using hk
    have h3 : (decide ((0 : Int) ≤ (k : Int)) && decide ((k : Int) < (l.length : Int))) = true := by simp; omega
    have h4 : decide (k < l.length) = true := by simpa using hk
    have e := in64 k (by omega)
    have hg : (l.map fun d => prAct d.toInt).getD k default = prAct (l.getD k default).toInt := by
      rw [List.getD_eq_getElem?_getD, List.getElem?_eq_getElem hk', List.getD_eq_getElem?_getD, List.getElem?_eq_getElem hk]
      simp
    have hll : (l.map fun d => prAct d.toInt).length = l.length := by simp
    have := ih (k + 1) (by omega)
    rw [show ((k + 1 : Nat) : Int) = (k : Int) + 1 by omega] at this
    have d1 : (!decide ((1 : Int) = 1)) = false := rfl
    have d2 : (!decide ((l.getD k default).toInt = (l.getD k default).toInt)) = false := by simp
    rw [hll, hg, prAct_kind, prAct_rune, h3, req_t, h4, req_t, d1, br_f, req_t, req_t, d2, br_f, e, req_t]
    exact ⟨rfl, rfl, this⟩
theorem v7 {xs : List Dat} (hN : xs.length ≤ 1048576) {K : Bool → Prop} (hK : K true) : m7 xs K := by
  have hlim : limB = 16777216 := rfl
  unfold m7
  refine ⟨_, rfl, r7_3 xs (by omega) _ (_ + 1) [] 0 (Nat.lt_succ_of_le (Nat.sub_le _ _)) (by simp) (by omega) ?_⟩
  rw [List.nil_append, List.drop_zero]
  have hfl := fl_len xs
  have hfp := fl_print xs
  generalize fl xs = y at hfl hfp ⊢
  rw [List.take_length]
  have hbl : (bytesD (runeStrD y)).length = (runeStrD y).size := by
    unfold bytesD
    rw [List.length_map, Array.length_toList]
    rfl
  have het : List.take (runeStrD y).size (bytesD (runeStrD y)) = bD (encL y) := by rw [← hbl, List.take_length, bytes_runes]
  have q1 : decide (0 + y.length ≤ y.length) = true := decide_eq_true (by omega)
  have q2 : decide (0 + (runeStrD y).size ≤ (bytesD (runeStrD y)).length) = true := decide_eq_true (by omega)
  rw [q1, req_t, q2, req_t, het]
  have hel := encL_len y
  refine v14 (okB_bD _) (by rw [bD_length]; omega) ?_
  rw [allD_runes hfp]
  have hml : (y.map fun d => prAct d.toInt).length = y.length := by simp
  have q3 : (!decide (((y.length : Nat) : Int) = ((y.length : Nat) : Int))) = false := by simp
  rw [hml, q3, br_f]
  exact ⟨_, rfl, rfl, r7_12 y (by omega) _ _ hK (_ + 1) 0 (Nat.lt_succ_of_le (Nat.sub_le _ _))⟩
end Go.Proofs.YtojdmhfkgkfpaaaDoor

set_option linter.unusedVariables false
set_option maxRecDepth 100000
namespace Go.Proofs.YtojdmhfkgkfpaaaDoor.vtparsePrints
open Go.ChangeShapes Go.WideShapes Go.ChangeAt Go.RowKit Go.AM
theorem true7 {xs : List Dat} (hN : xs.length ≤ 1048576) : m7 xs tb := v7 hN trivial
theorem rule7 (xs : List Dat) : R7 [.ro (.int .i32) xs] h0 isTrue = m7 xs tb := by kernel_rfl
theorem own : ownKnob Tryd.prog.godebug = none := by kernel_rfl
theorem contract (H : Type) (enc : TypeId × Value → H) (W : World) (base : Nat) (args : Array Value) (ds gs : List (DataW H)) (before : List MemPlace)
    (hval : ∀ (j : Nat) t v, Tryd.f7.params[j]? = some t → args[j]? = some v → Value.okWide Tryd.prog W .any base t v)
    (hW : DataW.Whole enc Tryd.prog Tryd.f7.params.toList Rows.vtparsePrintsSpec.vars false W args.toList ds gs before) (hL : laidMetH Tryd.prog Rows.vtparsePrintsUptoRow.laid W) (hk : Rows.uptoSmall H (ds ++ gs) = true) :
    Calls Tryd.prog 7 args W fun e W' => ∃ v, e = .returned v ∧ Rows.vtparsePrintsSpec.post enc Tryd.prog Tryd.f7 false true false false W args v W' := by
  have one : ∃ d0, ds = [d0] := by
    obtain ⟨p, q, hA, hV, _⟩ := hW
    rw [Tryd.params7] at hA
    obtain ⟨v0, vs0, d0, ds0, p0, q0, hargs0, rfl, rfl, h0, r0⟩ := trodAll_cons hA
    obtain ⟨rfl, rfl, rfl⟩ := trodAll_nil r0
    exact ⟨d0, rfl⟩
  obtain ⟨d0, rfl⟩ := one
  have hgs : gs = [] := by
    obtain ⟨p, q, hA, hV, _⟩ := hW
    obtain ⟨rfl, _⟩ := trodVars_none hV
    rfl
  subst hgs
  refine law_contractR ok7 (tb := 4) (ss := [.slice (.int .i32)]) (tabs_laid hL) hval hW rfl (by kernel_rfl) (by kernel_rfl) (fun hl => rfl) (by kernel_rfl) (by kernel_rfl) (by kernel_rfl) (fun hF => ?_)
  refine ⟨[.ro (.int .i32) (toDat (.slice (.int .i32)) d0).toList], by kernel_rfl, ?_⟩
  rw [rule7]
  have hf0 := hF (.slice (.int .i32), d0) (by simp)
  have hb := bound hk
  have hb0 := bulk_mem (d := d0) (l := [d0] ++ []) (by simp)
  have h2 := slice_len (.int .i32) d0
  exact true7 (by omega)
theorem laid_met (os : Os) : laidMet Tryd.prog Rows.vtparsePrintsUptoRow.laid (((laidWorld Rows.vtparsePrintsUptoRow.laid os).forCall (fun _ _ => 0) ⟨#[], #[.slice none 0 0], []⟩)).memory :=
  laidMet_of_run' 8 (by kernel_rfl) (by kernel_rfl)
theorem reads (os : Os) {H : Type} (enc : TypeId × Value → H) : ∃ places, DataW.whole enc Tryd.prog ((laidWorld Rows.vtparsePrintsUptoRow.laid os).forCall (fun _ _ => 0) ⟨#[], #[.slice none 0 0], []⟩).memory Tryd.f7.params.toList Rows.vtparsePrintsSpec.vars false #[Value.slice none 0 0].toList 8 = some ([.nil], [], places) :=
  ⟨[], by kernel_rfl⟩
theorem lifted (os : Os) (started : os.Started) (H : Type) (enc : TypeId × Value → H) (F : Stop.Interp) :
    ReturnsInHanded {} Tryd.checked os 7 .any ((Rows.OpenSpec.upto Rows.vtparsePrintsSpec).preRow enc Tryd.prog Tryd.f7 Rows.vtparsePrintsUptoRow.domain false Rows.vtparsePrintsUptoRow.laid) (((Rows.OpenSpec.upto Rows.vtparsePrintsSpec).at F).post enc Tryd.prog Tryd.f7 false true false false) := by
  obtain ⟨places, hx⟩ := reads os enc
  refine returnsInHanded_of_row (C := Tryd.checked) (s := Rows.OpenSpec.upto Rows.vtparsePrintsSpec) own started (by kernel_rfl) Tryd.func7
    (witness_row_at (enc := enc) (C := Tryd.checked) false (laidWorld Rows.vtparsePrintsUptoRow.laid os) #[.slice none 0 0] rfl (by kernel_rfl) (by kernel_rfl) (by kernel_rfl)
      (OpenSpec.preRow_of_cond 8 hx (by kernel_rfl) (fun k hk => by cases hk; kernel_rfl) (by kernel_rfl) (laid_met os))) ?_
  intro W base args ds gs before hval hW hc1 hc2 hc3 hL _ _
  first
    | exact contract H enc W base args ds gs before hval hW hL (hc1 _ rfl)
    | exact contract H enc W base args ds gs before hval hW hL (hc2 _ rfl)
    | exact contract H enc W base args ds gs before hval hW hL (hc3 _ rfl)
theorem said : Rows.VtparsePrintsUptoSaid :=
  OpenClaim.holds_of_cond 7 Tryd.f7 rfl rfl rfl rfl rfl rfl rfl ⟨rfl, rfl, rfl, rfl, rfl⟩ rfl rfl rfl rfl rfl (by kernel_rfl) Tryd.func7 (by kernel_rfl)
    (of_decide_eq_true (by kernel_rfl)) (by unfold Func.isWrapper; first | (rw [if_pos (by decide +kernel)]; kernel_rfl) | (rw [if_neg (by decide +kernel)]; exact ⟨rfl, rfl⟩))
    (fun os started H enc _ F => by rw [OpenClaim.pre_eq_preRow]; exact lifted os started H enc F)
/-- No parameter wants a stand-in; the program's own looks are off. -/
theorem plain (f : FuncId) (fn : Func) (hf : Tryd.pinned.checked.prog.funcNamed "lanyard/lanyardlaw05.VtparsePrints" = some f) (hfn : Tryd.pinned.checked.prog.funcs[f]? = some fn) :
    false = Tryd.pinned.checked.prog.looks [] ∧ ∀ (j : Nat) t, fn.params[j]? = some t → Tryd.pinned.checked.prog.wantsStandIn t = false := by
  obtain rfl : f = 7 := Option.some.inj ((show Tryd.prog.funcNamed "lanyard/lanyardlaw05.VtparsePrints" = some 7 by kernel_rfl).symm.trans hf) |>.symm
  obtain rfl : fn = Tryd.f7 := (Option.some.inj (Tryd.func7.symm.trans hfn)).symm
  refine ⟨by kernel_rfl, fun j t ht => ?_⟩
  have h1 : (Tryd.f7.params.toList.all fun t => !Tryd.pinned.checked.prog.wantsStandIn t) = true := by kernel_rfl
  have h2 := List.all_eq_true.1 h1 t (Array.mem_toList_iff.2 (Array.mem_of_getElem? ht))
  simpa using h2
theorem card : Rows.VtparsePrintsUptoCardSaid :=
  Claim7.holds_tied_plain_at .later [] _ _ _ _ said (fun _ h => by cases h) (by kernel_rfl) (fun _ h => by cases h) vtparsePrintsUpto_row_tie rfl ⟨rfl, rfl⟩ (by kernel_rfl) rfl plain (by kernel_rfl)
end Go.Proofs.YtojdmhfkgkfpaaaDoor.vtparsePrints

