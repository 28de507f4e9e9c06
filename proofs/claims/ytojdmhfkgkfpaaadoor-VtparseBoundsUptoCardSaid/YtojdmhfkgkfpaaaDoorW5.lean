/- VtparseBounds answers true for every input of bulk at most 1048576; conditions: the second form's bound, the listed tables. -/
import Derived.Test.YtojdmhfkgkfpaaaDoorLz
import Derived.Test.YtojdmhfkgkfpaaaDoorCards
import Derived.Test.YtojdmhfkgkfpaaaDoorTie
import Derived.WalkKit
import Derived.ProofKit
import Derived.OpenShut
import Derived.Deep.DeepHandedRow
import Derived.Lib.LaidTab
set_option linter.unusedVariables false
set_option maxRecDepth 100000
namespace Go.Proofs.YtojdmhfkgkfpaaaDoor
open Go.AM Go.LTxt Go.LMem Go.RowKit
structure C35 where
  kind : Int
  rune : Int
  final : Int
  private_ : Int
  params : List Dat
  inter : ByteArray
  text : ByteArray
noncomputable def p5_r7 (c : C35) (l : List Dat) (n : Int) (n2 : Int) (E0 : C35 → List Dat → Int → Int → Bool → Prop) : Prop :=
    br (decide (C35.kind c < (1 : Int))) (E0 c l n n2 true) (
     br (decide ((6 : Int) < C35.kind c)) (E0 c l n n2 true) (
      br (decide ((16 : Int) < (↑(List.length (C35.params c)) : Int))) (E0 c l n n2 true) (
       br (decide ((2 : Int) < (↑(ByteArray.size (C35.inter c)) : Int))) (E0 c l n n2 true) (E0 c l n n2 (decide ((1024 : Int) < (↑(ByteArray.size (C35.text c)) : Int)))))))
def F5_r7 : AM.Form := ⟨mkF 64 [(5, .p 0 0), (16, .sl 1), (17, .int .i64), (18, .int .i64)], [.cells 35 [.int .i64, .int .i32, .int .u8, .int .u8, .ro (.int .i64), .str, .str], .seq 35 (.pair (.int .i64) (.pair (.int .i32) (.pair (.int .u8) (.pair (.int .u8) (.pair (.slice (.int .i64)) (.pair .str (.pair .str .unit)))))))]⟩
noncomputable def mm5_r7 (ds : List Dat) (Q : AExit → List AV → AH → Prop) : Prop := p5_r7 ⟨(dat ds 2).toInt, (dat ds 3).toInt, (dat ds 4).toInt, (dat ds 5).toInt, (dat ds 6).toList, (dat ds 7).toStr, (dat ds 8).toStr⟩ ((dat ds 9).toList) ((dat ds 0).toInt) ((dat ds 1).toInt) (fun rc rl rn rn2 rb => Q .normal (mkAV 64 [(5, .p 0 0), (16, .sl 1 0 rl.length), (17, .c (.int .i64 rn)), (18, .c (.int .i64 rn2)), (47, .c (.bool rb))]) ⟨[.cells 35 [.c (.int .i64 rc.kind), .c (.int .i32 rc.rune), .c (.int .u8 rc.final), .c (.int .u8 rc.private_), .ro (.int .i64) rc.params, .c (.string rc.inter), .c (.string rc.text)], .seq 35 (.pair (.int .i64) (.pair (.int .i32) (.pair (.int .u8) (.pair (.int .u8) (.pair (.slice (.int .i64)) (.pair .str (.pair .str .unit))))))) rl], []⟩)
theorem t5_r7 (ds : List Dat) (Q : AExit → List AV → AH → Prop) : wpA Tryd.prog tys GG3 1000 5 (theReg Tryd.prog 5 7) (fun e f' h' => endF Tryd.prog ((fun _ => []) e) ((fun _ => ⟨[5, 16, 17, 18, 47], []⟩) e) ((fun _ => []) e) (F5_r7.hp ds) f' h' fun f2 h2 => Q e f2 h2) (F5_r7.fr ds) (F5_r7.hp ds) = mm5_r7 ds Q := by kernel_rfl
noncomputable def R5_r7 : LoopT := headF Tryd.prog [] ⟨[5, 16, 17, 18], []⟩ [] (locL F5_r7 mm5_r7)
theorem ok5_r7 : RegOK Tryd.prog (theReg Tryd.prog 5 7) R5_r7 := ruleP_ok sGG3 (by kernel_rfl) mm5_r7 t5_r7
noncomputable def rs5_r7 : List (FuncId × Nat × LoopT) := (5, 7, R5_r7) :: []
theorem rs5_r7_ok : RegsOK Tryd.prog rs5_r7 := .cons (by kernel_rfl) ok5_r7 .nil
noncomputable def GG5_r7 : Rules := mkG [] cs3 ls13_4 rs5_r7
theorem sGG5_r7 : Sound Tryd.prog tys GG5_r7 := mk_sound mixed tysOK names (by kernel_rfl) cs3_ok ls13_4_ok rs5_r7_ok
noncomputable def l5_10 : Nat → List Dat → Int → Int → List Dat → Int → Int → (List Dat → Int → Int → Prop) → (Bool → Prop) → Prop
  | 0, _, _, _, _, _, _, _, _ => False
  | fu + 1, l, n, n2, xs, n3, n4, E2, R_ =>
    br (decide (n4 < n3)) (
     req (decide ((0 : Int) ≤ n4) && decide (n4 < (↑(List.length xs) : Int))) (
     req (decide (Int.toNat n4 < List.length xs)) (
     br (decide (Dat.toInt (List.getD xs (Int.toNat n4) default) < (-1 : Int))) (R_ false) (
      br (decide ((65535 : Int) < Dat.toInt (List.getD xs (Int.toNat n4) default))) (R_ false) (
       req (inR IntKind.i64 (n4 + (1 : Int))) (((List.length l) = List.length l ∧ l5_10 fu l n n2 xs n3 (n4 + (1 : Int)) E2 R_))))))) (E2 l n n2)
def F5_10 : AM.Form := ⟨mkF 64 [(16, .sl 0), (17, .int .i64), (18, .int .i64), (49, .ro (.int .i64)), (50, .int .i64), (51, .int .i64)], [.seq 35 (.pair (.int .i64) (.pair (.int .i32) (.pair (.int .u8) (.pair (.int .u8) (.pair (.slice (.int .i64)) (.pair .str (.pair .str .unit)))))))]⟩
noncomputable def mm5_10 (n : Nat) (ds : List Dat) (Q : AExit → List AV → AH → Prop) : Prop := l5_10 n ((dat ds 5).toList) ((dat ds 0).toInt) ((dat ds 1).toInt) ((dat ds 2).toList) ((dat ds 3).toInt) ((dat ds 4).toInt) (fun rl rn rn2 => Q (AExit.exit 2) (mkAV 64 [(16, .sl 0 0 rl.length), (17, .c (.int .i64 rn)), (18, .c (.int .i64 rn2))]) ⟨[.seq 35 (.pair (.int .i64) (.pair (.int .i32) (.pair (.int .u8) (.pair (.int .u8) (.pair (.slice (.int .i64)) (.pair .str (.pair .str .unit))))))) rl], []⟩) (fun rb => Q AExit.ret (mkAV 64 [(2, .c (.bool rb))]) ⟨[], []⟩)
theorem t5_10 (n : Nat) (ds : List Dat) (Q : AExit → List AV → AH → Prop) : wpA Tryd.prog tys GG5_r7 1000 5 (theLoop Tryd.prog 5 10) (fun e f' h' => endF Tryd.prog ((fun _ => []) e) ((fun e => match e with | .normal => ⟨[16, 17, 18, 49, 50, 51], []⟩ | .exit 2 => ⟨[16, 17, 18], []⟩ | .ret => ⟨[2], []⟩ | _ => ⟨[], []⟩) e) ((fun e => match e with | .normal => [] | .exit 2 => [] | .ret => [] | _ => []) e) (F5_10.hp ds) f' h' fun f2 h2 => match e with
      | .normal => locL F5_10 (mm5_10 n) f2 h2 Q
      | e => Q e f2 h2) (F5_10.fr ds) (F5_10.hp ds) = mm5_10 (n + 1) ds Q := by kernel_rfl
noncomputable def R5_10 : LoopT := headF Tryd.prog [] ⟨[16, 17, 18, 49, 50, 51], []⟩ [] fun f h Q => ∃ n, locL F5_10 (mm5_10 n) f h Q
theorem ok5_10 : LoopOK Tryd.prog (theLoop Tryd.prog 5 10) R5_10 := ruleL_ok sGG5_r7 (by kernel_rfl) mm5_10 (fun _ _ => rfl) t5_10
noncomputable def ls5_10 : List (FuncId × Nat × LoopT) := (5, 10, R5_10) :: ls13_4
theorem ls5_10_ok : LoopsOK Tryd.prog ls5_10 := .cons (by kernel_rfl) ok5_10 ls13_4_ok
noncomputable def GG5_10 : Rules := mkG [] cs3 ls5_10 rs5_r7
theorem sGG5_10 : Sound Tryd.prog tys GG5_10 := mk_sound mixed tysOK names (by kernel_rfl) cs3_ok ls5_10_ok rs5_r7_ok
noncomputable def l5_5 : Nat → List Dat → Int → Int → (Prop) → (Bool → Prop) → Prop
  | 0, _, _, _, _, _ => False
  | fu + 1, l, n, n2, E0, R_ =>
    br (decide (n2 < n)) (
     req (decide ((0 : Int) ≤ n2) && decide (n2 < (↑(List.length l) : Int))) (
     req (decide ((0 : Nat) + Int.toNat n2 < List.length l)) (
     ((List.length l = List.length l) ∧ 
     p5_r7 { kind := Dat.toInt (Dat.fst (List.getD l ((0 : Nat) + Int.toNat n2) default)), rune := Dat.toInt (Dat.fst (Dat.snd (List.getD l ((0 : Nat) + Int.toNat n2) default))), final := Dat.toInt (Dat.fst (Dat.snd (Dat.snd (List.getD l ((0 : Nat) + Int.toNat n2) default)))), private_ := Dat.toInt (Dat.fst (Dat.snd (Dat.snd (Dat.snd (List.getD l ((0 : Nat) + Int.toNat n2) default))))), params := Dat.toList (Dat.fst (Dat.snd (Dat.snd (Dat.snd (Dat.snd (List.getD l ((0 : Nat) + Int.toNat n2) default)))))), inter := Dat.toStr (Dat.fst (Dat.snd (Dat.snd (Dat.snd (Dat.snd (Dat.snd (List.getD l ((0 : Nat) + Int.toNat n2) default))))))), text := Dat.toStr (Dat.fst (Dat.snd (Dat.snd (Dat.snd (Dat.snd (Dat.snd (Dat.snd (List.getD l ((0 : Nat) + Int.toNat n2) default)))))))) } l n n2 (fun y0 y1 y2 y3 y4 => 
      br (y4) (R_ false) (
       (∃ y5, 
       ((List.length y1 = List.length y1) ∧ 
       l5_10 y5 y1 y2 y3 (C35.params y0) (↑(List.length (C35.params y0)) : Int) (0 : Int) (fun y6 y7 y8 => 
        req (inR IntKind.i64 (y8 + (1 : Int))) (((List.length y6) = List.length y6 ∧ l5_5 fu y6 y7 (y8 + (1 : Int)) E0 R_))) (fun y9 => R_ y9))))))))) (E0)
def F5_5 : AM.Form := ⟨mkF 64 [(16, .sl 0), (17, .int .i64), (18, .int .i64)], [.seq 35 (.pair (.int .i64) (.pair (.int .i32) (.pair (.int .u8) (.pair (.int .u8) (.pair (.slice (.int .i64)) (.pair .str (.pair .str .unit)))))))]⟩
noncomputable def mm5_5 (n : Nat) (ds : List Dat) (Q : AExit → List AV → AH → Prop) : Prop := l5_5 n ((dat ds 2).toList) ((dat ds 0).toInt) ((dat ds 1).toInt) (Q (AExit.exit 0) (mkAV 64 []) ⟨[], []⟩) (fun rb => Q AExit.ret (mkAV 64 [(2, .c (.bool rb))]) ⟨[], []⟩)
theorem t5_5 (n : Nat) (ds : List Dat) (Q : AExit → List AV → AH → Prop) : wpA Tryd.prog tys GG5_10 1000 5 (theLoop Tryd.prog 5 5) (fun e f' h' => endF Tryd.prog ((fun _ => []) e) ((fun e => match e with | .normal => ⟨[16, 17, 18], []⟩ | .exit 0 => ⟨[], []⟩ | .ret => ⟨[2], []⟩ | _ => ⟨[], []⟩) e) ((fun e => match e with | .normal => [] | .exit 0 => [] | .ret => [] | _ => []) e) (F5_5.hp ds) f' h' fun f2 h2 => match e with
      | .normal => locL F5_5 (mm5_5 n) f2 h2 Q
      | e => Q e f2 h2) (F5_5.fr ds) (F5_5.hp ds) = mm5_5 (n + 1) ds Q := by kernel_rfl
noncomputable def R5_5 : LoopT := headF Tryd.prog [] ⟨[16, 17, 18], []⟩ [] fun f h Q => ∃ n, locL F5_5 (mm5_5 n) f h Q
theorem ok5_5 : LoopOK Tryd.prog (theLoop Tryd.prog 5 5) R5_5 := ruleL_ok sGG5_10 (by kernel_rfl) mm5_5 (fun _ _ => rfl) t5_5
noncomputable def ls5_5 : List (FuncId × Nat × LoopT) := (5, 5, R5_5) :: ls5_10
theorem ls5_5_ok : LoopsOK Tryd.prog ls5_5 := .cons (by kernel_rfl) ok5_5 ls5_10_ok
noncomputable def GG5_5 : Rules := mkG [] cs3 ls5_5 rs5_r7
theorem sGG5_5 : Sound Tryd.prog tys GG5_5 := mk_sound mixed tysOK names (by kernel_rfl) cs3_ok ls5_5_ok rs5_r7_ok
noncomputable def m5 (b : List Dat) (K : Bool → Prop) : Prop :=
    m14 b (fun y0 => 
     req (inR IntKind.i64 ((↑(List.length b) : Int) + (1 : Int))) (
     br (decide ((↑(List.length b) : Int) + (1 : Int) < (↑(List.length y0) : Int))) (K false) (
      (∃ y1, 
      ((List.length y0 = List.length y0) ∧ 
      l5_5 y1 y0 (↑(List.length y0) : Int) (0 : Int) (K true) (fun y2 => K y2))))))
def F5 : AM.Form := ⟨[.ro (.int .u8)], []⟩
noncomputable def mm5 (ds : List Dat) (K : AV → AH → Prop) : Prop := m5 ((dat ds 0).toList) (fun rb => K (.c (.bool rb)) ⟨[], []⟩)
theorem t5 (ds : List Dat) (K : AV → AH → Prop) : callA Tryd.prog tys GG5_5 1000 5 (F5.fr ds) (F5.hp ds) (fun v h' => endK Tryd.prog [] .keep (F5.hp ds) (F5.fr ds) v h' K) = mm5 ds K := by kernel_rfl
noncomputable def R5 : CallT := ruleF Tryd.prog [(.ro (.int .u8))] [] F5 mm5
theorem ok5 : CallOK Tryd.prog 5 R5 := ruleF_ok sGG5_5 t5
noncomputable def cs5 : List (FuncId × CallT) := (5, R5) :: cs3
theorem cs5_ok : CallsOK Tryd.prog cs5 := .cons ok5 cs3_ok
noncomputable def GG5 : Rules := mkG [] cs5 ls5_5 rs5_r7
theorem sGG5 : Sound Tryd.prog tys GG5 := mk_sound mixed tysOK names (by kernel_rfl) cs5_ok ls5_5_ok rs5_r7_ok
end Go.Proofs.YtojdmhfkgkfpaaaDoor

set_option linter.unusedVariables false
set_option linter.unusedSimpArgs false
set_option maxRecDepth 100000
namespace Go.Proofs.YtojdmhfkgkfpaaaDoor
open Go.AM Go.LTxt Go.LMem Go.RowKit
set_option maxHeartbeats 0
theorem r5_10 (l : List Dat) (a b : Int) (xs : List Dat) (E2 : List Dat → Int → Int → Prop) (R_ : Bool → Prop) (hE : E2 l a b) (hok : ∀ d ∈ xs, -1 ≤ d.toInt ∧ d.toInt ≤ 65535) (hl : xs.length ≤ limB) (n : Nat) :
    ∀ (k : Nat), xs.length - k < n → l5_10 n l a b xs xs.length k E2 R_ := by
  have hlim : limB = 16777216 := rfl
  induction n with
  | zero => intro k h; omega
  | succ n ih =>
    intro k h
    unfold l5_10
    rw [Int.toNat_natCast]
    refine br_mk (fun h2 => ?_) (fun h2 => hE)
    have hk : k < xs.length := by simpa using h2
    have h3 : (decide ((0 : Int) ≤ (k : Int)) && decide ((k : Int) < (xs.length : Int))) = true := by simp; omega
    have h4 : decide (k < xs.length) = true := by simpa using hk
    obtain ⟨q1, q2⟩ := hok (xs.getD k default) (by rw [List.getD_eq_getElem?_getD, List.getElem?_eq_getElem hk]; exact List.getElem_mem hk)
    generalize (xs.getD k default).toInt = z at q1 q2 ⊢
    have e := in64 k (by omega)
    have := ih (k + 1) (by omega)
    rw [show ((k + 1 : Nat) : Int) = (k : Int) + 1 by omega] at this
    rw [h3, req_t, h4, req_t]
    refine br_mk (fun hc => absurd (of_decide_eq_true hc) (by omega)) (fun _ => br_mk (fun hc => absurd (of_decide_eq_true hc) (by omega)) (fun _ => ?_))
    rw [e, req_t]
    exact ⟨rfl, this⟩
theorem vp5 {c : C35} {l : List Dat} {a b : Int} {E : C35 → List Dat → Int → Int → Bool → Prop} (h0 : 1 ≤ c.kind) (h1 : c.kind ≤ 6) (h2 : c.params.length ≤ 16) (h3 : c.inter.size ≤ 2) (h4 : c.text.size ≤ 1024) (hE : E c l a b false) : p5_r7 c l a b E := by
  unfold p5_r7
  refine br_mk (fun hc => absurd (of_decide_eq_true hc) (by omega)) (fun _ => br_mk (fun hc => absurd (of_decide_eq_true hc) (by omega)) (fun _ => br_mk (fun hc => absurd (of_decide_eq_true hc) (by omega)) (fun _ => br_mk (fun hc => absurd (of_decide_eq_true hc) (by omega)) (fun _ => ?_))))
  have e : decide ((1024 : Int) < (c.text.size : Int)) = false := decide_eq_false (by omega)
  rw [e]
  exact hE
theorem r5_5 (l : List Dat) (hok : AllOk l) (hl : l.length ≤ limB) (E0 : Prop) (R_ : Bool → Prop) (hE : E0) (n : Nat) : ∀ (k : Nat), l.length - k < n → l5_5 n l l.length k E0 R_ := by
  have hlim : limB = 16777216 := rfl
  induction n with
  | zero => intro k h; omega
  | succ n ih =>
    intro k h
    unfold l5_5
    rw [Int.toNat_natCast, Nat.zero_add]
    refine br_mk (fun h2 => ?_) (fun h2 => hE)
    have hk : k < l.length := by simpa using h2
    have h3 : (decide ((0 : Int) ≤ (k : Int)) && decide ((k : Int) < (l.length : Int))) = true := by simp; omega
    have h4 : decide (k < l.length) = true := by simpa using hk
    obtain ⟨k0, k1, pl, pr, it, tx⟩ := hok.all (l.getD k default) (by rw [List.getD_eq_getElem?_getD, List.getElem?_eq_getElem hk]; exact List.getElem_mem hk)
    rw [h3, req_t, h4, req_t]
    refine ⟨rfl, vp5 k0 k1 pl it tx ?_⟩
    rw [br_f]
    refine ⟨_, rfl, r5_10 l _ _ _ _ _ ?_ pr (Nat.le_trans pl (by omega)) (_ + 1) 0 (Nat.lt_succ_of_le (Nat.sub_le _ _))⟩
    have := ih (k + 1) (by omega)
    rw [show ((k + 1 : Nat) : Int) = (k : Int) + 1 by omega] at this
    rw [in64 k (by omega), req_t]
    exact ⟨rfl, this⟩
theorem v5 {b : List Dat} (hb : okB b) (hN : b.length ≤ 4194304) {K : Bool → Prop} (hK : K true) : m5 b K := by
  have hlim : limB = 16777216 := rfl
  have hal := allD_len hb
  unfold m5
  refine v14 hb hN ?_
  rw [in64 b.length (by omega), req_t]
  refine br_mk (fun hc => absurd (of_decide_eq_true hc) (by omega)) (fun _ => ?_)
  exact ⟨_, rfl, r5_5 (allD b) (allD_ok hb) (by omega) _ _ hK (_ + 1) 0 (Nat.lt_succ_of_le (Nat.sub_le _ _))⟩
end Go.Proofs.YtojdmhfkgkfpaaaDoor

set_option linter.unusedVariables false
set_option maxRecDepth 100000
namespace Go.Proofs.YtojdmhfkgkfpaaaDoor.vtparseBounds
open Go.ChangeShapes Go.WideShapes Go.ChangeAt Go.RowKit Go.AM
theorem true5 {b : List Dat} (hb : okB b) (hN : b.length ≤ 4194304) : m5 b tb := v5 hb hN trivial
theorem rule5 (b : List Dat) : R5 [.ro (.int .u8) b] h0 isTrue = m5 b tb := by kernel_rfl
theorem own : ownKnob Tryd.prog.godebug = none := by kernel_rfl
theorem contract (H : Type) (enc : TypeId × Value → H) (W : World) (base : Nat) (args : Array Value) (ds gs : List (DataW H)) (before : List MemPlace)
    (hval : ∀ (j : Nat) t v, Tryd.f5.params[j]? = some t → args[j]? = some v → Value.okWide Tryd.prog W .any base t v)
    (hW : DataW.Whole enc Tryd.prog Tryd.f5.params.toList Rows.vtparseBoundsSpec.vars false W args.toList ds gs before) (hL : laidMetH Tryd.prog Rows.vtparseBoundsUptoRow.laid W) (hk : Rows.uptoSmall H (ds ++ gs) = true) :
    Calls Tryd.prog 5 args W fun e W' => ∃ v, e = .returned v ∧ Rows.vtparseBoundsSpec.post enc Tryd.prog Tryd.f5 false true false false W args v W' := by
  have one : ∃ d0, ds = [d0] := by
    obtain ⟨p, q, hA, hV, _⟩ := hW
    rw [Tryd.params5] at hA
    obtain ⟨v0, vs0, d0, ds0, p0, q0, hargs0, rfl, rfl, h0, r0⟩ := trodAll_cons hA
    obtain ⟨rfl, rfl, rfl⟩ := trodAll_nil r0
    exact ⟨d0, rfl⟩
  obtain ⟨d0, rfl⟩ := one
  have hgs : gs = [] := by
    obtain ⟨p, q, hA, hV, _⟩ := hW
    obtain ⟨rfl, _⟩ := trodVars_none hV
    rfl
  subst hgs
  refine law_contractR ok5 (tb := 4) (ss := [.slice (.int .u8)]) (tabs_laid hL) hval hW rfl (by kernel_rfl) (by kernel_rfl) (fun hl => rfl) (by kernel_rfl) (by kernel_rfl) (by kernel_rfl) (fun hF => ?_)
  refine ⟨[.ro (.int .u8) (toDat (.slice (.int .u8)) d0).toList], by kernel_rfl, ?_⟩
  rw [rule5]
  have hf0 := hF (.slice (.int .u8), d0) (by simp)
  have hb := bound hk
  have hb0 := bulk_mem (d := d0) (l := [d0] ++ []) (by simp)
  have h2 := slice_len (.int .u8) d0
  exact true5 (bytes_ok d0 hf0) (by omega)
theorem laid_met (os : Os) : laidMet Tryd.prog Rows.vtparseBoundsUptoRow.laid (((laidWorld Rows.vtparseBoundsUptoRow.laid os).forCall (fun _ _ => 0) ⟨#[], #[.slice none 0 0], []⟩)).memory :=
  laidMet_of_run' 8 (by kernel_rfl) (by kernel_rfl)
theorem reads (os : Os) {H : Type} (enc : TypeId × Value → H) : ∃ places, DataW.whole enc Tryd.prog ((laidWorld Rows.vtparseBoundsUptoRow.laid os).forCall (fun _ _ => 0) ⟨#[], #[.slice none 0 0], []⟩).memory Tryd.f5.params.toList Rows.vtparseBoundsSpec.vars false #[Value.slice none 0 0].toList 8 = some ([.nil], [], places) :=
  ⟨[], by kernel_rfl⟩
theorem lifted (os : Os) (started : os.Started) (H : Type) (enc : TypeId × Value → H) (F : Stop.Interp) :
    ReturnsInHanded {} Tryd.checked os 5 .any ((Rows.OpenSpec.upto Rows.vtparseBoundsSpec).preRow enc Tryd.prog Tryd.f5 Rows.vtparseBoundsUptoRow.domain false Rows.vtparseBoundsUptoRow.laid) (((Rows.OpenSpec.upto Rows.vtparseBoundsSpec).at F).post enc Tryd.prog Tryd.f5 false true false false) := by
  obtain ⟨places, hx⟩ := reads os enc
  refine returnsInHanded_of_row (C := Tryd.checked) (s := Rows.OpenSpec.upto Rows.vtparseBoundsSpec) own started (by kernel_rfl) Tryd.func5
    (witness_row_at (enc := enc) (C := Tryd.checked) false (laidWorld Rows.vtparseBoundsUptoRow.laid os) #[.slice none 0 0] rfl (by kernel_rfl) (by kernel_rfl) (by kernel_rfl)
      (OpenSpec.preRow_of_cond 8 hx (by kernel_rfl) (fun k hk => by cases hk; kernel_rfl) (by kernel_rfl) (laid_met os))) ?_
  intro W base args ds gs before hval hW hc1 hc2 hc3 hL _ _
  first
    | exact contract H enc W base args ds gs before hval hW hL (hc1 _ rfl)
    | exact contract H enc W base args ds gs before hval hW hL (hc2 _ rfl)
    | exact contract H enc W base args ds gs before hval hW hL (hc3 _ rfl)
theorem said : Rows.VtparseBoundsUptoSaid :=
  OpenClaim.holds_of_cond 5 Tryd.f5 rfl rfl rfl rfl rfl rfl rfl ⟨rfl, rfl, rfl, rfl, rfl⟩ rfl rfl rfl rfl rfl (by kernel_rfl) Tryd.func5 (by kernel_rfl)
    (of_decide_eq_true (by kernel_rfl)) (by unfold Func.isWrapper; first | (rw [if_pos (by decide +kernel)]; kernel_rfl) | (rw [if_neg (by decide +kernel)]; exact ⟨rfl, rfl⟩))
    (fun os started H enc _ F => by rw [OpenClaim.pre_eq_preRow]; exact lifted os started H enc F)
/-- No parameter wants a stand-in; the program's own looks are off. -/
theorem plain (f : FuncId) (fn : Func) (hf : Tryd.pinned.checked.prog.funcNamed "lanyard/lanyardlaw05.VtparseBounds" = some f) (hfn : Tryd.pinned.checked.prog.funcs[f]? = some fn) :
    false = Tryd.pinned.checked.prog.looks [] ∧ ∀ (j : Nat) t, fn.params[j]? = some t → Tryd.pinned.checked.prog.wantsStandIn t = false := by
  obtain rfl : f = 5 := Option.some.inj ((show Tryd.prog.funcNamed "lanyard/lanyardlaw05.VtparseBounds" = some 5 by kernel_rfl).symm.trans hf) |>.symm
  obtain rfl : fn = Tryd.f5 := (Option.some.inj (Tryd.func5.symm.trans hfn)).symm
  refine ⟨by kernel_rfl, fun j t ht => ?_⟩
  have h1 : (Tryd.f5.params.toList.all fun t => !Tryd.pinned.checked.prog.wantsStandIn t) = true := by kernel_rfl
  have h2 := List.all_eq_true.1 h1 t (Array.mem_toList_iff.2 (Array.mem_of_getElem? ht))
  simpa using h2
theorem card : Rows.VtparseBoundsUptoCardSaid :=
  Claim7.holds_tied_plain_at .later [] _ _ _ _ said (fun _ h => by cases h) (by kernel_rfl) (fun _ h => by cases h) vtparseBoundsUpto_row_tie rfl ⟨rfl, rfl⟩ (by kernel_rfl) rfl plain (by kernel_rfl)
end Go.Proofs.YtojdmhfkgkfpaaaDoor.vtparseBounds

