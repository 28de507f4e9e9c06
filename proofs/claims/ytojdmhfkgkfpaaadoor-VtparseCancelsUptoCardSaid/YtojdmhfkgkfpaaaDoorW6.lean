/- VtparseCancels answers true for every input of bulk at most 1048576; conditions: the second form's bound, the listed tables. -/
import Derived.Test.YtojdmhfkgkfpaaaDoorLz
import Derived.Test.YtojdmhfkgkfpaaaDoorCards
import Derived.Test.YtojdmhfkgkfpaaaDoorTie
import Derived.WalkKit
import Derived.ProofKit
import Derived.OpenShut
import Derived.Deep.DeepHandedRow
import Derived.Lib.LaidTab
set_option linter.unusedVariables false
set_option maxRecDepth 100000
namespace Go.Proofs.YtojdmhfkgkfpaaaDoor
open Go.AM Go.LTxt Go.LMem Go.RowKit
noncomputable def l6_5 : Nat → PS → DS → List Dat → List Dat → List Dat → Int → Int → (PS → DS → List Dat → Prop) → (PS → DS → Bool → Prop) → Prop
  | 0, _, _, _, _, _, _, _, _, _ => False
  | fu + 1, p, d, l, b, c, n, n2, E0, R_ =>
    br (decide (n2 < n)) (
     req (decide ((0 : Int) ≤ n2) && decide (n2 < (↑(List.length l) : Int))) (
     req (decide ((0 : Nat) + Int.toNat n2 < List.length l)) (
     ((List.length (PS.aParams p) = List.length (PS.aParams p)) ∧ 
     ((List.length (PS.out p) = List.length (PS.out p)) ∧ 
     ((List.length (DS.b d) = List.length (DS.b d)) ∧ 
     m17 { made := PS.made p, state := PS.state p, aKind := PS.aKind p, aRune := PS.aRune p, aFinal := PS.aFinal p, aPrivate := PS.aPrivate p, aParams := PS.aParams p, aInter := PS.aInter p, aText := PS.aText p, many := PS.many p, out := PS.out p } { made := DS.made d, b := DS.b d } b (fun y0 y1 y2 => 
      ((List.length (PS.aParams y0) = List.length (PS.aParams y0)) ∧ 
      ((List.length (PS.out y0) = List.length (PS.out y0)) ∧ 
      ((List.length (DS.b y1) = List.length (DS.b y1)) ∧ 
      m17 { made := PS.made y0, state := PS.state y0, aKind := PS.aKind y0, aRune := PS.aRune y0, aFinal := PS.aFinal y0, aPrivate := PS.aPrivate y0, aParams := PS.aParams y0, aInter := PS.aInter y0, aText := PS.aText y0, many := PS.many y0, out := PS.out y0 } { made := DS.made y1, b := DS.b y1 } [Dat.int (Dat.toInt (List.getD l ((0 : Nat) + Int.toNat n2) default))] (fun y3 y4 y5 => 
       br (decide ((↑(List.length y5) : Int) = (0 : Int))) (R_ y3 y4 false) (
        req (inR IntKind.i64 ((↑(List.length y5) : Int) - (1 : Int))) (
        req (decide ((0 : Int) ≤ (↑(List.length y5) : Int) - (1 : Int)) && decide ((↑(List.length y5) : Int) - (1 : Int) < (↑(List.length y5) : Int))) (
        req (decide ((0 : Nat) + Int.toNat ((↑(List.length y5) : Int) - (1 : Int)) < List.length y5)) (
        br (!decide (Dat.toInt (Dat.fst (List.getD y5 ((0 : Nat) + Int.toNat ((↑(List.length y5) : Int) - (1 : Int))) default)) = (2 : Int))) (R_ y3 y4 false) (
         req (inR IntKind.i64 ((↑(List.length y5) : Int) - (1 : Int))) (
         req (decide ((0 : Int) ≤ (↑(List.length y5) : Int) - (1 : Int)) && decide ((↑(List.length y5) : Int) - (1 : Int) < (↑(List.length y5) : Int))) (
         req (decide ((0 : Nat) + Int.toNat ((↑(List.length y5) : Int) - (1 : Int)) < List.length y5)) (
         br (!decide (Dat.toInt (Dat.fst (Dat.snd (Dat.snd (List.getD y5 ((0 : Nat) + Int.toNat ((↑(List.length y5) : Int) - (1 : Int))) default)))) = Dat.toInt (List.getD l ((0 : Nat) + Int.toNat n2) default))) (R_ y3 y4 false) (
          ((List.length (PS.aParams y3) = List.length (PS.aParams y3)) ∧ 
          ((List.length (PS.out y3) = List.length (PS.out y3)) ∧ 
          ((List.length (DS.b y4) = List.length (DS.b y4)) ∧ 
          m18 { made := PS.made y3, state := PS.state y3, aKind := PS.aKind y3, aRune := PS.aRune y3, aFinal := PS.aFinal y3, aPrivate := PS.aPrivate y3, aParams := PS.aParams y3, aInter := PS.aInter y3, aText := PS.aText y3, many := PS.many y3, out := PS.out y3 } { made := DS.made y4, b := DS.b y4 } (fun y6 y7 y8 => 
           br (!y8) (R_ y6 y7 false) (
            req (inR IntKind.i64 (n2 + (1 : Int))) (((List.length l) = List.length l ∧ ((List.length (PS.aParams y6)) = List.length (PS.aParams y6) ∧ ((List.length (PS.out y6)) = List.length (PS.out y6) ∧ ((List.length (DS.b y7)) = List.length (DS.b y7) ∧ l6_5 fu y6 y7 l b c n (n2 + (1 : Int)) E0 R_)))))))))))))))))))))))))))))) (E0 p d c)
def F6_5 : AM.Form := ⟨mkF 68 [(0, .ro (.int .u8)), (1, .ro (.int .u8)), (5, .p 0 0), (17, .sl 5), (18, .int .i64), (19, .int .i64)], [.cells 53 [.bool, .int .i64, .p 1 0, .int .i64, .int .i32, .int .u8, .int .u8, .sl 3, .str, .str, .int .i64, .sl 4], .cells 71 [.bool, .sl 2], .seq 5 (.int .u8), .seq 3 (.int .i64), .seq 35 (.pair (.int .i64) (.pair (.int .i32) (.pair (.int .u8) (.pair (.int .u8) (.pair (.slice (.int .i64)) (.pair .str (.pair .str .unit))))))), .seq 5 (.int .u8)]⟩
noncomputable def mm6_5 (n : Nat) (ds : List Dat) (Q : AExit → List AV → AH → Prop) : Prop := l6_5 n ⟨(dat ds 4).toBool, (dat ds 5).toInt, (dat ds 6).toInt, (dat ds 7).toInt, (dat ds 8).toInt, (dat ds 9).toInt, (dat ds 15).toList, (dat ds 10).toStr, (dat ds 11).toStr, (dat ds 12).toInt, (dat ds 16).toList⟩ ⟨(dat ds 13).toBool, (dat ds 14).toList⟩ ((dat ds 17).toList) ((dat ds 0).toList) ((dat ds 1).toList) ((dat ds 2).toInt) ((dat ds 3).toInt) (fun rp rd rxs => Q (AExit.exit 0) (mkAV 68 [(1, .ro (.int .u8) rxs), (5, .p 0 0)]) ⟨[.cells 53 [.c (.bool rp.made), .c (.int .i64 rp.state), .p 1 0, .c (.int .i64 rp.aKind), .c (.int .i32 rp.aRune), .c (.int .u8 rp.aFinal), .c (.int .u8 rp.aPrivate), .sl 3 0 rp.aParams.length, .c (.string rp.aInter), .c (.string rp.aText), .c (.int .i64 rp.many), .sl 4 0 rp.out.length], .cells 71 [.c (.bool rd.made), .sl 2 0 rd.b.length], .seq 5 (.int .u8) rd.b, .seq 3 (.int .i64) rp.aParams, .seq 35 (.pair (.int .i64) (.pair (.int .i32) (.pair (.int .u8) (.pair (.int .u8) (.pair (.slice (.int .i64)) (.pair .str (.pair .str .unit))))))) rp.out], []⟩) (fun rp rd rb => Q AExit.ret (mkAV 68 [(4, .c (.bool rb)), (5, .p 0 0)]) ⟨[.cells 53 [.c (.bool rp.made), .c (.int .i64 rp.state), .p 1 0, .c (.int .i64 rp.aKind), .c (.int .i32 rp.aRune), .c (.int .u8 rp.aFinal), .c (.int .u8 rp.aPrivate), .sl 3 0 rp.aParams.length, .c (.string rp.aInter), .c (.string rp.aText), .c (.int .i64 rp.many), .sl 4 0 rp.out.length], .cells 71 [.c (.bool rd.made), .sl 2 0 rd.b.length], .seq 5 (.int .u8) rd.b, .seq 3 (.int .i64) rp.aParams, .seq 35 (.pair (.int .i64) (.pair (.int .i32) (.pair (.int .u8) (.pair (.int .u8) (.pair (.slice (.int .i64)) (.pair .str (.pair .str .unit))))))) rp.out], []⟩)
theorem t6_5 (n : Nat) (ds : List Dat) (Q : AExit → List AV → AH → Prop) : wpA Tryd.prog tys GG3 1000 6 (theLoop Tryd.prog 6 5) (fun e f' h' => endF Tryd.prog ((fun _ => []) e) ((fun e => match e with | .normal => ⟨[0, 1, 5, 17, 18, 19], []⟩ | .exit 0 => ⟨[1, 5], []⟩ | .ret => ⟨[4, 5], []⟩ | _ => ⟨[], []⟩) e) ((fun e => match e with | .normal => [] | .exit 0 => [] | .ret => [] | _ => []) e) (F6_5.hp ds) f' h' fun f2 h2 => match e with
      | .normal => locL F6_5 (mm6_5 n) f2 h2 Q
      | e => Q e f2 h2) (F6_5.fr ds) (F6_5.hp ds) = mm6_5 (n + 1) ds Q := by kernel_rfl
noncomputable def R6_5 : LoopT := headF Tryd.prog [] ⟨[0, 1, 5, 17, 18, 19], []⟩ [] fun f h Q => ∃ n, locL F6_5 (mm6_5 n) f h Q
theorem ok6_5 : LoopOK Tryd.prog (theLoop Tryd.prog 6 5) R6_5 := ruleL_ok sGG3 (by kernel_rfl) mm6_5 (fun _ _ => rfl) t6_5
noncomputable def ls6_5 : List (FuncId × Nat × LoopT) := (6, 5, R6_5) :: ls13_4
theorem ls6_5_ok : LoopsOK Tryd.prog ls6_5 := .cons (by kernel_rfl) ok6_5 ls13_4_ok
noncomputable def GG6_5 : Rules := mkG [] cs3 ls6_5
theorem sGG6_5 : Sound Tryd.prog tys GG6_5 := mk_sound mixed tysOK names (by kernel_rfl) cs3_ok ls6_5_ok
noncomputable def m6 (b : List Dat) (c : List Dat) (K : Bool → Prop) : Prop :=
    m16 (fun y0 y1 => 
     (∃ y2, 
     (((2 : Nat) = (2 : Nat)) ∧ 
     ((List.length (PS.aParams y0) = List.length (PS.aParams y0)) ∧ 
     ((List.length (PS.out y0) = List.length (PS.out y0)) ∧ 
     ((List.length (DS.b y1) = List.length (DS.b y1)) ∧ 
     l6_5 y2 { made := PS.made y0, state := PS.state y0, aKind := PS.aKind y0, aRune := PS.aRune y0, aFinal := PS.aFinal y0, aPrivate := PS.aPrivate y0, aParams := PS.aParams y0, aInter := PS.aInter y0, aText := PS.aText y0, many := PS.many y0, out := PS.out y0 } { made := DS.made y1, b := DS.b y1 } [Dat.int (24 : Int), Dat.int (26 : Int)] b c (↑(2 : Nat) : Int) (0 : Int) (fun y3 y4 y5 => 
      m16 (fun y6 y7 => 
       ((List.length (PS.aParams y3) = List.length (PS.aParams y3)) ∧ 
       ((List.length (PS.out y3) = List.length (PS.out y3)) ∧ 
       ((List.length (DS.b y4) = List.length (DS.b y4)) ∧ 
       m17 { made := PS.made y3, state := PS.state y3, aKind := PS.aKind y3, aRune := PS.aRune y3, aFinal := PS.aFinal y3, aPrivate := PS.aPrivate y3, aParams := PS.aParams y3, aInter := PS.aInter y3, aText := PS.aText y3, many := PS.many y3, out := PS.out y3 } { made := DS.made y4, b := DS.b y4 } y5 (fun y8 y9 y10 => 
        ((List.length (PS.aParams y6) = List.length (PS.aParams y6)) ∧ 
        ((List.length (PS.out y6) = List.length (PS.out y6)) ∧ 
        ((List.length (DS.b y7) = List.length (DS.b y7)) ∧ 
        m17 { made := PS.made y6, state := PS.state y6, aKind := PS.aKind y6, aRune := PS.aRune y6, aFinal := PS.aFinal y6, aPrivate := PS.aPrivate y6, aParams := PS.aParams y6, aInter := PS.aInter y6, aText := PS.aText y6, many := PS.many y6, out := PS.out y6 } { made := DS.made y7, b := DS.b y7 } y5 (fun y11 y12 y13 => 
         req (decide ((0 : Nat) + List.length y10 ≤ List.length y10)) (
         req (decide ((0 : Nat) + List.length y13 ≤ List.length y13)) (
         m13 (List.take (List.length y10) y10) (List.take (List.length y13) y13) (fun y14 => K y14))))))))))))) (fun y15 y16 y17 => K y17)))))))
def F6 : AM.Form := ⟨[.ro (.int .u8), .ro (.int .u8)], []⟩
noncomputable def mm6 (ds : List Dat) (K : AV → AH → Prop) : Prop := m6 ((dat ds 0).toList) ((dat ds 1).toList) (fun rb => K (.c (.bool rb)) ⟨[], []⟩)
theorem t6 (ds : List Dat) (K : AV → AH → Prop) : callA Tryd.prog tys GG6_5 1000 6 (F6.fr ds) (F6.hp ds) (fun v h' => endK Tryd.prog [] .keep (F6.hp ds) (F6.fr ds) v h' K) = mm6 ds K := by kernel_rfl
noncomputable def R6 : CallT := ruleF Tryd.prog [(.ro (.int .u8)), (.ro (.int .u8))] [] F6 mm6
theorem ok6 : CallOK Tryd.prog 6 R6 := ruleF_ok sGG6_5 t6
noncomputable def cs6 : List (FuncId × CallT) := (6, R6) :: cs3
theorem cs6_ok : CallsOK Tryd.prog cs6 := .cons ok6 cs3_ok
noncomputable def GG6 : Rules := mkG [] cs6 ls6_5
theorem sGG6 : Sound Tryd.prog tys GG6 := mk_sound mixed tysOK names (by kernel_rfl) cs6_ok ls6_5_ok
end Go.Proofs.YtojdmhfkgkfpaaaDoor

set_option linter.unusedVariables false
set_option linter.unusedSimpArgs false
set_option maxRecDepth 100000
namespace Go.Proofs.YtojdmhfkgkfpaaaDoor
open Go.AM Go.LTxt Go.LMem Go.RowKit
set_option maxHeartbeats 0
theorem step_can {x : X} {b : Int} (h : b = 24 ∨ b = 26) : (step x b).1 = X0 ∧ ∃ l, (step x b).2 = l ++ [exec b] := by
  unfold step
  rcases h with rfl | rfl
  · by_cases h0 : x.st = 0
    · rw [if_pos h0]; exact ⟨rfl, _, rfl⟩
    · rw [if_neg h0]; exact ⟨rfl, [], rfl⟩
  · by_cases h0 : x.st = 0
    · rw [if_pos h0]; exact ⟨rfl, _, rfl⟩
    · rw [if_neg h0]; exact ⟨rfl, [], rfl⟩
theorem okB_one {b : Int} (h0 : 0 ≤ b) (h1 : b ≤ 255) : okB [.int b] := by
  unfold okB bD toB
  simp only [List.map_cons, List.map_nil, Dat.toInt]
  rw [ofNat_toNat h0 h1]
/-- one round: bytes, then a CAN or a SUB -/
theorem last_exec (l : List Dat) (b : Int) : (l ++ [exec b]).getD (0 + ((((l ++ [exec b]).length : Nat) : Int) - 1).toNat) default = exec b := by
  have e : 0 + ((((l ++ [exec b]).length : Nat) : Int) - 1).toNat = l.length := by simp
  rw [e, List.getD_eq_getElem?_getD, List.getElem?_append_right (by omega)]
  simp
theorem in64' (n : Nat) (h : n ≤ limB) : inR .i64 ((n : Int) - 1) = true := in_i64P ((n : Int) - 1) (by have : limB = 16777216 := rfl; omega) (by have : limB = 16777216 := rfl; omega)
theorem steps_one {x : X} {b : Int} (h : b = 24 ∨ b = 26) : ∃ l, steps x [.int b] = (X0, l ++ [exec b]) := by
  obtain ⟨h1, l, h2⟩ := step_can (x := x) h
  refine ⟨l, ?_⟩
  simp only [steps, Dat.toInt, List.append_nil]
  rw [h1, h2]
theorem round6 {p : PS} {d : DS} {x : X} {M : Int} {z : Int} {K : PS → DS → List Dat → Prop} (hR : RelP p d x [] M) (hI : Inv x) (hz : z = 24 ∨ z = 26) (hN : cnt x + 16 ≤ limB) (hM : M + 2 ≤ limB)
    (hK : ∀ p' d' l, RelP p' d' X0 [] (M + 2) → l.length + 1 ≤ cnt x + 2 → K p' d' (l ++ [exec z])) : m17 p d [.int z] K := by
  have hlim : limB = 16777216 := rfl
  have hzb : okB [.int z] := okB_one (by omega) (by omega)
  refine v17 hR hI hzb (by simp; omega) (by simp; omega) fun p' d' hr => ?_
  obtain ⟨l, e⟩ := steps_one (x := x) hz
  have hc := steps_cnt hI hzb
  rw [e] at hr hc ⊢
  refine hK p' d' l (hr.mono (by simp)) ?_
  simp at hc
  omega
theorem exec_kind (z : Int) : Dat.toInt (Dat.fst (exec z)) = 2 := rfl
theorem exec_final (z : Int) : Dat.toInt (Dat.fst (Dat.snd (Dat.snd (exec z)))) = z := rfl
theorem r6_5 (b c : List Dat) (hb : okB b) (hc : okB c) (hT : 6 * b.length + 64 ≤ limB) (E : PS → DS → List Dat → Prop) (R_ : PS → DS → Bool → Prop)
    (hE : ∀ p d, RelP p d X0 [] (4 * b.length + 4) → E p d c) :
    ∀ (m k : Nat), k + m = 2 → ∀ (p : PS) (d : DS), RelP p d X0 [] ((k * (2 * b.length + 2) : Nat) : Int) → l6_5 (m + 1) p d [.int 24, .int 26] b c ((2 : Nat) : Int) (k : Int) E R_ := by
  intro m
  have hlim : limB = 16777216 := rfl
  induction m with
  | zero =>
    intro k hk p d hR
    obtain rfl : k = 2 := by omega
    unfold l6_5
    refine br_mk (fun h2 => by simp at h2) (fun _ => hE p d (hR.mono (by omega)))
  | succ m ih =>
    intro k hk p d hR
    have hk2 : k < 2 := by omega
    have hkM : k * (2 * b.length + 2) ≤ 2 * b.length + 2 := by
      rcases (by omega : k = 0 ∨ k = 1) with rfl | rfl <;> simp
    obtain ⟨z, hz, hz2⟩ : ∃ z, (List.getD [Dat.int 24, Dat.int 26] (0 + k) default).toInt = z ∧ (z = 24 ∨ z = 26) := by
      rcases (by omega : k = 0 ∨ k = 1) with rfl | rfl
      · exact ⟨24, rfl, Or.inl rfl⟩
      · exact ⟨26, rfl, Or.inr rfl⟩
    have hcb := steps_cnt Inv0 hb
    have e0 : cnt X0 = 0 := rfl
    unfold l6_5
    rw [Int.toNat_natCast, hz]
    refine br_mk (fun _ => ?_) (fun h2 => by simp at h2; omega)
    refine req_mk (by simp; omega) (req_mk (by simp; omega) ⟨rfl, rfl, rfl, ?_⟩)
    refine v17 hR Inv0 hb (by omega) (by omega) fun p1 d1 hr1 => ⟨rfl, rfl, rfl, ?_⟩
    refine round6 hr1 (steps_inv Inv0 hb) hz2 (by omega) (by omega) fun p2 d2 l hr2 hl => ?_
    have hlen : (l ++ [exec z]).length ≤ limB := by simp; omega
    have h64 := in64' _ hlen
    have hne : ((l ++ [exec z]).length : Int) ≠ 0 := by simp; omega
    have hq1 : (decide ((0 : Int) ≤ ((l ++ [exec z]).length : Int) - 1) && decide (((l ++ [exec z]).length : Int) - 1 < ((l ++ [exec z]).length : Int))) = true := by simp; omega
    have hq2 : decide (0 + Int.toNat (((l ++ [exec z]).length : Int) - 1) < (l ++ [exec z]).length) = true := by simp
    rw [last_exec, exec_kind, exec_final]
    generalize l ++ [exec z] = y at *
    refine br_mk (fun h => absurd (of_decide_eq_true h) hne) (fun _ => ?_)
    have d2e : (!decide ((2 : Int) = 2)) = false := rfl
    have dze : (!decide (z = z)) = false := by simp
    rw [h64, req_t, hq1, req_t, hq2, req_t, d2e, br_f, req_t, req_t, req_t, dze, br_f]
    refine ⟨rfl, rfl, rfl, v18 hr2 ?_⟩
    rw [show (!isG X0) = false from rfl, br_f, in64 k (by omega), req_t]
    refine ⟨rfl, rfl, rfl, rfl, ?_⟩
    rw [show (k : Int) + 1 = ((k + 1 : Nat) : Int) by omega]
    refine ih (k + 1) (by omega) p2 d2 (hr2.mono ?_)
    have : (k + 1) * (2 * b.length + 2) = k * (2 * b.length + 2) + (2 * b.length + 2) := by rw [Nat.add_mul]; omega
    omega
theorem v6 {b c : List Dat} (hb : okB b) (hc : okB c) (hT : 6 * b.length + 64 ≤ limB) (hT2 : 6 * c.length + 64 ≤ limB) {K : Bool → Prop} (hK : K true) : m6 b c K := by
  have hlim : limB = 16777216 := rfl
  have hcnt := steps_cnt Inv0 hc
  have e : cnt X0 = 0 := rfl
  unfold m6
  refine v16 ?_
  refine ⟨3, rfl, rfl, rfl, rfl, r6_5 b c hb hc hT _ _ (fun p d hr => ?_) 2 0 rfl _ _ (newP_rel.mono (by simp))⟩
  refine v16 ⟨rfl, rfl, rfl, ?_⟩
  refine v17 hr Inv0 hc (by omega) (by omega) fun p1 d1 hr1 => ⟨rfl, rfl, rfl, ?_⟩
  refine v17 newP_rel Inv0 hc (by omega) (by omega) fun p2 d2 hr2 => ?_
  have hlt : (0 : Nat) + (steps X0 c).2.length ≤ (steps X0 c).2.length := by omega
  refine req_mk (decide_eq_true hlt) (req_mk (decide_eq_true hlt) ?_)
  rw [List.take_length]
  exact v13 hK (steps_ok Inv0 hc) (by omega)
end Go.Proofs.YtojdmhfkgkfpaaaDoor

set_option linter.unusedVariables false
set_option maxRecDepth 100000
namespace Go.Proofs.YtojdmhfkgkfpaaaDoor.vtparseCancels
open Go.ChangeShapes Go.WideShapes Go.ChangeAt Go.RowKit Go.AM
theorem true6 {b c : List Dat} (hb : okB b) (hc : okB c) (hT : 6 * b.length + 64 ≤ limB) (hT2 : 6 * c.length + 64 ≤ limB) : m6 b c tb := v6 hb hc hT hT2 trivial
theorem rule6 (b c : List Dat) : R6 [.ro (.int .u8) b, .ro (.int .u8) c] h0 isTrue = m6 b c tb := by kernel_rfl
theorem own : ownKnob Tryd.prog.godebug = none := by kernel_rfl
theorem contract (H : Type) (enc : TypeId × Value → H) (W : World) (base : Nat) (args : Array Value) (ds gs : List (DataW H)) (before : List MemPlace)
    (hval : ∀ (j : Nat) t v, Tryd.f6.params[j]? = some t → args[j]? = some v → Value.okWide Tryd.prog W .any base t v)
    (hW : DataW.Whole enc Tryd.prog Tryd.f6.params.toList Rows.vtparseCancelsSpec.vars false W args.toList ds gs before) (hL : laidMetH Tryd.prog Rows.vtparseCancelsUptoRow.laid W) (hk : Rows.uptoSmall H (ds ++ gs) = true) :
    Calls Tryd.prog 6 args W fun e W' => ∃ v, e = .returned v ∧ Rows.vtparseCancelsSpec.post enc Tryd.prog Tryd.f6 false true false false W args v W' := by
  have one : ∃ d0 d1, ds = [d0, d1] := by
    obtain ⟨p, q, hA, hV, _⟩ := hW
    rw [Tryd.params6] at hA
    obtain ⟨v0, vs0, d0, ds0, p0, q0, hargs0, rfl, rfl, h0, r0⟩ := trodAll_cons hA
    obtain ⟨v1, vs1, d1, ds1, p1, q1, hargs1, rfl, rfl, h1, r1⟩ := trodAll_cons r0
    obtain ⟨rfl, rfl, rfl⟩ := trodAll_nil r1
    exact ⟨d0, d1, rfl⟩
  obtain ⟨d0, d1, rfl⟩ := one
  have hgs : gs = [] := by
    obtain ⟨p, q, hA, hV, _⟩ := hW
    obtain ⟨rfl, _⟩ := trodVars_none hV
    rfl
  subst hgs
  refine law_contractR ok6 (tb := 4) (ss := [.slice (.int .u8), .slice (.int .u8)]) (tabs_laid hL) hval hW rfl (by kernel_rfl) (by kernel_rfl) (fun hl => rfl) (by kernel_rfl) (by kernel_rfl) (by kernel_rfl) (fun hF => ?_)
  refine ⟨[.ro (.int .u8) (toDat (.slice (.int .u8)) d0).toList, .ro (.int .u8) (toDat (.slice (.int .u8)) d1).toList], by kernel_rfl, ?_⟩
  rw [rule6]
  have hf0 := hF (.slice (.int .u8), d0) (by simp)
  have hf1 := hF (.slice (.int .u8), d1) (by simp)
  have hb := bound hk
  have hb0 := bulk_mem (d := d0) (l := [d0, d1] ++ []) (by simp)
  have hb1 := bulk_mem (d := d1) (l := [d0, d1] ++ []) (by simp)
  have h2 := slice_len (.int .u8) d0
  have h3 := slice_len (.int .u8) d1
  exact true6 (bytes_ok d0 hf0) (bytes_ok d1 hf1) (by have hlim : limB = 16777216 := rfl; omega) (by have hlim : limB = 16777216 := rfl; omega)
theorem laid_met (os : Os) : laidMet Tryd.prog Rows.vtparseCancelsUptoRow.laid (((laidWorld Rows.vtparseCancelsUptoRow.laid os).forCall (fun _ _ => 0) ⟨#[], #[.slice none 0 0, .slice none 0 0], []⟩)).memory :=
  laidMet_of_run' 8 (by kernel_rfl) (by kernel_rfl)
theorem reads (os : Os) {H : Type} (enc : TypeId × Value → H) : ∃ places, DataW.whole enc Tryd.prog ((laidWorld Rows.vtparseCancelsUptoRow.laid os).forCall (fun _ _ => 0) ⟨#[], #[.slice none 0 0, .slice none 0 0], []⟩).memory Tryd.f6.params.toList Rows.vtparseCancelsSpec.vars false #[Value.slice none 0 0, .slice none 0 0].toList 8 = some ([.nil, .nil], [], places) :=
  ⟨[], by kernel_rfl⟩
theorem lifted (os : Os) (started : os.Started) (H : Type) (enc : TypeId × Value → H) (F : Stop.Interp) :
    ReturnsInHanded {} Tryd.checked os 6 .any ((Rows.OpenSpec.upto Rows.vtparseCancelsSpec).preRow enc Tryd.prog Tryd.f6 Rows.vtparseCancelsUptoRow.domain false Rows.vtparseCancelsUptoRow.laid) (((Rows.OpenSpec.upto Rows.vtparseCancelsSpec).at F).post enc Tryd.prog Tryd.f6 false true false false) := by
  obtain ⟨places, hx⟩ := reads os enc
  refine returnsInHanded_of_row (C := Tryd.checked) (s := Rows.OpenSpec.upto Rows.vtparseCancelsSpec) own started (by kernel_rfl) Tryd.func6
    (witness_row_at (enc := enc) (C := Tryd.checked) false (laidWorld Rows.vtparseCancelsUptoRow.laid os) #[.slice none 0 0, .slice none 0 0] rfl (by kernel_rfl) (by kernel_rfl) (by kernel_rfl)
      (OpenSpec.preRow_of_cond 8 hx (by kernel_rfl) (fun k hk => by cases hk; kernel_rfl) (by kernel_rfl) (laid_met os))) ?_
  intro W base args ds gs before hval hW hc1 hc2 hc3 hL _ _
  first
    | exact contract H enc W base args ds gs before hval hW hL (hc1 _ rfl)
    | exact contract H enc W base args ds gs before hval hW hL (hc2 _ rfl)
    | exact contract H enc W base args ds gs before hval hW hL (hc3 _ rfl)
theorem said : Rows.VtparseCancelsUptoSaid :=
  OpenClaim.holds_of_cond 6 Tryd.f6 rfl rfl rfl rfl rfl rfl rfl ⟨rfl, rfl, rfl, rfl, rfl⟩ rfl rfl rfl rfl rfl (by kernel_rfl) Tryd.func6 (by kernel_rfl)
    (of_decide_eq_true (by kernel_rfl)) (by unfold Func.isWrapper; first | (rw [if_pos (by decide +kernel)]; kernel_rfl) | (rw [if_neg (by decide +kernel)]; exact ⟨rfl, rfl⟩))
    (fun os started H enc _ F => by rw [OpenClaim.pre_eq_preRow]; exact lifted os started H enc F)
/-- No parameter wants a stand-in; the program's own looks are off. -/
theorem plain (f : FuncId) (fn : Func) (hf : Tryd.pinned.checked.prog.funcNamed "lanyard/lanyardlaw05.VtparseCancels" = some f) (hfn : Tryd.pinned.checked.prog.funcs[f]? = some fn) :
    false = Tryd.pinned.checked.prog.looks [] ∧ ∀ (j : Nat) t, fn.params[j]? = some t → Tryd.pinned.checked.prog.wantsStandIn t = false := by
  obtain rfl : f = 6 := Option.some.inj ((show Tryd.prog.funcNamed "lanyard/lanyardlaw05.VtparseCancels" = some 6 by kernel_rfl).symm.trans hf) |>.symm
  obtain rfl : fn = Tryd.f6 := (Option.some.inj (Tryd.func6.symm.trans hfn)).symm
  refine ⟨by kernel_rfl, fun j t ht => ?_⟩
  have h1 : (Tryd.f6.params.toList.all fun t => !Tryd.pinned.checked.prog.wantsStandIn t) = true := by kernel_rfl
  have h2 := List.all_eq_true.1 h1 t (Array.mem_toList_iff.2 (Array.mem_of_getElem? ht))
  simpa using h2
theorem card : Rows.VtparseCancelsUptoCardSaid :=
  Claim7.holds_tied_plain_at .later [] _ _ _ _ said (fun _ h => by cases h) (by kernel_rfl) (fun _ h => by cases h) vtparseCancelsUpto_row_tie rfl ⟨rfl, rfl⟩ (by kernel_rfl) rfl plain (by kernel_rfl)
end Go.Proofs.YtojdmhfkgkfpaaaDoor.vtparseCancels

