/- VtparseStream answers true for every input of bulk at most 1048576: program and reference run as one machine; conditions: the second form's bound, the listed tables. -/
import Derived.Test.YtojdmhfkgkfpaaaDoorLz
import Derived.Test.YtojdmhfkgkfpaaaDoorCards
import Derived.Test.YtojdmhfkgkfpaaaDoorTie
import Derived.WalkKit
import Derived.ProofKit
import Derived.OpenShut
import Derived.Deep.DeepHandedRow
import Derived.Lib.LaidTab
set_option linter.unusedVariables false
set_option maxRecDepth 100000
namespace Go.Proofs.YtojdmhfkgkfpaaaDoor
open Go.AM Go.LTxt Go.LMem Go.RowKit
noncomputable def l4_7 : Nat → PS → DS → PS → DS → List Dat → List Dat → List Dat → Int → Int → (PS → DS → PS → DS → List Dat → List Dat → Prop) → Prop
  | 0, _, _, _, _, _, _, _, _, _, _ => False
  | fu + 1, p, d, p2, d2, l, l2, xs, n, n2, E0 =>
    br (decide (n2 < n)) (
     req (decide ((0 : Int) ≤ n2) && decide (n2 < (↑(List.length xs) : Int))) (
     req (decide (Int.toNat n2 < List.length xs)) (
     req (appOK l (0 : Nat) (List.length l) (List.length (Dat.toList (List.getD xs (Int.toNat n2) default))) (1 : Nat)) (
     ((List.length (PS.aParams p) = List.length (PS.aParams p)) ∧ 
     ((List.length (PS.out p) = List.length (PS.out p)) ∧ 
     ((List.length (DS.b d) = List.length (DS.b d)) ∧ 
     m17 { made := PS.made p, state := PS.state p, aKind := PS.aKind p, aRune := PS.aRune p, aFinal := PS.aFinal p, aPrivate := PS.aPrivate p, aParams := PS.aParams p, aInter := PS.aInter p, aText := PS.aText p, many := PS.many p, out := PS.out p } { made := DS.made d, b := DS.b d } (Dat.toList (List.getD xs (Int.toNat n2) default)) (fun y0 y1 y2 => 
      req (decide ((0 : Nat) + List.length y2 ≤ List.length y2)) (
      req (appOK l2 (0 : Nat) (List.length l2) (List.length (List.take (List.length y2) y2)) (72 : Nat)) (
      req (inR IntKind.i64 (n2 + (1 : Int))) (((List.length (dapp l (0 : Nat) (List.length l) (Dat.toList (List.getD xs (Int.toNat n2) default)))) = List.length (dapp l (0 : Nat) (List.length l) (Dat.toList (List.getD xs (Int.toNat n2) default))) ∧ ((List.length (dapp l2 (0 : Nat) (List.length l2) (List.take (List.length y2) y2))) = List.length (dapp l2 (0 : Nat) (List.length l2) (List.take (List.length y2) y2)) ∧ ((List.length (PS.aParams y0)) = List.length (PS.aParams y0) ∧ ((List.length (PS.out y0)) = List.length (PS.out y0) ∧ ((List.length (DS.b y1)) = List.length (DS.b y1) ∧ ((List.length (PS.aParams p2)) = List.length (PS.aParams p2) ∧ ((List.length (PS.out p2)) = List.length (PS.out p2) ∧ ((List.length (DS.b d2)) = List.length (DS.b d2) ∧ l4_7 fu y0 y1 p2 d2 (dapp l (0 : Nat) (List.length l) (Dat.toList (List.getD xs (Int.toNat n2) default))) (dapp l2 (0 : Nat) (List.length l2) (List.take (List.length y2) y2)) xs n (n2 + (1 : Int)) E0))))))))))))))))))) (E0 p d p2 d2 l l2)
def F4_7 : AM.Form := ⟨mkF 48 [(3, .p 0 0), (4, .p 5 0), (5, .sl 10), (6, .sl 11), (21, .ro (.slice (.int .u8))), (22, .int .i64), (23, .int .i64)], [.cells 53 [.bool, .int .i64, .p 1 0, .int .i64, .int .i32, .int .u8, .int .u8, .sl 3, .str, .str, .int .i64, .sl 4], .cells 71 [.bool, .sl 2], .seq 5 (.int .u8), .seq 3 (.int .i64), .seq 35 (.pair (.int .i64) (.pair (.int .i32) (.pair (.int .u8) (.pair (.int .u8) (.pair (.slice (.int .i64)) (.pair .str (.pair .str .unit))))))), .cells 53 [.bool, .int .i64, .p 6 0, .int .i64, .int .i32, .int .u8, .int .u8, .sl 8, .str, .str, .int .i64, .sl 9], .cells 71 [.bool, .sl 7], .seq 5 (.int .u8), .seq 3 (.int .i64), .seq 35 (.pair (.int .i64) (.pair (.int .i32) (.pair (.int .u8) (.pair (.int .u8) (.pair (.slice (.int .i64)) (.pair .str (.pair .str .unit))))))), .seq 5 (.int .u8), .seq 35 (.pair (.int .i64) (.pair (.int .i32) (.pair (.int .u8) (.pair (.int .u8) (.pair (.slice (.int .i64)) (.pair .str (.pair .str .unit)))))))]⟩
noncomputable def mm4_7 (n : Nat) (ds : List Dat) (Q : AExit → List AV → AH → Prop) : Prop := l4_7 n ⟨(dat ds 3).toBool, (dat ds 4).toInt, (dat ds 5).toInt, (dat ds 6).toInt, (dat ds 7).toInt, (dat ds 8).toInt, (dat ds 14).toList, (dat ds 9).toStr, (dat ds 10).toStr, (dat ds 11).toInt, (dat ds 15).toList⟩ ⟨(dat ds 12).toBool, (dat ds 13).toList⟩ ⟨(dat ds 16).toBool, (dat ds 17).toInt, (dat ds 18).toInt, (dat ds 19).toInt, (dat ds 20).toInt, (dat ds 21).toInt, (dat ds 27).toList, (dat ds 22).toStr, (dat ds 23).toStr, (dat ds 24).toInt, (dat ds 28).toList⟩ ⟨(dat ds 25).toBool, (dat ds 26).toList⟩ ((dat ds 29).toList) ((dat ds 30).toList) ((dat ds 0).toList) ((dat ds 1).toInt) ((dat ds 2).toInt) (fun rp rd rp2 rd2 rl rl2 => Q (AExit.exit 0) (mkAV 48 [(3, .p 0 0), (4, .p 5 0), (5, .sl 10 0 rl.length), (6, .sl 11 0 rl2.length)]) ⟨[.cells 53 [.c (.bool rp.made), .c (.int .i64 rp.state), .p 1 0, .c (.int .i64 rp.aKind), .c (.int .i32 rp.aRune), .c (.int .u8 rp.aFinal), .c (.int .u8 rp.aPrivate), .sl 3 0 rp.aParams.length, .c (.string rp.aInter), .c (.string rp.aText), .c (.int .i64 rp.many), .sl 4 0 rp.out.length], .cells 71 [.c (.bool rd.made), .sl 2 0 rd.b.length], .seq 5 (.int .u8) rd.b, .seq 3 (.int .i64) rp.aParams, .seq 35 (.pair (.int .i64) (.pair (.int .i32) (.pair (.int .u8) (.pair (.int .u8) (.pair (.slice (.int .i64)) (.pair .str (.pair .str .unit))))))) rp.out, .cells 53 [.c (.bool rp2.made), .c (.int .i64 rp2.state), .p 6 0, .c (.int .i64 rp2.aKind), .c (.int .i32 rp2.aRune), .c (.int .u8 rp2.aFinal), .c (.int .u8 rp2.aPrivate), .sl 8 0 rp2.aParams.length, .c (.string rp2.aInter), .c (.string rp2.aText), .c (.int .i64 rp2.many), .sl 9 0 rp2.out.length], .cells 71 [.c (.bool rd2.made), .sl 7 0 rd2.b.length], .seq 5 (.int .u8) rd2.b, .seq 3 (.int .i64) rp2.aParams, .seq 35 (.pair (.int .i64) (.pair (.int .i32) (.pair (.int .u8) (.pair (.int .u8) (.pair (.slice (.int .i64)) (.pair .str (.pair .str .unit))))))) rp2.out, .seq 5 (.int .u8) rl, .seq 35 (.pair (.int .i64) (.pair (.int .i32) (.pair (.int .u8) (.pair (.int .u8) (.pair (.slice (.int .i64)) (.pair .str (.pair .str .unit))))))) rl2], []⟩)
theorem t4_7 (n : Nat) (ds : List Dat) (Q : AExit → List AV → AH → Prop) : wpA Tryd.prog tys GG3 1000 4 (theLoop Tryd.prog 4 7) (fun e f' h' => endF Tryd.prog ((fun _ => []) e) ((fun e => match e with | .normal => ⟨[3, 4, 5, 6, 21, 22, 23], []⟩ | .exit 0 => ⟨[3, 4, 5, 6], []⟩ | _ => ⟨[], []⟩) e) ((fun e => match e with | .normal => [(5, .row 5 (.int .u8)), (6, .row 35 (.pair (.int .i64) (.pair (.int .i32) (.pair (.int .u8) (.pair (.int .u8) (.pair (.slice (.int .i64)) (.pair .str (.pair .str .unit))))))))] | .exit 0 => [(5, .row 5 (.int .u8)), (6, .row 35 (.pair (.int .i64) (.pair (.int .i32) (.pair (.int .u8) (.pair (.int .u8) (.pair (.slice (.int .i64)) (.pair .str (.pair .str .unit))))))))] | _ => []) e) (F4_7.hp ds) f' h' fun f2 h2 => match e with
      | .normal => locL F4_7 (mm4_7 n) f2 h2 Q
      | e => Q e f2 h2) (F4_7.fr ds) (F4_7.hp ds) = mm4_7 (n + 1) ds Q := by kernel_rfl
noncomputable def R4_7 : LoopT := headF Tryd.prog [] ⟨[3, 4, 5, 6, 21, 22, 23], []⟩ [(5, .row 5 (.int .u8)), (6, .row 35 (.pair (.int .i64) (.pair (.int .i32) (.pair (.int .u8) (.pair (.int .u8) (.pair (.slice (.int .i64)) (.pair .str (.pair .str .unit))))))))] fun f h Q => ∃ n, locL F4_7 (mm4_7 n) f h Q
theorem ok4_7 : LoopOK Tryd.prog (theLoop Tryd.prog 4 7) R4_7 := ruleL_ok sGG3 (by kernel_rfl) mm4_7 (fun _ _ => rfl) t4_7
noncomputable def ls4_7 : List (FuncId × Nat × LoopT) := (4, 7, R4_7) :: ls13_4
theorem ls4_7_ok : LoopsOK Tryd.prog ls4_7 := .cons (by kernel_rfl) ok4_7 ls13_4_ok
noncomputable def GG4_7 : Rules := mkG [] cs3 ls4_7
theorem sGG4_7 : Sound Tryd.prog tys GG4_7 := mk_sound mixed tysOK names (by kernel_rfl) cs3_ok ls4_7_ok
noncomputable def m4 (l : List Dat) (K : Bool → Prop) : Prop :=
    m16 (fun y0 y1 => 
     m16 (fun y2 y3 => 
      (∃ y4, 
      (((0 : Nat) = (0 : Nat)) ∧ 
      (((0 : Nat) = (0 : Nat)) ∧ 
      ((List.length (PS.aParams y0) = List.length (PS.aParams y0)) ∧ 
      ((List.length (PS.out y0) = List.length (PS.out y0)) ∧ 
      ((List.length (DS.b y1) = List.length (DS.b y1)) ∧ 
      ((List.length (PS.aParams y2) = List.length (PS.aParams y2)) ∧ 
      ((List.length (PS.out y2) = List.length (PS.out y2)) ∧ 
      ((List.length (DS.b y3) = List.length (DS.b y3)) ∧ 
      l4_7 y4 { made := PS.made y0, state := PS.state y0, aKind := PS.aKind y0, aRune := PS.aRune y0, aFinal := PS.aFinal y0, aPrivate := PS.aPrivate y0, aParams := PS.aParams y0, aInter := PS.aInter y0, aText := PS.aText y0, many := PS.many y0, out := PS.out y0 } { made := DS.made y1, b := DS.b y1 } { made := PS.made y2, state := PS.state y2, aKind := PS.aKind y2, aRune := PS.aRune y2, aFinal := PS.aFinal y2, aPrivate := PS.aPrivate y2, aParams := PS.aParams y2, aInter := PS.aInter y2, aText := PS.aText y2, many := PS.many y2, out := PS.out y2 } { made := DS.made y3, b := DS.b y3 } [] [] l (↑(List.length l) : Int) (0 : Int) (fun y5 y6 y7 y8 y9 y10 => 
       req (decide ((0 : Nat) + List.length y9 ≤ List.length y9)) (
       ((List.length (PS.aParams y7) = List.length (PS.aParams y7)) ∧ 
       ((List.length (PS.out y7) = List.length (PS.out y7)) ∧ 
       ((List.length (DS.b y8) = List.length (DS.b y8)) ∧ 
       m17 { made := PS.made y7, state := PS.state y7, aKind := PS.aKind y7, aRune := PS.aRune y7, aFinal := PS.aFinal y7, aPrivate := PS.aPrivate y7, aParams := PS.aParams y7, aInter := PS.aInter y7, aText := PS.aText y7, many := PS.many y7, out := PS.out y7 } { made := DS.made y8, b := DS.b y8 } (List.take (List.length y9) y9) (fun y11 y12 y13 => 
        req (decide ((0 : Nat) + List.length y10 ≤ List.length y10)) (
        req (decide ((0 : Nat) + List.length y13 ≤ List.length y13)) (
        m13 (List.take (List.length y10) y10) (List.take (List.length y13) y13) (fun y14 => 
         br (y14) (
          ((List.length (PS.aParams y5) = List.length (PS.aParams y5)) ∧ 
          ((List.length (PS.out y5) = List.length (PS.out y5)) ∧ 
          ((List.length (DS.b y6) = List.length (DS.b y6)) ∧ 
          m18 { made := PS.made y5, state := PS.state y5, aKind := PS.aKind y5, aRune := PS.aRune y5, aFinal := PS.aFinal y5, aPrivate := PS.aPrivate y5, aParams := PS.aParams y5, aInter := PS.aInter y5, aText := PS.aText y5, many := PS.many y5, out := PS.out y5 } { made := DS.made y6, b := DS.b y6 } (fun y15 y16 y17 => 
           ((List.length (PS.aParams y11) = List.length (PS.aParams y11)) ∧ 
           ((List.length (PS.out y11) = List.length (PS.out y11)) ∧ 
           ((List.length (DS.b y12) = List.length (DS.b y12)) ∧ 
           m18 { made := PS.made y11, state := PS.state y11, aKind := PS.aKind y11, aRune := PS.aRune y11, aFinal := PS.aFinal y11, aPrivate := PS.aPrivate y11, aParams := PS.aParams y11, aInter := PS.aInter y11, aText := PS.aText y11, many := PS.many y11, out := PS.out y11 } { made := DS.made y12, b := DS.b y12 } (fun y18 y19 y20 => K (y17 == y20)))))))))) (K false)))))))))))))))))))))
def F4 : AM.Form := ⟨[.ro (.slice (.int .u8))], []⟩
noncomputable def mm4 (ds : List Dat) (K : AV → AH → Prop) : Prop := m4 ((dat ds 0).toList) (fun rb => K (.c (.bool rb)) ⟨[], []⟩)
theorem t4 (ds : List Dat) (K : AV → AH → Prop) : callA Tryd.prog tys GG4_7 1000 4 (F4.fr ds) (F4.hp ds) (fun v h' => endK Tryd.prog [] .keep (F4.hp ds) (F4.fr ds) v h' K) = mm4 ds K := by kernel_rfl
noncomputable def R4 : CallT := ruleF Tryd.prog [(.ro (.slice (.int .u8)))] [] F4 mm4
theorem ok4 : CallOK Tryd.prog 4 R4 := ruleF_ok sGG4_7 t4
noncomputable def cs4 : List (FuncId × CallT) := (4, R4) :: cs3
theorem cs4_ok : CallsOK Tryd.prog cs4 := .cons ok4 cs3_ok
noncomputable def GG4 : Rules := mkG [] cs4 ls4_7
theorem sGG4 : Sound Tryd.prog tys GG4 := mk_sound mixed tysOK names (by kernel_rfl) cs4_ok ls4_7_ok
end Go.Proofs.YtojdmhfkgkfpaaaDoor

set_option linter.unusedVariables false
set_option linter.unusedSimpArgs false
set_option maxRecDepth 100000
namespace Go.Proofs.YtojdmhfkgkfpaaaDoor
open Go.AM Go.LTxt Go.LMem Go.RowKit
set_option maxHeartbeats 0
def flat (xs : List Dat) : List Dat := xs.flatMap Dat.toList
theorem flat_cons (a : Dat) (r : List Dat) : flat (a :: r) = a.toList ++ flat r := by simp [flat]
theorem okB_append {a b : List Dat} (ha : okB a) (hb : okB b) : okB (a ++ b) := by
  have h : bD (toB (a ++ b)) = bD (toB a) ++ bD (toB b) := by simp [bD, toB]
  unfold okB at *
  rw [h, ← ha, ← hb]
theorem okB_nil : okB [] := rfl
theorem okB_flat : ∀ {xs : List Dat}, (∀ d ∈ xs, okB d.toList) → okB (flat xs)
  | [], _ => okB_nil
  | a :: r, h => by
    rw [flat_cons]
    exact okB_append (h a (List.mem_cons_self ..)) (okB_flat fun d hd => h d (List.mem_cons_of_mem _ hd))
theorem r4_7 (xs : List Dat) (hx : ∀ d ∈ xs, okB d.toList) (p2 : PS) (d2 : DS) (hT : 4 * (flat xs).length + 16 ≤ limB) (hn : xs.length ≤ limB) (E : PS → DS → PS → DS → List Dat → List Dat → Prop)
    (hE : ∀ p' d', RelP p' d' (steps X0 (flat xs)).1 [] (2 * (flat xs).length) → E p' d' p2 d2 (flat xs) (steps X0 (flat xs)).2) :
    ∀ (n : Nat) (p : PS) (d : DS) (l : List Dat) (k : Nat), xs.length - k < n → l ++ flat (xs.drop k) = flat xs → okB l → RelP p d (steps X0 l).1 [] (2 * l.length) → l4_7 n p d p2 d2 l (steps X0 l).2 xs xs.length k E := by
  intro n
  induction n with
  | zero => intro p d l k h _ _ _; omega
  | succ n ih =>
    intro p d l k h hl hok hR
    have hlim : limB = 16777216 := rfl
    have hcnt := steps_cnt Inv0 hok
    have e : cnt X0 = 0 := rfl
    unfold l4_7
    rw [Int.toNat_natCast]
    refine br_mk (fun h2 => ?_) (fun h2 => ?_)
    · have hk : k < xs.length := by simpa using h2
      have hm : xs.getD k default ∈ xs := by rw [List.getD_eq_getElem?_getD, List.getElem?_eq_getElem hk]; exact List.getElem_mem hk
      have hb := hx _ hm
      rw [drop_cons hk, flat_cons] at hl
      generalize hbe : (xs.getD k default).toList = b at hl hb ⊢
      have hlen : l.length + (b.length + (flat (xs.drop (k + 1))).length) = (flat xs).length := by rw [← hl]; simp
      refine req_mk (by simp; omega) (req_mk (by simpa using hk) (req_mk (app_ok (by omega)) ?_))
      simp only [true_and]
      refine v17 hR (steps_inv Inv0 hok) hb (by omega) (by omega) fun p' d' hr' => ?_
      have hs := steps_cnt (steps_inv Inv0 hok) hb
      have ea := steps_app X0 l b
      have hlt : (0 : Nat) + (steps (steps X0 l).1 b).2.length ≤ (steps (steps X0 l).1 b).2.length := by omega
      have h64 := in64 k (by omega)
      have happ : appOK (steps X0 l).2 0 (steps X0 l).2.length (steps (steps X0 l).1 b).2.length 72 = true := app_ok (by omega)
      clear hlim hcnt hs hT hn
      refine req_mk (decide_eq_true hlt) ?_
      rw [List.take_length, happ, req_t, h64, req_t, dapp_full, dapp_full]
      have e2 : (steps X0 l).2 ++ (steps (steps X0 l).1 b).2 = (steps X0 (l ++ b)).2 := by rw [ea]
      have e1 : (steps (steps X0 l).1 b).1 = (steps X0 (l ++ b)).1 := by rw [ea]
      rw [e2, show (k : Int) + 1 = ((k + 1 : Nat) : Int) by omega]
      rw [e1] at hr'
      refine ih p' d' (l ++ b) (k + 1) (by omega) (by rw [List.append_assoc]; exact hl) (okB_append hok hb) ?_
      rw [List.length_append]
      refine hr'.mono ?_
      omega
    · have hk : xs.length ≤ k := by have := of_decide_eq_false h2; omega
      rw [List.drop_of_length_le hk] at hl
      have hl' : l = flat xs := by simpa [flat] using hl
      subst hl'
      exact hE p d hR
theorem v4 {xs : List Dat} (hx : ∀ d ∈ xs, okB d.toList) (hT : 4 * (flat xs).length + 16 ≤ limB) (hn : xs.length ≤ limB) {K : Bool → Prop} (hK : K true) : m4 xs K := by
  have hlim : limB = 16777216 := rfl
  have hok := okB_flat hx
  have hcnt := steps_cnt Inv0 hok
  have e : cnt X0 = 0 := rfl
  unfold m4
  refine v16 (v16 ?_)
  simp only [true_and]
  refine ⟨xs.length + 1, r4_7 xs hx newP newD hT hn _ (fun p' d' hr => ?_) _ newP newD [] 0 (by omega) (by simp) okB_nil newP_rel⟩
  simp only [Nat.zero_add, Nat.le_refl, decide_true, req_t, List.take_length]
  refine v17 newP_rel Inv0 hok (by omega) (by omega) fun p2 d2 hr2 => ?_
  refine v13 ?_ (steps_ok Inv0 hok) (by omega)
  rw [br_t]
  refine v18 hr (v18 hr2 ?_)
  rw [show (isG (steps X0 (flat xs)).1 == isG (steps X0 (flat xs)).1) = true by simp]
  exact hK
end Go.Proofs.YtojdmhfkgkfpaaaDoor

set_option linter.unusedVariables false
set_option maxRecDepth 100000
namespace Go.Proofs.YtojdmhfkgkfpaaaDoor.vtparseStream
open Go.ChangeShapes Go.WideShapes Go.ChangeAt Go.RowKit Go.AM
theorem true4 {xs : List Dat} (hx : ∀ d ∈ xs, okB d.toList) (hT : 4 * (flat xs).length + 16 ≤ limB) (hn : xs.length ≤ limB) : m4 xs tb := v4 hx hT hn trivial
theorem rule4 (xs : List Dat) : R4 [.ro (.slice (.int .u8)) xs] h0 isTrue = m4 xs tb := by kernel_rfl
theorem flat_len {H : Type} (d : DataW H) : (flat (toDat (.slice (.slice (.int .u8))) d).toList).length ≤ Rows.uptoBulk d := by
  cases d with
  | slice elems spare =>
    simp only [toDat, Dat.toList, Rows.uptoBulk]
    suffices h : (flat (elems.map (toDat (.slice (.int .u8))))).length ≤ Rows.uptoBulkAll elems by omega
    induction elems with
    | nil => simp [flat, Rows.uptoBulkAll]
    | cons x r ih =>
      have h := slice_len (.int .u8) x
      simp only [List.map_cons, flat_cons, List.length_append, Rows.uptoBulkAll]
      omega
  | _ => simp only [toDat, Dat.toList, flat, List.flatMap_nil, List.length_nil]; omega
theorem flat_ok {H : Type} (d : DataW H) (hF : Fits (.slice (.slice (.int .u8))) (toDat (.slice (.slice (.int .u8))) d)) : ∀ x ∈ (toDat (.slice (.slice (.int .u8))) d).toList, okB x.toList := by
  intro x hx
  have h1 := hF.2 x hx
  cases d with
  | slice elems spare =>
    simp only [toDat, Dat.toList, List.mem_map] at hx
    obtain ⟨y, _, rfl⟩ := hx
    exact bytes_ok y h1
  | _ => simp only [toDat, Dat.toList] at hx; exact absurd hx (by simp)
theorem own : ownKnob Tryd.prog.godebug = none := by kernel_rfl
theorem contract (H : Type) (enc : TypeId × Value → H) (W : World) (base : Nat) (args : Array Value) (ds gs : List (DataW H)) (before : List MemPlace)
    (hval : ∀ (j : Nat) t v, Tryd.f4.params[j]? = some t → args[j]? = some v → Value.okWide Tryd.prog W .any base t v)
    (hW : DataW.Whole enc Tryd.prog Tryd.f4.params.toList Rows.vtparseStreamSpec.vars false W args.toList ds gs before) (hL : laidMetH Tryd.prog Rows.vtparseStreamUptoRow.laid W) (hk : Rows.uptoSmall H (ds ++ gs) = true) :
    Calls Tryd.prog 4 args W fun e W' => ∃ v, e = .returned v ∧ Rows.vtparseStreamSpec.post enc Tryd.prog Tryd.f4 false true false false W args v W' := by
  have one : ∃ d0, ds = [d0] := by
    obtain ⟨p, q, hA, hV, _⟩ := hW
    rw [Tryd.params4] at hA
    obtain ⟨v0, vs0, d0, ds0, p0, q0, hargs0, rfl, rfl, h0, r0⟩ := trodAll_cons hA
    obtain ⟨rfl, rfl, rfl⟩ := trodAll_nil r0
    exact ⟨d0, rfl⟩
  obtain ⟨d0, rfl⟩ := one
  have hgs : gs = [] := by
    obtain ⟨p, q, hA, hV, _⟩ := hW
    obtain ⟨rfl, _⟩ := trodVars_none hV
    rfl
  subst hgs
  refine law_contractR ok4 (tb := 4) (ss := [.slice (.slice (.int .u8))]) (tabs_laid hL) hval hW rfl (by kernel_rfl) (by kernel_rfl) (fun hl => rfl) (by kernel_rfl) (by kernel_rfl) (by kernel_rfl) (fun hF => ?_)
  refine ⟨[.ro (.slice (.int .u8)) (toDat (.slice (.slice (.int .u8))) d0).toList], by kernel_rfl, ?_⟩
  rw [rule4]
  have hf0 := hF (.slice (.slice (.int .u8)), d0) (by simp)
  have hb := bound hk
  have hb0 := bulk_mem (d := d0) (l := [d0] ++ []) (by simp)
  have h2 := slice_len (.slice (.int .u8)) d0
  have h3 := flat_len d0
  refine true4 (flat_ok d0 hf0) (by have hlim : limB = 16777216 := rfl; omega) (by have hlim : limB = 16777216 := rfl; omega)
theorem laid_met (os : Os) : laidMet Tryd.prog Rows.vtparseStreamUptoRow.laid (((laidWorld Rows.vtparseStreamUptoRow.laid os).forCall (fun _ _ => 0) ⟨#[], #[.slice none 0 0], []⟩)).memory :=
  laidMet_of_run' 8 (by kernel_rfl) (by kernel_rfl)
theorem reads (os : Os) {H : Type} (enc : TypeId × Value → H) : ∃ places, DataW.whole enc Tryd.prog ((laidWorld Rows.vtparseStreamUptoRow.laid os).forCall (fun _ _ => 0) ⟨#[], #[.slice none 0 0], []⟩).memory Tryd.f4.params.toList Rows.vtparseStreamSpec.vars false #[Value.slice none 0 0].toList 8 = some ([.nil], [], places) :=
  ⟨[], by kernel_rfl⟩
theorem lifted (os : Os) (started : os.Started) (H : Type) (enc : TypeId × Value → H) (F : Stop.Interp) :
    ReturnsInHanded {} Tryd.checked os 4 .any ((Rows.OpenSpec.upto Rows.vtparseStreamSpec).preRow enc Tryd.prog Tryd.f4 Rows.vtparseStreamUptoRow.domain false Rows.vtparseStreamUptoRow.laid) (((Rows.OpenSpec.upto Rows.vtparseStreamSpec).at F).post enc Tryd.prog Tryd.f4 false true false false) := by
  obtain ⟨places, hx⟩ := reads os enc
  refine returnsInHanded_of_row (C := Tryd.checked) (s := Rows.OpenSpec.upto Rows.vtparseStreamSpec) own started (by kernel_rfl) Tryd.func4
    (witness_row_at (enc := enc) (C := Tryd.checked) false (laidWorld Rows.vtparseStreamUptoRow.laid os) #[.slice none 0 0] rfl (by kernel_rfl) (by kernel_rfl) (by kernel_rfl)
      (OpenSpec.preRow_of_cond 8 hx (by kernel_rfl) (fun k hk => by cases hk; kernel_rfl) (by kernel_rfl) (laid_met os))) ?_
  intro W base args ds gs before hval hW hc1 hc2 hc3 hL _ _
  first
    | exact contract H enc W base args ds gs before hval hW hL (hc1 _ rfl)
    | exact contract H enc W base args ds gs before hval hW hL (hc2 _ rfl)
    | exact contract H enc W base args ds gs before hval hW hL (hc3 _ rfl)
theorem said : Rows.VtparseStreamUptoSaid :=
  OpenClaim.holds_of_cond 4 Tryd.f4 rfl rfl rfl rfl rfl rfl rfl ⟨rfl, rfl, rfl, rfl, rfl⟩ rfl rfl rfl rfl rfl (by kernel_rfl) Tryd.func4 (by kernel_rfl)
    (of_decide_eq_true (by kernel_rfl)) (by unfold Func.isWrapper; first | (rw [if_pos (by decide +kernel)]; kernel_rfl) | (rw [if_neg (by decide +kernel)]; exact ⟨rfl, rfl⟩))
    (fun os started H enc _ F => by rw [OpenClaim.pre_eq_preRow]; exact lifted os started H enc F)
/-- No parameter wants a stand-in; the program's own looks are off. -/
theorem plain (f : FuncId) (fn : Func) (hf : Tryd.pinned.checked.prog.funcNamed "lanyard/lanyardlaw05.VtparseStream" = some f) (hfn : Tryd.pinned.checked.prog.funcs[f]? = some fn) :
    false = Tryd.pinned.checked.prog.looks [] ∧ ∀ (j : Nat) t, fn.params[j]? = some t → Tryd.pinned.checked.prog.wantsStandIn t = false := by
  obtain rfl : f = 4 := Option.some.inj ((show Tryd.prog.funcNamed "lanyard/lanyardlaw05.VtparseStream" = some 4 by kernel_rfl).symm.trans hf) |>.symm
  obtain rfl : fn = Tryd.f4 := (Option.some.inj (Tryd.func4.symm.trans hfn)).symm
  refine ⟨by kernel_rfl, fun j t ht => ?_⟩
  have h1 : (Tryd.f4.params.toList.all fun t => !Tryd.pinned.checked.prog.wantsStandIn t) = true := by kernel_rfl
  have h2 := List.all_eq_true.1 h1 t (Array.mem_toList_iff.2 (Array.mem_of_getElem? ht))
  simpa using h2
theorem card : Rows.VtparseStreamUptoCardSaid :=
  Claim7.holds_tied_plain_at .later [] _ _ _ _ said (fun _ h => by cases h) (by kernel_rfl) (fun _ h => by cases h) vtparseStreamUpto_row_tie rfl ⟨rfl, rfl⟩ (by kernel_rfl) rfl plain (by kernel_rfl)
end Go.Proofs.YtojdmhfkgkfpaaaDoor.vtparseStream

