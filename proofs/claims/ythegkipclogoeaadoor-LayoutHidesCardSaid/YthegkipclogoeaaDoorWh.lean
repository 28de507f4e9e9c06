/- LayoutHides answers true for every input; conditions: the listed tables. -/
import Derived.Test.YthegkipclogoeaaDoorZq
import Derived.Test.YthegkipclogoeaaDoorCards
import Derived.Test.YthegkipclogoeaaDoorTie
import Derived.Test.YthegkipclogoeaaDoorTb
import Derived.Test.YthegkipclogoeaaDoorLw
import Derived.WalkKit
import Derived.ProofKit
import Derived.OpenShut
import Derived.Deep.DeepHandedRow
import Derived.Lib.LaidTab
set_option linter.unusedVariables false
set_option linter.unusedSimpArgs false
set_option maxRecDepth 100000
namespace Go.Proofs.YthegkipclogoeaaDoor
open Go.AM Go.LTxt Go.LMem Go.RowKit
theorem vl49 {xs : List Dat} (hb : xs.length ≤ bigL) (hr : RowsB bigL xs) {E0 : List Dat → Prop} : ∀ (rest pre acc : List Dat), xs = pre ++ rest → acc.length = pre.length → E0 (acc ++ rest.map trimD) → ∃ fu, l49_3 fu acc xs (xs.length : Int) (pre.length : Int) E0
  | [], pre, acc, hx, hl, h => by
    subst hx
    refine ⟨1, ?_⟩
    unfold l49_3
    rw [ixe, br_f]
    simpa using h
  | d :: rest, pre, acc, hx, hl, h => by
    subst hx
    have hbig := bigL_eq
    have hpl : pre.length < bigL := by simp only [List.length_append, List.length_cons] at hb; omega
    obtain ⟨fu, hfu⟩ := vl49 hb hr rest (pre ++ [d]) (acc ++ [trimD d]) (snoc2 pre d rest) (by simp [hl]) (by simpa using h)
    refine ⟨fu + 1, ?_⟩
    rw [← snoc1 pre d] at hfu
    unfold l49_3
    rw [ixl, br_t, ix1, req_t, ix2, req_t, gd]
    refine v21 (hr d (by simp)) (req_mk (len_ok _) (req_mk (app_ok (by omega)) ?_))
    rw [rq (pre_in hb)]
    refine ⟨rfl, ?_⟩
    rw [dapp_full, List.take_length]
    exact hfu
/-- rows without the empty ones at the end -/
def dropE : Nat → List Dat → List Dat
  | 0, l => l
  | k + 1, l => if (l.getD k default).toList.length = 0 then dropE k (l.take k) else l
theorem vl49e {E2 : List Dat → Prop} : ∀ (k : Nat) (l : List Dat), l.length = k → k ≤ bigL → E2 (dropE k l) → ∃ fu, l49_7 fu l E2
  | 0, l, hk, hb, h => by
    refine ⟨1, ?_⟩
    unfold l49_7
    refine brf (decide_eq_false (by omega)) (req_mk (len_ok _) ?_)
    rw [dcut_full]
    exact h
  | k + 1, l, hk, hb, h => by
    have hbig := bigL_eq
    simp only [dropE] at h
    have q1 : inR .i64 ((l.length : Int) - 1) = true := in64 (by omega) (by omega)
    have q2 : (decide ((0 : Int) ≤ (l.length : Int) - 1) && decide ((l.length : Int) - 1 < (l.length : Int))) = true := by rw [Bool.and_eq_true, decide_eq_true_eq, decide_eq_true_eq]; omega
    have q3 : (decide ((0 : Int) ≤ (0 : Int)) && decide ((0 : Int) ≤ (l.length : Int) - 1) && decide ((l.length : Int) - 1 ≤ (l.length : Int))) = true := by rw [Bool.and_eq_true, Bool.and_eq_true, decide_eq_true_eq, decide_eq_true_eq, decide_eq_true_eq]; omega
    have e0 : (0 : Nat) + Int.toNat ((l.length : Int) - 1) = k := by omega
    have e1 : Int.toNat ((l.length : Int) - 1) - 0 = k := by omega
    by_cases hc : (l.getD k default).toList.length = 0
    · rw [if_pos hc] at h
      obtain ⟨fu, hfu⟩ := vl49e k (l.take k) (by rw [List.length_take]; omega) (by omega) h
      refine ⟨fu + 1, ?_⟩
      unfold l49_7
      refine brt (decide_eq_true (by omega)) ?_
      rw [rq q1, rq q2, e0]
      refine req_mk (decide_eq_true (by omega)) (brt (decide_eq_true (by omega)) ?_)
      rw [rq q1, rq q3, e1]
      refine req_mk (decide_eq_true (by omega)) ⟨rfl, ?_⟩
      have ed : dcut l 0 k = l.take k := by simp [dcut]
      rw [ed]
      exact hfu
    · rw [if_neg hc] at h
      refine ⟨1, ?_⟩
      unfold l49_7
      refine brt (decide_eq_true (by omega)) ?_
      rw [rq q1, rq q2, e0]
      refine req_mk (decide_eq_true (by omega)) (brf (decide_eq_false (by omega)) (req_mk (len_ok _) ?_))
      rw [dcut_full]
      exact h
def bareF (rows : List Dat) : List Dat := dropE rows.length (rows.map trimD)
theorem v49 {rows : List Dat} (hb : rows.length ≤ bigL) (hr : RowsB bigL rows) {K : List Dat → Prop} (h : K (bareF rows)) : m49 rows K := by
  unfold m49
  refine (fun (hf : ∃ fu2, l49_3 fu2 _ _ _ ((([] : List Dat).length : Nat) : Int) _) => hf.elim fun f2 hf => ⟨f2, rfl, hf⟩) (vl49 hb hr rows [] [] rfl rfl ?_)
  refine req_mk (len_ok _) ?_
  rw [dcut_full]
  refine (fun (hf : ∃ fu2, l49_7 fu2 _ _) => hf.elim fun f2 hf => ⟨f2, rfl, hf⟩) (vl49e _ _ rfl (by simpa using hb) ?_)
  unfold bareF at h
  simpa using h
def eqR (a b : Dat) : Bool := eqF eqC a.toList b.toList
theorem vl23 {s t : List Dat} (hb : s.length ≤ bigL) (hr : RowsB bigL s) (hl : s.length = t.length) {K : Bool → Prop} : ∀ (k i : Nat), i + k = s.length → K (allF eqR s t k i) → ∃ fu, l23_4 fu t s (s.length : Int) (i : Int) (K true) (fun y => K y)
  | 0, i, hi, h => by
    refine ⟨1, ?_⟩
    unfold l23_4
    exact brf (decide_eq_false (by omega)) h
  | k + 1, i, hi, h => by
    have hbig := bigL_eq
    have e2 : Int.toNat (i : Int) = i := by omega
    have hrl := hr (s.getD i default) (by rw [List.getD_eq_getElem?_getD, List.getElem?_eq_getElem (by omega)]; exact List.getElem_mem _)
    simp only [allF] at h
    by_cases hc : eqR (s.getD i default) (t.getD i default) = true
    · rw [hc, Bool.true_and] at h
      obtain ⟨fu, hfu⟩ := vl23 hb hr hl k (i + 1) (by omega) h
      refine ⟨fu + 1, ?_⟩
      unfold l23_4
      refine brt (decide_eq_true (by omega)) (req_mk (iy1 (by omega)) (req_mk (iy2 (by omega)) (req_mk (iy1 (by omega)) (req_mk (iy2 (by omega)) ?_))))
      rw [e2]
      refine v15 hrl (brf (show (!(eqR (s.getD i default) (t.getD i default))) = false by rw [hc]; rfl) ?_)
      rw [rq (in64 (n := (i : Int) + 1) (by omega) (by omega)), show (i : Int) + 1 = ((i + 1 : Nat) : Int) by omega]
      exact hfu
    · rw [eq_false_of_ne_true hc, Bool.false_and] at h
      refine ⟨1, ?_⟩
      unfold l23_4
      refine brt (decide_eq_true (by omega)) (req_mk (iy1 (by omega)) (req_mk (iy2 (by omega)) (req_mk (iy1 (by omega)) (req_mk (iy2 (by omega)) ?_))))
      rw [e2]
      exact v15 hrl (brt (show (!(eqR (s.getD i default) (t.getD i default))) = true by rw [eq_false_of_ne_true hc]; rfl) h)
theorem v23 {s t : List Dat} (hb : s.length ≤ bigL) (hr : RowsB bigL s) {K : Bool → Prop} (h : K (eqF eqR s t)) : m23 s t K := by
  unfold m23
  unfold eqF at h
  by_cases hl : s.length = t.length
  · rw [decide_eq_true hl, Bool.true_and] at h
    exact brf (by rw [decide_eq_true (show (s.length : Int) = (t.length : Int) by omega)]; rfl) (vl23 hb hr hl s.length 0 (by omega) h)
  · rw [decide_eq_false hl, Bool.false_and] at h
    exact brt (by rw [decide_eq_false (show ¬ (s.length : Int) = (t.length : Int) by omega)]; rfl) h
theorem dropE_sub : ∀ (k : Nat) (l : List Dat), (dropE k l).length ≤ l.length ∧ ∀ r ∈ dropE k l, r ∈ l
  | 0, l => ⟨Nat.le_refl _, fun r h => h⟩
  | k + 1, l => by
    simp only [dropE]
    split
    · have h := dropE_sub k (l.take k)
      rw [List.length_take] at h
      exact ⟨by omega, fun r hr => List.mem_of_mem_take (h.2 r hr)⟩
    · exact ⟨Nat.le_refl _, fun r h => h⟩
theorem bareF_b {rows : List Dat} (hr : RowsB bigL rows) : (bareF rows).length ≤ rows.length ∧ RowsB bigL (bareF rows) := by
  have h := dropE_sub rows.length (rows.map trimD)
  rw [List.length_map] at h
  refine ⟨h.1, fun r hx => ?_⟩
  obtain ⟨y, hy, rfl⟩ := List.mem_map.1 (h.2 r hx)
  have := trim_len y.toList
  have := hr y hy
  show (trim y.toList).length ≤ bigL
  omega
def sameF (a : List Dat) (a2 a3 : Int) (b : List Dat) (b2 b3 : Int) : Bool := if a2 = b2 ∧ a3 = b3 then eqF eqR (bareF a) (bareF b) else false
theorem v26 {a b : List Dat} {a2 a3 a4 b2 b3 b4 : Int} (ha : a.length ≤ bigL) (hra : RowsB bigL a) (hb : b.length ≤ bigL) (hrb : RowsB bigL b) {K : Bool → Prop} (h : K (sameF a a2 a3 b b2 b3)) : m26 a a2 a3 a4 b b2 b3 b4 K := by
  unfold m26
  unfold sameF at h
  by_cases hc : a2 = b2 ∧ a3 = b3
  · rw [if_pos hc] at h
    refine brt (by rw [decide_eq_true hc.1, decide_eq_true hc.2]; rfl) (v49 ha hra (v49 hb hrb (req_mk (len_ok _) (req_mk (len_ok _) ?_))))
    rw [List.take_length, List.take_length]
    have h1 := bareF_b hra
    exact v23 (by omega) h1.2 h
  · rw [if_neg hc] at h
    refine brf ?_ h
    rw [Bool.and_true, Bool.and_eq_false_iff, decide_eq_false_iff_not, decide_eq_false_iff_not]
    omega
theorem eqR_self (c : Dat) : eqR c c = true := eqF_self eqC_self _
theorem sameF_self (a : List Dat) (a2 a3 : Int) : sameF a a2 a3 a a2 a3 = true := by
  unfold sameF
  rw [if_pos ⟨rfl, rfl⟩]
  exact eqF_self eqR_self _
end Go.Proofs.YthegkipclogoeaaDoor

set_option linter.unusedVariables false
set_option linter.unusedSimpArgs false
set_option maxRecDepth 100000
namespace Go.Proofs.YthegkipclogoeaaDoor
open Go.AM Go.LTxt Go.LMem Go.RowKit
theorem rowsF_seen {s s2 : List Dat} {s3 cols : Int} {across : Bool} : rowsF (seen false s) s2 s3 cols across = rowsF s s2 s3 cols across := by
  unfold rowsF outS curS allS
  rw [seen_fix]
theorem v9 {s s2 : List Dat} {s3 s4 s5 : Int} {s6 : Bool} {K : Bool → Prop} (h : K true) : m9 s s2 s3 s4 s5 s6 K := by
  unfold m9
  refine v10 (fun hc => rowsF_bound hc) ?_
  have hbig := bigL_eq
  by_cases hc : chk s s2 s3 s4 s5 = 0
  · rw [if_pos hc]
    obtain ⟨⟨g1, g2, g3, g4⟩, g5, g6, g7, g8⟩ := chk_ok hc
    have hsl := seen_len s false
    have hc2 : chk (seen false s) s2 s3 s4 s5 = 0 := by
      unfold chk
      rw [if_neg (by omega), if_neg (by omega), if_neg (by omega)]
    refine v12 (brf (by rw [hc]; rfl) (v11 (brf rfl (brf rfl (v31 (by omega) (req_mk (len_ok _) ?_))))))
    rw [List.take_length]
    refine v10 (fun _ => rowsF_bound hc2) ?_
    rw [if_pos hc2, rowsF_seen]
    have hok := (rowsF_ok (across := s6) hc).1
    have hrow := rowsF_row (s := s) (s2 := s2) (s3 := s3) (cols := s5) (across := s6)
    generalize rowsF s s2 s3 s5 s6 = p at hok hrow ⊢
    have hR := renderF_ok (row := p.2.1) (s4 := s4) hok
    have hl := renderF_len (rows := p.1) hrow.1 hrow.2 (show 1 ≤ s4 by omega)
    refine brt rfl (req_mk (len_ok _) (req_mk (len_ok _) ?_))
    rw [List.take_length]
    have hb : RowsB bigL (renderF p.1 p.2.1 s4) := fun r hr => by have := (hR r hr).le; omega
    refine v26 (by omega) hb (by omega) hb ?_
    rw [sameF_self]
    refine brt rfl ?_
    rw [decide_eq_true rfl]
    exact h
  · rw [if_neg hc]
    refine v12 (brf (by rw [decide_eq_true rfl]; rfl) (v11 (brf rfl (brt (by rw [decide_eq_false hc]; rfl) h))))
end Go.Proofs.YthegkipclogoeaaDoor

set_option linter.unusedVariables false
set_option maxRecDepth 100000
namespace Go.Proofs.YthegkipclogoeaaDoor.layoutHides
open Go.ChangeShapes Go.WideShapes Go.ChangeAt Go.RowKit Go.AM
theorem true9 {s s2 : List Dat} {s3 s4 s5 : Int} {s6 : Bool} : m9 s s2 s3 s4 s5 s6 tb := v9 trivial
theorem rule9 (s s2 : List Dat) (s3 s4 s5 : Int) (s6 : Bool) : R9 [.agg [.ro (.int .i32) s, .ro (.int .i32) s2, .c (.int .i64 s3), .c (.int .i64 s4), .c (.int .i64 s5), .c (.bool s6)]] h0 isTrue = m9 s s2 s3 s4 s5 s6 tb := by kernel_rfl
theorem own : ownKnob Tryd.prog.godebug = none := by kernel_rfl
theorem contract (H : Type) (enc : TypeId × Value → H) (W : World) (base : Nat) (args : Array Value) (ds gs : List (DataW H)) (before : List MemPlace)
    (hval : ∀ (j : Nat) t v, Tryd.f9.params[j]? = some t → args[j]? = some v → Value.okWide Tryd.prog W .any base t v)
    (hW : DataW.Whole enc Tryd.prog Tryd.f9.params.toList Rows.layoutHidesSpec.vars false W args.toList ds gs before) (hL : laidMetH Tryd.prog Rows.layoutHidesRow.laid W) :
    Calls Tryd.prog 9 args W fun e W' => ∃ v, e = .returned v ∧ Rows.layoutHidesSpec.post enc Tryd.prog Tryd.f9 false true false false W args v W' := by
  have one : ∃ d0, ds = [d0] := by
    obtain ⟨p, q, hA, hV, _⟩ := hW
    rw [Tryd.params9] at hA
    obtain ⟨v0, vs0, d0, ds0, p0, q0, hargs0, rfl, rfl, h0, r0⟩ := trodAll_cons hA
    obtain ⟨rfl, rfl, rfl⟩ := trodAll_nil r0
    exact ⟨d0, rfl⟩
  obtain ⟨d0, rfl⟩ := one
  have hgs : gs = [] := by
    obtain ⟨p, q, hA, hV, _⟩ := hW
    obtain ⟨rfl, _⟩ := trodVars_none hV
    rfl
  subst hgs
  refine law_contractR ok9 (tb := 4) (ss := [.pair (.slice (.int .i32)) (.pair (.slice (.int .i32)) (.pair (.int .i64) (.pair (.int .i64) (.pair (.int .i64) (.pair .bool .unit)))))]) (tabs_laid hL) hval hW rfl (by kernel_rfl) (by kernel_rfl) (fun hl => rfl) (by kernel_rfl) (by kernel_rfl) (by kernel_rfl) (fun hF => ?_)
  refine ⟨[.agg [.ro (.int .i32) (toDat (.pair (.slice (.int .i32)) (.pair (.slice (.int .i32)) (.pair (.int .i64) (.pair (.int .i64) (.pair (.int .i64) (.pair .bool .unit)))))) d0).fst.toList, .ro (.int .i32) (toDat (.pair (.slice (.int .i32)) (.pair (.slice (.int .i32)) (.pair (.int .i64) (.pair (.int .i64) (.pair (.int .i64) (.pair .bool .unit)))))) d0).snd.fst.toList, .c (.int .i64 (toDat (.pair (.slice (.int .i32)) (.pair (.slice (.int .i32)) (.pair (.int .i64) (.pair (.int .i64) (.pair (.int .i64) (.pair .bool .unit)))))) d0).snd.snd.fst.toInt), .c (.int .i64 (toDat (.pair (.slice (.int .i32)) (.pair (.slice (.int .i32)) (.pair (.int .i64) (.pair (.int .i64) (.pair (.int .i64) (.pair .bool .unit)))))) d0).snd.snd.snd.fst.toInt), .c (.int .i64 (toDat (.pair (.slice (.int .i32)) (.pair (.slice (.int .i32)) (.pair (.int .i64) (.pair (.int .i64) (.pair (.int .i64) (.pair .bool .unit)))))) d0).snd.snd.snd.snd.fst.toInt), .c (.bool (toDat (.pair (.slice (.int .i32)) (.pair (.slice (.int .i32)) (.pair (.int .i64) (.pair (.int .i64) (.pair (.int .i64) (.pair .bool .unit)))))) d0).snd.snd.snd.snd.snd.fst.toBool)]], by kernel_rfl, ?_⟩
  rw [rule9]
  have hf0 := hF (.pair (.slice (.int .i32)) (.pair (.slice (.int .i32)) (.pair (.int .i64) (.pair (.int .i64) (.pair (.int .i64) (.pair .bool .unit))))), d0) (by simp)
  generalize toDat (.pair (.slice (.int .i32)) (.pair (.slice (.int .i32)) (.pair (.int .i64) (.pair (.int .i64) (.pair (.int .i64) (.pair .bool .unit)))))) d0 = D at hf0 ⊢
  exact true9
theorem laid_met (os : Os) : laidMet Tryd.prog Rows.layoutHidesRow.laid (((laidWorld Rows.layoutHidesRow.laid os).forCall (fun _ _ => 0) ⟨#[], #[.agg #[.slice none 0 0, .slice none 0 0, .int .i64 0, .int .i64 0, .int .i64 0, .bool false]], []⟩)).memory :=
  laidMet_of_run' 8 (by kernel_rfl) (by kernel_rfl)
theorem reads (os : Os) {H : Type} (enc : TypeId × Value → H) : ∃ places, DataW.whole enc Tryd.prog ((laidWorld Rows.layoutHidesRow.laid os).forCall (fun _ _ => 0) ⟨#[], #[.agg #[.slice none 0 0, .slice none 0 0, .int .i64 0, .int .i64 0, .int .i64 0, .bool false]], []⟩).memory Tryd.f9.params.toList Rows.layoutHidesSpec.vars false #[.agg #[.slice none 0 0, .slice none 0 0, .int .i64 0, .int .i64 0, .int .i64 0, .bool false]].toList 8 = some ([.agg [.nil, .nil, .lit (.int .i64 0), .lit (.int .i64 0), .lit (.int .i64 0), .lit (.bool false)]], [], places) :=
  ⟨[], by kernel_rfl⟩
theorem lifted (os : Os) (started : os.Started) (H : Type) (enc : TypeId × Value → H) (F : Stop.Interp) :
    ReturnsInHanded {} Tryd.checked os 9 .any ((OpenSpec.ofChange Rows.layoutHidesSpec).preRow enc Tryd.prog Tryd.f9 Rows.layoutHidesRow.domain false Rows.layoutHidesRow.laid) (((OpenSpec.ofChange Rows.layoutHidesSpec).at F).post enc Tryd.prog Tryd.f9 false true false false) := by
  obtain ⟨places, hx⟩ := reads os enc
  refine returnsInHanded_of_row (C := Tryd.checked) (s := OpenSpec.ofChange Rows.layoutHidesSpec) own started (by kernel_rfl) Tryd.func9
    (witness_row_at (enc := enc) (C := Tryd.checked) false (laidWorld Rows.layoutHidesRow.laid os) #[.agg #[.slice none 0 0, .slice none 0 0, .int .i64 0, .int .i64 0, .int .i64 0, .bool false]] rfl (by kernel_rfl) (by kernel_rfl) (by kernel_rfl)
      (OpenSpec.preRow_of_cond 8 hx (by kernel_rfl) (fun k hk => by cases hk) (by kernel_rfl) (laid_met os))) ?_
  intro W base args ds gs before hval hW _ _ _ hL _ _
  exact contract H enc W base args ds gs before hval hW hL
theorem said : Rows.LayoutHidesSaid :=
  OpenClaim.holds_of_cond 9 Tryd.f9 rfl rfl rfl rfl rfl rfl rfl ⟨rfl, rfl, rfl, rfl, rfl⟩ rfl rfl rfl rfl rfl (by kernel_rfl) Tryd.func9 (by kernel_rfl)
    (of_decide_eq_true (by kernel_rfl)) (by unfold Func.isWrapper; first | (rw [if_pos (by decide +kernel)]; kernel_rfl) | (rw [if_neg (by decide +kernel)]; exact ⟨rfl, rfl⟩))
    (fun os started H enc _ F => by rw [OpenClaim.pre_eq_preRow]; exact lifted os started H enc F)
/-- No parameter wants a stand-in; the program's own looks are off. -/
theorem plain (f : FuncId) (fn : Func) (hf : Tryd.pinned.checked.prog.funcNamed "lanyard/lanyardlaw23.LayoutHides" = some f) (hfn : Tryd.pinned.checked.prog.funcs[f]? = some fn) :
    false = Tryd.pinned.checked.prog.looks [] ∧ ∀ (j : Nat) t, fn.params[j]? = some t → Tryd.pinned.checked.prog.wantsStandIn t = false := by
  obtain rfl : f = 9 := Option.some.inj ((show Tryd.prog.funcNamed "lanyard/lanyardlaw23.LayoutHides" = some 9 by kernel_rfl).symm.trans hf) |>.symm
  obtain rfl : fn = Tryd.f9 := (Option.some.inj (Tryd.func9.symm.trans hfn)).symm
  refine ⟨by kernel_rfl, fun j t ht => ?_⟩
  have h1 : (Tryd.f9.params.toList.all fun t => !Tryd.pinned.checked.prog.wantsStandIn t) = true := by kernel_rfl
  have h2 := List.all_eq_true.1 h1 t (Array.mem_toList_iff.2 (Array.mem_of_getElem? ht))
  simpa using h2
theorem card : Rows.LayoutHidesCardSaid :=
  Claim7.holds_tied_plain_at .later [] _ _ _ _ said (fun _ h => by cases h) (by kernel_rfl) (fun _ h => by cases h) layoutHides_row_tie rfl ⟨rfl, rfl⟩ (by kernel_rfl) rfl plain (by kernel_rfl)
end Go.Proofs.YthegkipclogoeaaDoor.layoutHides

