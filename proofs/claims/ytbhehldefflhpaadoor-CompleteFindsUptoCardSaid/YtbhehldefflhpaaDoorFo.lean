/- Layer 21, Find: the program's Strip in plain words. -/
import Derived.Test.YtbhehldefflhpaaDoorFm
set_option linter.unusedVariables false
set_option linter.unusedSimpArgs false
set_option maxRecDepth 100000
namespace Go.Proofs.YtbhehldefflhpaaDoor
open Go.AM Go.LTxt Go.LMem Go.RowKit
/-- a \ within quotes stays ahead of a rune -/
def stay (xs : List Dat) (i : Nat) (st : Int) : Bool := decide (i + 1 < xs.length) && ((decide (st = 34) && !memI dqs (gi xs (i + 1))) || (decide (st = 96) && !memI bqs (gi xs (i + 1))))
def stp (xs : List Dat) : Nat → Nat → Int → List Dat → List Dat
  | 0, i, st, out => out
  | k + 1, i, st, out =>
    if i < xs.length then
      if st ≠ 0 ∧ gi xs i = st then stp xs k (i + 1) 0 out
      else if st ≠ 39 ∧ gi xs i = 92 then
        if i + 1 < xs.length then stp xs k (i + 2) st ((if stay xs i st = true then out ++ [.int (gi xs i)] else out) ++ [.int (gi xs (i + 1))]) else stp xs k (i + 1) st out
      else if st = 0 ∧ (gi xs i = 39 ∨ gi xs i = 34 ∨ gi xs i = 96) then stp xs k (i + 1) (gi xs i) out
      else stp xs k (i + 1) st (out ++ [.int (gi xs i)])
    else out
def okS (q : Int) : Prop := q = 0 ∨ q = 34 ∨ q = 39 ∨ q = 96
section
variable {xs : List Dat} {k i : Nat} {st : Int} {out : List Dat}
theorem stp_stop (h : xs.length ≤ i) : stp xs k i st out = out := by
  cases k with
  | zero => rfl
  | succ k => unfold stp; rw [if_neg (by omega)]
theorem stp_close (h : i < xs.length) (h1 : st ≠ 0) (h2 : gi xs i = st) : stp xs (k + 1) i st out = stp xs k (i + 1) 0 out := by
  conv => lhs; unfold stp
  rw [if_pos h, if_pos ⟨h1, h2⟩]
theorem stp_esc (h : i < xs.length) (h1 : ¬ (st ≠ 0 ∧ gi xs i = st)) (h2 : st ≠ 39) (h3 : gi xs i = 92) (h4 : i + 1 < xs.length) : stp xs (k + 1) i st out = stp xs k (i + 2) st ((if stay xs i st = true then out ++ [.int (gi xs i)] else out) ++ [.int (gi xs (i + 1))]) := by
  conv => lhs; unfold stp
  rw [if_pos h, if_neg h1, if_pos ⟨h2, h3⟩, if_pos h4]
theorem stp_esc_end (h : i < xs.length) (h1 : ¬ (st ≠ 0 ∧ gi xs i = st)) (h2 : st ≠ 39) (h3 : gi xs i = 92) (h4 : ¬ i + 1 < xs.length) : stp xs (k + 1) i st out = stp xs k (i + 1) st out := by
  conv => lhs; unfold stp
  rw [if_pos h, if_neg h1, if_pos ⟨h2, h3⟩, if_neg h4]
theorem stp_open (h : i < xs.length) (h2 : gi xs i ≠ 92) (h3 : gi xs i = 39 ∨ gi xs i = 34 ∨ gi xs i = 96) : stp xs (k + 1) i 0 out = stp xs k (i + 1) (gi xs i) out := by
  conv => lhs; unfold stp
  rw [if_pos h, if_neg (fun h => h.1 rfl), if_neg (fun h => h2 h.2), if_pos ⟨rfl, h3⟩]
theorem stp_else (h : i < xs.length) (h1 : ¬ (st ≠ 0 ∧ gi xs i = st)) (h2 : ¬ (st ≠ 39 ∧ gi xs i = 92)) (h3 : ¬ (st = 0 ∧ (gi xs i = 39 ∨ gi xs i = 34 ∨ gi xs i = 96))) : stp xs (k + 1) i st out = stp xs k (i + 1) st (out ++ [.int (gi xs i)]) := by
  conv => lhs; unfold stp
  rw [if_pos h, if_neg h1, if_neg h2, if_neg h3]
end
theorem app_ok {o : List Dat} (h : o.length ≤ 4 * bigF) : appOK o 0 o.length 1 4 = true := by
  have hb : bigF = 1000000000 := rfl
  unfold appOK
  rw [Bool.and_eq_true, decide_eq_true_eq, decide_eq_true_eq]
  omega
/-- the state behind a rune -/
def nx (st r : Int) : Int × Bool := if r = 92 ∧ st ≠ 39 then (st, true) else if st = 0 ∧ (r = 39 ∨ r = 34 ∨ r = 96) then (r, false) else if st ≠ 0 ∧ r = st then (0, false) else (st, false)
theorem v53 {st r : Int} (hs : okS st) {K : Int → Bool → Prop} (h : K (nx st r).1 (nx st r).2) : m53 st false r K := by
  unfold m53
  rw [b_f]
  unfold nx at h
  by_cases h92 : r = 92
  · subst h92
    rcases hs with rfl | rfl | rfl | rfl
    all_goals
      simp at h
      simp [br]
      exact h
  · rw [if_neg (fun h => h92 h.1)] at h
    rw [decide_eq_false h92, b_f]
    by_cases h0 : st = 0
    · subst h0
      by_cases h1 : r = 39 ∨ r = 34 ∨ r = 96
      · rw [if_pos ⟨rfl, h1⟩] at h
        rcases h1 with rfl | rfl | rfl
        all_goals
          simp [br]
          exact h
      · rw [if_neg (fun h => h1 h.2), if_neg (fun h => h.1 rfl)] at h
        simp only [not_or] at h1
        obtain ⟨n1, n2, n3⟩ := h1
        simp [br, n1, n2, n3]
        exact h
    · rw [if_neg (fun h => h0 h.1)] at h
      rw [decide_eq_false h0, b_f, Bool.not_false, b_t]
      refine br_mk (fun g => ?_) fun g => ?_
      · rw [decide_eq_true_eq] at g
        rw [if_pos ⟨h0, g⟩] at h
        exact h
      · rw [decide_eq_false_iff_not] at g
        rw [if_neg (fun h => g h.2)] at h
        exact h
def goesB (st : Int) (xs : List Dat) (i : Nat) : Bool := if xs.length ≤ i then true else if st = 96 then memI bqs (gi xs i) else memI dqs (gi xs i)
theorem v54 {st : Int} {xs : List Dat} {i : Nat} (hi : i ≤ bigF) {K : Bool → Prop} (h : K (goesB st xs i)) : m54 st xs (i : Int) K := by
  unfold m54
  unfold goesB at h
  refine br_mk (fun g => ?_) fun g => ?_
  · rw [decide_eq_true_eq] at g
    rw [if_pos (by omega)] at h
    exact h
  · rw [decide_eq_false_iff_not] at g
    rw [if_neg (by omega)] at h
    refine req_mk (by rw [Bool.and_eq_true, decide_eq_true_eq, decide_eq_true_eq]; omega) (req_mk (by rw [decide_eq_true_eq]; omega) ?_)
    rw [Int.toNat_natCast]
    have sw : ∀ (b r : Int), decide (b = r) = decide (r = b) := fun b r => decide_eq_decide.2 eq_comm
    refine br_mk (fun g => ?_) fun g => ?_
    · rw [decide_eq_true_eq] at g
      rw [if_pos g] at h
      unfold bqs at h
      rw [memI_cons, memI_cons, sw 92, sw 96] at h
      refine br_mk (fun g1 => ?_) fun g1 => ?_
      · rw [g1] at h; exact h
      · rw [g1, Bool.false_or, show memI [] (gi xs i) = false from rfl, Bool.or_false] at h; exact h
    · rw [decide_eq_false_iff_not] at g
      rw [if_neg g] at h
      unfold dqs at h
      rw [memI_cons, memI_cons, memI_cons, memI_cons, sw 92, sw 34, sw 36, sw 96] at h
      refine br_mk (fun g1 => ?_) fun g1 => br_mk (fun g2 => ?_) fun g2 => br_mk (fun g3 => ?_) fun g3 => ?_
      · rw [g1] at h; exact h
      · rw [g1, g2] at h; exact h
      · rw [g1, g2, g3] at h; exact h
      · rw [g1, g2, g3, Bool.false_or, Bool.false_or, Bool.false_or, show memI [] (gi xs i) = false from rfl, Bool.or_false] at h; exact h
theorem stay_goes {xs : List Dat} {i : Nat} {st : Int} (hs : okS st) (h0 : st ≠ 0) (h39 : st ≠ 39) (h : i + 1 < xs.length) : stay xs i st = !goesB st xs (i + 1) := by
  unfold stay goesB
  rw [decide_eq_true h, Bool.true_and, if_neg (by omega)]
  rcases hs with rfl | rfl | rfl | rfl
  · exact absurd rfl h0
  · simp
  · exact absurd rfl h39
  · simp
theorem stay_zero {xs : List Dat} {i : Nat} : stay xs i 0 = false := by simp [stay]
theorem s30 {word : List Dat} (hn : word.length ≤ bigF) {K : List Dat → Prop} : ∀ (m i kf F : Nat) (st : Int) (out : List Dat) (iI : Int), word.length - i ≤ m → iI = (i : Int) → word.length ≤ i + kf → word.length - i < F → okS st → out.length ≤ 2 * i → i ≤ word.length →
    K (stp word kf i st out) → l30_4 F ⟨st, false⟩ out word word (word.length : Int) iI (fun _ o => K o) := by
  intro m
  have hb : bigF = 1000000000 := rfl
  induction m with
  | zero =>
    intro i kf F st out iI h1 e h2 h3 hs ho hi h
    subst e
    obtain ⟨F, rfl⟩ : ∃ G, F = G + 1 := ⟨F - 1, by omega⟩
    rw [stp_stop (by omega)] at h
    unfold l30_4
    refine br_mk (fun hlt => ?_) (fun _ => h)
    rw [decide_eq_true_eq] at hlt
    omega
  | succ m ih =>
    intro i kf F st out iI h1 e h2 h3 hs ho hi h
    subst e
    obtain ⟨F, rfl⟩ : ∃ G, F = G + 1 := ⟨F - 1, by omega⟩
    unfold l30_4
    refine br_mk (fun hlt => ?_) (fun hge => ?_)
    · rw [decide_eq_true_eq] at hlt
      have hi' : i < word.length := by omega
      obtain ⟨kf, rfl⟩ : ∃ G, kf = G + 1 := ⟨kf - 1, by omega⟩
      have a1 : inR IntKind.i64 ((i : Int) + 1) = true := i64ok (by omega) (by omega)
      have ap := app_ok (o := out) (by omega)
      refine req_mk (by rw [Bool.and_eq_true, decide_eq_true_eq, decide_eq_true_eq]; omega) (req_mk (by rw [decide_eq_true_eq]; omega) ?_)
      rw [Int.toNat_natCast]
      refine v53 (st := st) hs ?_
      show br false _ _
      rw [b_f]
      by_cases c1 : st ≠ 0 ∧ gi word i = st
      · -- closed
        have h92 : gi word i ≠ 92 := by rw [c1.2]; rcases hs with rfl | rfl | rfl | rfl <;> decide
        have hn : nx st (gi word i) = (0, false) := by unfold nx; rw [if_neg (fun h => h92 h.1), if_neg (fun h => c1.1 h.1), if_pos c1]
        rw [hn]
        show br false _ (br (!decide ((0 : Int) = st)) _ _)
        rw [b_f, decide_eq_false (fun e => c1.1 e.symm), Bool.not_false, b_t, a1, rq_t]
        rw [stp_close hi' c1.1 c1.2] at h
        exact ⟨rfl, ih (i + 1) kf F 0 out _ (by omega) (by omega) (by omega) (by omega) (.inl rfl) (by omega) (by omega) h⟩
      · by_cases c2 : st ≠ 39 ∧ gi word i = 92
        · have hn : nx st (gi word i) = (st, true) := by unfold nx; rw [if_pos ⟨c2.2, c2.1⟩]
          rw [hn]
          show br true _ _
          rw [b_t]
          -- the round behind a backslash
          have back : ∀ (o : List Dat), o.length ≤ 2 * i + 1 → K (stp word kf (i + 2) st (o ++ [.int (gi word (i + 1))])) ∨ word.length ≤ i + 1 → (word.length ≤ i + 1 → K o) → l30_4 F ⟨st, true⟩ o word word (word.length : Int) ((i : Int) + 1) (fun _ o => K o) := fun o hol hk hk2 => by
            obtain ⟨F, rfl⟩ : ∃ G, F = G + 1 := ⟨F - 1, by omega⟩
            unfold l30_4
            refine br_mk (fun hlt2 => ?_) (fun hge2 => ?_)
            · rw [decide_eq_true_eq] at hlt2
              have a2 : inR IntKind.i64 ((i : Int) + 1 + 1) = true := i64ok (by omega) (by omega)
              have hk : K (stp word kf (i + 2) st (o ++ [.int (gi word (i + 1))])) := by
                rcases hk with hk | hk
                · exact hk
                · omega
              refine req_mk (by rw [Bool.and_eq_true, decide_eq_true_eq, decide_eq_true_eq]; omega) (req_mk (by rw [decide_eq_true_eq]; omega) ?_)
              rw [show Int.toNat ((i : Int) + 1) = i + 1 by omega]
              unfold m53
              rw [b_t]
              show br true _ _
              rw [b_t, app_ok (o := o) (by omega), rq_t, a2, rq_t, dapp_full]
              exact ⟨rfl, ih (i + 2) kf F st _ _ (by omega) (by omega) (by omega) (by omega) hs (by rw [List.length_append]; simp; omega) (by omega) hk⟩
            · rw [decide_eq_false_iff_not] at hge2
              exact hk2 (by omega)
          by_cases h0 : st = 0
          · subst h0
            show br (!decide ((0 : Int) = 0)) _ _
            rw [decide_eq_true rfl, Bool.not_true, b_f, a1, rq_t]
            refine ⟨rfl, back out (by omega) ?_ fun h5 => ?_⟩
            · by_cases h4 : i + 1 < word.length
              · rw [stp_esc hi' c1 c2.1 c2.2 h4, stay_zero] at h
                exact .inl h
              · exact .inr (by omega)
            · rw [stp_esc_end hi' c1 c2.1 c2.2 (by omega), stp_stop (by omega)] at h
              exact h
          · show br (!decide (st = 0)) _ _
            rw [decide_eq_false h0, Bool.not_false, b_t, a1, rq_t, show ((i : Int) + 1) = ((i + 1 : Nat) : Int) by omega]
            refine v54 (by omega) ?_
            rw [show ((i + 1 : Nat) : Int) = (i : Int) + 1 by omega]
            by_cases h4 : i + 1 < word.length
            · rw [stp_esc hi' c1 c2.1 c2.2 h4, stay_goes hs h0 c2.1 h4] at h
              cases hg : goesB st word (i + 1)
              · rw [hg] at h
                rw [Bool.not_false, b_t, ap, rq_t, rq_t, dapp_full]
                exact ⟨rfl, back _ (by rw [List.length_append]; simp; omega) (.inl h) fun h5 => by omega⟩
              · rw [hg] at h
                rw [Bool.not_true, b_f, rq_t]
                exact ⟨rfl, back _ (by omega) (.inl h) fun h5 => by omega⟩
            · rw [stp_esc_end hi' c1 c2.1 c2.2 h4, stp_stop (by omega)] at h
              have hg : goesB st word (i + 1) = true := by unfold goesB; rw [if_pos (by omega)]
              rw [hg, Bool.not_true, b_f, rq_t]
              exact ⟨rfl, back _ (by omega) (.inr (by omega)) fun _ => h⟩
        · have h92 : ¬ (gi word i = 92 ∧ st ≠ 39) := fun h => c2 ⟨h.2, h.1⟩
          by_cases c3 : st = 0 ∧ (gi word i = 39 ∨ gi word i = 34 ∨ gi word i = 96)
          · have hn : nx st (gi word i) = (gi word i, false) := by unfold nx; rw [if_neg h92, if_pos c3]
            obtain ⟨rfl, c3⟩ := c3
            have hr0 : gi word i ≠ 0 := by rcases c3 with e | e | e <;> rw [e] <;> decide
            rw [hn]
            show br false _ (br (!decide (gi word i = 0)) _ _)
            rw [b_f, decide_eq_false hr0, Bool.not_false, b_t, a1, rq_t]
            rw [stp_open hi' (fun e => h92 ⟨e, by decide⟩) c3] at h
            exact ⟨rfl, ih (i + 1) kf F _ out _ (by omega) (by omega) (by omega) (by omega) (by rcases c3 with e | e | e <;> rw [e] <;> simp [okS]) (by omega) (by omega) h⟩
          · have hn : nx st (gi word i) = (st, false) := by unfold nx; rw [if_neg h92, if_neg c3, if_neg c1]
            rw [hn]
            show br false _ (br (!decide (st = st)) _ _)
            rw [b_f, decide_eq_true rfl, Bool.not_true, b_f, ap, rq_t, a1, rq_t, dapp_full]
            rw [stp_else hi' c1 c2 c3] at h
            exact ⟨rfl, ih (i + 1) kf F st _ _ (by omega) (by omega) (by omega) (by omega) hs (by rw [List.length_append]; simp; omega) (by omega) h⟩
    · rw [decide_eq_false_iff_not] at hge
      rw [stp_stop (by omega)] at h
      exact h
def strip (xs : List Dat) : List Dat := stp xs xs.length 0 0 []
theorem v30 {word : List Dat} (hn : word.length ≤ bigF) {K : List Dat → Prop} (h : K (strip word)) : m30 word K := by
  unfold m30
  exact ⟨word.length + 1, rfl, s30 hn word.length 0 word.length _ 0 [] 0 (by omega) rfl (by omega) (by omega) (.inl rfl) (by simp) (by omega) h⟩
end Go.Proofs.YtbhehldefflhpaaDoor
