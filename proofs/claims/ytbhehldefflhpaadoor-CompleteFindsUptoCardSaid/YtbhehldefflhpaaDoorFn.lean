/- Layer 21, Find: both scans are one. -/
import Derived.Test.YtbhehldefflhpaaDoorFm
set_option linter.unusedVariables false
set_option linter.unusedSimpArgs false
set_option maxRecDepth 100000
namespace Go.Proofs.YtbhehldefflhpaaDoor
open Go.AM Go.LTxt Go.LMem Go.RowKit
theorem scanP {head : List Dat} (hn : head.length ≤ bigF) {c : C26} {E0 : C26 → List Dat → Int → Int → Prop} : ∀ (k i f : Nat) (q iI fI : Int), iI = (i : Int) → fI = (f : Int) → head.length ≤ i + k → i ≤ head.length + 1 → okQ q →
    E0 c head ((scan head head.length k i f q).1 : Int) (scan head head.length k i f q).2 → l9_4 (k + 1) c head fI q iI E0 := by
  intro k
  induction k with
  | zero =>
    intro i f q iI fI e1 e2 h1 h2 hq h
    subst e1 e2
    rw [scan_stop (by omega)] at h
    unfold l9_4
    refine br_mk (fun hlt => ?_) (fun _ => h)
    rw [decide_eq_true_eq] at hlt
    omega
  | succ k ih =>
    intro i f q iI fI e1 e2 h1 h2 hq h
    subst e1 e2
    have hb : bigF = 1000000000 := rfl
    unfold l9_4
    refine br_mk (fun hlt => ?_) (fun hge => ?_)
    · rw [decide_eq_true_eq] at hlt
      have hi : i < head.length := by omega
      have a1 : inR IntKind.i64 ((i : Int) + 1) = true := i64ok (by omega) (by omega)
      have a2 : inR IntKind.i64 ((i : Int) + 1 + 1) = true := i64ok (by omega) (by omega)
      refine req_mk (by rw [Bool.and_eq_true, decide_eq_true_eq, decide_eq_true_eq]; omega) (req_mk (by rw [decide_eq_true_eq]; omega) ?_)
      simp only [Int.toNat_natCast, a1, a2, rq_t, true_and]
      rcases hq with rfl | rfl | rfl
      · -- no quote
        rw [show decide ((0 : Int) = 34) = false from rfl, show decide ((0 : Int) = 39) = false from rfl, b_f, b_f]
        refine br_mk (fun g1 => ?_) (fun g1 => ?_)
        · rw [decide_eq_true_eq] at g1
          rw [scan_esc hi g1 (by decide)] at h
          exact ih (i + 2) f 0 _ _ (by omega) rfl (by omega) (by omega) (.inl rfl) h
        · rw [decide_eq_false_iff_not] at g1
          refine br_mk (fun g2 => ?_) (fun g2 => ?_)
          · rw [decide_eq_true_eq] at g2
            rw [scan_open hi g1 (.inl g2)] at h
            exact ih (i + 1) (i + 1) _ _ _ (by omega) (by omega) (by omega) (by omega) (.inr (.inr g2)) h
          · rw [decide_eq_false_iff_not] at g2
            refine br_mk (fun g3 => ?_) (fun g3 => ?_)
            · rw [decide_eq_true_eq] at g3
              rw [scan_open hi g1 (.inr g3)] at h
              exact ih (i + 1) (i + 1) _ _ _ (by omega) (by omega) (by omega) (by omega) (.inr (.inl g3)) h
            · rw [decide_eq_false_iff_not] at g3
              refine v29 (L := ends) nats_ends (by decide) ?_
              refine br_mk (fun g4 => ?_) (fun g4 => ?_)
              · rw [scan_end hi g1 (fun e => e.elim g2 g3) g4] at h
                exact ih (i + 1) (i + 1) _ _ _ (by omega) (by omega) (by omega) (by omega) (.inl rfl) h
              · rw [scan_else hi (fun h => g1 h.1) (fun h => h.1 rfl) (fun e => e.2.elim g2 g3) (by rw [g4]; rintro ⟨_, h⟩; cases h)] at h
                exact ih (i + 1) f _ _ _ (by omega) rfl (by omega) (by omega) (.inl rfl) h
      · rw [show decide ((34 : Int) = 34) = true from rfl, b_t]
        refine br_mk (fun g1 => ?_) (fun g1 => ?_)
        · rw [decide_eq_true_eq] at g1
          rw [scan_esc hi g1 (by decide)] at h
          exact ih (i + 2) f 34 _ _ (by omega) rfl (by omega) (by omega) (.inr (.inl rfl)) h
        · rw [decide_eq_false_iff_not] at g1
          refine br_mk (fun g2 => ?_) (fun g2 => ?_)
          · rw [decide_eq_true_eq] at g2
            rw [scan_close hi (fun h => g1 h.1) (by decide) g2] at h
            exact ih (i + 1) f 0 _ _ (by omega) rfl (by omega) (by omega) (.inl rfl) h
          · rw [decide_eq_false_iff_not] at g2
            rw [scan_else hi (fun h => g1 h.1) (fun h => g2 h.2) (fun h => absurd h.1 (by decide)) (fun h => absurd h.1 (by decide))] at h
            exact ih (i + 1) f 34 _ _ (by omega) rfl (by omega) (by omega) (.inr (.inl rfl)) h
      · rw [show decide ((39 : Int) = 34) = false from rfl, show decide ((39 : Int) = 39) = true from rfl, b_f, b_t]
        refine br_mk (fun g2 => ?_) (fun g2 => ?_)
        · rw [decide_eq_true_eq] at g2
          rw [scan_close hi (fun h => h.2 rfl) (by decide) g2] at h
          exact ih (i + 1) f 0 _ _ (by omega) rfl (by omega) (by omega) (.inl rfl) h
        · rw [decide_eq_false_iff_not] at g2
          rw [scan_else hi (fun h => h.2 rfl) (fun h => g2 h.2) (fun h => absurd h.1 (by decide)) (fun h => absurd h.1 (by decide))] at h
          exact ih (i + 1) f 39 _ _ (by omega) rfl (by omega) (by omega) (.inr (.inr rfl)) h
    · rw [decide_eq_false_iff_not] at hge
      rw [scan_stop (by omega)] at h
      exact h
theorem ends_split (r : Int) : memI ends r = (decide (32 = r) || (decide (9 = r) || (decide (10 = r) || memI ends2 r))) := by
  unfold ends
  rw [memI_cons, memI_cons, memI_cons]
  rfl
theorem q8 {c : C26} {line : List Dat} {point q f i r : Int} {E0 : C26 → List Dat → Int → Int → Int → Int → Int → Bool → Prop} (h : E0 c line point q f i r (decide (r = 92) && !decide (q = 39))) : p10_r8 c line point q f i r E0 := by
  unfold p10_r8
  exact br_mk (fun g => by rw [g, Bool.true_and] at h; exact h) fun g => by rw [g, Bool.false_and] at h; exact h
theorem q10 {c : C26} {line : List Dat} {point q f i r : Int} {E0 : C26 → List Dat → Int → Int → Int → Int → Int → Bool → Prop} (h : E0 c line point q f i r (!decide (q = 0) && decide (r = q))) : p10_r10 c line point q f i r E0 := by
  unfold p10_r10
  exact br_mk (fun g => by rw [g, Bool.true_and] at h; exact h) fun g => by rw [g, Bool.false_and] at h; exact h
theorem q12 {c : C26} {line : List Dat} {point q f i r : Int} {E0 : C26 → List Dat → Int → Int → Int → Int → Int → Bool → Prop} (h : E0 c line point q f i r (decide (q = 0) && (decide (r = 39) || decide (r = 34)))) : p10_r12 c line point q f i r E0 := by
  unfold p10_r12
  exact br_mk (fun g => br_mk (fun g2 => by rw [g, g2] at h; exact h) fun g2 => by rw [g, g2] at h; exact h) fun g => by rw [g, Bool.false_and] at h; exact h
theorem q14 {c : C26} {line : List Dat} {point q f i r : Int} {E0 : C26 → List Dat → Int → Int → Int → Int → Bool → Prop} (h : E0 c line point q f i (decide (q = 0) && memI ends r)) : p10_r14 c line point q f i r E0 := by
  have hs := ends_split r
  unfold p10_r14
  refine br_mk (fun g => ?_) fun g => by rw [g, Bool.false_and] at h; exact h
  rw [g, Bool.true_and] at h
  refine br_mk (fun g4 => ?_) (fun g4 => br_mk (fun g5 => ?_) (fun g5 => br_mk (fun g6 => ?_) fun g6 => ?_))
  · rw [decide_eq_true_eq] at g4
    rw [hs, decide_eq_true g4.symm] at h
    exact h
  · rw [decide_eq_true_eq] at g5
    rw [hs, decide_eq_true g5.symm, Bool.true_or, Bool.or_true] at h
    exact h
  · rw [decide_eq_true_eq] at g6
    rw [hs, decide_eq_true g6.symm, Bool.true_or, Bool.or_true, Bool.or_true] at h
    exact h
  · rw [decide_eq_false_iff_not] at g4 g5 g6
    rw [hs, decide_eq_false (fun e => g4 e.symm), decide_eq_false (fun e => g5 e.symm), decide_eq_false (fun e => g6 e.symm)] at h
    exact v32 (L := ends2) runes_ends (by decide) h
theorem scanR {line : List Dat} {n : Nat} (hnl : n ≤ line.length) (hn : n ≤ bigF) {c : C26} {E0 : C26 → List Dat → Int → Int → Int → Prop} : ∀ (k i f : Nat) (q iI fI : Int), iI = (i : Int) → fI = (f : Int) → n ≤ i + k → i ≤ n + 1 → okQ q →
    E0 c line (n : Int) (scan line n k i f q).2 ((scan line n k i f q).1 : Int) → l10_5 (k + 1) c line (n : Int) q fI iI E0 := by
  intro k
  induction k with
  | zero =>
    intro i f q iI fI e1 e2 h1 h2 hq h
    subst e1 e2
    rw [scan_stop (by omega)] at h
    unfold l10_5
    refine br_mk (fun hlt => ?_) (fun _ => h)
    rw [decide_eq_true_eq] at hlt
    omega
  | succ k ih =>
    intro i f q iI fI e1 e2 h1 h2 hq h
    subst e1 e2
    have hb : bigF = 1000000000 := rfl
    unfold l10_5
    refine br_mk (fun hlt => ?_) (fun hge => ?_)
    · rw [decide_eq_true_eq] at hlt
      have hi : i < n := by omega
      have a1 : inR IntKind.i64 ((i : Int) + 1) = true := i64ok (by omega) (by omega)
      have a2 : inR IntKind.i64 ((i : Int) + 1 + 1) = true := i64ok (by omega) (by omega)
      refine req_mk (by rw [Bool.and_eq_true, decide_eq_true_eq, decide_eq_true_eq]; omega) (req_mk (by rw [decide_eq_true_eq]; omega) ⟨rfl, ?_⟩)
      rw [Int.toNat_natCast]
      refine q8 (c := c) (br_mk (fun g1 => ?_) fun g1 => ⟨rfl, q10 (c := c) (br_mk (fun g2 => ?_) fun g2 => ⟨rfl, q12 (c := c) (br_mk (fun g3 => ?_) fun g3 => ⟨rfl, q14 (c := c) (br_mk (fun g4 => ?_) fun g4 => ?_)⟩)⟩)⟩)
      · rw [a1, rq_t, a2, rq_t]
        rw [Bool.and_eq_true, decide_eq_true_eq, Bool.not_eq_true', decide_eq_false_iff_not] at g1
        rw [scan_esc hi g1.1 g1.2] at h
        exact ⟨rfl, ih (i + 2) f q _ _ (by omega) rfl (by omega) (by omega) hq h⟩
      all_goals
        have n1 : ¬ (gi line i = 92 ∧ q ≠ 39) := fun h => by rw [decide_eq_true h.1, decide_eq_false h.2] at g1; cases g1
      · rw [a1, rq_t]
        rw [Bool.and_eq_true, decide_eq_true_eq, Bool.not_eq_true', decide_eq_false_iff_not] at g2
        rw [scan_close hi n1 g2.1 g2.2] at h
        exact ⟨rfl, ih (i + 1) f 0 _ _ (by omega) rfl (by omega) (by omega) (.inl rfl) h⟩
      all_goals
        have n2 : ¬ (q ≠ 0 ∧ gi line i = q) := fun h => by rw [decide_eq_true h.2, decide_eq_false h.1] at g2; cases g2
      · rw [a1, rq_t, rq_t]
        rw [Bool.and_eq_true, decide_eq_true_eq, Bool.or_eq_true, decide_eq_true_eq, decide_eq_true_eq] at g3
        obtain ⟨rfl, g3⟩ := g3
        rw [scan_open hi (fun e => n1 ⟨e, by decide⟩) g3] at h
        exact ⟨rfl, ih (i + 1) (i + 1) _ _ _ (by omega) (by omega) (by omega) (by omega) (by rcases g3 with g | g; exact .inr (.inr g); exact .inr (.inl g)) h⟩
      all_goals
        have n3 : ¬ (q = 0 ∧ (gi line i = 39 ∨ gi line i = 34)) := fun h => by
          rw [decide_eq_true h.1, Bool.true_and, Bool.or_eq_false_iff, decide_eq_false_iff_not, decide_eq_false_iff_not] at g3
          rcases h.2 with e | e
          · exact g3.1 e
          · exact g3.2 e
      · rw [a1, rq_t, rq_t]
        rw [Bool.and_eq_true, decide_eq_true_eq] at g4
        obtain ⟨rfl, g4⟩ := g4
        rw [scan_end hi (fun e => n1 ⟨e, by decide⟩) (fun e => n3 ⟨rfl, e⟩) g4] at h
        exact ⟨rfl, ih (i + 1) (i + 1) _ _ _ (by omega) (by omega) (by omega) (by omega) (.inl rfl) h⟩
      · rw [a1, rq_t]
        rw [scan_else hi n1 n2 n3 (fun h => by rw [decide_eq_true h.1, h.2] at g4; cases g4)] at h
        exact ⟨rfl, ih (i + 1) f q _ _ (by omega) rfl (by omega) (by omega) hq h⟩
    · rw [decide_eq_false_iff_not] at hge
      rw [scan_stop (by omega)] at h
      exact h
end Go.Proofs.YtbhehldefflhpaaDoor
