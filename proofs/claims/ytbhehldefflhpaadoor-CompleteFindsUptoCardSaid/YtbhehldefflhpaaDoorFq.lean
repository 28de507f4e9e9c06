/- Layer 21, Find: the document's Strip in plain words. -/
import Derived.Test.YtbhehldefflhpaaDoorFo
set_option linter.unusedVariables false
set_option linter.unusedSimpArgs false
set_option maxRecDepth 100000
namespace Go.Proofs.YtbhehldefflhpaaDoor
open Go.AM Go.LTxt Go.LMem Go.RowKit
set_option maxHeartbeats 4000000 in
theorem s33 {word : List Dat} (hn : word.length ≤ bigF) {E0 : List Dat → Prop} : ∀ (k i : Nat) (st : Int) (out : List Dat) (iI : Int), iI = (i : Int) → word.length ≤ i + k → i ≤ word.length → okS st → out.length ≤ 2 * i →
    E0 (stp word k i st out) → l33_4 (k + 1) out word st iI E0 := by
  intro k
  have hb : bigF = 1000000000 := rfl
  induction k with
  | zero =>
    intro i st out iI e h1 h2 hs ho h
    subst e
    rw [stp_stop (by omega)] at h
    unfold l33_4
    refine br_mk (fun hlt => ?_) (fun _ => h)
    rw [decide_eq_true_eq] at hlt
    omega
  | succ k ih =>
    intro i st out iI e h1 h2 hs ho h
    subst e
    by_cases hi : i < word.length
    · have a1 : inR IntKind.i64 ((i : Int) + 1) = true := i64ok (by omega) (by omega)
      have a2 : inR IntKind.i64 ((i : Int) + 1 + 1) = true := i64ok (by omega) (by omega)
      have e1 : Int.toNat ((i : Int) + 1) = i + 1 := by omega
      have p6 : decide ((0 : Int) ≤ (i : Int)) = true := decide_eq_true (by omega)
      have p7 : decide ((i : Int) < (word.length : Int)) = true := decide_eq_true (by omega)
      have p2 : decide (i < word.length) = true := decide_eq_true hi
      have p8 : decide ((0 : Int) ≤ (i : Int) + 1) = true := decide_eq_true (by omega)
      have ap0 : appOK out 0 out.length 1 4 = true := app_ok (by omega)
      have ap1 : appOK (out ++ [Dat.int (gi word i)]) 0 (out ++ [Dat.int (gi word i)]).length 1 4 = true := app_ok (by rw [List.length_append]; simp; omega)
      unfold l33_4
      rcases hs with rfl | rfl | rfl | rfl
      · by_cases g : gi word i = 92
        · by_cases hN : i + 1 < word.length
          · have p3 : decide ((i : Int) + 1 < (word.length : Int)) = true := decide_eq_true (by omega)
            have p5 : decide (i + 1 < word.length) = true := decide_eq_true hN
            rw [stp_esc hi (fun h => h.1 rfl) (by decide) g hN] at h
            simp only [p3, p5, p8, p6, p7, p2, a1, a2, ap0, ap1, Int.toNat_natCast, e1, rq_t, b_t, b_f, Bool.and_self, Bool.not_true, Bool.not_false, true_and, dapp_full, decide_true, decide_false, show decide ((0 : Int) = 0) = true from rfl, show decide ((0 : Int) = 34) = false from rfl, show decide ((0 : Int) = 39) = false from rfl, show decide ((0 : Int) = 96) = false from rfl, show decide ((34 : Int) = 0) = false from rfl, show decide ((34 : Int) = 34) = true from rfl, show decide ((34 : Int) = 39) = false from rfl, show decide ((34 : Int) = 96) = false from rfl, show decide ((39 : Int) = 0) = false from rfl, show decide ((39 : Int) = 34) = false from rfl, show decide ((39 : Int) = 39) = true from rfl, show decide ((39 : Int) = 96) = false from rfl, show decide ((96 : Int) = 0) = false from rfl, show decide ((96 : Int) = 34) = false from rfl, show decide ((96 : Int) = 39) = false from rfl, show decide ((96 : Int) = 96) = true from rfl, show decide (gi word i = 92) = true from decide_eq_true g, show decide (gi word i = 39) = false from decide_eq_false (by rw [g]; decide), show decide (gi word i = 34) = false from decide_eq_false (by rw [g]; decide), show decide (gi word i = 96) = false from decide_eq_false (by rw [g]; decide)]
            rw [stay_zero] at h
            exact ih (i + 2) 0 _ _ (by omega) (by omega) (by omega) (.inl rfl) (by rw [List.length_append]; simp; omega) h
          · have p3 : decide ((i : Int) + 1 < (word.length : Int)) = false := decide_eq_false (by omega)
            rw [stp_esc_end hi (fun h => h.1 rfl) (by decide) g hN] at h
            simp only [p3, p8, p6, p7, p2, a1, a2, ap0, ap1, Int.toNat_natCast, e1, rq_t, b_t, b_f, Bool.and_self, Bool.not_true, Bool.not_false, true_and, dapp_full, decide_true, decide_false, show decide ((0 : Int) = 0) = true from rfl, show decide ((0 : Int) = 34) = false from rfl, show decide ((0 : Int) = 39) = false from rfl, show decide ((0 : Int) = 96) = false from rfl, show decide ((34 : Int) = 0) = false from rfl, show decide ((34 : Int) = 34) = true from rfl, show decide ((34 : Int) = 39) = false from rfl, show decide ((34 : Int) = 96) = false from rfl, show decide ((39 : Int) = 0) = false from rfl, show decide ((39 : Int) = 34) = false from rfl, show decide ((39 : Int) = 39) = true from rfl, show decide ((39 : Int) = 96) = false from rfl, show decide ((96 : Int) = 0) = false from rfl, show decide ((96 : Int) = 34) = false from rfl, show decide ((96 : Int) = 39) = false from rfl, show decide ((96 : Int) = 96) = true from rfl, show decide (gi word i = 92) = true from decide_eq_true g, show decide (gi word i = 39) = false from decide_eq_false (by rw [g]; decide), show decide (gi word i = 34) = false from decide_eq_false (by rw [g]; decide), show decide (gi word i = 96) = false from decide_eq_false (by rw [g]; decide)]
            exact ih (i + 1) 0 out _ (by omega) (by omega) (by omega) (.inl rfl) (by omega) h
        have g92 := g
        by_cases g : gi word i = 39
        · rw [stp_open hi (by rw [g]; decide) (.inl g)] at h
          simp only [p6, p7, p2, a1, a2, ap0, ap1, Int.toNat_natCast, e1, rq_t, b_t, b_f, Bool.and_self, Bool.not_true, Bool.not_false, true_and, dapp_full, decide_true, decide_false, show decide ((0 : Int) = 0) = true from rfl, show decide ((0 : Int) = 34) = false from rfl, show decide ((0 : Int) = 39) = false from rfl, show decide ((0 : Int) = 96) = false from rfl, show decide ((34 : Int) = 0) = false from rfl, show decide ((34 : Int) = 34) = true from rfl, show decide ((34 : Int) = 39) = false from rfl, show decide ((34 : Int) = 96) = false from rfl, show decide ((39 : Int) = 0) = false from rfl, show decide ((39 : Int) = 34) = false from rfl, show decide ((39 : Int) = 39) = true from rfl, show decide ((39 : Int) = 96) = false from rfl, show decide ((96 : Int) = 0) = false from rfl, show decide ((96 : Int) = 34) = false from rfl, show decide ((96 : Int) = 39) = false from rfl, show decide ((96 : Int) = 96) = true from rfl, show decide (gi word i = 92) = false from decide_eq_false (by rw [g]; decide), show decide (gi word i = 39) = true from decide_eq_true g, show decide (gi word i = 34) = false from decide_eq_false (by rw [g]; decide), show decide (gi word i = 96) = false from decide_eq_false (by rw [g]; decide)]
          exact ih (i + 1) _ out _ (by omega) (by omega) (by omega) (.inr (.inr (.inl g))) (by omega) h
        have g39 := g
        by_cases g : gi word i = 34
        · rw [stp_open hi (by rw [g]; decide) (.inr (.inl g))] at h
          simp only [p6, p7, p2, a1, a2, ap0, ap1, Int.toNat_natCast, e1, rq_t, b_t, b_f, Bool.and_self, Bool.not_true, Bool.not_false, true_and, dapp_full, decide_true, decide_false, show decide ((0 : Int) = 0) = true from rfl, show decide ((0 : Int) = 34) = false from rfl, show decide ((0 : Int) = 39) = false from rfl, show decide ((0 : Int) = 96) = false from rfl, show decide ((34 : Int) = 0) = false from rfl, show decide ((34 : Int) = 34) = true from rfl, show decide ((34 : Int) = 39) = false from rfl, show decide ((34 : Int) = 96) = false from rfl, show decide ((39 : Int) = 0) = false from rfl, show decide ((39 : Int) = 34) = false from rfl, show decide ((39 : Int) = 39) = true from rfl, show decide ((39 : Int) = 96) = false from rfl, show decide ((96 : Int) = 0) = false from rfl, show decide ((96 : Int) = 34) = false from rfl, show decide ((96 : Int) = 39) = false from rfl, show decide ((96 : Int) = 96) = true from rfl, show decide (gi word i = 92) = false from decide_eq_false (by rw [g]; decide), show decide (gi word i = 39) = false from decide_eq_false (by rw [g]; decide), show decide (gi word i = 34) = true from decide_eq_true g, show decide (gi word i = 96) = false from decide_eq_false (by rw [g]; decide)]
          exact ih (i + 1) _ out _ (by omega) (by omega) (by omega) (.inr (.inl g)) (by omega) h
        have g34 := g
        by_cases g : gi word i = 96
        · rw [stp_open hi (by rw [g]; decide) (.inr (.inr g))] at h
          simp only [p6, p7, p2, a1, a2, ap0, ap1, Int.toNat_natCast, e1, rq_t, b_t, b_f, Bool.and_self, Bool.not_true, Bool.not_false, true_and, dapp_full, decide_true, decide_false, show decide ((0 : Int) = 0) = true from rfl, show decide ((0 : Int) = 34) = false from rfl, show decide ((0 : Int) = 39) = false from rfl, show decide ((0 : Int) = 96) = false from rfl, show decide ((34 : Int) = 0) = false from rfl, show decide ((34 : Int) = 34) = true from rfl, show decide ((34 : Int) = 39) = false from rfl, show decide ((34 : Int) = 96) = false from rfl, show decide ((39 : Int) = 0) = false from rfl, show decide ((39 : Int) = 34) = false from rfl, show decide ((39 : Int) = 39) = true from rfl, show decide ((39 : Int) = 96) = false from rfl, show decide ((96 : Int) = 0) = false from rfl, show decide ((96 : Int) = 34) = false from rfl, show decide ((96 : Int) = 39) = false from rfl, show decide ((96 : Int) = 96) = true from rfl, show decide (gi word i = 92) = false from decide_eq_false (by rw [g]; decide), show decide (gi word i = 39) = false from decide_eq_false (by rw [g]; decide), show decide (gi word i = 34) = false from decide_eq_false (by rw [g]; decide), show decide (gi word i = 96) = true from decide_eq_true g]
          exact ih (i + 1) _ out _ (by omega) (by omega) (by omega) (.inr (.inr (.inr g))) (by omega) h
        have g96 := g
        rw [stp_else hi (fun h => h.1 rfl) (fun h => g92 h.2) (fun h => h.2.elim g39 (fun h => h.elim g34 g96))] at h
        simp only [p6, p7, p2, a1, a2, ap0, ap1, Int.toNat_natCast, e1, rq_t, b_t, b_f, Bool.and_self, Bool.not_true, Bool.not_false, true_and, dapp_full, decide_true, decide_false, show decide ((0 : Int) = 0) = true from rfl, show decide ((0 : Int) = 34) = false from rfl, show decide ((0 : Int) = 39) = false from rfl, show decide ((0 : Int) = 96) = false from rfl, show decide ((34 : Int) = 0) = false from rfl, show decide ((34 : Int) = 34) = true from rfl, show decide ((34 : Int) = 39) = false from rfl, show decide ((34 : Int) = 96) = false from rfl, show decide ((39 : Int) = 0) = false from rfl, show decide ((39 : Int) = 34) = false from rfl, show decide ((39 : Int) = 39) = true from rfl, show decide ((39 : Int) = 96) = false from rfl, show decide ((96 : Int) = 0) = false from rfl, show decide ((96 : Int) = 34) = false from rfl, show decide ((96 : Int) = 39) = false from rfl, show decide ((96 : Int) = 96) = true from rfl, show decide (gi word i = 92) = false from decide_eq_false g92, show decide (gi word i = 39) = false from decide_eq_false g39, show decide (gi word i = 34) = false from decide_eq_false g34, show decide (gi word i = 96) = false from decide_eq_false g96]
        exact ih (i + 1) 0 _ _ (by omega) (by omega) (by omega) (.inl rfl) (by rw [List.length_append]; simp; omega) h
      · by_cases g : gi word i = 34
        · rw [stp_close hi (by decide) g] at h
          simp only [p6, p7, p2, a1, a2, ap0, ap1, Int.toNat_natCast, e1, rq_t, b_t, b_f, Bool.and_self, Bool.not_true, Bool.not_false, true_and, dapp_full, decide_true, decide_false, show decide ((0 : Int) = 0) = true from rfl, show decide ((0 : Int) = 34) = false from rfl, show decide ((0 : Int) = 39) = false from rfl, show decide ((0 : Int) = 96) = false from rfl, show decide ((34 : Int) = 0) = false from rfl, show decide ((34 : Int) = 34) = true from rfl, show decide ((34 : Int) = 39) = false from rfl, show decide ((34 : Int) = 96) = false from rfl, show decide ((39 : Int) = 0) = false from rfl, show decide ((39 : Int) = 34) = false from rfl, show decide ((39 : Int) = 39) = true from rfl, show decide ((39 : Int) = 96) = false from rfl, show decide ((96 : Int) = 0) = false from rfl, show decide ((96 : Int) = 34) = false from rfl, show decide ((96 : Int) = 39) = false from rfl, show decide ((96 : Int) = 96) = true from rfl, show decide (gi word i = 92) = false from decide_eq_false (by rw [g]; decide), show decide (gi word i = 39) = false from decide_eq_false (by rw [g]; decide), show decide (gi word i = 34) = true from decide_eq_true g, show decide (gi word i = 96) = false from decide_eq_false (by rw [g]; decide)]
          exact ih (i + 1) 0 out _ (by omega) (by omega) (by omega) (.inl rfl) (by omega) h
        have g34 := g
        by_cases g : gi word i = 92
        · by_cases hN : i + 1 < word.length
          · have p3 : decide ((i : Int) + 1 < (word.length : Int)) = true := decide_eq_true (by omega)
            have p5 : decide (i + 1 < word.length) = true := decide_eq_true hN
            rw [stp_esc hi (fun h => by have := h.2; rw [g] at this; exact absurd this (by decide)) (by decide) g hN] at h
            simp only [p3, p5, p8, p6, p7, p2, a1, a2, ap0, ap1, Int.toNat_natCast, e1, rq_t, b_t, b_f, Bool.and_self, Bool.not_true, Bool.not_false, true_and, dapp_full, decide_true, decide_false, show decide ((0 : Int) = 0) = true from rfl, show decide ((0 : Int) = 34) = false from rfl, show decide ((0 : Int) = 39) = false from rfl, show decide ((0 : Int) = 96) = false from rfl, show decide ((34 : Int) = 0) = false from rfl, show decide ((34 : Int) = 34) = true from rfl, show decide ((34 : Int) = 39) = false from rfl, show decide ((34 : Int) = 96) = false from rfl, show decide ((39 : Int) = 0) = false from rfl, show decide ((39 : Int) = 34) = false from rfl, show decide ((39 : Int) = 39) = true from rfl, show decide ((39 : Int) = 96) = false from rfl, show decide ((96 : Int) = 0) = false from rfl, show decide ((96 : Int) = 34) = false from rfl, show decide ((96 : Int) = 39) = false from rfl, show decide ((96 : Int) = 96) = true from rfl, show decide (gi word i = 92) = true from decide_eq_true g, show decide (gi word i = 39) = false from decide_eq_false (by rw [g]; decide), show decide (gi word i = 34) = false from decide_eq_false (by rw [g]; decide), show decide (gi word i = 96) = false from decide_eq_false (by rw [g]; decide)]
            refine v55 (L := dqs) nats_dq (by decide) ?_
            have hst : stay word i 34 = !memI dqs (gi word (i + 1)) := by simp [stay, hN]
            rw [hst] at h
            cases hm : memI dqs (gi word (i + 1))
            · rw [hm] at h
              exact ih (i + 2) 34 _ _ (by omega) (by omega) (by omega) (.inr (.inl rfl)) (by rw [List.length_append, List.length_append]; simp; omega) h
            · rw [hm] at h
              exact ih (i + 2) 34 _ _ (by omega) (by omega) (by omega) (.inr (.inl rfl)) (by rw [List.length_append]; simp; omega) h
          · have p3 : decide ((i : Int) + 1 < (word.length : Int)) = false := decide_eq_false (by omega)
            rw [stp_esc_end hi (fun h => by have := h.2; rw [g] at this; exact absurd this (by decide)) (by decide) g hN] at h
            simp only [p3, p8, p6, p7, p2, a1, a2, ap0, ap1, Int.toNat_natCast, e1, rq_t, b_t, b_f, Bool.and_self, Bool.not_true, Bool.not_false, true_and, dapp_full, decide_true, decide_false, show decide ((0 : Int) = 0) = true from rfl, show decide ((0 : Int) = 34) = false from rfl, show decide ((0 : Int) = 39) = false from rfl, show decide ((0 : Int) = 96) = false from rfl, show decide ((34 : Int) = 0) = false from rfl, show decide ((34 : Int) = 34) = true from rfl, show decide ((34 : Int) = 39) = false from rfl, show decide ((34 : Int) = 96) = false from rfl, show decide ((39 : Int) = 0) = false from rfl, show decide ((39 : Int) = 34) = false from rfl, show decide ((39 : Int) = 39) = true from rfl, show decide ((39 : Int) = 96) = false from rfl, show decide ((96 : Int) = 0) = false from rfl, show decide ((96 : Int) = 34) = false from rfl, show decide ((96 : Int) = 39) = false from rfl, show decide ((96 : Int) = 96) = true from rfl, show decide (gi word i = 92) = true from decide_eq_true g, show decide (gi word i = 39) = false from decide_eq_false (by rw [g]; decide), show decide (gi word i = 34) = false from decide_eq_false (by rw [g]; decide), show decide (gi word i = 96) = false from decide_eq_false (by rw [g]; decide)]
            exact ih (i + 1) 34 out _ (by omega) (by omega) (by omega) (.inr (.inl rfl)) (by omega) h
        have g92 := g
        rw [stp_else hi (fun h => g34 h.2) (fun h => g92 h.2) (fun h => absurd h.1 (by decide))] at h
        simp only [p6, p7, p2, a1, a2, ap0, ap1, Int.toNat_natCast, e1, rq_t, b_t, b_f, Bool.and_self, Bool.not_true, Bool.not_false, true_and, dapp_full, decide_true, decide_false, show decide ((0 : Int) = 0) = true from rfl, show decide ((0 : Int) = 34) = false from rfl, show decide ((0 : Int) = 39) = false from rfl, show decide ((0 : Int) = 96) = false from rfl, show decide ((34 : Int) = 0) = false from rfl, show decide ((34 : Int) = 34) = true from rfl, show decide ((34 : Int) = 39) = false from rfl, show decide ((34 : Int) = 96) = false from rfl, show decide ((39 : Int) = 0) = false from rfl, show decide ((39 : Int) = 34) = false from rfl, show decide ((39 : Int) = 39) = true from rfl, show decide ((39 : Int) = 96) = false from rfl, show decide ((96 : Int) = 0) = false from rfl, show decide ((96 : Int) = 34) = false from rfl, show decide ((96 : Int) = 39) = false from rfl, show decide ((96 : Int) = 96) = true from rfl, show decide (gi word i = 34) = false from decide_eq_false g34, show decide (gi word i = 92) = false from decide_eq_false g92]
        exact ih (i + 1) 34 _ _ (by omega) (by omega) (by omega) (.inr (.inl rfl)) (by rw [List.length_append]; simp; omega) h
      · by_cases g : gi word i = 39
        · rw [stp_close hi (by decide) g] at h
          simp only [p6, p7, p2, a1, a2, ap0, ap1, Int.toNat_natCast, e1, rq_t, b_t, b_f, Bool.and_self, Bool.not_true, Bool.not_false, true_and, dapp_full, decide_true, decide_false, show decide ((0 : Int) = 0) = true from rfl, show decide ((0 : Int) = 34) = false from rfl, show decide ((0 : Int) = 39) = false from rfl, show decide ((0 : Int) = 96) = false from rfl, show decide ((34 : Int) = 0) = false from rfl, show decide ((34 : Int) = 34) = true from rfl, show decide ((34 : Int) = 39) = false from rfl, show decide ((34 : Int) = 96) = false from rfl, show decide ((39 : Int) = 0) = false from rfl, show decide ((39 : Int) = 34) = false from rfl, show decide ((39 : Int) = 39) = true from rfl, show decide ((39 : Int) = 96) = false from rfl, show decide ((96 : Int) = 0) = false from rfl, show decide ((96 : Int) = 34) = false from rfl, show decide ((96 : Int) = 39) = false from rfl, show decide ((96 : Int) = 96) = true from rfl, show decide (gi word i = 92) = false from decide_eq_false (by rw [g]; decide), show decide (gi word i = 39) = true from decide_eq_true g, show decide (gi word i = 34) = false from decide_eq_false (by rw [g]; decide), show decide (gi word i = 96) = false from decide_eq_false (by rw [g]; decide)]
          exact ih (i + 1) 0 out _ (by omega) (by omega) (by omega) (.inl rfl) (by omega) h
        have g39 := g
        rw [stp_else hi (fun h => g39 h.2) (fun h => h.1 rfl) (fun h => absurd h.1 (by decide))] at h
        simp only [p6, p7, p2, a1, a2, ap0, ap1, Int.toNat_natCast, e1, rq_t, b_t, b_f, Bool.and_self, Bool.not_true, Bool.not_false, true_and, dapp_full, decide_true, decide_false, show decide ((0 : Int) = 0) = true from rfl, show decide ((0 : Int) = 34) = false from rfl, show decide ((0 : Int) = 39) = false from rfl, show decide ((0 : Int) = 96) = false from rfl, show decide ((34 : Int) = 0) = false from rfl, show decide ((34 : Int) = 34) = true from rfl, show decide ((34 : Int) = 39) = false from rfl, show decide ((34 : Int) = 96) = false from rfl, show decide ((39 : Int) = 0) = false from rfl, show decide ((39 : Int) = 34) = false from rfl, show decide ((39 : Int) = 39) = true from rfl, show decide ((39 : Int) = 96) = false from rfl, show decide ((96 : Int) = 0) = false from rfl, show decide ((96 : Int) = 34) = false from rfl, show decide ((96 : Int) = 39) = false from rfl, show decide ((96 : Int) = 96) = true from rfl, show decide (gi word i = 39) = false from decide_eq_false g39]
        exact ih (i + 1) 39 _ _ (by omega) (by omega) (by omega) (.inr (.inr (.inl rfl))) (by rw [List.length_append]; simp; omega) h
      · by_cases g : gi word i = 96
        · rw [stp_close hi (by decide) g] at h
          simp only [p6, p7, p2, a1, a2, ap0, ap1, Int.toNat_natCast, e1, rq_t, b_t, b_f, Bool.and_self, Bool.not_true, Bool.not_false, true_and, dapp_full, decide_true, decide_false, show decide ((0 : Int) = 0) = true from rfl, show decide ((0 : Int) = 34) = false from rfl, show decide ((0 : Int) = 39) = false from rfl, show decide ((0 : Int) = 96) = false from rfl, show decide ((34 : Int) = 0) = false from rfl, show decide ((34 : Int) = 34) = true from rfl, show decide ((34 : Int) = 39) = false from rfl, show decide ((34 : Int) = 96) = false from rfl, show decide ((39 : Int) = 0) = false from rfl, show decide ((39 : Int) = 34) = false from rfl, show decide ((39 : Int) = 39) = true from rfl, show decide ((39 : Int) = 96) = false from rfl, show decide ((96 : Int) = 0) = false from rfl, show decide ((96 : Int) = 34) = false from rfl, show decide ((96 : Int) = 39) = false from rfl, show decide ((96 : Int) = 96) = true from rfl, show decide (gi word i = 92) = false from decide_eq_false (by rw [g]; decide), show decide (gi word i = 39) = false from decide_eq_false (by rw [g]; decide), show decide (gi word i = 34) = false from decide_eq_false (by rw [g]; decide), show decide (gi word i = 96) = true from decide_eq_true g]
          exact ih (i + 1) 0 out _ (by omega) (by omega) (by omega) (.inl rfl) (by omega) h
        have g96 := g
        by_cases g : gi word i = 92
        · by_cases hN : i + 1 < word.length
          · have p3 : decide ((i : Int) + 1 < (word.length : Int)) = true := decide_eq_true (by omega)
            have p5 : decide (i + 1 < word.length) = true := decide_eq_true hN
            rw [stp_esc hi (fun h => by have := h.2; rw [g] at this; exact absurd this (by decide)) (by decide) g hN] at h
            simp only [p3, p5, p8, p6, p7, p2, a1, a2, ap0, ap1, Int.toNat_natCast, e1, rq_t, b_t, b_f, Bool.and_self, Bool.not_true, Bool.not_false, true_and, dapp_full, decide_true, decide_false, show decide ((0 : Int) = 0) = true from rfl, show decide ((0 : Int) = 34) = false from rfl, show decide ((0 : Int) = 39) = false from rfl, show decide ((0 : Int) = 96) = false from rfl, show decide ((34 : Int) = 0) = false from rfl, show decide ((34 : Int) = 34) = true from rfl, show decide ((34 : Int) = 39) = false from rfl, show decide ((34 : Int) = 96) = false from rfl, show decide ((39 : Int) = 0) = false from rfl, show decide ((39 : Int) = 34) = false from rfl, show decide ((39 : Int) = 39) = true from rfl, show decide ((39 : Int) = 96) = false from rfl, show decide ((96 : Int) = 0) = false from rfl, show decide ((96 : Int) = 34) = false from rfl, show decide ((96 : Int) = 39) = false from rfl, show decide ((96 : Int) = 96) = true from rfl, show decide (gi word i = 92) = true from decide_eq_true g, show decide (gi word i = 39) = false from decide_eq_false (by rw [g]; decide), show decide (gi word i = 34) = false from decide_eq_false (by rw [g]; decide), show decide (gi word i = 96) = false from decide_eq_false (by rw [g]; decide)]
            refine v55 (L := bqs) nats_bq (by decide) ?_
            have hst : stay word i 96 = !memI bqs (gi word (i + 1)) := by simp [stay, hN]
            rw [hst] at h
            cases hm : memI bqs (gi word (i + 1))
            · rw [hm] at h
              exact ih (i + 2) 96 _ _ (by omega) (by omega) (by omega) (.inr (.inr (.inr rfl))) (by rw [List.length_append, List.length_append]; simp; omega) h
            · rw [hm] at h
              exact ih (i + 2) 96 _ _ (by omega) (by omega) (by omega) (.inr (.inr (.inr rfl))) (by rw [List.length_append]; simp; omega) h
          · have p3 : decide ((i : Int) + 1 < (word.length : Int)) = false := decide_eq_false (by omega)
            rw [stp_esc_end hi (fun h => by have := h.2; rw [g] at this; exact absurd this (by decide)) (by decide) g hN] at h
            simp only [p3, p8, p6, p7, p2, a1, a2, ap0, ap1, Int.toNat_natCast, e1, rq_t, b_t, b_f, Bool.and_self, Bool.not_true, Bool.not_false, true_and, dapp_full, decide_true, decide_false, show decide ((0 : Int) = 0) = true from rfl, show decide ((0 : Int) = 34) = false from rfl, show decide ((0 : Int) = 39) = false from rfl, show decide ((0 : Int) = 96) = false from rfl, show decide ((34 : Int) = 0) = false from rfl, show decide ((34 : Int) = 34) = true from rfl, show decide ((34 : Int) = 39) = false from rfl, show decide ((34 : Int) = 96) = false from rfl, show decide ((39 : Int) = 0) = false from rfl, show decide ((39 : Int) = 34) = false from rfl, show decide ((39 : Int) = 39) = true from rfl, show decide ((39 : Int) = 96) = false from rfl, show decide ((96 : Int) = 0) = false from rfl, show decide ((96 : Int) = 34) = false from rfl, show decide ((96 : Int) = 39) = false from rfl, show decide ((96 : Int) = 96) = true from rfl, show decide (gi word i = 92) = true from decide_eq_true g, show decide (gi word i = 39) = false from decide_eq_false (by rw [g]; decide), show decide (gi word i = 34) = false from decide_eq_false (by rw [g]; decide), show decide (gi word i = 96) = false from decide_eq_false (by rw [g]; decide)]
            exact ih (i + 1) 96 out _ (by omega) (by omega) (by omega) (.inr (.inr (.inr rfl))) (by omega) h
        have g92 := g
        rw [stp_else hi (fun h => g96 h.2) (fun h => g92 h.2) (fun h => absurd h.1 (by decide))] at h
        simp only [p6, p7, p2, a1, a2, ap0, ap1, Int.toNat_natCast, e1, rq_t, b_t, b_f, Bool.and_self, Bool.not_true, Bool.not_false, true_and, dapp_full, decide_true, decide_false, show decide ((0 : Int) = 0) = true from rfl, show decide ((0 : Int) = 34) = false from rfl, show decide ((0 : Int) = 39) = false from rfl, show decide ((0 : Int) = 96) = false from rfl, show decide ((34 : Int) = 0) = false from rfl, show decide ((34 : Int) = 34) = true from rfl, show decide ((34 : Int) = 39) = false from rfl, show decide ((34 : Int) = 96) = false from rfl, show decide ((39 : Int) = 0) = false from rfl, show decide ((39 : Int) = 34) = false from rfl, show decide ((39 : Int) = 39) = true from rfl, show decide ((39 : Int) = 96) = false from rfl, show decide ((96 : Int) = 0) = false from rfl, show decide ((96 : Int) = 34) = false from rfl, show decide ((96 : Int) = 39) = false from rfl, show decide ((96 : Int) = 96) = true from rfl, show decide (gi word i = 96) = false from decide_eq_false g96, show decide (gi word i = 92) = false from decide_eq_false g92]
        exact ih (i + 1) 96 _ _ (by omega) (by omega) (by omega) (.inr (.inr (.inr rfl))) (by rw [List.length_append]; simp; omega) h
    · rw [stp_stop (by omega)] at h
      unfold l33_4
      refine br_mk (fun hlt => ?_) (fun _ => h)
      rw [decide_eq_true_eq] at hlt
      omega
theorem v33 {word : List Dat} (hn : word.length ≤ bigF) {K : List Dat → Prop} (h : K (strip word)) : m33 word K := by
  unfold m33
  exact ⟨word.length + 1, rfl, s33 hn word.length 0 0 [] 0 rfl (by omega) (by omega) (.inl rfl) (by simp) h⟩
end Go.Proofs.YtbhehldefflhpaaDoor
