/- Runes of bytes, in plain Lean: both ways give the same, all at once and byte by byte. -/
import Derived.Test.YtojdmhfkgkfpaaaDoorDecEq
set_option linter.unusedVariables false
set_option linter.unusedSimpArgs false
namespace Go.Proofs.YtojdmhfkgkfpaaaDoor
theorem headN_le (n b0 b1 b2 b3 : Nat) : (headN n b0 b1 b2 b3).1 ≤ n ∧ (headN n b0 b1 b2 b3).1 ≤ 4 := by
  obtain ⟨p, hp⟩ : ∃ p, p = headN n b0 b1 b2 b3 := ⟨_, rfl⟩
  rw [← hp]
  unfold headN at hp
  by_cases h0 : n = 0
  · rw [if_pos h0] at hp; subst hp; simp
  rw [if_neg h0] at hp
  by_cases h1 : need b0 = 0
  · rw [if_pos h1] at hp; subst hp; simp
  rw [if_neg h1] at hp
  by_cases h2 : need b0 = 1
  · rw [if_pos h2] at hp; subst hp; simp; omega
  rw [if_neg h2] at hp
  by_cases h3 : n ≤ 1
  · rw [if_pos h3] at hp; subst hp; simp; omega
  rw [if_neg h3] at hp
  by_cases h4 : second b0 b1 = false ∨ contB b1 = false
  · rw [if_pos h4] at hp; subst hp; simp
  rw [if_neg h4] at hp
  by_cases h5 : need b0 = 2
  · rw [if_pos h5] at hp; subst hp; simp; omega
  rw [if_neg h5] at hp
  by_cases h6 : n ≤ 2
  · rw [if_pos h6] at hp; subst hp; simp; omega
  rw [if_neg h6] at hp
  by_cases h7 : contB b2 = false
  · rw [if_pos h7] at hp; subst hp; simp
  rw [if_neg h7] at hp
  by_cases h8 : need b0 = 3
  · rw [if_pos h8] at hp; subst hp; simp; omega
  rw [if_neg h8] at hp
  by_cases h9 : n ≤ 3
  · rw [if_pos h9] at hp; subst hp; simp; omega
  rw [if_neg h9] at hp
  by_cases h10 : contB b3 = false
  · rw [if_pos h10] at hp; subst hp; simp
  rw [if_neg h10] at hp
  subst hp; have := need_le b0; simp; omega
theorem decP_dec (l : List UInt8) (h : 0 < l.length) : dec l = (((decP l).1 : Int), (decP l).2) := by
  have e1 : decP l = decN l.length (b_ l 0) (b_ l 1) (b_ l 2) (b_ l 3) := by
    unfold decP decN
    rw [if_neg (by omega)]
  rw [e1, dec_nat _ _ _ _ _ h (b_le l 0)]
  unfold dec decH
  rw [head_nat]
  by_cases hc : (headN l.length (b_ l 0) (b_ l 1) (b_ l 2) (b_ l 3)).1 = (headN l.length (b_ l 0) (b_ l 1) (b_ l 2) (b_ l 3)).2 ∧ 0 < (headN l.length (b_ l 0) (b_ l 1) (b_ l 2) (b_ l 3)).2
  · rw [if_pos hc, if_pos hc]
    have hle := headN_le l.length (b_ l 0) (b_ l 1) (b_ l 2) (b_ l 3)
    rw [value_nat l _ hc.2 (by omega) (by omega)]
  · rw [if_neg hc, if_neg hc]
    rfl
/-- how many bytes the head holds -/
theorem head_le (l : List UInt8) : (head l).1 ≤ l.length := by
  rw [head_nat]
  exact (headN_le _ _ _ _ _).1
theorem dec_pos (l : List UInt8) : 1 ≤ (dec l).2 := by
  unfold dec
  split
  · simp only []; omega
  · simp
theorem dec_le (l : List UInt8) (h : 0 < l.length) : (dec l).2 ≤ l.length := by
  unfold dec
  have := head_le l
  split
  · simp only []; omega
  · simp only []; omega
/-- is the head known? -/
def whole (l : List UInt8) : Bool := decide ((head l).1 = (head l).2 ∧ 0 < (head l).2) || !(decide (0 < (head l).1) && decide ((head l).1 = l.length))
theorem full_class (n b0 b1 b2 b3 m lo hi : Nat) (hn : 0 < n) (h128 : 128 ≤ b0) (hm : m = 2 ∨ m = 3 ∨ m = 4) (hneed : need b0 = m) (hs : (second b0 b1 = false) = (b1 < lo ∨ hi < b1)) (hlo : 128 ≤ lo) (hhi : hi ≤ 191) :
    (if m ≤ n then true else if 1 < n ∧ (b1 < lo ∨ hi < b1) then true else if 2 < n ∧ (b2 < 128 ∨ 191 < b2) then true else false) =
    (decide ((headN n b0 b1 b2 b3).1 = (headN n b0 b1 b2 b3).2 ∧ 0 < (headN n b0 b1 b2 b3).2) || !(decide (0 < (headN n b0 b1 b2 b3).1) && decide ((headN n b0 b1 b2 b3).1 = n))) := by
  unfold headN
  rw [hneed]
  simp only [hs, contB_is]
  rcases hm with rfl | rfl | rfl
  · by_cases c0 : n ≤ 1
    · simp [c0, show n ≠ 0 by omega, show ¬ 2 ≤ n by omega, show ¬ 1 < n by omega, show n = 1 by omega]
    · by_cases c1 : b1 < lo ∨ hi < b1
      · simp [c0, c1, show n ≠ 0 by omega, show 2 ≤ n by omega]
      · by_cases c1' : b1 < 128 ∨ 191 < b1
        · simp [c0, c1, c1', show n ≠ 0 by omega, show 2 ≤ n by omega]
        · simp [c0, c1, c1', show n ≠ 0 by omega, show 2 ≤ n by omega]
  · by_cases c0 : n ≤ 1
    · simp [c0, show n ≠ 0 by omega, show ¬ 3 ≤ n by omega, show ¬ 1 < n by omega, show n = 1 by omega]
    · by_cases c1 : b1 < lo ∨ hi < b1
      · simp [c0, c1, show n ≠ 0 by omega, show 1 < n by omega]
      · have c1' : ¬ (b1 < 128 ∨ 191 < b1) := by omega
        by_cases c2 : n ≤ 2
        · simp [c0, c1, c1', c2, show n ≠ 0 by omega, show ¬ 3 ≤ n by omega, show n = 2 by omega]
        · by_cases c3 : b2 < 128 ∨ 191 < b2
          · simp [c0, c1, c1', c2, c3, show n ≠ 0 by omega, show 3 ≤ n by omega, show 2 < n by omega]
          · simp [c0, c1, c1', c2, c3, show n ≠ 0 by omega, show 3 ≤ n by omega, show 2 < n by omega]
  · by_cases c0 : n ≤ 1
    · simp [c0, show n ≠ 0 by omega, show ¬ 4 ≤ n by omega, show ¬ 1 < n by omega, show n = 1 by omega]
    · by_cases c1 : b1 < lo ∨ hi < b1
      · simp [c0, c1, show n ≠ 0 by omega, show 1 < n by omega]
      · have c1' : ¬ (b1 < 128 ∨ 191 < b1) := by omega
        by_cases c2 : n ≤ 2
        · simp [c0, c1, c1', c2, show n ≠ 0 by omega, show ¬ 4 ≤ n by omega, show n = 2 by omega]
        · by_cases c3 : b2 < 128 ∨ 191 < b2
          · simp [c0, c1, c1', c2, c3, show n ≠ 0 by omega, show 2 < n by omega]
          · by_cases c4 : n ≤ 3
            · simp [c0, c1, c1', c2, c3, c4, show n ≠ 0 by omega, show ¬ 4 ≤ n by omega, show n = 3 by omega]
            · by_cases c5 : b3 < 128 ∨ 191 < b3
              · simp [c0, c1, c1', c2, c3, c4, c5, show n ≠ 0 by omega, show 4 ≤ n by omega]
              · simp [c0, c1, c1', c2, c3, c4, c5, show n ≠ 0 by omega, show 4 ≤ n by omega]
theorem full_whole (l : List UInt8) (h : 0 < l.length) : fullP l = whole l := by
  have e1 : fullP l = fullN l.length (b_ l 0) (b_ l 1) (b_ l 2) (b_ l 3) := by
    unfold fullP fullN
    rw [if_neg (by omega)]
  rw [e1]
  unfold whole
  rw [head_nat]
  have h0 := b_le l 0
  generalize b_ l 0 = b0 at *
  generalize b_ l 1 = b1 at *
  generalize b_ l 2 = b2 at *
  generalize b_ l 3 = b3 at *
  generalize l.length = n at *
  clear e1
  unfold fullN
  rcases classes b0 h0 with h' | h' | h' | h' | h' | h' | h' | h' | h'
  · rw [h'.2.2]
    unfold headN
    rw [h'.2.1]
    simp [show n ≠ 0 by omega]
  · rw [h'.2.2]
    unfold headN
    rw [h'.2.1]
    simp [show n ≠ 0 by omega, show 1 ≤ n by omega]
  all_goals
    rw [h'.2.2]
    refine full_class n b0 b1 b2 b3 _ _ _ h (by omega) (by decide) h'.2.1 (second_is b0 b1 _ _ ?_ ?_) (by decide) (by decide)
    all_goals (repeat (first | rw [if_pos (by omega)] | rw [if_neg (by omega)]))
    all_goals rfl
/-- all runes of bytes -/
def runes (l : List UInt8) : List Int :=
  if h : l.length = 0 then [] else (dec l).1 :: runes (l.drop (dec l).2)
termination_by l.length
decreasing_by have := dec_pos l; simp; omega
theorem runes_nil : runes [] = [] := by rw [runes]; simp
theorem runes_step (l : List UInt8) (h : 0 < l.length) : runes l = (dec l).1 :: runes (l.drop (dec l).2) := by
  rw [runes, dif_neg (by omega)]
/-- the runes that are certain, and what is held -/
def putD (l : List UInt8) : List Int × List UInt8 :=
  if h : l.length = 0 then ([], []) else if whole l then ((dec l).1 :: (putD (l.drop (dec l).2)).1, (putD (l.drop (dec l).2)).2) else ([], l)
termination_by l.length
decreasing_by all_goals (have := dec_pos l; simp; omega)
theorem putD_nil : putD [] = ([], []) := by rw [putD]; simp
theorem putD_step (l : List UInt8) (h : 0 < l.length) (hw : whole l = true) : putD l = ((dec l).1 :: (putD (l.drop (dec l).2)).1, (putD (l.drop (dec l).2)).2) := by
  conv => lhs; rw [putD]
  rw [dif_neg (by omega), if_pos hw]
theorem putD_hold (l : List UInt8) (h : 0 < l.length) (hw : whole l = false) : putD l = ([], l) := by
  conv => lhs; rw [putD]
  rw [dif_neg (by omega), if_neg (by rw [hw]; decide)]
end Go.Proofs.YtojdmhfkgkfpaaaDoor
