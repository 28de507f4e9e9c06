/- Layer 21, Find: what is within quotes, both sides; both sides' Find in plain words. -/
import Derived.Test.YtbhehldefflhpaaDoorFn
import Derived.Test.YtbhehldefflhpaaDoorFq
set_option linter.unusedVariables false
set_option linter.unusedSimpArgs false
set_option maxRecDepth 100000
namespace Go.Proofs.YtbhehldefflhpaaDoor
open Go.AM Go.LTxt Go.LMem Go.RowKit
def unq (xs : List Dat) : Nat → Nat → List Dat → List Dat
  | 0, i, out => out
  | k + 1, i, out =>
    if i < xs.length then
      if gi xs i = 92 ∧ i + 1 < xs.length ∧ memI dqs (gi xs (i + 1)) = true then unq xs k (i + 2) (out ++ [.int (gi xs (i + 1))])
      else unq xs k (i + 1) (out ++ [.int (gi xs i)])
    else out
section
variable {xs : List Dat} {k i : Nat} {out : List Dat}
theorem unq_stop (h : xs.length ≤ i) : unq xs k i out = out := by
  cases k with
  | zero => rfl
  | succ k => unfold unq; rw [if_neg (by omega)]
theorem unq_esc (h : i < xs.length) (h1 : gi xs i = 92 ∧ i + 1 < xs.length ∧ memI dqs (gi xs (i + 1)) = true) : unq xs (k + 1) i out = unq xs k (i + 2) (out ++ [.int (gi xs (i + 1))]) := by
  conv => lhs; unfold unq
  rw [if_pos h, if_pos h1]
theorem unq_else (h : i < xs.length) (h1 : ¬ (gi xs i = 92 ∧ i + 1 < xs.length ∧ memI dqs (gi xs (i + 1)) = true)) : unq xs (k + 1) i out = unq xs k (i + 1) (out ++ [.int (gi xs i)]) := by
  conv => lhs; unfold unq
  rw [if_pos h, if_neg h1]
end
set_option maxHeartbeats 4000000 in
theorem u9 {word : List Dat} (hn : word.length ≤ bigF) {c : C26} {f q : Int} {E8 : C26 → C26 → Prop} : ∀ (k i : Nat) (out : List Dat) (iI : Int), iI = (i : Int) → word.length ≤ i + k → i ≤ word.length → out.length ≤ 2 * i → E8 c ⟨f, q, unq word k i out⟩ → l9_24 (k + 1) c ⟨f, q, out⟩ word iI E8 := by
  intro k
  have hb : bigF = 1000000000 := rfl
  induction k with
  | zero =>
    intro i out iI e h1 h2 ho h
    subst e
    rw [unq_stop (by omega)] at h
    unfold l9_24
    refine br_mk (fun hlt => ?_) (fun _ => h)
    rw [decide_eq_true_eq] at hlt
    omega
  | succ k ih =>
    intro i out iI e h1 h2 ho h
    subst e
    by_cases hi : i < word.length
    · have a1 : inR IntKind.i64 ((i : Int) + 1) = true := i64ok (by omega) (by omega)
      have a2 : inR IntKind.i64 ((i : Int) + 1 + 1) = true := i64ok (by omega) (by omega)
      have e1 : Int.toNat ((i : Int) + 1) = i + 1 := by omega
      have p6 : decide ((0 : Int) ≤ (i : Int)) = true := decide_eq_true (by omega)
      have p7 : decide ((i : Int) < (word.length : Int)) = true := decide_eq_true (by omega)
      have p2 : decide (i < word.length) = true := decide_eq_true hi
      have p8 : decide ((0 : Int) ≤ (i : Int) + 1) = true := decide_eq_true (by omega)
      have ap0 : appOK out 0 out.length 1 4 = true := app_ok (by omega)
      unfold l9_24
      by_cases g : gi word i = 92
      · have g1 : decide (gi word i = 92) = true := decide_eq_true g
        by_cases hN : i + 1 < word.length
        · have p3 : decide ((i : Int) + 1 < (word.length : Int)) = true := decide_eq_true (by omega)
          have p5 : decide (i + 1 < word.length) = true := decide_eq_true hN
          simp only [p3, p5, g1, p6, p7, p2, p8, a1, a2, ap0, Int.toNat_natCast, e1, rq_t, b_t, b_f, Bool.and_self, Bool.not_true, Bool.not_false, true_and, and_true, and_self, dapp_full, decide_true, decide_false]
          refine v29 (L := dqs) nats_dq (by decide) ?_
          cases hm : memI dqs (gi word (i + 1))
          · rw [unq_else hi (fun h => by rw [hm] at h; cases h.2.2)] at h
            simp only [p6, p7, p2, p8, a1, a2, ap0, Int.toNat_natCast, e1, rq_t, b_t, b_f, Bool.and_self, Bool.not_true, Bool.not_false, true_and, and_true, and_self, dapp_full, decide_true, decide_false]
            exact ih (i + 1) _ _ (by omega) (by omega) (by omega) (by rw [List.length_append]; simp; omega) h
          · rw [unq_esc hi ⟨g, hN, hm⟩] at h
            simp only [p6, p7, p2, p8, a1, a2, ap0, Int.toNat_natCast, e1, rq_t, b_t, b_f, Bool.and_self, Bool.not_true, Bool.not_false, true_and, and_true, and_self, dapp_full, decide_true, decide_false]
            exact ih (i + 2) _ _ (by omega) (by omega) (by omega) (by rw [List.length_append]; simp; omega) h
        · have p3 : decide ((i : Int) + 1 < (word.length : Int)) = false := decide_eq_false (by omega)
          rw [unq_else hi (fun h => hN h.2.1)] at h
          simp only [p3, g1, p6, p7, p2, p8, a1, a2, ap0, Int.toNat_natCast, e1, rq_t, b_t, b_f, Bool.and_self, Bool.not_true, Bool.not_false, true_and, and_true, and_self, dapp_full, decide_true, decide_false]
          exact ih (i + 1) _ _ (by omega) (by omega) (by omega) (by rw [List.length_append]; simp; omega) h
      · have g1 : decide (gi word i = 92) = false := decide_eq_false g
        rw [unq_else hi (fun h => g h.1)] at h
        simp only [g1, p6, p7, p2, p8, a1, a2, ap0, Int.toNat_natCast, e1, rq_t, b_t, b_f, Bool.and_self, Bool.not_true, Bool.not_false, true_and, and_true, and_self, dapp_full, decide_true, decide_false]
        exact ih (i + 1) _ _ (by omega) (by omega) (by omega) (by rw [List.length_append]; simp; omega) h
    · rw [unq_stop (by omega)] at h
      unfold l9_24
      refine br_mk (fun hlt => ?_) (fun _ => h)
      rw [decide_eq_true_eq] at hlt
      omega
set_option maxHeartbeats 4000000 in
theorem u10 {word : List Dat} (hn : word.length ≤ bigF) {c : C26} {p f q : Int} {E4 : C26 → List Dat → Int → Int → Int → Prop} : ∀ (k i : Nat) (out : List Dat) (iI : Int), iI = (i : Int) → word.length ≤ i + k → i ≤ word.length → out.length ≤ 2 * i → E4 c (unq word k i out) p q f → l10_20 (k + 1) c out p q f word iI E4 := by
  intro k
  have hb : bigF = 1000000000 := rfl
  induction k with
  | zero =>
    intro i out iI e h1 h2 ho h
    subst e
    rw [unq_stop (by omega)] at h
    unfold l10_20
    refine br_mk (fun hlt => ?_) (fun _ => h)
    rw [decide_eq_true_eq] at hlt
    omega
  | succ k ih =>
    intro i out iI e h1 h2 ho h
    subst e
    by_cases hi : i < word.length
    · have a1 : inR IntKind.i64 ((i : Int) + 1) = true := i64ok (by omega) (by omega)
      have a2 : inR IntKind.i64 ((i : Int) + 1 + 1) = true := i64ok (by omega) (by omega)
      have e1 : Int.toNat ((i : Int) + 1) = i + 1 := by omega
      have p6 : decide ((0 : Int) ≤ (i : Int)) = true := decide_eq_true (by omega)
      have p7 : decide ((i : Int) < (word.length : Int)) = true := decide_eq_true (by omega)
      have p2 : decide (i < word.length) = true := decide_eq_true hi
      have p8 : decide ((0 : Int) ≤ (i : Int) + 1) = true := decide_eq_true (by omega)
      have ap0 : appOK out 0 out.length 1 4 = true := app_ok (by omega)
      unfold l10_20
      by_cases g : gi word i = 92
      · have g1 : decide (gi word i = 92) = true := decide_eq_true g
        by_cases hN : i + 1 < word.length
        · have p3 : decide ((i : Int) + 1 < (word.length : Int)) = true := decide_eq_true (by omega)
          have p5 : decide (i + 1 < word.length) = true := decide_eq_true hN
          simp only [p3, p5, g1, p6, p7, p2, p8, a1, a2, ap0, Int.toNat_natCast, e1, rq_t, b_t, b_f, Bool.and_self, Bool.not_true, Bool.not_false, true_and, and_true, and_self, dapp_full, decide_true, decide_false]
          refine v32 (L := dqs) runes_dq (by decide) ?_
          cases hm : memI dqs (gi word (i + 1))
          · rw [unq_else hi (fun h => by rw [hm] at h; cases h.2.2)] at h
            simp only [p6, p7, p2, p8, a1, a2, ap0, Int.toNat_natCast, e1, rq_t, b_t, b_f, Bool.and_self, Bool.not_true, Bool.not_false, true_and, and_true, and_self, dapp_full, decide_true, decide_false]
            exact ih (i + 1) _ _ (by omega) (by omega) (by omega) (by rw [List.length_append]; simp; omega) h
          · rw [unq_esc hi ⟨g, hN, hm⟩] at h
            simp only [p6, p7, p2, p8, a1, a2, ap0, Int.toNat_natCast, e1, rq_t, b_t, b_f, Bool.and_self, Bool.not_true, Bool.not_false, true_and, and_true, and_self, dapp_full, decide_true, decide_false]
            exact ih (i + 2) _ _ (by omega) (by omega) (by omega) (by rw [List.length_append]; simp; omega) h
        · have p3 : decide ((i : Int) + 1 < (word.length : Int)) = false := decide_eq_false (by omega)
          rw [unq_else hi (fun h => hN h.2.1)] at h
          simp only [p3, g1, p6, p7, p2, p8, a1, a2, ap0, Int.toNat_natCast, e1, rq_t, b_t, b_f, Bool.and_self, Bool.not_true, Bool.not_false, true_and, and_true, and_self, dapp_full, decide_true, decide_false]
          exact ih (i + 1) _ _ (by omega) (by omega) (by omega) (by rw [List.length_append]; simp; omega) h
      · have g1 : decide (gi word i = 92) = false := decide_eq_false g
        rw [unq_else hi (fun h => g h.1)] at h
        simp only [g1, p6, p7, p2, p8, a1, a2, ap0, Int.toNat_natCast, e1, rq_t, b_t, b_f, Bool.and_self, Bool.not_true, Bool.not_false, true_and, and_true, and_self, dapp_full, decide_true, decide_false]
        exact ih (i + 1) _ _ (by omega) (by omega) (by omega) (by rw [List.length_append]; simp; omega) h
    · rw [unq_stop (by omega)] at h
      unfold l10_20
      refine br_mk (fun hlt => ?_) (fun _ => h)
      rw [decide_eq_true_eq] at hlt
      omega
theorem v31 {s : List Dat} (hs : s.length ≤ bigF) {K : List Dat → Prop} (h : K s) : m31 s K := by
  have hb : bigF = 1000000000 := rfl
  have ha : appOK [] (0 : Nat) (0 : Nat) s.length (4 : Nat) = true := by
    unfold appOK
    rw [Bool.and_eq_true, decide_eq_true_eq, decide_eq_true_eq]
    simp only [List.length_nil]
    omega
  have hd : dapp [] (0 : Nat) (0 : Nat) s = s := by simp [dapp]
  unfold m31
  refine br_mk (fun h0 => ?_) (fun _ => req_mk ha (by rw [hd]; exact h))
  rw [decide_eq_true_eq] at h0
  refine ⟨?_, req_mk ha (by rw [hd]; exact h)⟩
  rw [List.eq_nil_of_length_eq_zero h0] at h
  exact h
theorem l28_self (s : List Dat) (hs : s.length ≤ bigF) : ∀ (k i : Nat), i + k = s.length → ∀ (E0 : Prop) (R : Bool → Prop), E0 → l28_4 (k + 1) s s (i : Int) E0 R
  | 0, i, hi, E0, R, h => by
    unfold l28_4
    refine br_mk (fun h1 => ?_) (fun _ => h)
    rw [decide_eq_true_eq] at h1
    omega
  | k + 1, i, hi, E0, R, h => by
    unfold l28_4
    have hb : bigF = 1000000000 := rfl
    have h1 : (decide ((0 : Int) ≤ (i : Int)) && decide ((i : Int) < (s.length : Int))) = true := by
      rw [Bool.and_eq_true, decide_eq_true_eq, decide_eq_true_eq]; omega
    have h2 : decide (Int.toNat (i : Int) < s.length) = true := by rw [decide_eq_true_eq]; omega
    refine br_mk (fun _ => ?_) (fun h1 => ?_)
    · refine req_mk h1 (req_mk h2 (req_mk h1 (req_mk h2 ?_)))
      rw [decide_eq_true rfl, Bool.not_true, b_f, i64ok (n := (i : Int) + 1) (by omega) (by omega), rq_t, show ((i : Int) + 1) = ((i + 1 : Nat) : Int) by omega]
      exact l28_self s hs k (i + 1) (by omega) E0 R h
    · rw [decide_eq_false_iff_not] at h1
      omega
theorem v28 {s : List Dat} (hs : s.length ≤ bigF) {K : Bool → Prop} (h : K true) : m28 s s K := by
  unfold m28
  refine br_mk (fun h1 => ?_) (fun _ => ⟨s.length + 1, l28_self s hs s.length 0 (by omega) _ _ h⟩)
  simp at h1
/-! ### Find -/
theorem scan_congr {xs ys : List Dat} {n : Nat} (h : ∀ i, i < n → gi xs i = gi ys i) : ∀ (k i f : Nat) (q : Int), scan xs n k i f q = scan ys n k i f q
  | 0, i, f, q => rfl
  | k + 1, i, f, q => by
    unfold scan
    split
    · rename_i hi
      rw [h i hi]
      simp only [scan_congr h k]
    · rfl
def textOf (q : Int) (word : List Dat) : List Dat := if q = 0 then strip word else if q = 39 then word else unq word word.length 0 []
def clampN (line : List Dat) (point : Int) : Nat := (min (max point 0) (line.length : Int)).toNat
def siteOf (line : List Dat) (n : Nat) : Nat × Int := scan line n n 0 0 0
def wordOf (line : List Dat) (n f : Nat) : List Dat := List.take (n - f) (List.drop f line)
theorem v9 {line : List Dat} {point : Int} (hl : line.length ≤ bigF) {K : List Dat → Int → Int → Prop} (h : K (textOf (siteOf line (clampN line point)).2 (wordOf line (clampN line point) (siteOf line (clampN line point)).1)) ((siteOf line (clampN line point)).1 : Int) (siteOf line (clampN line point)).2) : m9 line point K := by
  have hb : bigF = 1000000000 := rfl
  generalize hN : clampN line point = n at h
  have hn : min (max point 0) (line.length : Int) = (n : Int) := by rw [← hN]; unfold clampN; omega
  have hnl : n ≤ line.length := by omega
  unfold m9
  simp only [Bool.false_eq_true, if_false, if_true, true_and]
  rw [hn]
  refine req_mk (by rw [Bool.and_eq_true, Bool.and_eq_true, decide_eq_true_eq, decide_eq_true_eq, decide_eq_true_eq]; omega) ?_
  rw [show Int.toNat (n : Int) - 0 = n by simp]
  have hlen : (List.take n line).length = n := by rw [List.length_take]; omega
  have hgi : ∀ i, i < n → gi (List.take n line) i = gi line i := fun i hi => by
    unfold gi
    rw [List.getD_eq_getElem?_getD, List.getD_eq_getElem?_getD, List.getElem?_take, if_pos hi]
  refine ⟨n + 1, scanP (head := List.take n line) (by omega) n 0 0 0 0 0 rfl rfl (by omega) (by omega) (.inl rfl) ?_⟩
  rw [hlen, scan_congr hgi]
  have hinv := scan_inv (xs := line) (n := n) n 0 0 0 (by omega) (.inl rfl)
  unfold siteOf at h
  generalize scan line n n 0 0 0 = s at h hinv ⊢
  obtain ⟨f, q⟩ := s
  obtain ⟨hf, hq⟩ := hinv
  simp only at h hf hq ⊢
  refine req_mk (by rw [Bool.and_eq_true, Bool.and_eq_true, decide_eq_true_eq, decide_eq_true_eq, decide_eq_true_eq]; omega) ?_
  have ew : List.take (n - Int.toNat (f : Int)) (List.drop (Int.toNat (f : Int)) (List.take n line)) = wordOf line n f := by
    unfold wordOf
    rw [Int.toNat_natCast, List.drop_take, List.take_take, Nat.min_self]
  have hwl : (wordOf line n f).length ≤ bigF := by unfold wordOf; rw [List.length_take, List.length_drop]; omega
  rw [ew]
  unfold textOf at h
  refine br_mk (fun g => ?_) fun g => ?_
  · rw [decide_eq_true_eq] at g
    rw [if_pos g] at h
    exact v30 hwl h
  · rw [decide_eq_false_iff_not] at g
    rw [if_neg g] at h
    refine br_mk (fun g2 => ?_) fun g2 => ?_
    · rw [decide_eq_true_eq] at g2
      rw [if_pos g2] at h
      exact v31 hwl h
    · rw [decide_eq_false_iff_not] at g2
      rw [if_neg g2] at h
      exact ⟨(wordOf line n f).length + 1, u9 hwl _ 0 [] 0 rfl (by omega) (by omega) (by simp) h⟩
theorem v10 {line : List Dat} {point : Int} (hl : line.length ≤ bigF) {K : List Dat → Int → Int → Prop} (h : K (textOf (siteOf line (clampN line point)).2 (wordOf line (clampN line point) (siteOf line (clampN line point)).1)) ((siteOf line (clampN line point)).1 : Int) (siteOf line (clampN line point)).2) : m10 line point K := by
  have hb : bigF = 1000000000 := rfl
  generalize hN : clampN line point = n at h
  have hn : min (max point 0) (line.length : Int) = (n : Int) := by rw [← hN]; unfold clampN; omega
  have hnl : n ≤ line.length := by omega
  unfold m10
  simp only [Bool.false_eq_true, if_false, if_true, true_and]
  rw [hn]
  refine ⟨n + 1, scanR hnl (by omega) n 0 0 0 0 0 rfl rfl (by omega) (by omega) (.inl rfl) ?_⟩
  have hinv := scan_inv (xs := line) (n := n) n 0 0 0 (by omega) (.inl rfl)
  unfold siteOf at h
  generalize scan line n n 0 0 0 = s at h hinv ⊢
  obtain ⟨f, q⟩ := s
  obtain ⟨hf, hq⟩ := hinv
  simp only at h hf hq ⊢
  have hm : min (f : Int) (n : Int) = (f : Int) := by omega
  rw [hm]
  refine req_mk (by rw [Bool.and_eq_true, Bool.and_eq_true, decide_eq_true_eq, decide_eq_true_eq, decide_eq_true_eq]; omega) ?_
  have ew : List.take (Int.toNat (n : Int) - Int.toNat (f : Int)) (List.drop (Int.toNat (f : Int)) line) = wordOf line n f := by
    unfold wordOf
    rw [Int.toNat_natCast, Int.toNat_natCast]
  have hwl : (wordOf line n f).length ≤ bigF := by unfold wordOf; rw [List.length_take, List.length_drop]; omega
  rw [ew]
  unfold textOf at h
  refine br_mk (fun g => ?_) fun g => ?_
  · rw [decide_eq_true_eq] at g
    rw [if_pos g] at h
    exact v33 hwl h
  · rw [decide_eq_false_iff_not] at g
    rw [if_neg g] at h
    refine br_mk (fun g2 => ?_) fun g2 => ?_
    · rw [decide_eq_true_eq] at g2
      rw [if_pos g2] at h
      refine req_mk (by rw [decide_eq_true_eq]; omega) ?_
      exact h
    · rw [decide_eq_false_iff_not] at g2
      rw [if_neg g2] at h
      refine ⟨(wordOf line n f).length + 1, u10 hwl _ 0 [] 0 rfl (by omega) (by omega) (by simp) ?_⟩
      show K _ (min (f : Int) (n : Int)) q
      rw [hm]
      exact h
theorem len_okF (l : List Dat) : decide ((0 : Nat) + List.length l ≤ List.length l) = true := by rw [decide_eq_true_eq]; omega
theorem stp_len {xs : List Dat} : ∀ (k i : Nat) (st : Int) (out : List Dat), (stp xs k i st out).length ≤ out.length + 2 * k
  | 0, i, st, out => by simp [stp]
  | k + 1, i, st, out => by
    unfold stp
    split
    · split
      · have := stp_len (xs := xs) k (i + 1) 0 out; omega
      split
      · split
        · have key : ∀ o : List Dat, o.length ≤ out.length + 2 → (stp xs k (i + 2) st o).length ≤ out.length + 2 * (k + 1) := fun o ho => by
            have := stp_len (xs := xs) k (i + 2) st o
            omega
          refine key _ ?_
          rw [List.length_append]
          split
          · rw [List.length_append]; simp
          · simp
        · have := stp_len (xs := xs) k (i + 1) st out; omega
      split
      · have := stp_len (xs := xs) k (i + 1) (gi xs i) out; omega
      · have := stp_len (xs := xs) k (i + 1) st (out ++ [.int (gi xs i)])
        rw [List.length_append] at this; simp at this; omega
    · omega
theorem unq_len {xs : List Dat} : ∀ (k i : Nat) (out : List Dat), (unq xs k i out).length ≤ out.length + k
  | 0, i, out => by simp [unq]
  | k + 1, i, out => by
    unfold unq
    split
    · split
      · have := unq_len (xs := xs) k (i + 2) (out ++ [.int (gi xs (i + 1))])
        rw [List.length_append] at this; simp at this; omega
      · have := unq_len (xs := xs) k (i + 1) (out ++ [.int (gi xs i)])
        rw [List.length_append] at this; simp at this; omega
    · omega
theorem text_len (q : Int) (w : List Dat) : (textOf q w).length ≤ 2 * w.length := by
  unfold textOf strip
  split
  · have := stp_len (xs := w) w.length 0 0 []; simp at this; omega
  split
  · omega
  · have := unq_len (xs := w) w.length 0 []; simp at this; omega
/-- CompleteFinds answers true -/
theorem v3 {line : List Dat} {point : Int} (hl : 2 * line.length ≤ bigF) {K : Bool → Prop} (h : K true) : m3 line point K := by
  unfold m3 m7
  show br true _ (K false)
  rw [b_t]
  refine v9 (by omega) (v10 (by omega) (req_mk (len_okF _) (req_mk (len_okF _) ?_)))
  rw [List.take_length]
  unfold m8
  rw [decide_eq_true rfl, b_t, decide_eq_true rfl, b_t]
  refine v28 ?_ h
  have h1 := text_len (siteOf line (clampN line point)).2 (wordOf line (clampN line point) (siteOf line (clampN line point)).1)
  have h2 : (wordOf line (clampN line point) (siteOf line (clampN line point)).1).length ≤ line.length := by unfold wordOf; rw [List.length_take, List.length_drop]; omega
  omega
end Go.Proofs.YtbhehldefflhpaaDoor
