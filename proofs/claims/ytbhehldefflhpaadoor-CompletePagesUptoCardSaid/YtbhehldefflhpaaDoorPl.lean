/- Layer 21, the pager: it shows each line once, in order, whatever keys come. -/
import Derived.Test.YtbhehldefflhpaaDoorPi
set_option linter.unusedVariables false
set_option linter.unusedSimpArgs false
set_option maxRecDepth 100000
namespace Go.Proofs.YtbhehldefflhpaaDoor
open Go.AM Go.LTxt Go.LMem Go.RowKit
theorem req_t {K : Prop} : req true K = K := rfl
theorem br_t {A B : Prop} : br true A B = A := rfl
theorem br_f {A B : Prop} : br false A B = B := rfl
theorem in64 {n : Int} (h0 : -9223372036854775808 ≤ n) (h1 : n ≤ 9223372036854775807) : inR .i64 n = true := by
  unfold inR
  rw [Bool.and_eq_true, decide_eq_true_eq, decide_eq_true_eq]
  exact ⟨h0, h1⟩
theorem strEq_self (x : ByteArray) : strEq x x = true := by simp [strEq]
def bigL : Nat := 1000000000
theorem l23_self (s : List Dat) (hs : s.length ≤ bigL) : ∀ (k i : Nat), i + k = s.length → ∀ (E0 : Prop) (R : Bool → Prop), E0 → l23_4 (k + 1) s s (s.length : Int) (i : Int) E0 R
  | 0, i, hi, E0, R, h => by
    unfold l23_4
    refine br_mk (fun h1 => ?_) (fun _ => h)
    rw [decide_eq_true_eq] at h1
    omega
  | k + 1, i, hi, E0, R, h => by
    unfold l23_4
    have hb : bigL = 1000000000 := rfl
    have h1 : (decide ((0 : Int) ≤ (i : Int)) && decide ((i : Int) < (s.length : Int))) = true := by
      rw [Bool.and_eq_true, decide_eq_true_eq, decide_eq_true_eq]; omega
    have h2 : decide (Int.toNat (i : Int) < s.length) = true := by rw [decide_eq_true_eq]; omega
    refine br_mk (fun _ => ?_) (fun h1 => ?_)
    · refine req_mk h1 (req_mk h2 (req_mk h1 (req_mk h2 ?_)))
      rw [strEq_self, show (!true) = false from rfl, br_f, in64 (n := (i : Int) + 1) (by omega) (by omega), req_t]
      have := l23_self s hs k (i + 1) (by omega) E0 R h
      rw [show ((i : Int) + 1) = ((i + 1 : Nat) : Int) by omega]
      exact this
    · rw [decide_eq_false_iff_not] at h1
      omega
theorem v23 {s : List Dat} (hs : s.length ≤ bigL) {K : Bool → Prop} (h : K true) : m23 s s K := by
  unfold m23
  refine br_mk (fun h1 => ?_) (fun _ => ⟨s.length + 1, l23_self s hs s.length 0 (by omega) _ _ h⟩)
  simp at h1
theorem v34 {s : List Dat} (hs : s.length ≤ bigL) {K : List Dat → Prop} (h : K s) : m34 s K := by
  have hb : bigL = 1000000000 := rfl
  have ha : appOK [] (0 : Nat) (0 : Nat) s.length (16 : Nat) = true := by
    unfold appOK
    rw [Bool.and_eq_true, decide_eq_true_eq, decide_eq_true_eq]
    simp only [List.length_nil]
    omega
  have hd : dapp [] (0 : Nat) (0 : Nat) s = s := by simp [dapp]
  unfold m34
  refine br_mk (fun h0 => ?_) (fun _ => req_mk ha (by rw [hd]; exact h))
  rw [decide_eq_true_eq] at h0
  refine ⟨?_, req_mk ha (by rw [hd]; exact h)⟩
  rw [List.eq_nil_of_length_eq_zero h0] at h
  exact h
/-- the lines that a pager shows now -/
def shown (L : List Dat) (a b : Int) : List Dat := List.take (b.toNat - a.toNat) (List.drop a.toNat L)
theorem shown_len {L : List Dat} {a b : Int} (hL : L.length ≤ bigL) : (shown L a b).length ≤ bigL := by
  unfold shown
  rw [List.length_take, List.length_drop]
  omega
theorem v18 {c : C70} {K : C70 → List Dat → Prop} (hm : c.made = true) (h0 : 0 ≤ c.from_) (h1 : c.from_ ≤ c.to_) (h2 : c.to_ ≤ (c.lines.length : Int)) (hL : c.lines.length ≤ bigL) (h : K c (shown c.lines c.from_ c.to_)) : m18 c K := by
  unfold m18
  refine br_mk (fun h => by rw [hm] at h; cases h) (fun _ => req_mk ?_ (v34 (shown_len hL) h))
  rw [Bool.and_eq_true, Bool.and_eq_true, decide_eq_true_eq, decide_eq_true_eq, decide_eq_true_eq]
  exact ⟨⟨h0, h1⟩, h2⟩
theorem len_ok (l : List Dat) : decide ((0 : Nat) + List.length l ≤ List.length l) = true := by rw [decide_eq_true_eq]; omega
theorem v12r {c : C36} {c2 : C70} {t : Int} {E0 : C36 → C70 → Int → Bool → Prop} (hl : c2.lines = c.lines) (hm : c2.made = true) (h0 : 0 ≤ c.at_) (h1 : c.at_ ≤ t) (h2 : t ≤ (c.lines.length : Int)) (hL : c.lines.length ≤ bigL)
    (hf : c2.from_ = c.at_) (ht : c2.to_ = t) (h : E0 c c2 t true) : p12_r5 c c2 t (shown c2.lines c2.from_ c2.to_) E0 := by
  have e : shown c2.lines c2.from_ c2.to_ = shown c.lines c.at_ t := by rw [hl, hf, ht]
  rw [e]
  have hS : (shown c.lines c.at_ t).length ≤ bigL := shown_len hL
  unfold p12_r5
  refine req_mk (by rw [Bool.and_eq_true, Bool.and_eq_true, decide_eq_true_eq, decide_eq_true_eq, decide_eq_true_eq]; exact ⟨⟨h0, h1⟩, h2⟩) (v23 (s := shown c.lines c.at_ t) hS ?_)
  rw [br_t]
  refine v18 (c := c2) hm (by omega) (by omega) (by rw [hl]; omega) (by rw [hl]; exact hL) ?_
  refine req_mk (len_ok _) ?_
  rw [List.take_length, e]
  exact v23 hS h
/-- show: the next n lines -/
def nextT (c : C36) (n : Int) : Int := if n < (c.lines.length : Int) - c.at_ then c.at_ + n else (c.lines.length : Int)
theorem v12 {c : C36} {c2 : C70} {n : Int} {K : C36 → C70 → Bool → Prop} (hl : c2.lines = c.lines) (hm : c2.made = true) (h0 : 0 ≤ c.at_) (h1 : c.at_ ≤ (c.lines.length : Int)) (hn : 0 ≤ n) (hL : c.lines.length ≤ bigL)
    (hf : c2.from_ = c.at_) (ht : c2.to_ = nextT c n) (hd : c2.done = decide ((c.lines.length : Int) ≤ nextT c n)) (h : K { c with at_ := nextT c n, done := decide ((c.lines.length : Int) ≤ nextT c n) } c2 true) : m12 c c2 n K := by
  have hb : bigL = 1000000000 := rfl
  have hT : c.at_ ≤ nextT c n ∧ nextT c n ≤ (c.lines.length : Int) := by unfold nextT; split <;> omega
  have fin : ∀ t, t = nextT c n → br true (br (C70.made c2) (K { c with at_ := t, done := decide ((c.lines.length : Int) ≤ t) } c2 (C70.done c2 == decide ((c.lines.length : Int) ≤ t))) (K { c with at_ := t, done := decide ((c.lines.length : Int) ≤ t) } c2 (false == decide ((c.lines.length : Int) ≤ t)))) (K { c with at_ := t, done := decide ((c.lines.length : Int) ≤ t) } c2 false) := by
    rintro t rfl
    rw [br_t, hm, br_t, hd, beq_self_eq_true]
    exact h
  unfold m12
  refine req_mk (in64 (by omega) (by omega)) (br_mk (fun hc => ?_) (fun hc => ?_))
  · rw [decide_eq_true_eq] at hc
    have hN : nextT c n = c.at_ + n := by unfold nextT; rw [if_pos hc]
    refine req_mk (in64 (by omega) (by omega)) ?_
    refine v18 (c := c2) hm (by omega) (by omega) (by rw [hl]; omega) (by rw [hl]; exact hL) ?_
    refine req_mk (len_ok _) ?_
    rw [List.take_length]
    exact v12r hl hm h0 (by omega) (by omega) hL hf (by rw [ht, hN]) (fin _ hN.symm)
  · rw [decide_eq_false_iff_not] at hc
    have hN : nextT c n = (c.lines.length : Int) := by unfold nextT; rw [if_neg hc]
    refine v18 (c := c2) hm (by omega) (by omega) (by rw [hl]; omega) (by rw [hl]; exact hL) ?_
    refine req_mk (len_ok _) ?_
    rw [List.take_length]
    exact v12r hl hm h0 (by omega) (by omega) hL hf (by rw [ht, hN]) (fin _ hN.symm)
/-! ### A key -/
def moreK (r : Int) : Prop := r = 32 ∨ r = 121 ∨ r = 89
def oneKey (r : Int) : Prop := r = 10 ∨ r = 13
def quitK (r : Int) : Prop := r = 113 ∨ r = 110 ∨ r = 81 ∨ r = 78 ∨ r = 127
def adv (c : C70) (n : Int) : C70 := { c with from_ := c.to_, to_ := c.to_ + n, done := decide (c.to_ + n = (c.lines.length : Int)) }
theorem v19_done {c : C70} {r : Int} {K : C70 → Bool → Prop} (hm : c.made = true) (hd : c.done = true) (h : K c false) : m19 c r K := by
  unfold m19
  exact br_mk (fun h => by rw [hm] at h; cases h) fun _ => br_mk (fun _ => h) fun h => by rw [hd] at h; cases h
theorem v19_more {c : C70} {r : Int} {K : C70 → Bool → Prop} (hm : c.made = true) (hd : c.done = false) (hr : moreK r) (h0 : 0 ≤ c.to_) (h1 : c.to_ ≤ (c.lines.length : Int)) (hL : c.lines.length ≤ bigL) (h2 : 2 ≤ c.rows) (h3 : c.rows ≤ 9223372036854775807)
    (h : K (adv c (min (c.rows - 1) ((c.lines.length : Int) - c.to_))) true) : m19 c r K := by
  have hb : bigL = 1000000000 := rfl
  unfold m19
  refine br_mk (fun h => by rw [hm] at h; cases h) fun _ => br_mk (fun h => by rw [hd] at h; cases h) fun _ => ?_
  have fin : req (inR IntKind.i64 (C70.rows c - (1 : Int))) (req (inR IntKind.i64 ((↑(List.length (C70.lines c)) : Int) - C70.to_ c)) (req (inR IntKind.i64 (C70.to_ c + min (C70.rows c - (1 : Int)) ((↑(List.length (C70.lines c)) : Int) - C70.to_ c))) (K (adv c (min (c.rows - 1) ((c.lines.length : Int) - c.to_))) true))) :=
    req_mk (in64 (by omega) (by omega)) (req_mk (in64 (by omega) (by omega)) (req_mk (in64 (by omega) (by omega)) h))
  rcases hr with rfl | rfl | rfl
  · exact fin
  · exact fin
  · exact fin
theorem v19_one {c : C70} {r : Int} {K : C70 → Bool → Prop} (hm : c.made = true) (hd : c.done = false) (hr : oneKey r) (h0 : 0 ≤ c.to_) (h1 : c.to_ ≤ (c.lines.length : Int)) (hL : c.lines.length ≤ bigL)
    (h : K (adv c 1) true) : m19 c r K := by
  have hb : bigL = 1000000000 := rfl
  unfold m19
  refine br_mk (fun h => by rw [hm] at h; cases h) fun _ => br_mk (fun h => by rw [hd] at h; cases h) fun _ => ?_
  have fin : req (inR IntKind.i64 (C70.to_ c + (1 : Int))) (K (adv c 1) true) := req_mk (in64 (by omega) (by omega)) h
  rcases hr with rfl | rfl
  · exact fin
  · exact fin
theorem v19_quit {c : C70} {r : Int} {K : C70 → Bool → Prop} (hm : c.made = true) (hd : c.done = false) (hr : quitK r) (h : K { c with from_ := c.to_, done := true } true) : m19 c r K := by
  unfold m19
  refine br_mk (fun h => by rw [hm] at h; cases h) fun _ => br_mk (fun h => by rw [hd] at h; cases h) fun _ => ?_
  rcases hr with rfl | rfl | rfl | rfl | rfl
  all_goals exact h
theorem v19_else {c : C70} {r : Int} {K : C70 → Bool → Prop} (hm : c.made = true) (hd : c.done = false) (hr1 : ¬ moreK r) (hr2 : ¬ oneKey r) (hr3 : ¬ quitK r) (h : K c false) : m19 c r K := by
  unfold moreK at hr1
  unfold oneKey at hr2
  unfold quitK at hr3
  simp only [not_or] at hr1 hr2 hr3
  obtain ⟨a1, a2, a3⟩ := hr1
  obtain ⟨b1, b2⟩ := hr2
  obtain ⟨c1, c2, c3, c4, c5⟩ := hr3
  unfold m19
  refine br_mk (fun h => by rw [hm] at h; cases h) fun _ => br_mk (fun h => by rw [hd] at h; cases h) fun _ => ?_
  simp only [decide_eq_false a1, decide_eq_false a2, decide_eq_false a3, decide_eq_false b1, decide_eq_false b2, decide_eq_false c1, decide_eq_false c2, decide_eq_false c3, decide_eq_false c4, decide_eq_false c5, br_f]
  exact h
/-- what holds between keys -/
structure J (c : C36) (c2 : C70) (rows : Int) : Prop where
  lines : c2.lines = c.lines
  made : c2.made = true
  rws : c2.rows = rows
  r2 : 2 ≤ rows
  rb : rows ≤ 9223372036854775807
  at0 : 0 ≤ c.at_
  atn : c.at_ ≤ (c.lines.length : Int)
  to : c2.to_ = c.at_
  dn : c2.done = c.done
  lt : c.done = false → c.at_ < (c.lines.length : Int)
  lb : c.lines.length ≤ bigL
theorem J.show {c : C36} {c2 : C70} {rows n : Int} (h : J c c2 rows) {m : Int} (hm : c2.to_ + m = nextT c n) (hn : 0 ≤ n) {K : C36 → C70 → Bool → Prop} (hk : ∀ c' c2', J c' c2' rows → K c' c2' true) : m12 c (adv c2 m) n K := by
  obtain ⟨j1, j2, j3, j4, j5, j6, j7, j8, j9, j10, j11⟩ := h
  have hT : c.at_ ≤ nextT c n ∧ nextT c n ≤ (c.lines.length : Int) := by unfold nextT; split <;> omega
  have hd : decide (c2.to_ + m = (c2.lines.length : Int)) = decide ((c.lines.length : Int) ≤ nextT c n) := by
    rw [hm, j1]
    exact decide_eq_decide.2 ⟨fun h => by omega, fun h => by omega⟩
  refine v12 (c := c) (c2 := adv c2 m) j1 j2 j6 j7 hn j11 j8 hm hd (hk _ _ ⟨j1, j2, j3, j4, j5, ?_, ?_, hm, hd, ?_, j11⟩)
  · show 0 ≤ nextT c n; omega
  · exact hT.2
  · intro h
    have h := of_decide_eq_false h
    show nextT c n < (c.lines.length : Int)
    omega
theorem v13 {c : C36} {c2 : C70} {r rows : Int} {K : C36 → C70 → Bool → Prop} (h : J c c2 rows) (hk : ∀ c' c2', J c' c2' rows → K c' c2' true) : m13 c c2 r rows K := by
  have hJ := h
  obtain ⟨j1, j2, j3, j4, j5, j6, j7, j8, j9, j10, j11⟩ := h
  have hb : bigL = 1000000000 := rfl
  unfold m13
  refine br_mk (fun hd => ?_) (fun hd => ?_)
  · have hd2 : c2.done = true := by rw [j9, hd]
    unfold p13_r2
    refine v19_done (c := c2) j2 hd2 ?_
    show br (C70.made c2) (K c c2 (C70.done c2)) (K c c2 false)
    rw [j2, br_t, hd2]
    exact hk _ _ hJ
  · have hd2 : c2.done = false := by rw [j9, hd]
    have hlt := j10 hd
    have hto : c2.to_ ≤ (c2.lines.length : Int) := by rw [j1, j8]; exact j7
    have hto0 : 0 ≤ c2.to_ := by rw [j8]; exact j6
    have hL2 : c2.lines.length ≤ bigL := by rw [j1]; exact j11
    have more : moreK r → p13_r7 c c2 r rows K := fun hr => by
      unfold p13_r7
      refine v19_more (c := c2) j2 hd2 hr hto0 hto hL2 (by omega) (by omega) ?_
      rw [br_t]
      refine req_mk (in64 (by omega) (by omega)) ?_
      refine hJ.show (n := rows - 1) ?_ (by omega) hk
      rw [j1, j8, j3]
      unfold nextT
      split <;> omega
    have one : oneKey r → p13_r10 c c2 r K := fun hr => by
      unfold p13_r10
      refine v19_one (c := c2) j2 hd2 hr hto0 hto hL2 ?_
      rw [br_t]
      refine hJ.show (n := 1) ?_ (by omega) hk
      rw [j8]
      unfold nextT
      split <;> omega
    have quit : quitK r → p13_r17 { c with done := true } c2 r K := fun hr => by
      unfold p13_r17
      refine v19_quit (c := c2) j2 hd2 hr ?_
      show br (C70.made c2) (K { c with done := true } { c2 with from_ := c2.to_, done := true } true) (K _ _ false)
      rw [j2, br_t]
      exact hk _ _ ⟨j1, rfl, j3, j4, j5, j6, j7, j8, rfl, (fun h => by cases h), j11⟩
    have other : ¬ moreK r → ¬ oneKey r → ¬ quitK r → p13_r18 c c2 r K := fun h1 h2 h3 => by
      unfold p13_r18
      refine v19_else (c := c2) j2 hd2 h1 h2 h3 ?_
      show br (C70.made c2) (K c c2 (!C70.done c2)) (K c c2 true)
      rw [j2, br_t, hd2]
      exact hk _ _ hJ
    by_cases h1 : moreK r
    · have := more h1
      rcases h1 with rfl | rfl | rfl
      all_goals exact this
    by_cases h2 : oneKey r
    · have := one h2
      rcases h2 with rfl | rfl
      all_goals exact this
    by_cases h3 : quitK r
    · have := quit h3
      rcases h3 with rfl | rfl | rfl | rfl | rfl
      all_goals exact this
    have := other h1 h2 h3
    unfold moreK at h1
    unfold oneKey at h2
    unfold quitK at h3
    simp only [not_or] at h1 h2 h3
    obtain ⟨a1, a2, a3⟩ := h1
    obtain ⟨b1, b2⟩ := h2
    obtain ⟨c1, d2, c3, c4, c5⟩ := h3
    simp only [decide_eq_false a1, decide_eq_false a2, decide_eq_false a3, decide_eq_false b1, decide_eq_false b2, decide_eq_false c1, decide_eq_false d2, decide_eq_false c3, decide_eq_false c4, decide_eq_false c5, br_f]
    exact this
theorem w4 {rows : Int} {xs : List Dat} (hx : xs.length ≤ bigL) : ∀ (k i : Nat) {c : C36} {c2 : C70} {E0 : C36 → C70 → Prop} {R : C36 → C70 → Bool → Prop}, i + k = xs.length → J c c2 rows → (∀ c c2, E0 c c2) → l4_10 (k + 1) c c2 rows xs (xs.length : Int) (i : Int) E0 R
  | 0, i, c, c2, E0, R, hi, hJ, h => by
    unfold l4_10
    refine br_mk (fun h1 => ?_) (fun _ => h _ _)
    rw [decide_eq_true_eq] at h1
    omega
  | k + 1, i, c, c2, E0, R, hi, hJ, h => by
    have hb : bigL = 1000000000 := rfl
    unfold l4_10
    refine br_mk (fun _ => ?_) (fun h1 => ?_)
    · refine req_mk (by rw [Bool.and_eq_true, decide_eq_true_eq, decide_eq_true_eq]; omega) (req_mk (by rw [decide_eq_true_eq]; omega) ?_)
      refine v13 (c := c) (c2 := c2) hJ fun c' c2' hJ' => ?_
      rw [show (!true) = false from rfl, br_f, in64 (n := (i : Int) + 1) (by omega) (by omega), req_t]
      rw [show ((i : Int) + 1) = ((i + 1 : Nat) : Int) by omega]
      exact w4 hx k (i + 1) (by omega) hJ' h
    · rw [decide_eq_false_iff_not] at h1
      omega
/-- CompletePages answers true -/
theorem v4 {lines keys : List Dat} {rows : Int} {K : Bool → Prop} (hl : lines.length ≤ bigL) (hx : keys.length ≤ bigL) (hr : rows ≤ 9223372036854775807) (hr0 : -9223372036854775808 ≤ rows) (h : K true) : m4 lines rows keys K := by
  have hb : bigL = 1000000000 := rfl
  unfold m4 m11
  refine br_mk (fun h1 => ?_) (fun h1 => ?_)
  · rw [h1]
    exact h
  · have h2 := of_decide_eq_false h1
    refine v34 hl (req_mk (in64 (by omega) (by omega)) ?_)
    show br (decide (rows < 2)) _ _
    rw [h1, br_f]
    show req _ _
    refine req_mk (len_ok _) ?_
    simp only [List.take_length]
    unfold p4_r6
    refine req_mk (in64 (by omega) (by omega)) ?_
    have hn : (min (rows - 1) (lines.length : Int)) = nextT ⟨lines, 0, false⟩ (rows - 1) := by
      unfold nextT
      show (min (rows - 1) (lines.length : Int)) = if rows - 1 < (lines.length : Int) - 0 then 0 + (rows - 1) else (lines.length : Int)
      split <;> omega
    have hT : 0 ≤ nextT ⟨lines, 0, false⟩ (rows - 1) ∧ nextT ⟨lines, 0, false⟩ (rows - 1) ≤ (lines.length : Int) := by rw [← hn]; omega
    have hd : decide (min (rows - 1) (lines.length : Int) = (lines.length : Int)) = decide ((lines.length : Int) ≤ nextT ⟨lines, 0, false⟩ (rows - 1)) := by
      rw [← hn]
      exact decide_eq_decide.2 ⟨fun h => by omega, fun h => by omega⟩
    refine v12 (c := ⟨lines, 0, false⟩) (c2 := ⟨true, lines, rows, 0, min (rows - 1) (lines.length : Int), decide (min (rows - 1) (lines.length : Int) = (lines.length : Int))⟩) rfl rfl (Int.le_refl _) (show (0 : Int) ≤ (lines.length : Int) by omega) (by omega) hl rfl hn hd ?_
    refine ⟨keys.length + 1, w4 hx keys.length 0 (by omega) ⟨rfl, rfl, rfl, by omega, hr, hT.1, hT.2, hn, hd, fun h => ?_, hl⟩ fun _ _ => h⟩
    have h : ¬ ((lines.length : Int) ≤ nextT ⟨lines, 0, false⟩ (rows - 1)) := of_decide_eq_false h
    show nextT ⟨lines, 0, false⟩ (rows - 1) < (lines.length : Int)
    omega
end Go.Proofs.YtbhehldefflhpaaDoor
