/- Layer 23: wide cells stand whole; rows are no wider than the screen. -/
import Derived.Test.YthegkipclogoeaaDoorZa
set_option linter.unusedVariables false
set_option linter.unusedSimpArgs false
set_option maxRecDepth 100000
namespace Go.Proofs.YthegkipclogoeaaDoor
open Go.AM Go.LTxt Go.LMem Go.RowKit
theorem req_t {K : Prop} : req true K = K := rfl
theorem br_t {A B : Prop} : br true A B = A := rfl
theorem br_f {A B : Prop} : br false A B = B := rfl
theorem in64 {n : Int} (h0 : -9223372036854775808 ≤ n) (h1 : n ≤ 9223372036854775807) : inR .i64 n = true := by
  unfold inR
  rw [Bool.and_eq_true, decide_eq_true_eq, decide_eq_true_eq]
  exact ⟨h0, h1⟩
theorem len_ok (l : List Dat) : decide ((0 : Nat) + List.length l ≤ List.length l) = true := by rw [decide_eq_true_eq]; omega
theorem app_ok {l : List Dat} {k b : Nat} (h : (l.length + k) * b ≤ 140737488351232) : appOK l (0 : Nat) (List.length l) k b = true := by
  unfold appOK
  rw [Bool.and_eq_true, decide_eq_true_eq, decide_eq_true_eq]
  exact ⟨by omega, h⟩
theorem dcut_full (l : List Dat) : dcut l (0 : Nat) (List.length l) = l := by simp [dcut]
theorem gd (pre : List Dat) (d : Dat) (rest : List Dat) : List.getD (pre ++ d :: rest) (Int.toNat ((pre.length : Nat) : Int)) default = d := by simp [List.getD_eq_getElem?_getD]
theorem gd0 (pre : List Dat) (d : Dat) (rest : List Dat) : List.getD (pre ++ d :: rest) ((0 : Nat) + Int.toNat ((pre.length : Nat) : Int)) default = d := by simp [List.getD_eq_getElem?_getD]
theorem ix1 (pre : List Dat) : (decide ((0 : Int) ≤ (pre.length : Int)) && true) = true := by
  rw [Bool.and_true, decide_eq_true_eq]
  omega
theorem ix2 (pre : List Dat) (d : Dat) (rest : List Dat) : decide (Int.toNat (pre.length : Int) < (pre ++ d :: rest).length) = true := by
  rw [decide_eq_true_eq]
  simp only [List.length_append, List.length_cons]
  omega
theorem ix3 (pre : List Dat) (d : Dat) (rest : List Dat) : decide ((0 : Nat) + Int.toNat (pre.length : Int) < (pre ++ d :: rest).length) = true := by
  rw [decide_eq_true_eq]
  simp only [List.length_append, List.length_cons]
  omega
theorem ixl (pre : List Dat) (d : Dat) (rest : List Dat) : decide ((pre.length : Int) < ((pre ++ d :: rest).length : Int)) = true := by
  rw [decide_eq_true_eq]
  simp only [List.length_append, List.length_cons]
  omega
theorem ixe (pre : List Dat) : decide ((pre.length : Int) < ((pre ++ ([] : List Dat)).length : Int)) = false := by
  rw [decide_eq_false_iff_not, List.append_nil]
  omega
theorem snoc1 (pre : List Dat) (d : Dat) : (pre.length : Int) + 1 = ((pre ++ [d]).length : Int) := by simp
theorem snoc2 (pre : List Dat) (d : Dat) (rest : List Dat) : pre ++ d :: rest = (pre ++ [d]) ++ rest := by simp
def bigL : Nat := 1000000000
theorem bigL_eq : bigL = 1000000000 := rfl
theorem pre_in {pre : List Dat} {d : Dat} {rest : List Dat} (hb : (pre ++ d :: rest).length ≤ bigL) : inR .i64 ((pre.length : Int) + 1) = true := by
  have := bigL_eq
  simp only [List.length_append, List.length_cons] at hb
  exact in64 (by omega) (by omega)
/-! ### Widths -/
def ctl (r : Int) : Bool := (decide (0 ≤ r) && decide (r < 32)) || (decide (127 ≤ r) && decide (r ≤ 159))
def valid (r : Int) : Bool := (decide (0 ≤ r) && decide (r < 55296)) || (decide (57343 < r) && decide (r ≤ 1114111))
def inT (r : Int) : List Dat → Bool
  | [] => false
  | d :: l => (decide (d.fst.toInt ≤ r) && decide (r ≤ d.snd.fst.toInt)) || inT r l
def tabN : List Dat := noneT.map kDat
def tabW : List Dat := wideT.map kDat
def width (r : Int) : Int := if valid r = false then 0 else if ctl r = true then 0 else if inT r tabN = true then 0 else if inT r tabW = true then 2 else 1
theorem v17 {r : Int} {K : Bool → Prop} (h : K (ctl r)) : m17 r K := by
  unfold m17
  unfold ctl at h
  refine br_mk (fun h1 => br_mk (fun h2 => ?_) (fun h2 => br_mk (fun h3 => ?_) (fun h3 => ?_))) (fun h1 => br_mk (fun h3 => ?_) (fun h3 => ?_))
  · rw [h1, h2] at h; exact h
  · rw [h1, h2, h3] at h; exact h
  · rw [h1, h2, h3] at h; exact h
  · rw [h1, h3] at h; exact h
  · rw [h1, h3] at h; exact h
theorem v33 {r : Int} {K : Bool → Prop} (h : K (valid r)) : m33 r K := by
  unfold m33 m52
  unfold valid at h
  refine br_mk (fun h1 => br_mk (fun h2 => ?_) (fun h2 => br_mk (fun h3 => br_mk (fun h4 => ?_) (fun h4 => ?_)) (fun h3 => ?_))) (fun h1 => br_mk (fun h3 => br_mk (fun h4 => ?_) (fun h4 => ?_)) (fun h3 => ?_))
  · rw [h1, h2] at h; exact h
  · rw [h1, h2, h3, h4] at h; exact h
  · rw [h1, h2, h3, h4] at h; exact h
  · rw [h1, h2, h3] at h; exact h
  · rw [h1, h3, h4] at h; exact h
  · rw [h1, h3, h4] at h; exact h
  · rw [h1, h3] at h; exact h
theorem vl34 {r : Int} {xs : List Dat} (hb : xs.length ≤ bigL) {E0 : Prop} {R : Bool → Prop} : ∀ (rest pre : List Dat), xs = pre ++ rest → (if inT r rest = true then R true else E0) → ∃ fu, l34_2 fu r xs (xs.length : Int) (pre.length : Int) E0 R
  | [], pre, hx, h => by
    subst hx
    refine ⟨1, ?_⟩
    unfold l34_2
    rw [ixe, br_f]
    exact h
  | d :: rest, pre, hx, h => by
    subst hx
    unfold inT at h
    by_cases h1 : d.fst.toInt ≤ r <;> by_cases h2 : r ≤ d.snd.fst.toInt
    · refine ⟨1, ?_⟩
      unfold l34_2
      rw [ixl, br_t, ix1, req_t, ix2, req_t, gd, decide_eq_true h1, br_t, decide_eq_true h2, br_t]
      rw [decide_eq_true h1, decide_eq_true h2] at h
      exact h
    all_goals
      have h' : if inT r rest = true then R true else E0 := by
        simpa [h1, h2] using h
      obtain ⟨fu, hfu⟩ := vl34 hb rest (pre ++ [d]) (snoc2 pre d rest) h'
      refine ⟨fu + 1, ?_⟩
      unfold l34_2
      rw [ixl, br_t, ix1, req_t, ix2, req_t, gd, pre_in hb, req_t, snoc1 pre d]
      first
        | (rw [decide_eq_true h1, br_t, decide_eq_false h2, br_f]; exact hfu)
        | (rw [decide_eq_false h1, br_f]; exact hfu)
theorem v34 {r : Int} {l : List Dat} {K : Bool → Prop} (hb : l.length ≤ bigL) (h : K (inT r l)) : m34 r l K := by
  unfold m34
  refine vl34 hb l [] rfl ?_
  cases hi : inT r l <;> rw [hi] at h <;> exact h
theorem v13 {r : Int} {K : Int → Prop} (h : K (width r)) : m13 r K := by
  unfold m13
  unfold width at h
  refine v33 ?_
  cases h1 : valid r
  · rw [if_pos h1] at h; exact h
  · rw [if_neg (by rw [h1]; decide)] at h
    rw [show (!true) = false from rfl, br_f]
    refine v17 ?_
    cases h2 : ctl r
    · rw [if_neg (by rw [h2]; decide)] at h
      rw [br_f]
      refine v34 (by decide) ?_
      change br (inT r tabN) _ _
      cases h3 : inT r tabN
      · rw [if_neg (by rw [h3]; decide)] at h
        rw [br_f]
        refine v34 (by decide) ?_
        change br (inT r tabW) _ _
        cases h4 : inT r tabW
        · rw [if_neg (by rw [h4]; decide)] at h; exact h
        · rw [if_pos h4] at h; exact h
      · rw [if_pos h3] at h; exact h
    · rw [if_pos h2] at h; exact h
theorem width_cases (r : Int) : width r = 0 ∨ width r = 1 ∨ width r = 2 := by
  unfold width
  split
  · exact .inl rfl
  · split
    · exact .inl rfl
    · split
      · exact .inl rfl
      · split
        · exact .inr (.inr rfl)
        · exact .inr (.inl rfl)
/-! ### Runes that are seen -/
def seen : Bool → List Dat → List Dat
  | _, [] => []
  | true, d :: l => seen (!decide (d.toInt = 2)) l
  | false, d :: l => if d.toInt = 1 then seen true l else if d.toInt = 2 then seen false l else .int d.toInt :: seen false l
theorem vl31 {xs : List Dat} (hb : xs.length ≤ bigL) {E0 : List Dat → Prop} : ∀ (rest pre acc : List Dat) (b : Bool), xs = pre ++ rest → acc.length ≤ pre.length → E0 (acc ++ seen b rest) → ∃ fu, l31_4 fu acc b xs (xs.length : Int) (pre.length : Int) E0
  | [], pre, acc, b, hx, ha, h => by
    subst hx
    refine ⟨1, ?_⟩
    unfold l31_4
    rw [ixe, br_f]
    cases b <;> simpa [seen] using h
  | d :: rest, pre, acc, b, hx, ha, h => by
    subst hx
    have hbig := bigL_eq
    have hl : acc.length ≤ bigL := by simp only [List.length_append, List.length_cons] at hb; omega
    cases b
    · by_cases h1 : d.toInt = 1
      · simp only [seen, h1, if_true] at h
        obtain ⟨fu, hfu⟩ := vl31 hb rest (pre ++ [d]) acc true (snoc2 pre d rest) (by simp; omega) h
        refine ⟨fu + 1, ?_⟩
        unfold l31_4
        rw [ixl, br_t, ix1, req_t, ix2, req_t, gd, br_f, decide_eq_true h1, br_t, pre_in hb, req_t, snoc1 pre d]
        exact ⟨rfl, hfu⟩
      · by_cases h2 : d.toInt = 2
        · simp only [seen, h1, h2, if_true, if_false] at h
          rw [if_neg (by decide)] at h
          obtain ⟨fu, hfu⟩ := vl31 hb rest (pre ++ [d]) acc false (snoc2 pre d rest) (by simp; omega) h
          refine ⟨fu + 1, ?_⟩
          unfold l31_4
          rw [ixl, br_t, ix1, req_t, ix2, req_t, gd, br_f, decide_eq_false h1, br_f, decide_eq_true h2, show (!true) = false from rfl, br_f, pre_in hb, req_t, snoc1 pre d]
          exact ⟨rfl, hfu⟩
        · simp only [seen, h1, h2, if_false] at h
          obtain ⟨fu, hfu⟩ := vl31 hb rest (pre ++ [d]) (acc ++ [.int d.toInt]) false (snoc2 pre d rest) (by simp; omega) (by simpa using h)
          refine ⟨fu + 1, ?_⟩
          unfold l31_4
          rw [ixl, br_t, ix1, req_t, ix2, req_t, gd, br_f, decide_eq_false h1, br_f, decide_eq_false h2, show (!false) = true from rfl, br_t, app_ok (by omega), req_t, pre_in hb, req_t, snoc1 pre d, dapp_full]
          exact ⟨rfl, hfu⟩
    · simp only [seen] at h
      obtain ⟨fu, hfu⟩ := vl31 hb rest (pre ++ [d]) acc (!decide (d.toInt = 2)) (snoc2 pre d rest) (by simp; omega) h
      refine ⟨fu + 1, ?_⟩
      unfold l31_4
      rw [ixl, br_t, ix1, req_t, ix2, req_t, gd, br_t, pre_in hb, req_t, snoc1 pre d]
      exact ⟨rfl, hfu⟩
theorem v31 {l : List Dat} {K : List Dat → Prop} (hb : l.length ≤ bigL) (h : K (seen false l)) : m31 l K := by
  unfold m31
  obtain ⟨fu, hfu⟩ := vl31 hb l [] [] false rfl (Nat.le_refl _) (E0 := fun y1 => K y1) (by simpa using h)
  exact ⟨fu, rfl, hfu⟩
theorem seen_len : ∀ (l : List Dat) (b : Bool), (seen b l).length ≤ l.length
  | [], b => by cases b <;> simp [seen]
  | d :: l, true => by simp only [seen, List.length_cons]; have := seen_len l (!decide (d.toInt = 2)); omega
  | d :: l, false => by
    simp only [seen]
    split
    · have := seen_len l true; simp only [List.length_cons]; omega
    · split
      · have := seen_len l false; simp only [List.length_cons]; omega
      · have := seen_len l false; simp only [List.length_cons]; omega
theorem seen_fix : ∀ (l : List Dat) (b : Bool), seen false (seen b l) = seen b l
  | [], b => by cases b <;> simp [seen]
  | d :: l, true => by simp only [seen]; exact seen_fix l _
  | d :: l, false => by
    simp only [seen]
    split
    · exact seen_fix l true
    · split
      · exact seen_fix l false
      · rename_i h1 h2
        simp only [seen]
        rw [if_neg (by exact h1), if_neg (by exact h2), seen_fix l false]
        rfl
/-! ### Copies, and a rune's place -/
theorem v18 {s : List Dat} (hs : s.length ≤ bigL) {K : List Dat → Prop} (h : K s) : m18 s K := by
  have hb := bigL_eq
  have ha : appOK [] (0 : Nat) (0 : Nat) s.length (4 : Nat) = true := by
    unfold appOK
    rw [Bool.and_eq_true, decide_eq_true_eq, decide_eq_true_eq]
    simp only [List.length_nil]
    omega
  have hd : dapp [] (0 : Nat) (0 : Nat) s = s := by simp [dapp]
  unfold m18
  refine br_mk (fun h0 => ?_) (fun _ => req_mk ha (by rw [hd]; exact h))
  rw [decide_eq_true_eq] at h0
  refine ⟨?_, req_mk ha (by rw [hd]; exact h)⟩
  rw [List.eq_nil_of_length_eq_zero h0] at h
  exact h
theorem v20 {s : List Dat} (hs : s.length ≤ bigL) {K : List Dat → Prop} (h : K s) : m20 s K := by
  have hb := bigL_eq
  have ha : appOK [] (0 : Nat) (0 : Nat) s.length (32 : Nat) = true := by
    unfold appOK
    rw [Bool.and_eq_true, decide_eq_true_eq, decide_eq_true_eq]
    simp only [List.length_nil]
    omega
  have hd : dapp [] (0 : Nat) (0 : Nat) s = s := by simp [dapp]
  unfold m20
  refine br_mk (fun h0 => ?_) (fun _ => req_mk ha (by rw [hd]; exact h))
  rw [decide_eq_true_eq] at h0
  refine ⟨?_, req_mk ha (by rw [hd]; exact h)⟩
  rw [List.eq_nil_of_length_eq_zero h0] at h
  exact h
/-- where a rune stands first: how many others are ahead -/
def firstOf (v : Int) : List Dat → Option Nat
  | [] => none
  | d :: l => if v = d.toInt then some 0 else (firstOf v l).map (· + 1)
def ofOpt (k : Nat) : Option Nat → Int
  | none => -1
  | some i => ((k + i : Nat) : Int)
theorem vl53 {xs : List Dat} (hb : xs.length ≤ bigL) {v : Int} {K : Int → Prop} : ∀ (rest pre : List Dat), xs = pre ++ rest → K (ofOpt pre.length (firstOf v rest)) → ∃ fu, l53_2 fu xs v (xs.length : Int) (pre.length : Int) (K (-1 : Int)) (fun y => K y)
  | [], pre, hx, h => by
    subst hx
    refine ⟨1, ?_⟩
    unfold l53_2
    rw [ixe, br_f]
    exact h
  | d :: rest, pre, hx, h => by
    subst hx
    by_cases h1 : v = d.toInt
    · refine ⟨1, ?_⟩
      unfold l53_2
      rw [ixl, br_t, ix1, req_t, ix2, req_t, gd, decide_eq_true h1, br_t]
      simp only [firstOf, h1, if_true, ofOpt, Nat.add_zero] at h
      exact h
    · have h' : K (ofOpt (pre ++ [d]).length (firstOf v rest)) := by
        simp only [firstOf, h1, if_false] at h
        cases hf : firstOf v rest with
        | none => rw [hf] at h; exact h
        | some i => rw [hf] at h; simpa [ofOpt, Nat.add_assoc, Nat.add_comm 1 i] using h
      obtain ⟨fu, hfu⟩ := vl53 hb rest (pre ++ [d]) (snoc2 pre d rest) h'
      refine ⟨fu + 1, ?_⟩
      unfold l53_2
      rw [ixl, br_t, ix1, req_t, ix2, req_t, gd, decide_eq_false h1, br_f, pre_in hb, req_t, snoc1 pre d]
      exact hfu
theorem v53 {l : List Dat} (hb : l.length ≤ bigL) {v : Int} {K : Int → Prop} (h : K (ofOpt 0 (firstOf v l))) : m53 l v K := by
  unfold m53
  exact vl53 hb l [] rfl h
theorem firstOf_lt {v : Int} : ∀ {l : List Dat} {i : Nat}, firstOf v l = some i → i < l.length
  | [], i, h => by cases h
  | d :: l, i, h => by
    simp only [firstOf] at h
    split at h
    · cases h; simp
    · cases hf : firstOf v l with
      | none => rw [hf] at h; cases h
      | some j =>
        rw [hf] at h
        cases h
        have := firstOf_lt hf
        simp
        omega
end Go.Proofs.YthegkipclogoeaaDoor

set_option linter.unusedVariables false
set_option linter.unusedSimpArgs false
set_option maxRecDepth 100000
namespace Go.Proofs.YthegkipclogoeaaDoor
open Go.AM Go.LTxt Go.LMem Go.RowKit
theorem enc_le (r : Int) : (Utf8.encode r).size ≤ 4 := by
  unfold Utf8.encode
  simp only []
  split
  · split
    · exact Nat.le_of_ble_eq_true rfl
    · split
      · exact Nat.le_of_ble_eq_true rfl
      · split <;> exact Nat.le_of_ble_eq_true rfl
  · decide
def tx (c : Dat) : ByteArray := c.fst.toStr
def wd (c : Dat) : Int := c.snd.fst.toInt
def mk (t : ByteArray) (w a : Int) : Dat := .pair (.str t) (.pair (.int w) (.pair (.int a) (.int 0)))
theorem wd_mk {t : ByteArray} {w a : Int} : wd (mk t w a) = w := rfl
def spT : ByteArray := { data := #[(32 : UInt8)] }
def blank : Dat := mk spT 1 0
/-- a rune of the width 0 joins the place ahead: i places are looked at -/
def joinAt (l : List Dat) (r : Int) : Nat → List Dat
  | 0 => l ++ [mk (spT ++ Utf8.encode r) 1 0]
  | i + 1 => if strEq (tx (l.getD i default)) { data := #[] } = true then joinAt l r i
    else if (tx (l.getD i default)).size ≤ 32 then l.set i (mk (tx (l.getD i default) ++ Utf8.encode r) (wd (l.getD i default)) (l.getD i default).snd.snd.fst.toInt) else l
def joinS (l : List Dat) (r : Int) : List Dat := joinAt l r l.length
theorem vl40 {l : List Dat} {r : Int} (hb : l.length ≤ 1000000) {K : List Dat → Prop} : ∀ (i : Nat), i ≤ l.length → K (joinAt l r i) → ∃ fu, l40_2 fu l r ((i : Int) - 1) (fun y1 y2 =>
     req (decide ((1 : Nat) + ByteArray.size (Utf8.encode y2) ≤ (9223372036854775807 : Nat))) (
     req (appOK y1 (0 : Nat) (List.length y1) (1 : Nat) (32 : Nat)) (K (dapp y1 (0 : Nat) (List.length y1) [Dat.pair (Dat.str ({ data := #[(32 : UInt8)] } ++ Utf8.encode y2)) (Dat.pair (Dat.int (1 : Int)) (Dat.pair (Dat.int (0 : Int)) (Dat.int (0 : Int))))])))) (fun y3 => K y3)
  | 0, hi, h => by
    refine ⟨1, ?_⟩
    unfold l40_2
    have he := enc_le r
    refine br_mk (fun h1 => ?_) (fun _ => req_mk (by rw [decide_eq_true_eq]; omega) (req_mk (app_ok (by omega)) ?_))
    · rw [decide_eq_true_eq] at h1; omega
    · rw [dapp_full]
      exact h
  | i + 1, hi, h => by
    have hx1 : (decide ((0 : Int) ≤ (i : Int)) && decide ((i : Int) < (l.length : Int))) = true := by
      rw [Bool.and_eq_true, decide_eq_true_eq, decide_eq_true_eq]; omega
    have hx2 : decide ((0 : Nat) + Int.toNat (i : Int) < l.length) = true := by rw [decide_eq_true_eq]; omega
    have e1 : (((i + 1 : Nat) : Int) - 1) = (i : Int) := by omega
    have e2 : (0 : Nat) + Int.toNat (i : Int) = i := by omega
    have he := enc_le r
    have ht : ∀ {x : Dat}, Dat.toStr (Dat.fst x) = tx x := rfl
    simp only [joinAt] at h
    by_cases h1 : strEq (tx (l.getD i default)) { data := #[] } = true
    · rw [if_pos h1] at h
      obtain ⟨fu, hfu⟩ := vl40 hb i (by omega) h
      refine ⟨fu + 1, ?_⟩
      unfold l40_2
      rw [e1]
      refine br_mk (fun _ => req_mk hx1 (req_mk hx2 ?_)) (fun hc => ?_)
      · rw [e2, ht, h1, br_t]
        exact req_mk (in64 (by omega) (by omega)) ⟨rfl, hfu⟩
      · rw [decide_eq_false_iff_not] at hc; omega
    · rw [if_neg h1] at h
      refine ⟨1, ?_⟩
      unfold l40_2
      rw [e1]
      refine br_mk (fun _ => req_mk hx1 (req_mk hx2 ?_)) (fun hc => ?_)
      · rw [e2, ht, eq_false_of_ne_true h1, br_f]
        refine req_mk hx1 (req_mk (by rw [← e2]; exact hx2) (br_mk (fun hc => ?_) (fun hc => ?_)))
        · rw [decide_eq_true_eq] at hc
          rw [if_pos (by omega)] at h
          refine req_mk hx1 (req_mk (by rw [← e2]; exact hx2) (req_mk (by rw [decide_eq_true_eq]; omega) (req_mk hx1 (req_mk (by rw [← e2]; exact hx2) (req_mk (by rw [decide_eq_true_eq, List.length_set]; omega) ?_)))))
          have hl : (l.set i (mk (tx (l.getD i default) ++ Utf8.encode r) (wd (l.getD i default)) (l.getD i default).snd.snd.fst.toInt)).length = l.length := List.length_set
          have hd := dcut_full (l.set i (mk (tx (l.getD i default) ++ Utf8.encode r) (wd (l.getD i default)) (l.getD i default).snd.snd.fst.toInt))
          rw [hl] at hd
          refine Eq.mp (congrArg K (Eq.trans hd.symm ?_)) h
          rfl
        · rw [decide_eq_false_iff_not] at hc
          rw [if_neg (by omega)] at h
          refine req_mk (len_ok _) ?_
          rw [dcut_full]
          exact h
      · rw [decide_eq_false_iff_not] at hc; omega
theorem v40 {l : List Dat} {r : Int} (hb : l.length ≤ 1000000) {K : List Dat → Prop} (h : K (joinS l r)) : m40 l r K := by
  unfold m40
  refine req_mk (in64 (by omega) (by omega)) ?_
  obtain ⟨fu, hfu⟩ := vl40 (r := r) hb (K := K) l.length (Nat.le_refl _) h
  exact ⟨fu, rfl, hfu⟩
/-- .. widths stay, or one of 1 comes behind -/
theorem joinAt_wd (l : List Dat) (r : Int) : ∀ i, i ≤ l.length → (joinAt l r i).map wd = l.map wd ∨ ∃ c, joinAt l r i = l ++ [c] ∧ wd c = 1
  | 0, _ => .inr ⟨_, rfl, rfl⟩
  | i + 1, hi => by
    simp only [joinAt]
    split
    · exact joinAt_wd l r i (by omega)
    · split
      · refine .inl ?_
        rw [List.map_set, wd_mk]
        have : wd (l.getD i default) = (l.map wd)[i]'(by simp; omega) := by
          rw [List.getElem_map, List.getD_eq_getElem?_getD, List.getElem?_eq_getElem (by omega)]
          rfl
        rw [this]
        exact List.set_getElem_self _
      · exact .inl rfl
/-! ### Cells -/
def pad (l : List Dat) : List Dat := l ++ List.replicate ((8 - l.length % 8) % 8) blank
theorem pad_step {l : List Dat} (h : l.length % 8 ≠ 0) : pad (l ++ [blank]) = pad l := by
  unfold pad
  rw [List.append_assoc]
  congr 1
  have e : (8 - l.length % 8) % 8 = (8 - (l ++ [blank]).length % 8) % 8 + 1 := by
    simp only [List.length_append, List.length_singleton]
    omega
  rw [e, List.replicate_succ]
  rfl
theorem pad_done {l : List Dat} (h : l.length % 8 = 0) : pad l = l := by
  unfold pad
  rw [h]
  simp
theorem pad_len (l : List Dat) : (pad l).length ≤ l.length + 7 := by
  unfold pad
  rw [List.length_append, List.length_replicate]
  omega
theorem vl16p {xs : List Dat} {n n2 : Int} {E3 : List Dat → Int → List Dat → Int → Int → Prop} : ∀ (k : Nat) (l : List Dat), (8 - l.length % 8) % 8 = k → l.length ≤ 1000000 → E3 (pad l) 0 xs n n2 → ∃ fu, l16_10 fu l (0 : Int) xs n n2 E3
  | 0, l, hk, hb, h => by
    refine ⟨1, ?_⟩
    unfold l16_10
    have h8 : l.length % 8 = 0 := by omega
    have ht : Int.tmod (Int.tmod (0 : Int) (8 : Int) + (l.length : Int)) (8 : Int) = 0 := by
      rw [show Int.tmod (0 : Int) (8 : Int) = 0 from rfl, Int.zero_add, Int.tmod_eq_emod_of_nonneg (by omega)]
      omega
    refine req_mk (in64 (by rw [show Int.tmod (0 : Int) (8 : Int) = 0 from rfl]; omega) (by rw [show Int.tmod (0 : Int) (8 : Int) = 0 from rfl]; omega)) ?_
    rw [ht, decide_eq_true rfl, show (!true) = false from rfl, br_f]
    rw [pad_done h8] at h
    exact h
  | k + 1, l, hk, hb, h => by
    have h8 : l.length % 8 ≠ 0 := by omega
    obtain ⟨fu, hfu⟩ := vl16p k (l ++ [blank]) (by simp only [List.length_append, List.length_singleton]; omega) (by simp only [List.length_append, List.length_singleton]; omega) (by rw [pad_step h8]; exact h)
    refine ⟨fu + 1, ?_⟩
    unfold l16_10
    have ht : ¬ Int.tmod (Int.tmod (0 : Int) (8 : Int) + (l.length : Int)) (8 : Int) = 0 := by
      rw [show Int.tmod (0 : Int) (8 : Int) = 0 from rfl, Int.zero_add, Int.tmod_eq_emod_of_nonneg (by omega)]
      omega
    refine req_mk (in64 (by rw [show Int.tmod (0 : Int) (8 : Int) = 0 from rfl]; omega) (by rw [show Int.tmod (0 : Int) (8 : Int) = 0 from rfl]; omega)) ?_
    rw [decide_eq_false ht, show (!false) = true from rfl, br_t, app_ok (by omega), req_t, dapp_full]
    exact ⟨rfl, hfu⟩
def badT : ByteArray := { data := #[(239 : UInt8), (191 : UInt8), (189 : UInt8)] }
def hatT : ByteArray := { data := #[(94 : UInt8)] }
/-- the cells behind one more rune -/
def cellS (l : List Dat) (r : Int) : List Dat :=
  if r = 9 then pad (l ++ [blank])
  else if (0 ≤ r ∧ r < 32) ∨ r = 127 then l ++ [mk hatT 1 0, mk (Utf8.encode (bitsV .xor .i32 r 64)) 1 0]
  else if valid r = false then l ++ [mk badT 1 0]
  else if ctl r = true then l ++ [mk badT 1 0]
  else if width r = 0 then joinS l r
  else if width r = 2 then l ++ [mk (Utf8.encode r) 2 0, mk { data := #[] } 0 0]
  else l ++ [mk (Utf8.encode r) 1 0]
def cellsF (acc : List Dat) (l : List Dat) : List Dat := l.foldl (fun acc d => cellS acc d.toInt) acc
def cells (l : List Dat) : List Dat := cellsF [] l
theorem cells_snoc (l : List Dat) (d : Dat) : cells (l ++ [d]) = cellS (cells l) d.toInt := by simp [cells, cellsF]
theorem cellS_cases (l : List Dat) (r : Int) : (cellS l r).map wd = l.map wd ∨ ∃ m, cellS l r = l ++ m ∧ m ≠ [] ∧ m.length ≤ 8 ∧ ((∀ c ∈ m, wd c = 1) ∨ m.map wd = [2, 0] ∧ width r = 2) := by
  unfold cellS
  split
  · refine .inr ⟨blank :: List.replicate ((8 - (l ++ [blank]).length % 8) % 8) blank, ?_, by simp, by simp only [List.length_cons, List.length_replicate]; omega, .inl ?_⟩
    · unfold pad; simp
    · intro c hc
      rcases List.mem_cons.1 hc with rfl | hc
      · rfl
      · rw [List.eq_of_mem_replicate hc]; rfl
  · split
    · exact .inr ⟨_, rfl, by simp, by simp, .inl (by intro c hc; simp at hc; rcases hc with rfl | rfl <;> rfl)⟩
    · split
      · exact .inr ⟨_, rfl, by simp, by simp, .inl (by intro c hc; simp at hc; subst hc; rfl)⟩
      · split
        · exact .inr ⟨_, rfl, by simp, by simp, .inl (by intro c hc; simp at hc; subst hc; rfl)⟩
        · split
          · rcases joinAt_wd l r l.length (Nat.le_refl _) with h | ⟨c, h, h2⟩
            · exact .inl h
            · exact .inr ⟨[c], h, by simp, by simp, .inl (by intro c' hc; simp at hc; subst hc; exact h2)⟩
          · split
            · rename_i hw
              exact .inr ⟨_, rfl, by simp, by simp, .inr ⟨rfl, hw⟩⟩
            · exact .inr ⟨_, rfl, by simp, by simp, .inl (by intro c hc; simp at hc; subst hc; rfl)⟩
theorem cellS_len (l : List Dat) (r : Int) : l.length ≤ (cellS l r).length ∧ (cellS l r).length ≤ l.length + 8 := by
  rcases cellS_cases l r with h | ⟨m, h, _, h2, _⟩
  · have := congrArg List.length h
    simp only [List.length_map] at this
    omega
  · rw [h, List.length_append]; omega
theorem vl16 {xs : List Dat} (hb : xs.length ≤ 100000) {E0 : List Dat → Prop} : ∀ (rest pre acc : List Dat), xs = pre ++ rest → acc.length ≤ 8 * pre.length → E0 (cellsF acc rest) → ∃ fu, l16_5 fu acc (0 : Int) xs (xs.length : Int) (pre.length : Int) E0
  | [], pre, acc, hx, ha, h => by
    subst hx
    refine ⟨1, ?_⟩
    unfold l16_5
    rw [ixe, br_f]
    exact h
  | d :: rest, pre, acc, hx, ha, h => by
    subst hx
    have hB : (pre ++ d :: rest).length ≤ bigL := by rw [bigL_eq]; omega
    have hpl : pre.length < 100000 := by simp only [List.length_append, List.length_cons] at hb; omega
    have hc8 := cellS_len acc d.toInt
    obtain ⟨fu, hfu⟩ := vl16 hb rest (pre ++ [d]) (cellS acc d.toInt) (snoc2 pre d rest) (by simp only [List.length_append, List.length_singleton]; omega) h
    refine ⟨fu + 1, ?_⟩
    unfold l16_5
    rw [ixl, br_t, ix1, req_t, ix2, req_t, gd]
    rw [← snoc1 pre d] at hfu
    generalize d.toInt = r at hfu hc8 ⊢
    have hin := pre_in hB
    have ok1 : appOK acc (0 : Nat) acc.length (1 : Nat) (32 : Nat) = true := app_ok (by omega)
    have ok2 : ∀ c : Dat, appOK (acc ++ [c]) (0 : Nat) (acc ++ [c]).length (1 : Nat) (32 : Nat) = true := fun c => app_ok (by rw [List.length_append, List.length_singleton]; omega)
    have ok3 : ∀ c c2 : Dat, appOK acc (0 : Nat) acc.length (List.length (List.take (2 : Nat) ([c] ++ [c2]))) (32 : Nat) = true := fun c c2 => app_ok (by show (acc.length + 2) * 32 ≤ _; omega)
    have step : ∀ m : List Dat, cellS acc r = acc ++ m → l16_5 fu (acc ++ m) (0 : Int) (pre ++ d :: rest) ((pre ++ d :: rest).length : Int) ((pre.length : Int) + 1) E0 := fun m hm => by rw [← hm]; exact hfu
    by_cases h9 : r = 9
    · rw [decide_eq_true h9, br_t, ok1, req_t, dapp_full]
      have e : cellS acc r = pad (acc ++ [blank]) := by unfold cellS; rw [if_pos h9]
      rw [e] at hfu
      obtain ⟨fu2, hfu2⟩ := vl16p (xs := pre ++ d :: rest) (n := ((pre ++ d :: rest).length : Int)) (n2 := (pre.length : Int)) (E3 := fun y1 y2 y3 y4 y5 => req (inR IntKind.i64 (y5 + (1 : Int))) (((List.length y1) = List.length y1 ∧ l16_5 fu y1 y2 y3 y4 (y5 + (1 : Int)) E0))) _ (acc ++ [blank]) rfl (by simp only [List.length_append, List.length_singleton]; omega)
        (by show req (inR IntKind.i64 ((pre.length : Int) + (1 : Int))) _; rw [hin, req_t]; exact ⟨rfl, hfu⟩)
      exact ⟨fu2, rfl, hfu2⟩
    · rw [decide_eq_false h9, br_f]
      by_cases hc : (0 ≤ r ∧ r < 32) ∨ r = 127
      · have e := step [mk hatT 1 0, mk (Utf8.encode (bitsV .xor .i32 r 64)) 1 0] (by unfold cellS; rw [if_neg h9, if_pos hc])
        refine br_mk (fun a1 => br_mk (fun a2 => ?_) (fun a2 => br_mk (fun a3 => ?_) (fun a3 => ?_))) (fun a1 => br_mk (fun a3 => ?_) (fun a3 => ?_))
        · rw [ok1, req_t, dapp_full, ok2, req_t, hin, req_t, dapp_full, List.append_assoc]; exact ⟨rfl, e⟩
        · rw [ok1, req_t, dapp_full, ok2, req_t, hin, req_t, dapp_full, List.append_assoc]; exact ⟨rfl, e⟩
        · have b1 := of_decide_eq_true a1; have b2 := of_decide_eq_false a2; have b3 := of_decide_eq_false a3; omega
        · rw [ok1, req_t, dapp_full, ok2, req_t, hin, req_t, dapp_full, List.append_assoc]; exact ⟨rfl, e⟩
        · have b1 := of_decide_eq_false a1; have b3 := of_decide_eq_false a3; omega
      · refine br_mk (fun a1 => br_mk (fun a2 => ?_) (fun a2 => br_mk (fun a3 => ?_) (fun a3 => ?_))) (fun a1 => br_mk (fun a3 => ?_) (fun a3 => ?_))
        · have b1 := of_decide_eq_true a1; have b2 := of_decide_eq_true a2; omega
        · have b3 := of_decide_eq_true a3; omega
        rotate_left 1
        · have b3 := of_decide_eq_true a3; omega
        all_goals
          refine v33 ?_
          by_cases hv : valid r = false
          · have e := step [mk badT 1 0] (by unfold cellS; rw [if_neg h9, if_neg hc, if_pos hv])
            rw [hv, show (!false) = true from rfl, br_t, ok1, req_t, hin, req_t, dapp_full]
            exact ⟨rfl, e⟩
          · rw [eq_true_of_ne_false hv, show (!true) = false from rfl, br_f]
            refine v17 ?_
            by_cases hct : ctl r = true
            · have e := step [mk badT 1 0] (by unfold cellS; rw [if_neg h9, if_neg hc, if_neg hv, if_pos hct])
              rw [hct, br_t, ok1, req_t, hin, req_t, dapp_full]
              exact ⟨rfl, e⟩
            · rw [eq_false_of_ne_true hct, br_f]
              refine v13 ?_
              by_cases h0 : width r = 0
              · rw [decide_eq_true h0, br_t]
                refine ⟨rfl, v40 (by omega) ?_⟩
                have e : cellS acc r = joinS acc r := by unfold cellS; rw [if_neg h9, if_neg hc, if_neg hv, if_neg hct, if_pos h0]
                rw [hin, req_t, ← e]
                exact ⟨rfl, hfu⟩
              · rw [decide_eq_false h0, br_f]
                refine v13 ?_
                by_cases h2 : width r = 2
                · have e := step [mk (Utf8.encode r) 2 0, mk { data := #[] } 0 0] (by unfold cellS; rw [if_neg h9, if_neg hc, if_neg hv, if_neg hct, if_neg h0, if_pos h2])
                  rw [decide_eq_true h2, br_t, ok3, req_t, hin, req_t, dapp_full]
                  exact ⟨rfl, e⟩
                · have e := step [mk (Utf8.encode r) 1 0] (by unfold cellS; rw [if_neg h9, if_neg hc, if_neg hv, if_neg hct, if_neg h0, if_neg h2])
                  rw [decide_eq_false h2, br_f, ok1, req_t, hin, req_t, dapp_full]
                  exact ⟨rfl, e⟩
theorem v16 {l : List Dat} (hb : l.length ≤ 100000) {K : List Dat → Prop} (h : K (cells l)) : m16 l (0 : Int) K := by
  unfold m16
  obtain ⟨fu, hfu⟩ := vl16 hb (E0 := fun y1 => K y1) l [] [] rfl (by simp) h
  exact ⟨fu, rfl, hfu⟩
theorem cells_len (l : List Dat) : (cells l).length ≤ 8 * l.length := by
  suffices h : ∀ (l acc : List Dat), (cellsF acc l).length ≤ acc.length + 8 * l.length by have := h l []; simpa [cells] using this
  intro l
  induction l with
  | nil => intro acc; simp [cellsF]
  | cons d l ih =>
    intro acc
    have := ih (cellS acc d.toInt)
    have h2 := cellS_len acc d.toInt
    simp only [cellsF, List.foldl_cons, List.length_cons] at this ⊢
    omega
theorem cellsF_len (m : List Dat) : ∀ acc : List Dat, acc.length ≤ (cellsF acc m).length := by
  induction m with
  | nil => intro acc; exact Nat.le_refl _
  | cons d m ih =>
    intro acc
    exact Nat.le_trans (cellS_len acc d.toInt).1 (ih _)
theorem cells_app (l m : List Dat) : cells (l ++ m) = cellsF (cells l) m := by simp [cells, cellsF]
theorem cells_mono (l m : List Dat) : (cells l).length ≤ (cells (l ++ m)).length := by
  rw [cells_app]
  exact cellsF_len m _
end Go.Proofs.YthegkipclogoeaaDoor

set_option linter.unusedVariables false
set_option linter.unusedSimpArgs false
set_option maxRecDepth 100000
namespace Go.Proofs.YthegkipclogoeaaDoor
open Go.AM Go.LTxt Go.LMem Go.RowKit
theorem k1 {ls : List Dat} (h : ls.length ≤ 1000000) : inR IntKind.i64 ((↑(List.length ls + (1 : Nat)) : Int) - (1 : Int)) = true := in64 (by omega) (by omega)
theorem k2 (ls : List Dat) : (decide ((0 : Int) ≤ (↑(List.length ls + (1 : Nat)) : Int) - (1 : Int)) && decide ((↑(List.length ls + (1 : Nat)) : Int) - (1 : Int) < (↑(List.length ls + (1 : Nat)) : Int))) = true := by
  rw [Bool.and_eq_true, decide_eq_true_eq, decide_eq_true_eq]; omega
theorem k3 (ls : List Dat) : decide ((0 : Nat) + Int.toNat ((↑(List.length ls + (1 : Nat)) : Int) - (1 : Int)) = List.length ls) = true := by
  rw [decide_eq_true_eq]; omega
theorem w8 {c c2 : C27} {c3 : C37} {v : Int} {ls l cells : List Dat} {cursor i : Int} {xs : List Dat} {n n2 : Int} {E0 : C27 → C27 → C37 → Int → List Dat → List Dat → List Dat → Int → Int → List Dat → Int → Int → Bool → Prop} (hls : ls.length ≤ 1000000) (hv : 0 ≤ v) (hv2 : v ≤ 1000)
    (h : E0 c c2 c3 v ls l cells cursor i xs n n2 (if c3.width = 2 then decide ((l.length : Int) = v - 1) else false)) : p37_r8 c c2 c3 v ls l cells cursor i xs n n2 E0 := by
  unfold p37_r8
  have k4 : inR IntKind.i64 (v - (1 : Int)) = true := in64 (by omega) (by omega)
  by_cases hw : c3.width = 2
  · rw [if_pos hw] at h
    rw [decide_eq_true hw, br_t, k1 hls, req_t, k2, req_t, k3, req_t, k4, req_t]
    exact ⟨h, h, trivial⟩
  · rw [if_neg hw] at h
    rw [decide_eq_false hw, br_f]
    exact ⟨h, h, trivial⟩
theorem w9 {c c2 : C27} {c3 : C37} {v : Int} {ls l cells : List Dat} {cursor i : Int} {xs : List Dat} {n n2 : Int} {E0 : C27 → C27 → C37 → Int → List Dat → List Dat → List Dat → Int → Int → List Dat → Int → Int → Prop} (hls : ls.length ≤ 1000000) (hl : l.length ≤ 1000000)
    (h : E0 c c2 c3 v ls (l ++ [blank]) cells cursor i xs n n2) : p37_r9 c c2 c3 v ls l cells cursor i xs n n2 E0 := by
  have ha : appOK l (0 : Nat) l.length (1 : Nat) (32 : Nat) = true := app_ok (by omega)
  unfold p37_r9
  simp only [k1 hls, k2, k3, ha, req_t, m47, dapp_full, and_true]
  exact ⟨h, h, h⟩
theorem w10 {c c2 : C27} {c3 : C37} {v : Int} {ls l cells : List Dat} {cursor i : Int} {xs : List Dat} {n n2 : Int} {E0 : C27 → C27 → C37 → Int → List Dat → List Dat → List Dat → Int → Int → List Dat → Int → Int → Bool → Prop} (hls : ls.length ≤ 1000000)
    (h : E0 c c2 c3 v ls l cells cursor i xs n n2 (decide ((l.length : Int) = v))) : p37_r10 c c2 c3 v ls l cells cursor i xs n n2 E0 := by
  unfold p37_r10
  rw [k1 hls, req_t, k2, req_t, k3, req_t]
  exact ⟨h, h, trivial⟩
theorem w13 {c c2 : C27} {c3 : C37} {v : Int} {ls l cells : List Dat} {cursor : Int} {xs : List Dat} {n n2 : Int} {E0 : C27 → C27 → C37 → Int → List Dat → List Dat → List Dat → Int → List Dat → Int → Int → Prop} (hls : ls.length ≤ 1000000)
    (h : E0 c ⟨(↑(List.length ls + (1 : Nat)) : Int) - (1 : Int), (l.length : Int)⟩ c3 v ls l cells cursor xs n n2) : p37_r13 c c2 c3 v ls l cells cursor xs n n2 E0 := by
  unfold p37_r13
  rw [k1 hls, req_t, req_t, k2, req_t, k3, req_t]
  exact ⟨h, h, trivial⟩
theorem w14 {c c2 : C27} {c3 : C37} {v : Int} {ls l cells : List Dat} {cursor : Int} {xs : List Dat} {n n2 : Int} {E0 : C27 → C27 → C37 → Int → List Dat → List Dat → List Dat → Int → List Dat → Int → Int → Prop} (hls : ls.length ≤ 1000000) (hl : l.length ≤ 1000000)
    (h : E0 c c2 c3 v ls (l ++ [mk c3.text c3.width c3.attr]) cells cursor xs n n2) : p37_r14 c c2 c3 v ls l cells cursor xs n n2 E0 := by
  have ha : appOK l (0 : Nat) l.length (1 : Nat) (32 : Nat) = true := app_ok (by omega)
  have h' : E0 c c2 c3 v ls (l ++ [Dat.pair (Dat.str (C37.text c3)) (Dat.pair (Dat.int (C37.width c3)) (Dat.pair (Dat.int (C37.attr c3)) (Dat.int (0 : Int))))]) cells cursor xs n n2 := h
  unfold p37_r14
  simp only [k1 hls, k2, k3, ha, req_t, dapp_full, and_true]
  simp only [h', and_true]
theorem w17 {c c2 : C27} {v : Int} {ls l : List Dat} {E0 : C27 → C27 → Int → List Dat → List Dat → Bool → Prop} (hls : ls.length ≤ 1000000) (h : E0 c c2 v ls l (decide ((l.length : Int) = v))) : p37_r17 c c2 v ls l E0 := by
  unfold p37_r17
  rw [k1 hls, req_t, k2, req_t, k3, req_t]
  exact ⟨h, h, trivial⟩
theorem w19 {c c2 : C27} {ls l : List Dat} {E0 : C27 → C27 → List Dat → List Dat → Prop} (hls : ls.length ≤ 1000000) (h : E0 c ⟨(↑(List.length ls + (1 : Nat)) : Int) - (1 : Int), (l.length : Int)⟩ ls l) : p37_r19 c c2 ls l E0 := by
  unfold p37_r19
  rw [k1 hls, req_t, req_t, k2, req_t, k3, req_t]
  exact ⟨h, h, trivial⟩
/-- the last row as it is ahead of a cell -/
def prep1 (cols w : Int) (l : List Dat) : List Dat := if w = 2 ∧ (l.length : Int) = cols - 1 then l ++ [blank] else l
def prep (cols w : Int) (s : List Dat × List Dat) : List Dat × List Dat :=
  if ((prep1 cols w s.2).length : Int) = cols then (s.1 ++ [.list (prep1 cols w s.2)], []) else (s.1, prep1 cols w s.2)
def cn (c : Dat) : Dat := mk (tx c) (wd c) c.snd.snd.fst.toInt
def layS (cols : Int) (s : List Dat × List Dat) (c : Dat) : List Dat × List Dat := ((prep cols (wd c) s).1, (prep cols (wd c) s).2 ++ [cn c])
def spotOf (s : List Dat × List Dat) : C27 := ⟨(↑(List.length s.1 + (1 : Nat)) : Int) - (1 : Int), (s.2.length : Int)⟩
/-- cells put behind others: rows, and the cursor's place -/
def cutF (cols cursor : Int) : Nat → List Dat × List Dat → C27 → List Dat → (List Dat × List Dat) × C27
  | _, s, a, [] => (s, a)
  | k, s, a, d :: rest => cutF cols cursor (k + 1) (layS cols s d) (if (k : Int) = cursor then spotOf (prep cols (wd d) s) else a) rest
theorem prep_len (cols w : Int) (s : List Dat × List Dat) : (prep cols w s).1.length ≤ s.1.length + 1 ∧ (prep cols w s).2.length ≤ s.2.length + 1 := by
  unfold prep prep1
  split <;> split <;> simp
theorem vl37 {xs cells : List Dat} {cols cursor : Int} (hb : xs.length ≤ 100000) (hv : 0 ≤ cols) (hv2 : cols ≤ 1000) {c : C27} {E0 : C27 → C27 → Int → List Dat → List Dat → List Dat → Int → Prop} : ∀ (rest pre ls l : List Dat) (a : C27), xs = pre ++ rest → ls.length ≤ pre.length → l.length ≤ 2 * pre.length →
    E0 c (cutF cols cursor pre.length (ls, l) a rest).2 cols (cutF cols cursor pre.length (ls, l) a rest).1.1 (cutF cols cursor pre.length (ls, l) a rest).1.2 cells cursor → ∃ fu, l37_6 fu c a cols ls l cells cursor xs (xs.length : Int) (pre.length : Int) E0
  | [], pre, ls, l, a, hx, h1, h2, h => by
    subst hx
    refine ⟨1, ?_⟩
    unfold l37_6
    rw [ixe, br_f]
    exact h
  | d :: rest, pre, ls, l, a, hx, h1, h2, h => by
    subst hx
    have hB : (pre ++ d :: rest).length ≤ bigL := by rw [bigL_eq]; omega
    have hpl : pre.length < 100000 := by simp only [List.length_append, List.length_cons] at hb; omega
    have hin := pre_in hB
    have hpp := prep_len cols (wd d) (ls, l)
    obtain ⟨fu, hfu⟩ := vl37 hb hv hv2 rest (pre ++ [d]) (layS cols (ls, l) d).1 (layS cols (ls, l) d).2 (if (pre.length : Int) = cursor then spotOf (prep cols (wd d) (ls, l)) else a) (snoc2 pre d rest)
      (by simp only [layS, List.length_append, List.length_singleton] at hpp ⊢; omega) (by simp only [layS, List.length_append, List.length_singleton] at hpp ⊢; omega)
      (by rw [List.length_append, List.length_singleton]; exact h)
    refine ⟨fu + 1, ?_⟩
    rw [← snoc1 pre d] at hfu
    unfold l37_6
    rw [ixl, br_t, ix1, req_t, ix2, req_t, gd]
    have nx : ∀ (a' : C27) (ls' l' : List Dat), (ls', l') = prep cols (wd d) (ls, l) → a' = (if (pre.length : Int) = cursor then spotOf (prep cols (wd d) (ls, l)) else a) →
        l37_6 fu c a' cols ls' (l' ++ [cn d]) cells cursor (pre ++ d :: rest) ((pre ++ d :: rest).length : Int) ((pre.length : Int) + 1) E0 := fun a' ls' l' he ha' => by
      rw [ha', ← he]
      simp only [layS] at hfu
      rw [← he] at hfu
      exact hfu
    -- behind the row's end
    have after : ∀ (ls' l' : List Dat), (ls', l') = prep cols (wd d) (ls, l) → ls'.length ≤ 1000000 → l'.length ≤ 1000000 → ∀ (Q1 Q2 : Prop), (Q1 = p37_r13 c a ⟨tx d, wd d, d.snd.snd.fst.toInt⟩ cols ls' l' cells cursor (pre ++ d :: rest) ((pre ++ d :: rest).length : Int) (pre.length : Int) (fun y71 y72 y73 y74 y75 y76 y77 y78 y79 y80 y81 => 
            ((List.length y75 + (1 : Nat) = List.length y75 + (1 : Nat)) ∧ 
            ((List.length y76 = List.length y76) ∧ 
            p37_r14 { row := C27.row y71, col := C27.col y71 } { row := C27.row y72, col := C27.col y72 } { text := C37.text y73, width := C37.width y73, attr := C37.attr y73 } y74 y75 y76 y77 y78 y79 y80 y81 (fun y82 y83 y84 y85 y86 y87 y88 y89 y90 y91 y92 => 
             req (inR IntKind.i64 (y92 + (1 : Int))) (((List.length y86 + (1 : Nat)) = List.length y86 + 1 ∧ ((List.length y87) = List.length y87 ∧ l37_6 fu y82 y83 y85 y86 y87 y88 y89 y90 y91 (y92 + (1 : Int)) E0)))))))) → (Q2 = p37_r14 c a ⟨tx d, wd d, d.snd.snd.fst.toInt⟩ cols ls' l' cells cursor (pre ++ d :: rest) ((pre ++ d :: rest).length : Int) (pre.length : Int) (fun y82 y83 y84 y85 y86 y87 y88 y89 y90 y91 y92 => 
             req (inR IntKind.i64 (y92 + (1 : Int))) (((List.length y86 + (1 : Nat)) = List.length y86 + 1 ∧ ((List.length y87) = List.length y87 ∧ l37_6 fu y82 y83 y85 y86 y87 y88 y89 y90 y91 (y92 + (1 : Int)) E0))))) →
        br (decide ((pre.length : Int) = cursor)) ((List.length ls' + (1 : Nat) = List.length ls' + (1 : Nat)) ∧ (l'.length = l'.length) ∧ Q1) ((List.length ls' + (1 : Nat) = List.length ls' + (1 : Nat)) ∧ (l'.length = l'.length) ∧ Q2) := fun ls' l' he b1 b2 Q1 Q2 e1 e2 => by
      by_cases hcur : (pre.length : Int) = cursor
      · rw [decide_eq_true hcur, br_t, e1]
        refine ⟨rfl, rfl, w13 b1 ⟨rfl, rfl, w14 b1 b2 ?_⟩⟩
        show req (inR IntKind.i64 ((pre.length : Int) + (1 : Int))) _
        rw [hin, req_t]
        exact ⟨rfl, rfl, nx _ _ _ he (by rw [if_pos hcur, ← he]; rfl)⟩
      · rw [decide_eq_false hcur, br_f, e2]
        refine ⟨rfl, rfl, w14 b1 b2 ?_⟩
        show req (inR IntKind.i64 ((pre.length : Int) + (1 : Int))) _
        rw [hin, req_t]
        exact ⟨rfl, rfl, nx _ _ _ he (by rw [if_neg hcur])⟩
    -- from the question on whether the row is full
    have k5 : (decide ((0 : Int) ≤ (0 : Int)) && decide ((0 : Int) ≤ cols) && decide (cols * (↑(32 : Nat) : Int) ≤ (140737488351232 : Int))) = true := by
      rw [Bool.and_eq_true, Bool.and_eq_true, decide_eq_true_eq, decide_eq_true_eq, decide_eq_true_eq]; omega
    have k6 : (decide (List.length ls + (1 : Nat) = List.length ls + (1 : Nat)) && decide ((List.length ls + (1 : Nat) + (1 : Nat)) * (24 : Nat) ≤ (140737488351232 : Nat))) = true := by
      rw [Bool.and_eq_true, decide_eq_true_eq, decide_eq_true_eq]; omega
    have hwd : Dat.toInt (Dat.fst (Dat.snd d)) = wd d := rfl
    refine ⟨rfl, rfl, w8 (by omega) hv hv2 ?_⟩
    by_cases hw : wd d = 2 ∧ (l.length : Int) = cols - 1
    · have hq : (if (C37.mk (tx d) (wd d) d.snd.snd.fst.toInt).width = 2 then decide ((l.length : Int) = cols - 1) else false) = true := by
        rw [if_pos (show (C37.mk (tx d) (wd d) d.snd.snd.fst.toInt).width = 2 from hw.1), decide_eq_true hw.2]
      refine Eq.mpr (congrArg (fun b => br b _ _) hq) ?_
      rw [br_t]
      refine ⟨rfl, rfl, w9 (by omega) (by omega) ⟨rfl, rfl, w10 (by omega) ?_⟩⟩
      have hp1 : prep1 cols (wd d) l = l ++ [blank] := by unfold prep1; rw [if_pos hw]
      have hfull : ((l ++ [blank]).length : Int) = cols := by rw [List.length_append, List.length_singleton]; omega
      rw [decide_eq_true hfull, br_t, k5, req_t, k6, req_t, len_ok, req_t, List.take_length]
      exact after _ _ (by unfold prep; rw [hp1, if_pos hfull]) (by simp only [List.length_append, List.length_singleton]; omega) (by simp) _ _ rfl rfl
    · have hq : (if (C37.mk (tx d) (wd d) d.snd.snd.fst.toInt).width = 2 then decide ((l.length : Int) = cols - 1) else false) = false := by
        by_cases h3 : wd d = 2
        · rw [if_pos (show (C37.mk (tx d) (wd d) d.snd.snd.fst.toInt).width = 2 from h3), decide_eq_false fun h4 => hw ⟨h3, h4⟩]
        · rw [if_neg (show ¬ (C37.mk (tx d) (wd d) d.snd.snd.fst.toInt).width = 2 from h3)]
      refine Eq.mpr (congrArg (fun b => br b _ _) hq) ?_
      rw [br_f]
      refine ⟨rfl, rfl, w10 (by omega) ?_⟩
      have hp1 : prep1 cols (wd d) l = l := by unfold prep1; rw [if_neg hw]
      by_cases hfull : (l.length : Int) = cols
      · rw [decide_eq_true hfull, br_t, k5, req_t, k6, req_t, len_ok, req_t, List.take_length]
        exact after _ _ (by unfold prep; rw [hp1, if_pos hfull]) (by simp only [List.length_append, List.length_singleton]; omega) (by simp) _ _ rfl rfl
      · rw [decide_eq_false hfull, br_f]
        exact after _ _ (by unfold prep; rw [hp1, if_neg hfull]) (by omega) (by omega) _ _ rfl rfl
/-- all of it -/
def cutEnd (cols cursor : Int) (n : Nat) (x : (List Dat × List Dat) × C27) : (List Dat × List Dat) × C27 :=
  if cursor = (n : Int) then (prep cols 1 x.1, spotOf (prep cols 1 x.1)) else x
def cut (cells : List Dat) (cols cursor : Int) : (List Dat × List Dat) × C27 := cutEnd cols cursor cells.length (cutF cols cursor 0 ([], []) ⟨0, 0⟩ cells)
theorem cutF_len {cols cursor : Int} : ∀ (rest : List Dat) (k : Nat) (s : List Dat × List Dat) (a : C27), s.1.length ≤ k → s.2.length ≤ 2 * k → (cutF cols cursor k s a rest).1.1.length ≤ k + rest.length ∧ (cutF cols cursor k s a rest).1.2.length ≤ 2 * (k + rest.length)
  | [], k, s, a, h1, h2 => ⟨h1, h2⟩
  | d :: rest, k, s, a, h1, h2 => by
    have hpp := prep_len cols (wd d) s
    have := cutF_len (cols := cols) (cursor := cursor) rest (k + 1) (layS cols s d) (if (k : Int) = cursor then spotOf (prep cols (wd d) s) else a) (by simp only [layS]; omega) (by simp only [layS, List.length_append, List.length_singleton]; omega)
    simp only [cutF, List.length_cons]
    omega
theorem v37 {cells : List Dat} {cols cursor : Int} (hb : cells.length ≤ 100000) (hv : 0 ≤ cols) (hv2 : cols ≤ 1000) {K : List Dat → List Dat → Int → Int → Prop} (h : K (cut cells cols cursor).1.1 (cut cells cols cursor).1.2 (cut cells cols cursor).2.row (cut cells cols cursor).2.col) : m37 cells cols cursor K := by
  unfold m37
  have k5 : (decide ((0 : Int) ≤ (0 : Int)) && decide ((0 : Int) ≤ cols) && decide (cols * (↑(32 : Nat) : Int) ≤ (140737488351232 : Int))) = true := by
    rw [Bool.and_eq_true, Bool.and_eq_true, decide_eq_true_eq, decide_eq_true_eq, decide_eq_true_eq]; omega
  rw [k5, req_t]
  obtain ⟨b1, b2⟩ := cutF_len (cols := cols) (cursor := cursor) cells 0 ([], []) ⟨0, 0⟩ (by simp) (by simp)
  refine (fun (hfu : ∃ fu, l37_6 fu _ _ _ _ _ _ _ _ _ ((([] : List Dat).length : Nat) : Int) _) => hfu.elim fun fu hfu => ⟨fu, rfl, rfl, hfu⟩) (vl37 hb hv hv2 cells [] [] [] ⟨0, 0⟩ rfl (by simp) (by simp) ?_)
  unfold cut cutEnd at h
  rw [show ([] : List Dat).length = 0 from rfl]
  by_cases hc : cursor = (cells.length : Int)
  · rw [if_pos hc] at h
    rw [decide_eq_true hc, br_t]
    refine ⟨rfl, rfl, w17 (by omega) ?_⟩
    generalize (cutF cols cursor 0 ([], []) ⟨0, 0⟩ cells).1 = s at h b1 b2 ⊢
    have hp1 : prep1 cols 1 s.2 = s.2 := by unfold prep1; rw [if_neg (by omega)]
    have k6 : (decide (List.length s.1 + (1 : Nat) = List.length s.1 + (1 : Nat)) && decide ((List.length s.1 + (1 : Nat) + (1 : Nat)) * (24 : Nat) ≤ (140737488351232 : Nat))) = true := by
      rw [Bool.and_eq_true, decide_eq_true_eq, decide_eq_true_eq]; omega
    unfold prep at h
    rw [hp1] at h
    by_cases hf : (s.2.length : Int) = cols
    · rw [if_pos hf] at h
      rw [decide_eq_true hf, br_t, k5, req_t, k6, req_t, len_ok, req_t, List.take_length]
      exact ⟨rfl, rfl, w19 (by rw [List.length_append, List.length_singleton]; omega) h⟩
    · rw [if_neg hf] at h
      rw [decide_eq_false hf, br_f]
      exact ⟨rfl, rfl, w19 (by omega) h⟩
  · rw [if_neg hc] at h
    rw [decide_eq_false hc, br_f]
    exact h
end Go.Proofs.YthegkipclogoeaaDoor

set_option linter.unusedVariables false
set_option linter.unusedSimpArgs false
set_option maxRecDepth 100000
namespace Go.Proofs.YthegkipclogoeaaDoor
open Go.AM Go.LTxt Go.LMem Go.RowKit
theorem brt {b : Bool} {A B : Prop} (h : b = true) (k : A) : br b A B := by rw [h]; exact k
theorem brf {b : Bool} {A B : Prop} (h : b = false) (k : B) : br b A B := by rw [h]; exact k
theorem rq {b : Bool} {K : Prop} (h1 : b = true) : req b K = K := by rw [h1]; rfl
def wa (l : List Dat) (i : Nat) : Int := wd (l.getD i default)
/-- a half that stands alone -/
def bad (l : List Dat) (i : Nat) : Prop := (wa l i = 2 ∧ (l.length ≤ i + 1 ∨ wa l (i + 1) ≠ 0)) ∨ (wa l i = 0 ∧ (i = 0 ∨ wa l (i - 1) ≠ 2))
instance (l : List Dat) (i : Nat) : Decidable (bad l i) := by unfold bad; infer_instance
def lone1 (l : List Dat) (i : Nat) : List Dat := if bad l i then l.set i blank else l
def loneF (l : List Dat) (i : Nat) : Nat → List Dat
  | 0 => l
  | k + 1 => loneF (lone1 l i) (i + 1) k
def lone (l : List Dat) : List Dat := loneF l 0 l.length
theorem lone1_len (l : List Dat) (i : Nat) : (lone1 l i).length = l.length := by unfold lone1; split <;> simp
theorem loneF_len : ∀ (k : Nat) (l : List Dat) (i : Nat), (loneF l i k).length = l.length
  | 0, l, i => rfl
  | k + 1, l, i => by simp only [loneF]; rw [loneF_len k, lone1_len]
theorem lone_len (l : List Dat) : (lone l).length = l.length := loneF_len _ _ _
theorem wa_set {l : List Dat} {i j : Nat} {c : Dat} (hi : i < l.length) : wa (l.set i c) j = if j = i then wd c else wa l j := by
  unfold wa
  simp only [List.getD_eq_getElem?_getD, List.getElem?_set]
  by_cases h : i = j
  · subst h; simp [hi]
  · rw [if_neg h, if_neg (fun e => h e.symm)]
/-- wide cells stand whole -/
def Whole (l : List Dat) : Prop := ∀ i, i < l.length → ¬ bad l i
theorem loneF_whole : ∀ (k : Nat) (l : List Dat) (i : Nat), i + k = l.length → (∀ j, j < i → ¬ bad l j) → Whole (loneF l i k)
  | 0, l, i, hk, hj => fun j hjl => by simp only [loneF] at hjl ⊢; exact hj j (by omega)
  | k + 1, l, i, hk, hj => by
    simp only [loneF]
    refine loneF_whole k (lone1 l i) (i + 1) (by rw [lone1_len]; omega) fun j hji => ?_
    unfold lone1
    by_cases hb : bad l i
    · rw [if_pos hb]
      have hw : ∀ j, wa (l.set i blank) j = if j = i then 1 else wa l j := fun j => wa_set (by omega)
      by_cases he : j = i
      · subst he
        unfold bad
        rw [hw, if_pos rfl]
        omega
      · have hlt : j < i := by omega
        have hnb := hj j hlt
        unfold bad at hnb hb ⊢
        rw [hw, hw, hw, List.length_set, if_neg he, if_neg (show ¬ j - 1 = i by omega)]
        by_cases h1 : j + 1 = i
        · rw [if_pos h1]
          subst h1
          have e : j + 1 - 1 = j := by omega
          rw [e] at hb
          omega
        · rw [if_neg h1]
          exact hnb
    · rw [if_neg hb]
      by_cases he : j = i
      · subst he; exact hb
      · exact hj j (by omega)
theorem lone_whole (l : List Dat) : Whole (lone l) := loneF_whole _ _ _ (by omega) (fun j hj => by omega)
theorem vl57 {n : Nat} (hb : n ≤ 100000) {E0 : List Dat → Prop} : ∀ (k : Nat) (l : List Dat) (i : Nat), l.length = n → i + k = n → E0 (loneF l i k) → ∃ fu, l57_3 fu l (n : Int) (i : Int) E0
  | 0, l, i, hl, hk, h => by
    refine ⟨1, ?_⟩
    unfold l57_3
    rw [decide_eq_false (show ¬ (i : Int) < (n : Int) by omega), br_f]
    exact h
  | k + 1, l, i, hl, hk, h => by
    have hl1 : (lone1 l i).length = n := by rw [lone1_len]; exact hl
    obtain ⟨fu, hfu⟩ := vl57 hb k (lone1 l i) (i + 1) hl1 (by omega) h
    refine ⟨fu + 1, ?_⟩
    have e1 : (i : Int) + 1 = ((i + 1 : Nat) : Int) := by omega
    have q0 : inR .i64 ((i : Int) + 1) = true := in64 (by omega) (by omega)
    have q1 : (decide ((0 : Int) ≤ (i : Int)) && decide ((i : Int) < (l.length : Int))) = true := by rw [Bool.and_eq_true, decide_eq_true_eq, decide_eq_true_eq]; omega
    have q2 : decide ((0 : Nat) + Int.toNat (i : Int) < l.length) = true := by rw [decide_eq_true_eq]; omega
    have ei : (0 : Nat) + Int.toNat (i : Int) = i := by omega
    have ei1 : (0 : Nat) + Int.toNat ((i : Int) + 1) = i + 1 := by omega
    have hw : ∀ j, Dat.toInt (Dat.fst (Dat.snd (List.getD l j default))) = wa l j := fun _ => rfl
    have isBad : bad l i → (l.length = List.length (List.set l i blank)) ∧ (l.length = List.length (List.set l i blank)) ∧ l57_3 fu (List.set l i blank) (n : Int) ((i : Int) + 1) E0 := fun hbad => by
      refine ⟨List.length_set.symm, List.length_set.symm, ?_⟩
      have e : lone1 l i = l.set i blank := by unfold lone1; rw [if_pos hbad]
      rw [e] at hfu
      rw [e1]
      exact hfu
    have isOk : ¬ bad l i → True ∧ True ∧ l57_3 fu l (n : Int) ((i : Int) + 1) E0 := fun hok => by
      refine ⟨trivial, trivial, ?_⟩
      have e : lone1 l i = l := by unfold lone1; rw [if_neg hok]
      rw [e] at hfu
      rw [e1]
      exact hfu
    have q2' : decide (i < l.length) = true := decide_eq_true (by omega)
    unfold l57_3
    refine brt (decide_eq_true (show (i : Int) < (n : Int) by omega)) (req_mk q1 (req_mk q2 ?_))
    simp only [ei, ei1, hw, m47]
    by_cases h2 : wa l i = 2
    · refine brt (decide_eq_true h2) ?_
      rw [rq q0]
      by_cases h3 : (l.length : Int) ≤ (i : Int) + 1
      · refine brt (decide_eq_true h3) ?_
        refine req_mk q1 (req_mk q2' ?_)
        rw [rq q0]
        exact isBad (.inl ⟨h2, .inl (by omega)⟩)
      · have q3 : (decide ((0 : Int) ≤ (i : Int) + 1) && decide ((i : Int) + 1 < (l.length : Int))) = true := by rw [Bool.and_eq_true, decide_eq_true_eq, decide_eq_true_eq]; omega
        refine brf (decide_eq_false h3) ?_
        rw [rq q0, rq q3]
        refine req_mk (decide_eq_true (show i + 1 < l.length by omega)) ?_
        by_cases h4 : wa l (i + 1) = 0
        · refine brf (by rw [decide_eq_true h4]; rfl) (brf (decide_eq_false (show ¬ wa l i = 0 by omega)) ?_)
          rw [rq q0]
          refine isOk (fun hb => ?_)
          unfold bad at hb
          omega
        · refine brt (by rw [decide_eq_false h4]; rfl) ?_
          refine req_mk q1 (req_mk q2' ?_)
          rw [rq q0]
          exact isBad (.inl ⟨h2, .inr h4⟩)
    · refine brf (decide_eq_false h2) ?_
      by_cases h3 : wa l i = 0
      · refine brt (decide_eq_true h3) ?_
        by_cases h4 : i = 0
        · refine brt (decide_eq_true (show (i : Int) = 0 by omega)) ?_
          refine req_mk q1 (req_mk q2' ?_)
          rw [rq q0]
          exact isBad (.inr ⟨h3, .inl h4⟩)
        · have q4 : inR .i64 ((i : Int) - 1) = true := in64 (by omega) (by omega)
          have q5 : (decide ((0 : Int) ≤ (i : Int) - 1) && decide ((i : Int) - 1 < (l.length : Int))) = true := by rw [Bool.and_eq_true, decide_eq_true_eq, decide_eq_true_eq]; omega
          have em : (0 : Nat) + Int.toNat ((i : Int) - 1) = i - 1 := by omega
          refine brf (decide_eq_false (show ¬ (i : Int) = 0 by omega)) ?_
          rw [rq q4, rq q5, em]
          refine req_mk (decide_eq_true (show i - 1 < l.length by omega)) ?_
          by_cases h5 : wa l (i - 1) = 2
          · refine brf (by rw [decide_eq_true h5]; rfl) ?_
            rw [rq q0]
            refine isOk (fun hb => ?_)
            unfold bad at hb
            omega
          · refine brt (by rw [decide_eq_false h5]; rfl) ?_
            refine req_mk q1 (req_mk q2' ?_)
            rw [rq q0]
            exact isBad (.inr ⟨h3, .inr h5⟩)
      · refine brf (decide_eq_false h3) ?_
        rw [rq q0]
        refine isOk (fun hb => ?_)
        unfold bad at hb
        omega
theorem v57 {l : List Dat} (hb : l.length ≤ 100000) {K : List Dat → Prop} (h : K (lone l)) : m57 l K := by
  unfold m57
  have := bigL_eq
  refine v20 (by omega) ?_
  obtain ⟨fu, hfu⟩ := vl57 hb l.length l 0 rfl (by omega) (E0 := fun y2 => K y2) h
  exact ⟨fu, rfl, rfl, hfu⟩
/-! ### A part of one row -/
theorem tdiv_facts {a h : Int} (ha : 0 ≤ a) (hh : 0 < h) : a.tdiv h * h ≤ a ∧ a < a.tdiv h * h + h ∧ 0 ≤ a.tdiv h ∧ a.tdiv h ≤ a := by
  rw [Int.tdiv_eq_ediv_of_nonneg ha]
  have h1 := Int.ediv_mul_le a (Int.ne_of_gt hh)
  have h2 := Int.lt_ediv_add_one_mul_self a hh
  rw [Int.add_mul, Int.one_mul] at h2
  exact ⟨h1, h2, Int.ediv_nonneg ha (Int.le_of_lt hh), Int.ediv_le_self _ ha⟩
def fromF (cols at' : Int) : Int := max ((at'.tdiv (cols.tdiv 2) - 1) * cols.tdiv 2) 0
def toF (cells : List Dat) (cols at' : Int) : Int := min (fromF cols at' + cols) (cells.length : Int)
def ltC : Dat := mk { data := #[(60 : UInt8)] } 1 0
def gtC : Dat := mk { data := #[(62 : UInt8)] } 1 0
def markL (f : Int) (r : List Dat) : List Dat := if 0 < f ∧ (0 : Int) < (r.length : Int) then r.set 0 ltC else r
def markR (b : Prop) [Decidable b] (r : List Dat) : List Dat := if b then r.set (Int.toNat ((r.length : Int) - 1)) gtC else r
def part (cells : List Dat) (cols at' : Int) : List Dat := lone (List.take (Int.toNat (toF cells cols at') - Int.toNat (fromF cols at')) (List.drop (Int.toNat (fromF cols at')) cells))
def acrossF (cells : List Dat) (cols at' : Int) : List Dat × Int :=
  if (if at' = (cells.length : Int) then (cells.length : Int) + 1 else (cells.length : Int)) ≤ cols then (cells, at')
  else (lone (markR (toF cells cols at' < (cells.length : Int)) (markL (fromF cols at') (part cells cols at'))), at' - fromF cols at')
theorem from_facts {cols at' : Int} (hc : 8 ≤ cols) (h0 : 0 ≤ at') : 0 ≤ fromF cols at' ∧ fromF cols at' ≤ at' ∧ at' - fromF cols at' < cols := by
  have f1 := tdiv_facts (a := cols) (h := 2) (by omega) (by omega)
  have f2 := tdiv_facts (a := at') (h := cols.tdiv 2) h0 (by omega)
  unfold fromF
  rw [Int.sub_mul, Int.one_mul]
  omega
theorem v38 {cells : List Dat} {cols at' : Int} (hb : cells.length ≤ 100000) (hc : 8 ≤ cols) (hc2 : cols ≤ 1000) (h0 : 0 ≤ at') (h1 : at' ≤ (cells.length : Int)) {K : List Dat → Int → Prop} (h : K (acrossF cells cols at').1 (acrossF cells cols at').2) : m38 cells cols at' K := by
  have f1 := tdiv_facts (a := cols) (h := 2) (by omega) (by omega)
  have f2 := tdiv_facts (a := at') (h := cols.tdiv 2) h0 (by omega)
  have f3 := from_facts hc h0
  have eF : max ((at'.tdiv (cols.tdiv 2) - 1) * cols.tdiv 2) 0 = fromF cols at' := rfl
  have eT : min (fromF cols at' + cols) (cells.length : Int) = toF cells cols at' := rfl
  have i1 : inR .i64 (cols.tdiv 2) = true := in64 (by omega) (by omega)
  have i2 : (!decide (cols.tdiv 2 = 0)) = true := by rw [decide_eq_false (by omega)]; rfl
  have i3 : inR .i64 (at'.tdiv (cols.tdiv 2)) = true := in64 (by omega) (by omega)
  have i4 : inR .i64 (at'.tdiv (cols.tdiv 2) - 1) = true := in64 (by omega) (by omega)
  have i5 : inR .i64 ((at'.tdiv (cols.tdiv 2) - 1) * cols.tdiv 2) = true := in64 (by rw [Int.sub_mul, Int.one_mul]; omega) (by rw [Int.sub_mul, Int.one_mul]; omega)
  have i6 : inR .i64 (fromF cols at' + cols) = true := in64 (by omega) (by omega)
  have hT : fromF cols at' ≤ toF cells cols at' ∧ toF cells cols at' ≤ (cells.length : Int) := by unfold toF; omega
  have i7 : (decide ((0 : Int) ≤ fromF cols at') && decide (fromF cols at' ≤ toF cells cols at') && decide (toF cells cols at' ≤ toF cells cols at') && decide (toF cells cols at' ≤ (cells.length : Int))) = true := by
    rw [Bool.and_eq_true, Bool.and_eq_true, Bool.and_eq_true, decide_eq_true_eq, decide_eq_true_eq, decide_eq_true_eq, decide_eq_true_eq]; omega
  have i8 : inR .i64 (at' - fromF cols at') = true := in64 (by omega) (by omega)
  have i9 : inR .i64 ((cells.length : Int) + 1) = true := in64 (by omega) (by omega)
  have hP : (part cells cols at').length ≤ 100000 := by unfold part; rw [lone_len, List.length_take, List.length_drop]; omega
  have hP0 : toF cells cols at' < (cells.length : Int) → 0 < (part cells cols at').length := fun ht => by
    unfold part
    rw [lone_len, List.length_take, List.length_drop]
    unfold toF at ht ⊢
    omega
  -- the last step
  have fin : ∀ r : List Dat, r.length = (part cells cols at').length → r = markR (toF cells cols at' < (cells.length : Int)) (markL (fromF cols at') (part cells cols at')) → ¬ ((if at' = (cells.length : Int) then (cells.length : Int) + 1 else (cells.length : Int)) ≤ cols) →
      m57 r (fun y => req (inR IntKind.i64 (at' - fromF cols at')) (req (decide ((0 : Nat) + List.length y ≤ List.length y)) (K (List.take (List.length y) y) (at' - fromF cols at')))) := fun r hl hr hn => by
    refine v57 (by omega) ?_
    rw [i8, req_t, len_ok, req_t, List.take_length]
    unfold acrossF at h
    rw [if_neg hn] at h
    rw [hr]
    exact h
  have eP : lone (List.take (Int.toNat (toF cells cols at') - Int.toNat (fromF cols at')) (List.drop (Int.toNat (fromF cols at')) cells)) = part cells cols at' := rfl
  have hPart : (List.take (Int.toNat (toF cells cols at') - Int.toNat (fromF cols at')) (List.drop (Int.toNat (fromF cols at')) cells)).length ≤ 100000 := by rw [List.length_take, List.length_drop]; omega
  unfold m38
  simp only [eq_self, if_true, Bool.false_eq_true, if_false, eF, eT]
  by_cases hq : at' = (cells.length : Int)
  · rw [decide_eq_true hq, br_t, i9, req_t]
    by_cases hm : (cells.length : Int) + 1 ≤ cols
    · rw [decide_eq_true hm, br_t]
      unfold acrossF at h
      rw [if_pos (by rw [if_pos hq]; exact hm)] at h
      exact h
    · rw [decide_eq_false hm, br_f]
      have hn : ¬ ((if at' = (cells.length : Int) then (cells.length : Int) + 1 else (cells.length : Int)) ≤ cols) := by rw [if_pos hq]; exact hm
      refine req_mk i1 (req_mk i2 (req_mk i3 (req_mk i4 (req_mk i5 (req_mk i6 (req_mk i7 (v57 hPart ?_)))))))
      have fin' := fun r hl hr => fin r hl hr hn
      rw [eP]
      generalize hp : part cells cols at' = p at hP hP0 fin' ⊢
      have g1 : 0 < p.length → inR .i64 ((p.length : Int) - 1) = true := fun _ => in64 (by omega) (by omega)
      have g2 : 0 < p.length → (decide ((0 : Int) ≤ (p.length : Int) - 1) && decide ((p.length : Int) - 1 < (p.length : Int))) = true := fun _ => by rw [Bool.and_eq_true, decide_eq_true_eq, decide_eq_true_eq]; omega
      by_cases a1 : 0 < fromF cols at'
      · refine brt (decide_eq_true a1) ?_
        by_cases a2 : 0 < p.length
        · have hL : markL (fromF cols at') p = p.set 0 ltC := by unfold markL; rw [if_pos ⟨a1, by omega⟩]
          have k1 : (decide ((0 : Int) ≤ (0 : Int)) && decide ((0 : Int) < (p.length : Int))) = true := by rw [Bool.and_eq_true, decide_eq_true_eq, decide_eq_true_eq]; omega
          refine brt (decide_eq_true (show (0 : Int) < (p.length : Int) by omega)) (req_mk k1 (req_mk (decide_eq_true a2) ?_))
          by_cases a3 : toF cells cols at' < (cells.length : Int)
          · refine brt (decide_eq_true a3) ?_
            rw [rq (g1 a2), rq (g2 a2)]
            refine req_mk (by rw [decide_eq_true_eq, List.length_set]; omega) (req_mk (by rw [decide_eq_true_eq, List.length_set, List.length_set]; omega) ?_)
            rw [List.take_of_length_le (by rw [List.length_set, List.length_set]; exact Nat.le_refl _), Nat.zero_add]
            refine fin' _ (by rw [List.length_set, List.length_set]) ?_
            unfold markR
            rw [if_pos a3, hL, List.length_set]
            all_goals rfl
          · refine brf (decide_eq_false a3) (req_mk (by rw [decide_eq_true_eq, List.length_set]; omega) ?_)
            rw [List.take_of_length_le (by rw [List.length_set]; exact Nat.le_refl _)]
            refine fin' _ (by rw [List.length_set]) ?_
            unfold markR
            rw [if_neg a3, hL]
            all_goals rfl
        · have hL : markL (fromF cols at') p = p := by unfold markL; rw [if_neg (by omega)]
          have a3 : ¬ toF cells cols at' < (cells.length : Int) := fun h => a2 (hP0 h)
          refine brf (decide_eq_false (show ¬ (0 : Int) < (p.length : Int) by omega)) (brf (decide_eq_false a3) (req_mk (len_ok _) ?_))
          rw [List.take_length]
          refine fin' _ rfl ?_
          unfold markR
          rw [if_neg a3, hL]
      · have hL : markL (fromF cols at') p = p := by unfold markL; rw [if_neg (by omega)]
        refine brf (decide_eq_false a1) ?_
        by_cases a3 : toF cells cols at' < (cells.length : Int)
        · have a2 := hP0 a3
          refine brt (decide_eq_true a3) ?_
          rw [rq (g1 a2), rq (g2 a2)]
          refine req_mk (by rw [decide_eq_true_eq]; omega) (req_mk (by rw [decide_eq_true_eq, List.length_set]; omega) ?_)
          rw [List.take_of_length_le (by rw [List.length_set]; exact Nat.le_refl _), Nat.zero_add]
          refine fin' _ (by rw [List.length_set]) ?_
          unfold markR
          rw [if_pos a3, hL]
          all_goals rfl
        · refine brf (decide_eq_false a3) (req_mk (len_ok _) ?_)
          rw [List.take_length]
          refine fin' _ rfl ?_
          unfold markR
          rw [if_neg a3, hL]
  · rw [decide_eq_false hq, br_f]
    by_cases hm : (cells.length : Int) ≤ cols
    · rw [decide_eq_true hm, br_t]
      unfold acrossF at h
      rw [if_pos (by rw [if_neg hq]; exact hm)] at h
      exact h
    · rw [decide_eq_false hm, br_f]
      have hn : ¬ ((if at' = (cells.length : Int) then (cells.length : Int) + 1 else (cells.length : Int)) ≤ cols) := by rw [if_neg hq]; exact hm
      refine req_mk i1 (req_mk i2 (req_mk i3 (req_mk i4 (req_mk i5 (req_mk i6 (req_mk i7 (v57 hPart ?_)))))))
      have fin' := fun r hl hr => fin r hl hr hn
      rw [eP]
      generalize hp : part cells cols at' = p at hP hP0 fin' ⊢
      have g1 : 0 < p.length → inR .i64 ((p.length : Int) - 1) = true := fun _ => in64 (by omega) (by omega)
      have g2 : 0 < p.length → (decide ((0 : Int) ≤ (p.length : Int) - 1) && decide ((p.length : Int) - 1 < (p.length : Int))) = true := fun _ => by rw [Bool.and_eq_true, decide_eq_true_eq, decide_eq_true_eq]; omega
      by_cases a1 : 0 < fromF cols at'
      · refine brt (decide_eq_true a1) ?_
        by_cases a2 : 0 < p.length
        · have hL : markL (fromF cols at') p = p.set 0 ltC := by unfold markL; rw [if_pos ⟨a1, by omega⟩]
          have k1 : (decide ((0 : Int) ≤ (0 : Int)) && decide ((0 : Int) < (p.length : Int))) = true := by rw [Bool.and_eq_true, decide_eq_true_eq, decide_eq_true_eq]; omega
          refine brt (decide_eq_true (show (0 : Int) < (p.length : Int) by omega)) (req_mk k1 (req_mk (decide_eq_true a2) ?_))
          by_cases a3 : toF cells cols at' < (cells.length : Int)
          · refine brt (decide_eq_true a3) ?_
            rw [rq (g1 a2), rq (g2 a2)]
            refine req_mk (by rw [decide_eq_true_eq, List.length_set]; omega) (req_mk (by rw [decide_eq_true_eq, List.length_set, List.length_set]; omega) ?_)
            rw [List.take_of_length_le (by rw [List.length_set, List.length_set]; exact Nat.le_refl _), Nat.zero_add]
            refine fin' _ (by rw [List.length_set, List.length_set]) ?_
            unfold markR
            rw [if_pos a3, hL, List.length_set]
            all_goals rfl
          · refine brf (decide_eq_false a3) (req_mk (by rw [decide_eq_true_eq, List.length_set]; omega) ?_)
            rw [List.take_of_length_le (by rw [List.length_set]; exact Nat.le_refl _)]
            refine fin' _ (by rw [List.length_set]) ?_
            unfold markR
            rw [if_neg a3, hL]
            all_goals rfl
        · have hL : markL (fromF cols at') p = p := by unfold markL; rw [if_neg (by omega)]
          have a3 : ¬ toF cells cols at' < (cells.length : Int) := fun h => a2 (hP0 h)
          refine brf (decide_eq_false (show ¬ (0 : Int) < (p.length : Int) by omega)) (brf (decide_eq_false a3) (req_mk (len_ok _) ?_))
          rw [List.take_length]
          refine fin' _ rfl ?_
          unfold markR
          rw [if_neg a3, hL]
      · have hL : markL (fromF cols at') p = p := by unfold markL; rw [if_neg (by omega)]
        refine brf (decide_eq_false a1) ?_
        by_cases a3 : toF cells cols at' < (cells.length : Int)
        · have a2 := hP0 a3
          refine brt (decide_eq_true a3) ?_
          rw [rq (g1 a2), rq (g2 a2)]
          refine req_mk (by rw [decide_eq_true_eq]; omega) (req_mk (by rw [decide_eq_true_eq, List.length_set]; omega) ?_)
          rw [List.take_of_length_le (by rw [List.length_set]; exact Nat.le_refl _), Nat.zero_add]
          refine fin' _ (by rw [List.length_set]) ?_
          unfold markR
          rw [if_pos a3, hL]
          all_goals rfl
        · refine brf (decide_eq_false a3) (req_mk (len_ok _) ?_)
          rw [List.take_length]
          refine fin' _ rfl ?_
          unfold markR
          rw [if_neg a3, hL]
end Go.Proofs.YthegkipclogoeaaDoor

set_option linter.unusedVariables false
set_option linter.unusedSimpArgs false
set_option maxRecDepth 100000
namespace Go.Proofs.YthegkipclogoeaaDoor
open Go.AM Go.LTxt Go.LMem Go.RowKit
/-! ### The prompt's parts -/
def splitF : Nat → List Dat → List Dat → List Dat × List Dat
  | 0, acc, s => (acc, s)
  | k + 1, acc, s => match firstOf 10 s with
    | none => (acc, s)
    | some i => splitF k (acc ++ [.list (cells (s.take i))]) (s.drop (i + 1))
theorem vl36 {c : C24} {E0 : C24 → List Dat → List Dat → Prop} : ∀ (k : Nat) (acc s : List Dat), s.length < k → s.length ≤ 2000 → acc.length + k ≤ 5000 → E0 c (splitF k acc s).1 (splitF k acc s).2 → ∃ fu, l36_3 fu c acc s E0
  | 0, acc, s, hk, hb, ha, h => by omega
  | k + 1, acc, s, hk, hb, ha, h => by
    simp only [splitF] at h
    have hbig := bigL_eq
    cases hf : firstOf 10 s with
    | none =>
      rw [hf] at h
      refine ⟨1, ?_⟩
      unfold l36_3
      refine v53 (by omega) ?_
      rw [hf]
      exact h
    | some i =>
      rw [hf] at h
      have hi := firstOf_lt hf
      obtain ⟨fu, hfu⟩ := vl36 k (acc ++ [.list (cells (s.take i))]) (s.drop (i + 1)) (by rw [List.length_drop]; omega) (by rw [List.length_drop]; omega) (by simp only [List.length_append, List.length_singleton]; omega) h
      refine ⟨fu + 1, ?_⟩
      unfold l36_3
      refine v53 (by omega) ?_
      rw [hf]
      have e0 : ofOpt 0 (some i) = (i : Int) := by simp [ofOpt]
      rw [e0]
      refine brf (decide_eq_false (by omega)) (req_mk (by rw [Bool.and_eq_true, Bool.and_eq_true, decide_eq_true_eq, decide_eq_true_eq, decide_eq_true_eq]; omega) ?_)
      have e1 : Int.toNat (i : Int) - 0 = i := by omega
      rw [e1]
      refine v16 (by rw [List.length_take]; omega) (req_mk (len_ok _) (req_mk (app_ok (by omega)) ?_))
      rw [rq (in64 (n := (i : Int) + 1) (by omega) (by omega))]
      refine req_mk (by rw [Bool.and_eq_true, Bool.and_eq_true, decide_eq_true_eq, decide_eq_true_eq, decide_eq_true_eq]; omega) ⟨rfl, ?_⟩
      have e2 : Int.toNat ((i : Int) + 1) = i + 1 := by omega
      have e3 : List.take (s.length - (i + 1)) (List.drop (i + 1) s) = List.drop (i + 1) s := List.take_of_length_le (by rw [List.length_drop]; exact Nat.le_refl _)
      rw [e2, dapp_full, List.take_length, e3]
      exact hfu
/-- does a rune take no place of its own? -/
def joins (r : Int) : Bool := if width r = 0 then (if ctl r = true then false else !strEq (Utf8.encode r) badT) else false
theorem v54 {r : Int} {K : Bool → Prop} (h : K (joins r)) : m54 r K := by
  unfold m54
  unfold joins at h
  refine v13 ?_
  by_cases h0 : width r = 0
  · rw [if_pos h0] at h
    refine brt (decide_eq_true h0) (v17 ?_)
    by_cases h1 : ctl r = true
    · rw [if_pos h1] at h
      exact brf (by rw [h1]; rfl) h
    · rw [if_neg h1] at h
      exact brt (by rw [eq_false_of_ne_true h1]; rfl) h
  · rw [if_neg h0] at h
    exact brf (decide_eq_false h0) h
def back (all : List Dat) : Nat → Nat
  | 0 => 0
  | k + 1 => if joins (all.getD (k + 1) default).toInt = true then back all k else k + 1
theorem back_le (all : List Dat) : ∀ k, back all k ≤ k
  | 0 => Nat.le_refl _
  | k + 1 => by
    simp only [back]
    split
    · exact Nat.le_succ_of_le (back_le all k)
    · exact Nat.le_refl _
theorem vl36b {l l2 all : List Dat} {E2 : List Dat → List Dat → List Dat → Int → Prop} (hb : all.length ≤ 100000) : ∀ (k : Nat), k < all.length → E2 l l2 all ((back all k : Nat) : Int) → ∃ fu, l36_12 fu l l2 all (k : Int) E2
  | 0, hk, h => by
    refine ⟨1, ?_⟩
    unfold l36_12
    exact brf (decide_eq_false (by omega)) h
  | k + 1, hk, h => by
    simp only [back] at h
    have q1 : (decide ((0 : Int) ≤ ((k + 1 : Nat) : Int)) && decide (((k + 1 : Nat) : Int) < (all.length : Int))) = true := by rw [Bool.and_eq_true, decide_eq_true_eq, decide_eq_true_eq]; omega
    have q2 : decide (Int.toNat ((k + 1 : Nat) : Int) < all.length) = true := by rw [decide_eq_true_eq]; omega
    have e : Int.toNat ((k + 1 : Nat) : Int) = k + 1 := by omega
    by_cases hj : joins (all.getD (k + 1) default).toInt = true
    · rw [if_pos hj] at h
      obtain ⟨fu, hfu⟩ := vl36b hb k (by omega) h
      refine ⟨fu + 1, ?_⟩
      unfold l36_12
      refine brt (decide_eq_true (by omega)) (req_mk q1 (req_mk q2 (v54 (brt (by rw [e]; exact hj) ?_))))
      rw [rq (in64 (n := ((k + 1 : Nat) : Int) - 1) (by omega) (by omega)), show ((k + 1 : Nat) : Int) - 1 = (k : Int) by omega]
      exact ⟨rfl, rfl, hfu⟩
    · rw [if_neg hj] at h
      refine ⟨1, ?_⟩
      unfold l36_12
      exact brt (decide_eq_true (by omega)) (req_mk q1 (req_mk q2 (v54 (brf (by rw [e]; exact eq_false_of_ne_true hj) h))))
theorem splitF_len : ∀ (k : Nat) (acc s : List Dat), (splitF k acc s).2.length ≤ s.length ∧ (splitF k acc s).1.length ≤ acc.length + s.length
  | 0, acc, s => by simp [splitF]
  | k + 1, acc, s => by
    simp only [splitF]
    cases hf : firstOf 10 s with
    | none => simp
    | some i =>
      have hi := firstOf_lt hf
      have := splitF_len k (acc ++ [.list (cells (s.take i))]) (s.drop (i + 1))
      simp only [List.length_drop, List.length_append, List.length_singleton] at this ⊢
      omega
/-- the parts that end rows -/
def HeadsOK (l : List Dat) : Prop := ∀ h ∈ l, ∃ x, h = .list (cells x) ∧ x.length ≤ 2000
theorem splitF_ok : ∀ (k : Nat) (acc s : List Dat), s.length ≤ 2000 → HeadsOK acc → HeadsOK (splitF k acc s).1
  | 0, acc, s, hs, h => h
  | k + 1, acc, s, hs, h => by
    simp only [splitF]
    cases hf : firstOf 10 s with
    | none => exact h
    | some i =>
      refine splitF_ok k _ _ (by rw [List.length_drop]; omega) fun x hx => ?_
      rcases List.mem_append.1 hx with hx | hx
      · exact h x hx
      · rw [List.mem_singleton] at hx
        exact ⟨_, hx, by rw [List.length_take]; omega⟩
def split (s : List Dat) : List Dat × List Dat := splitF (s.length + 1) [] s
/-- the cells' number ahead of the cursor -/
def curF (all : List Dat) (k : Nat) : Nat := if all.length ≤ k then (cells all).length else (cells (all.take (back all k))).length
theorem v36 {s s2 : List Dat} {s3 s4 s5 : Int} {s6 : Bool} (h1 : s.length ≤ 1024) (h2 : s2.length ≤ 1100) (h3 : 0 ≤ s3) (h4 : s3 ≤ (s2.length : Int)) {K : List Dat → List Dat → Int → Prop}
    (h : K (split (seen false s)).1 (cells ((split (seen false s)).2 ++ s2)) ((curF ((split (seen false s)).2 ++ s2) ((split (seen false s)).2.length + s3.toNat) : Nat) : Int)) : m36 s s2 s3 s4 s5 s6 K := by
  have hbig := bigL_eq
  have hsl := seen_len s false
  unfold m36
  refine v31 (by omega) (req_mk (len_ok _) ?_)
  rw [List.take_length]
  have hsp := splitF_len ((seen false s).length + 1) [] (seen false s)
  obtain ⟨n, rfl⟩ := Int.eq_ofNat_of_zero_le h3
  rw [Int.toNat_natCast] at h
  simp only [List.length_nil] at hsp
  refine (fun (hfu : ∃ fu, l36_3 fu _ _ _ _) => hfu.elim fun fu hfu => ⟨fu, rfl, hfu⟩) (vl36 ((seen false s).length + 1) [] (seen false s) (by omega) (by omega) (by simp; omega) ?_)
  change K (split (seen false s)).1 _ _ at h
  rw [show splitF ((seen false s).length + 1) [] (seen false s) = split (seen false s) from rfl] at hsp ⊢
  generalize split (seen false s) = p at h hsp ⊢
  refine v18 (by omega) (req_mk (app_ok (by show (p.2.length + s2.length) * 4 ≤ _; omega)) ?_)
  show req (inR IntKind.i64 ((p.2.length : Int) + (n : Int))) _
  rw [rq (in64 (n := (p.2.length : Int) + (n : Int)) (by omega) (by omega))]
  refine req_mk (len_ok _) ⟨rfl, ?_⟩
  rw [List.take_length, dapp_full]
  show p36_r9 p.1 (p.2 ++ s2) ((p.2.length : Int) + (n : Int)) _
  unfold p36_r9
  have hall : (p.2 ++ s2).length = p.2.length + s2.length := List.length_append
  refine v16 (by omega) ?_
  unfold curF at h
  by_cases hc : (p.2 ++ s2).length ≤ p.2.length + n
  · rw [if_pos hc] at h
    exact brt (decide_eq_true (by omega)) h
  · rw [if_neg hc] at h
    refine brf (decide_eq_false (by omega)) ?_
    rw [show (p.2.length : Int) + (n : Int) = ((p.2.length + n : Nat) : Int) by omega]
    refine (fun (hfu : ∃ fu, l36_12 fu _ _ _ _ _) => hfu.elim fun fu hfu => ⟨fu, rfl, rfl, hfu⟩) (vl36b (by omega) (p.2.length + n) (by omega) ?_)
    have hb := back_le (p.2 ++ s2) (p.2.length + n)
    refine req_mk (by rw [Bool.and_eq_true, Bool.and_eq_true, decide_eq_true_eq, decide_eq_true_eq, decide_eq_true_eq]; omega) (v16 (by rw [List.length_take]; omega) ?_)
    rw [Nat.sub_zero, Int.toNat_natCast]
    exact h
/-! ### All rows -/
def rowsOf (x : (List Dat × List Dat) × C27) : List Dat := x.1.1 ++ [.list x.1.2]
def outF (cols : Int) (acc : List Dat) (heads : List Dat) : List Dat := heads.foldl (fun acc h => acc ++ rowsOf (cut h.toList cols (-1))) acc
theorem cut_rows_len (l : List Dat) (cols cursor : Int) : (cut l cols cursor).1.1.length ≤ l.length + 1 ∧ (cut l cols cursor).1.2.length ≤ 2 * l.length + 1 := by
  have h1 := cutF_len (cols := cols) (cursor := cursor) l 0 ([], []) ⟨0, 0⟩ (by simp) (by simp)
  unfold cut cutEnd
  split
  · have h2 := prep_len cols 1 (cutF cols cursor 0 ([], []) ⟨0, 0⟩ l).1
    show (prep cols 1 (cutF cols cursor 0 ([], []) ⟨0, 0⟩ l).1).1.length ≤ _ ∧ (prep cols 1 (cutF cols cursor 0 ([], []) ⟨0, 0⟩ l).1).2.length ≤ _
    omega
  · omega
theorem vl14 {c : C24} {c2 : C27} {l xs : List Dat} {at' : Int} (h0 : 0 ≤ c.cols) (h1 : c.cols ≤ 1000) (hok : HeadsOK xs) (hb : xs.length ≤ 2000) {E0 : C24 → C27 → List Dat → List Dat → Int → Prop} : ∀ (rest pre acc : List Dat), xs = pre ++ rest → acc.length ≤ 20000 * pre.length → E0 c c2 l (outF c.cols acc rest) at' → ∃ fu, l14_7 fu c c2 l acc xs at' (xs.length : Int) (pre.length : Int) E0
  | [], pre, acc, hx, ha, h => by
    subst hx
    refine ⟨1, ?_⟩
    unfold l14_7
    rw [ixe, br_f]
    exact h
  | d :: rest, pre, acc, hx, ha, h => by
    subst hx
    have hB : (pre ++ d :: rest).length ≤ bigL := by rw [bigL_eq]; omega
    have hpl : pre.length < 2000 := by simp only [List.length_append, List.length_cons] at hb; omega
    obtain ⟨x, hd, hxl⟩ := hok d (by simp)
    have hcl := cells_len x
    have hcr := cut_rows_len (cells x) c.cols (-1)
    have hdl : d.toList = cells x := by rw [hd]; rfl
    have hrl : (rowsOf (cut d.toList c.cols (-1))).length ≤ 20000 := by
      unfold rowsOf
      rw [hdl, List.length_append, List.length_singleton]
      omega
    obtain ⟨fu, hfu⟩ := vl14 h0 h1 hok hb rest (pre ++ [d]) (acc ++ rowsOf (cut d.toList c.cols (-1))) (snoc2 pre d rest) (by simp only [List.length_append, List.length_singleton] at hrl ⊢; omega) h
    refine ⟨fu + 1, ?_⟩
    rw [← snoc1 pre d] at hfu
    unfold l14_7
    rw [ixl, br_t, ix1, req_t, ix3, req_t, gd0]
    refine v37 (by rw [hdl]; omega) h0 h1 (req_mk (len_ok _) ?_)
    rw [List.take_length]
    have e1 : (List.length (cut d.toList c.cols (-1)).1.1 + (1 : Nat)) = (rowsOf (cut d.toList c.cols (-1))).length := by unfold rowsOf; rw [List.length_append, List.length_singleton]
    change req (decide ((0 : Nat) + (List.length (cut d.toList c.cols (-1)).1.1 + (1 : Nat)) ≤ List.length (rowsOf (cut d.toList c.cols (-1))))) (req (appOK acc 0 acc.length (List.length (List.take (List.length (cut d.toList c.cols (-1)).1.1 + (1 : Nat)) (rowsOf (cut d.toList c.cols (-1))))) 24) (req (inR IntKind.i64 ((pre.length : Int) + (1 : Int))) (_ ∧ _ ∧ _ ∧ l14_7 fu c c2 l (dapp acc 0 acc.length (List.take (List.length (cut d.toList c.cols (-1)).1.1 + (1 : Nat)) (rowsOf (cut d.toList c.cols (-1))))) _ _ _ _ _)))
    rw [e1, List.take_length]
    refine req_mk (len_ok _) (req_mk (app_ok (by omega)) ?_)
    rw [rq (pre_in hB)]
    refine ⟨rfl, rfl, rfl, ?_⟩
    rw [dapp_full]
    exact hfu
def chk (s s2 : List Dat) (s3 s4 s5 : Int) : Int :=
  if s4 < 2 ∨ 60 < s4 ∨ s5 < 8 ∨ 200 < s5 then 230 else if 1024 < s.length ∨ 1024 < s2.length then 3 else if s3 < 0 ∨ (s2.length : Int) < s3 then 1 else 0
theorem v35 {s s2 : List Dat} {s3 s4 s5 : Int} {s6 : Bool} {K : Int → Prop} (h : K (chk s s2 s3 s4 s5)) : m35 s s2 s3 s4 s5 s6 K := by
  unfold m35
  unfold chk at h
  repeat' refine br_mk (fun a => ?_) (fun a => ?_)
  all_goals simp only [decide_eq_true_eq, decide_eq_false_iff_not] at *
  all_goals first
    | (rw [if_pos (by omega)] at h; exact h)
    | (rw [if_neg (by omega), if_pos (by omega)] at h; exact h)
    | (rw [if_neg (by omega), if_neg (by omega), if_pos (by omega)] at h; exact h)
    | (rw [if_neg (by omega), if_neg (by omega), if_neg (by omega)] at h; exact h)
theorem v12 {s s2 : List Dat} {s3 s4 s5 : Int} {s6 : Bool} {K : Int → Prop} (h : K (chk s s2 s3 s4 s5)) : m12 s s2 s3 s4 s5 s6 K := v35 (s6 := s6) h
theorem chk_ok {s s2 : List Dat} {s3 s4 s5 : Int} (h : chk s s2 s3 s4 s5 = 0) : (2 ≤ s4 ∧ s4 ≤ 60 ∧ 8 ≤ s5 ∧ s5 ≤ 200) ∧ s.length ≤ 1024 ∧ s2.length ≤ 1024 ∧ 0 ≤ s3 ∧ s3 ≤ (s2.length : Int) := by
  unfold chk at h
  split at h
  · omega
  · split at h
    · omega
    · split at h
      · omega
      · omega
/-- the rows ahead of the last part's, its cells, the cursor's -/
def outS (s : List Dat) (cols : Int) : List Dat := outF cols [] (split (seen false s)).1
def allS (s s2 : List Dat) : List Dat := (split (seen false s)).2 ++ s2
def curS (s s2 : List Dat) (s3 : Int) : Nat := curF (allS s s2) ((split (seen false s)).2.length + s3.toNat)
def rowsF (s s2 : List Dat) (s3 cols : Int) (across : Bool) : List Dat × Int × Int :=
  if across = true then (outS s cols ++ [.list (acrossF (cells (allS s s2)) cols (curS s s2 s3)).1], (outS s cols).length, (acrossF (cells (allS s s2)) cols (curS s s2 s3)).2)
  else (outS s cols ++ rowsOf (cut (cells (allS s s2)) cols (curS s s2 s3)), (cut (cells (allS s s2)) cols (curS s s2 s3)).2.row + (outS s cols).length, (cut (cells (allS s s2)) cols (curS s s2 s3)).2.col)
theorem curF_le (all : List Dat) (k : Nat) : curF all k ≤ (cells all).length := by
  unfold curF
  split
  · exact Nat.le_refl _
  · have := cells_mono (all.take (back all k)) (all.drop (back all k))
    rw [List.take_append_drop] at this
    exact this
theorem outF_len {cols : Int} : ∀ (heads acc : List Dat), HeadsOK heads → (outF cols acc heads).length ≤ acc.length + 20000 * heads.length
  | [], acc, _ => by simp [outF]
  | d :: r, acc, h => by
    obtain ⟨x, hd, hxl⟩ := h d (by simp)
    have hcl := cells_len x
    have hcr := cut_rows_len (cells x) cols (-1)
    have hdl : d.toList = cells x := by rw [hd]; rfl
    have := outF_len (cols := cols) r (acc ++ rowsOf (cut d.toList cols (-1))) (fun y hy => h y (by simp [hy]))
    have hr : (rowsOf (cut d.toList cols (-1))).length ≤ 20000 := by
      unfold rowsOf
      rw [hdl, List.length_append, List.length_singleton]
      omega
    simp only [outF, List.foldl_cons, List.length_append, List.length_cons] at this ⊢
    omega
theorem split_facts {s : List Dat} (h : s.length ≤ 1024) : HeadsOK (split (seen false s)).1 ∧ (split (seen false s)).1.length ≤ 1024 ∧ (split (seen false s)).2.length ≤ 1024 := by
  have hsl := seen_len s false
  have h1 := splitF_len ((seen false s).length + 1) [] (seen false s)
  have h2 := splitF_ok ((seen false s).length + 1) [] (seen false s) (by omega) (fun x hx => by simp at hx)
  simp only [List.length_nil] at h1
  unfold split
  exact ⟨h2, by omega, by omega⟩
theorem spot_range {cells : List Dat} {cols cursor : Int} : ∀ (rest : List Dat) (k : Nat) (s : List Dat × List Dat) (a : C27), s.1.length ≤ k → (0 ≤ a.row ∧ a.row ≤ k) → 0 ≤ (cutF cols cursor k s a rest).2.row ∧ (cutF cols cursor k s a rest).2.row ≤ k + rest.length
  | [], k, s, a, h1, h2 => by simpa [cutF] using h2
  | d :: rest, k, s, a, h1, h2 => by
    have hpp := prep_len cols (wd d) s
    have := spot_range (cells := cells) (cols := cols) (cursor := cursor) rest (k + 1) (layS cols s d) (if (k : Int) = cursor then spotOf (prep cols (wd d) s) else a) (by simp only [layS]; omega) (by
      split
      · simp only [spotOf]; omega
      · omega)
    simp only [cutF, List.length_cons]
    omega
theorem cut_row (l : List Dat) (cols cursor : Int) : 0 ≤ (cut l cols cursor).2.row ∧ (cut l cols cursor).2.row ≤ l.length + 1 := by
  have h := spot_range (cells := l) (cols := cols) (cursor := cursor) l 0 ([], []) ⟨0, 0⟩ (by simp) (by simp)
  have h1 := cutF_len (cols := cols) (cursor := cursor) l 0 ([], []) ⟨0, 0⟩ (by simp) (by simp)
  unfold cut cutEnd
  split
  · have h2 := prep_len cols 1 (cutF cols cursor 0 ([], []) ⟨0, 0⟩ l).1
    simp only [spotOf]
    omega
  · omega
theorem v14 {s s2 : List Dat} {s3 s4 s5 : Int} {s6 : Bool} {K : List Dat → Int → Int → Int → Prop} (h : if chk s s2 s3 s4 s5 = 0 then K (rowsF s s2 s3 s5 s6).1 (rowsF s s2 s3 s5 s6).2.1 (rowsF s s2 s3 s5 s6).2.2 0 else K [] 0 0 (chk s s2 s3 s4 s5)) : m14 s s2 s3 s4 s5 s6 K := by
  unfold m14
  refine v35 ?_
  by_cases hc : chk s s2 s3 s4 s5 = 0
  · rw [if_pos hc] at h
    obtain ⟨⟨g1, g2, g3, g4⟩, g5, g6, g7, g8⟩ := chk_ok hc
    refine brf (by rw [decide_eq_true hc]; rfl) ?_
    obtain ⟨hh, hl1, hl2⟩ := split_facts g5
    refine v36 g5 (by omega) g7 g8 ?_
    have hol := outF_len (cols := s5) _ [] hh
    change (outS s s5).length ≤ _ at hol
    simp only [List.length_nil] at hol
    change ∃ y4, _ ∧ _ ∧ _ ∧ l14_7 y4 _ _ (cells (allS s s2)) _ _ ((curS s s2 s3 : Nat) : Int) _ _ _
    have hal : (allS s s2).length ≤ 2048 := by unfold allS; rw [List.length_append]; omega
    have hcl := cells_len (allS s s2)
    have hcu : curS s s2 s3 ≤ (cells (allS s s2)).length := curF_le _ _
    refine (fun (hfu : ∃ fu, l14_7 fu _ _ _ _ _ _ _ ((([] : List Dat).length : Nat) : Int) _) => hfu.elim fun fu hfu => ⟨fu, rfl, rfl, rfl, hfu⟩) (vl14 (show (0 : Int) ≤ s5 by omega) (show s5 ≤ 1000 by omega) hh (by omega) (split (seen false s)).1 [] [] rfl (by simp) ?_)
    change br s6 (req _ (m38 (List.take _ (cells (allS s s2))) s5 _ (fun y10 y11 => req (appOK (outS s s5) 0 (outS s s5).length 1 24) (K (dapp (outS s s5) 0 (outS s s5).length [Dat.list y10]) ((outS s s5).length : Int) y11 0)))) (req _ (m37 (List.take _ (cells (allS s s2))) s5 _ (fun y12 y13 y14 y15 =>
          req (inR IntKind.i64 (y14 + ((outS s s5).length : Int))) (
          req (decide ((0 : Nat) + List.length y13 ≤ List.length y13)) (
          req (decide ((0 : Nat) + (List.length y12 + (1 : Nat)) ≤ List.length (y12 ++ [Dat.list (List.take (List.length y13) y13)]))) (
          req (appOK (outS s s5) (0 : Nat) (outS s s5).length (List.length (List.take (List.length y12 + (1 : Nat)) (y12 ++ [Dat.list (List.take (List.length y13) y13)]))) (24 : Nat)) (K (dapp (outS s s5) (0 : Nat) (outS s s5).length (List.take (List.length y12 + (1 : Nat)) (y12 ++ [Dat.list (List.take (List.length y13) y13)]))) (y14 + ((outS s s5).length : Int)) y15 (0 : Int))))))))
    rw [List.take_length]
    unfold rowsF at h
    cases s6
    · rw [if_neg (by decide)] at h
      refine brf rfl (req_mk (len_ok _) (v37 (by omega) (by omega) (by omega) ?_))
      have hcr := cut_row (cells (allS s s2)) s5 (curS s s2 s3)
      have hrl := cut_rows_len (cells (allS s s2)) s5 (curS s s2 s3)
      have e1 : (List.length (cut (cells (allS s s2)) s5 (curS s s2 s3)).1.1 + (1 : Nat)) = (rowsOf (cut (cells (allS s s2)) s5 (curS s s2 s3))).length := by unfold rowsOf; rw [List.length_append, List.length_singleton]
      refine req_mk (in64 (by omega) (by omega)) (req_mk (len_ok _) ?_)
      rw [List.take_length]
      change req (decide ((0 : Nat) + _ ≤ List.length (rowsOf (cut (cells (allS s s2)) s5 (curS s s2 s3))))) (req (appOK _ _ _ (List.length (List.take _ (rowsOf (cut (cells (allS s s2)) s5 (curS s s2 s3))))) _) (K (dapp _ _ _ (List.take _ (rowsOf (cut (cells (allS s s2)) s5 (curS s s2 s3))))) _ _ _))
      rw [e1, List.take_length]
      refine req_mk (len_ok _) (req_mk (app_ok (by omega)) ?_)
      rw [dapp_full]
      exact h
    · rw [if_pos rfl] at h
      refine brt rfl (req_mk (len_ok _) (v38 (by omega) g3 (by omega) (by omega) (by omega) (req_mk (app_ok (by omega)) ?_)))
      rw [dapp_full]
      exact h
  · rw [if_neg hc] at h
    exact brt (by rw [decide_eq_false hc]; rfl) h
end Go.Proofs.YthegkipclogoeaaDoor

set_option linter.unusedVariables false
set_option linter.unusedSimpArgs false
set_option maxRecDepth 100000
namespace Go.Proofs.YthegkipclogoeaaDoor
open Go.AM Go.LTxt Go.LMem Go.RowKit
/-! ### Blanks at the end -/
def isB (c : Dat) : Bool := strEq (tx c) spT && (decide (wd c = 1) && (decide (c.snd.snd.fst.toInt = 0) && true))
def trimN (row : List Dat) : Nat → Nat
  | 0 => 0
  | k + 1 => if isB (row.getD k default) = true then trimN row k else k + 1
def trim (row : List Dat) : List Dat := row.take (trimN row row.length)
theorem trimN_le (row : List Dat) : ∀ k, trimN row k ≤ k
  | 0 => Nat.le_refl _
  | k + 1 => by
    simp only [trimN]
    split
    · exact Nat.le_succ_of_le (trimN_le row k)
    · exact Nat.le_refl _
theorem vl21 {row : List Dat} (hb : row.length ≤ bigL) {E0 : List Dat → Int → Prop} : ∀ (k : Nat), k ≤ row.length → E0 row ((trimN row k : Nat) : Int) → ∃ fu, l21_2 fu row (k : Int) E0
  | 0, hk, h => by
    refine ⟨1, ?_⟩
    unfold l21_2
    exact brf (decide_eq_false (by omega)) h
  | k + 1, hk, h => by
    have hbig := bigL_eq
    simp only [trimN] at h
    have e : ((k + 1 : Nat) : Int) - 1 = (k : Int) := by omega
    have q1 : inR .i64 (k : Int) = true := in64 (by omega) (by omega)
    have q2 : (decide ((0 : Int) ≤ (k : Int)) && decide ((k : Int) < (row.length : Int))) = true := by rw [Bool.and_eq_true, decide_eq_true_eq, decide_eq_true_eq]; omega
    have q3 : decide (Int.toNat (k : Int) < row.length) = true := by rw [decide_eq_true_eq]; omega
    have e2 : Int.toNat (k : Int) = k := by omega
    have e2 : Int.toNat (k : Int) = k := by omega
    have q3 : decide (k < row.length) = true := decide_eq_true (by omega)
    by_cases hB : isB (row.getD k default) = true
    · rw [if_pos hB] at h
      obtain ⟨fu, hfu⟩ := vl21 hb k (by omega) h
      refine ⟨fu + 1, ?_⟩
      unfold l21_2
      refine brt (decide_eq_true (by omega)) ?_
      rw [e, rq q1, rq q2]
      simp only [m47, e2]
      have hc : (!(isB (row.getD k default))) = false := by rw [hB]; rfl
      have fin : req (inR IntKind.i64 (k : Int)) (l21_2 fu row (k : Int) E0) := by rw [rq q1]; exact hfu
      exact ⟨req_mk q3 (brf hc fin), req_mk q3 (brf hc fin), trivial⟩
    · rw [if_neg hB] at h
      refine ⟨1, ?_⟩
      unfold l21_2
      refine brt (decide_eq_true (by omega)) ?_
      rw [e, rq q1, rq q2]
      simp only [m47, e2]
      have hc : (!(isB (row.getD k default))) = true := by rw [eq_false_of_ne_true hB]; rfl
      exact ⟨req_mk q3 (brt hc h), req_mk q3 (brt hc h), trivial⟩
theorem v21 {row : List Dat} (hb : row.length ≤ bigL) {K : List Dat → Prop} (h : K (trim row)) : m21 row K := by
  unfold m21
  have hle := trimN_le row row.length
  refine vl21 hb row.length (Nat.le_refl _) ?_
  refine req_mk (by rw [Bool.and_eq_true, Bool.and_eq_true, Bool.and_eq_true, decide_eq_true_eq, decide_eq_true_eq, decide_eq_true_eq, decide_eq_true_eq]; omega) (v20 (by rw [List.length_take]; omega) ?_)
  rw [Nat.sub_zero, Int.toNat_natCast]
  exact h
theorem vl25 {row : List Dat} (hb : row.length ≤ bigL) {E0 : List Dat → Int → Prop} : ∀ (k : Nat), k ≤ row.length → E0 row ((trimN row k : Nat) : Int) → ∃ fu, l25_2 fu row (k : Int) E0
  | 0, hk, h => by
    refine ⟨1, ?_⟩
    unfold l25_2
    exact brf (decide_eq_false (by omega)) ⟨h, h, trivial⟩
  | k + 1, hk, h => by
    have hbig := bigL_eq
    simp only [trimN] at h
    have e : ((k + 1 : Nat) : Int) - 1 = (k : Int) := by omega
    have q1 : inR .i64 (k : Int) = true := in64 (by omega) (by omega)
    have q2 : (decide ((0 : Int) ≤ (k : Int)) && decide ((k : Int) < (row.length : Int))) = true := by rw [Bool.and_eq_true, decide_eq_true_eq, decide_eq_true_eq]; omega
    have e2 : Int.toNat (k : Int) = k := by omega
    have q3 : decide (k < row.length) = true := decide_eq_true (by omega)
    by_cases hB : isB (row.getD k default) = true
    · rw [if_pos hB] at h
      obtain ⟨fu, hfu⟩ := vl25 hb k (by omega) h
      refine ⟨fu + 1, ?_⟩
      unfold l25_2
      refine brt (decide_eq_true (by omega)) ?_
      rw [e, rq q1, rq q2]
      simp only [m48, e2]
      have hc : (isB (row.getD k default)) = true := hB
      have fin : req (inR IntKind.i64 (k : Int)) (l25_2 fu row (k : Int) E0) := by rw [rq q1]; exact hfu
      exact ⟨req_mk q3 (brt hc fin), req_mk q3 (brt hc fin), trivial⟩
    · rw [if_neg hB] at h
      refine ⟨1, ?_⟩
      unfold l25_2
      refine brt (decide_eq_true (by omega)) ?_
      rw [e, rq q1, rq q2]
      simp only [m48, e2]
      have hc : (isB (row.getD k default)) = false := eq_false_of_ne_true hB
      exact ⟨req_mk q3 (brf hc h), req_mk q3 (brf hc h), trivial⟩
theorem trim_len (row : List Dat) : (trim row).length ≤ row.length := by
  unfold trim
  rw [List.length_take]
  omega
theorem v25 {row : List Dat} (hb : row.length ≤ bigL) {K : List Dat → Prop} (h : K (trim row)) : m25 row K := by
  unfold m25
  have hle := trimN_le row row.length
  have hbig := bigL_eq
  have hl := trim_len row
  refine vl25 hb row.length (Nat.le_refl _) ?_
  refine req_mk (by rw [Bool.and_eq_true, Bool.and_eq_true, decide_eq_true_eq, decide_eq_true_eq, decide_eq_true_eq]; omega) ?_
  rw [Nat.sub_zero, Int.toNat_natCast]
  exact req_mk (by rw [decide_eq_true_eq]; show (trim row).length * 32 ≤ _; omega) h
/-! ### What a screen shows -/
def trimD (r : Dat) : Dat := .list (trim r.toList)
theorem vl10 {c : C29} {xs : List Dat} (hb : xs.length ≤ 100000000) (hr : ∀ r ∈ xs, r.toList.length ≤ bigL) {E0 : C29 → C29 → Prop} : ∀ (rest pre : List Dat) (c2 : C29), xs = pre ++ rest → c2.rows.length = pre.length → E0 c { c2 with rows := c2.rows ++ rest.map trimD } → ∃ fu, l10_7 fu c c2 xs (xs.length : Int) (pre.length : Int) E0
  | [], pre, c2, hx, hl, h => by
    subst hx
    refine ⟨1, ?_⟩
    unfold l10_7
    rw [ixe, br_f]
    simpa using h
  | d :: rest, pre, c2, hx, hl, h => by
    subst hx
    have hbig := bigL_eq
    have hB : (pre ++ d :: rest).length ≤ bigL := by omega
    have hpl : pre.length < 100000000 := by simp only [List.length_append, List.length_cons] at hb; omega
    obtain ⟨fu, hfu⟩ := vl10 hb hr rest (pre ++ [d]) { c2 with rows := c2.rows ++ [trimD d] } (snoc2 pre d rest) (by simp [hl]) (by simpa using h)
    refine ⟨fu + 1, ?_⟩
    rw [← snoc1 pre d] at hfu
    unfold l10_7
    rw [ixl, br_t, ix1, req_t, ix3, req_t, gd0]
    refine v21 (hr d (by simp)) (req_mk (len_ok _) (req_mk (app_ok (by omega)) ?_))
    rw [rq (pre_in hB)]
    refine req_mk (len_ok _) ⟨rfl, rfl, rfl, ?_⟩
    rw [dapp_full, dcut_full, List.take_length]
    exact hfu
theorem cut_row2 {cols cursor : Int} : ∀ (rest : List Dat) (k : Nat) (s : List Dat × List Dat) (a : C27), a.row ≤ s.1.length → (cutF cols cursor k s a rest).2.row ≤ (cutF cols cursor k s a rest).1.1.length
  | [], k, s, a, h => h
  | d :: rest, k, s, a, h => by
    simp only [cutF]
    refine cut_row2 rest (k + 1) _ _ ?_
    have hp : s.1.length ≤ (prep cols (wd d) s).1.length := by unfold prep; split <;> simp
    simp only [layS]
    split
    · simp only [spotOf]; omega
    · omega
theorem cut_row3 (l : List Dat) (cols cursor : Int) : (cut l cols cursor).2.row ≤ (cut l cols cursor).1.1.length := by
  have h := cut_row2 (cols := cols) (cursor := cursor) l 0 ([], []) ⟨0, 0⟩ (by simp)
  unfold cut cutEnd
  split
  · simp only [spotOf]; omega
  · exact h
theorem rowsF_row {s s2 : List Dat} {s3 cols : Int} {across : Bool} : 0 ≤ (rowsF s s2 s3 cols across).2.1 ∧ (rowsF s s2 s3 cols across).2.1 < (rowsF s s2 s3 cols across).1.length := by
  unfold rowsF
  split
  · simp only [List.length_append, List.length_singleton]; omega
  · have h1 := cut_row3 (cells (allS s s2)) cols (curS s s2 s3)
    have h2 := cut_row (cells (allS s s2)) cols (curS s s2 s3)
    simp only [List.length_append, rowsOf, List.length_singleton]
    omega
def aboveF (row s4 : Int) : Int := max (row - s4 + 1) 0
def lastF (n : Nat) (row s4 : Int) : Int := min (aboveF row s4 + s4) (n : Int)
def renderF (rows : List Dat) (row s4 : Int) : List Dat := ((rows.drop (aboveF row s4).toNat).take ((lastF rows.length row s4).toNat - (aboveF row s4).toNat)).map trimD
theorem rowsF_len {s s2 : List Dat} {s3 s4 cols : Int} {across : Bool} (hc : chk s s2 s3 s4 cols = 0) : (rowsF s s2 s3 cols across).1.length ≤ 30000000 := by
  obtain ⟨⟨g1, g2, g3, g4⟩, g5, g6, g7, g8⟩ := chk_ok hc
  obtain ⟨hh, hl1, hl2⟩ := split_facts g5
  have hol := outF_len (cols := cols) _ [] hh
  change (outS s cols).length ≤ _ at hol
  simp only [List.length_nil] at hol
  have hal : (allS s s2).length ≤ 2048 := by unfold allS; rw [List.length_append]; omega
  have hcl := cells_len (allS s s2)
  have hrl := cut_rows_len (cells (allS s s2)) cols (curS s s2 s3)
  unfold rowsF
  split
  · simp only [List.length_append, List.length_singleton]; omega
  · simp only [List.length_append, rowsOf, List.length_singleton]; omega
def RowsB (n : Nat) (l : List Dat) : Prop := ∀ r ∈ l, r.toList.length ≤ n
theorem v10 {s s2 : List Dat} {s3 s4 s5 : Int} {s6 : Bool} {K : List Dat → Int → Int → Int → Int → Prop} (hr : chk s s2 s3 s4 s5 = 0 → RowsB bigL (rowsF s s2 s3 s5 s6).1)
    (h : if chk s s2 s3 s4 s5 = 0 then K (renderF (rowsF s s2 s3 s5 s6).1 (rowsF s s2 s3 s5 s6).2.1 s4) ((rowsF s s2 s3 s5 s6).2.1 - aboveF (rowsF s s2 s3 s5 s6).2.1 s4) (rowsF s s2 s3 s5 s6).2.2 (aboveF (rowsF s s2 s3 s5 s6).2.1 s4) 0 else K [] 0 0 0 (chk s s2 s3 s4 s5)) : m10 s s2 s3 s4 s5 s6 K := by
  unfold m10
  refine v14 ?_
  by_cases hc : chk s s2 s3 s4 s5 = 0
  · rw [if_pos hc] at h ⊢
    obtain ⟨⟨g1, g2, g3, g4⟩, g5, g6, g7, g8⟩ := chk_ok hc
    have hrow := rowsF_row (s := s) (s2 := s2) (s3 := s3) (cols := s5) (across := s6)
    have hlen := rowsF_len (across := s6) hc
    have hr' := hr hc
    generalize rowsF s s2 s3 s5 s6 = p at h hrow hlen hr' ⊢
    have e1 : ∀ (a b : Int), (if true = true then a else b) = a := fun _ _ => if_pos rfl
    have e2 : ∀ (a b : Int), (if false = true then a else b) = b := fun _ _ => if_neg (by decide)
    have eA : max (p.2.1 - s4 + 1) 0 = aboveF p.2.1 s4 := rfl
    have eL : min (aboveF p.2.1 s4 + s4) (p.1.length : Int) = lastF p.1.length p.2.1 s4 := rfl
    refine brf (by simp) ?_
    simp only [if_true, Bool.false_eq_true, if_false, eA, eL]
    have hA : 0 ≤ aboveF p.2.1 s4 ∧ aboveF p.2.1 s4 ≤ p.2.1 + 1 := by unfold aboveF; omega
    have hL : aboveF p.2.1 s4 ≤ lastF p.1.length p.2.1 s4 ∧ lastF p.1.length p.2.1 s4 ≤ (p.1.length : Int) := by unfold lastF aboveF; omega
    rw [rq (in64 (n := p.2.1 - s4) (by omega) (by omega)), rq (in64 (n := p.2.1 - s4 + 1) (by omega) (by omega)), rq (in64 (n := p.2.1 - aboveF p.2.1 s4) (by omega) (by omega)), rq (in64 (n := aboveF p.2.1 s4 + s4) (by omega) (by omega))]
    refine req_mk (by rw [Bool.and_eq_true, Bool.and_eq_true, decide_eq_true_eq, decide_eq_true_eq, decide_eq_true_eq]; omega) (req_mk (by rw [decide_eq_true_eq]; omega) ?_)
    unfold renderF at h
    have hlx : ((Int.toNat (lastF p.1.length p.2.1 s4) - Int.toNat (aboveF p.2.1 s4) : Nat) : Int) = ((dcut p.1 ((0 : Nat) + Int.toNat (aboveF p.2.1 s4)) (Int.toNat (lastF p.1.length p.2.1 s4) - Int.toNat (aboveF p.2.1 s4))).length : Int) := by
      unfold dcut
      rw [List.length_take, List.length_drop]
      omega
    rw [hlx]
    refine (fun (hfu : ∃ fu, l10_7 fu _ _ _ _ ((([] : List Dat).length : Nat) : Int) _) => hfu.elim fun fu hfu => ⟨fu, trivial, trivial, trivial, hfu⟩) (vl10 (by rw [List.length_take, List.length_drop]; omega) (fun r hr => hr' r (List.mem_of_mem_drop (List.mem_of_mem_take hr))) _ [] _ rfl rfl ?_)
    rw [Nat.zero_add]
    exact h
  · rw [if_neg hc] at h ⊢
    exact brt (by rw [decide_eq_false hc]; rfl) h
end Go.Proofs.YthegkipclogoeaaDoor

set_option linter.unusedVariables false
set_option linter.unusedSimpArgs false
set_option maxRecDepth 100000
namespace Go.Proofs.YthegkipclogoeaaDoor
open Go.AM Go.LTxt Go.LMem Go.RowKit
theorem iy1 {n m : Nat} (h : n < m) : (decide ((0 : Int) ≤ (n : Int)) && decide ((n : Int) < (m : Int))) = true := by
  rw [Bool.and_eq_true, decide_eq_true_eq, decide_eq_true_eq]; omega
theorem iy2 {n m : Nat} (h : n < m) : decide (Int.toNat (n : Int) < m) = true := by rw [decide_eq_true_eq]; omega
theorem iy3 {n m : Nat} (h : n < m) : decide ((0 : Nat) + Int.toNat (n : Int) < m) = true := by rw [decide_eq_true_eq]; omega
/-! ### Equal rows -/
def eqC (a b : Dat) : Bool := strEq (tx a) (tx b) && (decide (wd a = wd b) && (decide (a.snd.snd.fst.toInt = b.snd.snd.fst.toInt) && true))
/-- all places from i on (k of them) -/
def allF (f : Dat → Dat → Bool) (s t : List Dat) : Nat → Nat → Bool
  | 0, _ => true
  | k + 1, i => f (s.getD i default) (t.getD i default) && allF f s t k (i + 1)
def eqF (f : Dat → Dat → Bool) (s t : List Dat) : Bool := decide (s.length = t.length) && allF f s t s.length 0
theorem vl15 {s t : List Dat} (hb : s.length ≤ bigL) (hl : s.length = t.length) {K : Bool → Prop} : ∀ (k i : Nat), i + k = s.length → K (allF eqC s t k i) → ∃ fu, l15_4 fu s t (s.length : Int) (i : Int) (K true) (fun y => K y)
  | 0, i, hi, h => by
    refine ⟨1, ?_⟩
    unfold l15_4
    exact brf (decide_eq_false (by omega)) h
  | k + 1, i, hi, h => by
    have hbig := bigL_eq
    have e2 : Int.toNat (i : Int) = i := by omega
    simp only [allF] at h
    by_cases hc : eqC (s.getD i default) (t.getD i default) = true
    · rw [hc, Bool.true_and] at h
      obtain ⟨fu, hfu⟩ := vl15 hb hl k (i + 1) (by omega) h
      refine ⟨fu + 1, ?_⟩
      unfold l15_4
      refine brt (decide_eq_true (by omega)) (req_mk (iy1 (by omega)) (req_mk (iy2 (by omega)) (req_mk (iy1 (by omega)) (req_mk (iy2 (by omega)) ?_))))
      rw [e2]
      refine brf (show (!(eqC (s.getD i default) (t.getD i default))) = false by rw [hc]; rfl) ?_
      rw [rq (in64 (n := (i : Int) + 1) (by omega) (by omega)), show (i : Int) + 1 = ((i + 1 : Nat) : Int) by omega]
      exact hfu
    · rw [eq_false_of_ne_true hc, Bool.false_and] at h
      refine ⟨1, ?_⟩
      unfold l15_4
      refine brt (decide_eq_true (by omega)) (req_mk (iy1 (by omega)) (req_mk (iy2 (by omega)) (req_mk (iy1 (by omega)) (req_mk (iy2 (by omega)) ?_))))
      rw [e2]
      exact brt (show (!(eqC (s.getD i default) (t.getD i default))) = true by rw [eq_false_of_ne_true hc]; rfl) h
theorem v15 {s t : List Dat} (hb : s.length ≤ bigL) {K : Bool → Prop} (h : K (eqF eqC s t)) : m15 s t K := by
  unfold m15
  unfold eqF at h
  by_cases hl : s.length = t.length
  · rw [decide_eq_true hl, Bool.true_and] at h
    exact brf (by rw [decide_eq_true (show (s.length : Int) = (t.length : Int) by omega)]; rfl) (vl15 hb hl s.length 0 (by omega) h)
  · rw [decide_eq_false hl, Bool.false_and] at h
    exact brt (by rw [decide_eq_false (show ¬ (s.length : Int) = (t.length : Int) by omega)]; rfl) h
def eqS (a b : Dat) : Bool := strEq a.toStr b.toStr
theorem vl28 {s t : List Dat} (hb : s.length ≤ bigL) (hl : s.length = t.length) {K : Bool → Prop} : ∀ (k i : Nat), i + k = s.length → K (allF eqS s t k i) → ∃ fu, l28_4 fu s t (s.length : Int) (i : Int) (K true) (fun y => K y)
  | 0, i, hi, h => by
    refine ⟨1, ?_⟩
    unfold l28_4
    exact brf (decide_eq_false (by omega)) h
  | k + 1, i, hi, h => by
    have hbig := bigL_eq
    have e2 : Int.toNat (i : Int) = i := by omega
    simp only [allF] at h
    by_cases hc : eqS (s.getD i default) (t.getD i default) = true
    · rw [hc, Bool.true_and] at h
      obtain ⟨fu, hfu⟩ := vl28 hb hl k (i + 1) (by omega) h
      refine ⟨fu + 1, ?_⟩
      unfold l28_4
      refine brt (decide_eq_true (by omega)) (req_mk (iy1 (by omega)) (req_mk (iy2 (by omega)) (req_mk (iy1 (by omega)) (req_mk (iy2 (by omega)) ?_))))
      rw [e2]
      refine brf (show (!(eqS (s.getD i default) (t.getD i default))) = false by rw [hc]; rfl) ?_
      rw [rq (in64 (n := (i : Int) + 1) (by omega) (by omega)), show (i : Int) + 1 = ((i + 1 : Nat) : Int) by omega]
      exact hfu
    · rw [eq_false_of_ne_true hc, Bool.false_and] at h
      refine ⟨1, ?_⟩
      unfold l28_4
      refine brt (decide_eq_true (by omega)) (req_mk (iy1 (by omega)) (req_mk (iy2 (by omega)) (req_mk (iy1 (by omega)) (req_mk (iy2 (by omega)) ?_))))
      rw [e2]
      exact brt (show (!(eqS (s.getD i default) (t.getD i default))) = true by rw [eq_false_of_ne_true hc]; rfl) h
theorem v28 {s t : List Dat} (hb : s.length ≤ bigL) {K : Bool → Prop} (h : K (eqF eqS s t)) : m28 s t K := by
  unfold m28
  unfold eqF at h
  by_cases hl : s.length = t.length
  · rw [decide_eq_true hl, Bool.true_and] at h
    exact brf (by rw [decide_eq_true (show (s.length : Int) = (t.length : Int) by omega)]; rfl) (vl28 hb hl s.length 0 (by omega) h)
  · rw [decide_eq_false hl, Bool.false_and] at h
    exact brt (by rw [decide_eq_false (show ¬ (s.length : Int) = (t.length : Int) by omega)]; rfl) h
theorem strEq_self (x : ByteArray) : strEq x x = true := by simp [strEq]
theorem eqC_self (c : Dat) : eqC c c = true := by simp [eqC, strEq_self]
theorem allF_self {f : Dat → Dat → Bool} (hf : ∀ c, f c c = true) (s : List Dat) : ∀ k i, allF f s s k i = true
  | 0, i => rfl
  | k + 1, i => by simp only [allF, hf, Bool.true_and]; exact allF_self hf s k (i + 1)
theorem eqF_self {f : Dat → Dat → Bool} (hf : ∀ c, f c c = true) (s : List Dat) : eqF f s s = true := by
  unfold eqF
  rw [decide_eq_true rfl, allF_self hf]
  rfl
/-! ### Texts -/
def catR (s : ByteArray) (r : List Dat) : ByteArray := r.foldl (fun s c => s ++ tx c) s
def sizeR (r : List Dat) : Nat := r.foldl (fun n c => n + (tx c).size) 0
def lastB (s : ByteArray) : Int := ((List.getD (Array.toList (ByteArray.data s)) (Int.toNat ((s.size : Int) - 1)) 0).toNat : Int)
def rtr : Nat → ByteArray → ByteArray
  | 0, s => s
  | k + 1, s => if lastB s = 32 then rtr k (subS s 0 (Int.toNat ((s.size : Int) - 1))) else s
theorem subS_size {s : ByteArray} {k : Nat} (h : k ≤ s.size) : (subS s 0 k).size = k := by
  unfold subS
  show (((s.data.toList.drop 0).take (k - 0)).toArray).size = k
  have : s.data.size = s.size := rfl
  simp
  omega
theorem vl66 {E0 : ByteArray → Prop} : ∀ (k : Nat) (s : ByteArray), s.size = k → k ≤ 1000000000000000000 → E0 (rtr k s) → ∃ fu, l66_1 fu s (32 : Int) E0
  | 0, s, hk, hb, h => by
    refine ⟨1, ?_⟩
    unfold l66_1
    exact brf (decide_eq_false (by omega)) h
  | k + 1, s, hk, hb, h => by
    have q1 : inR .i64 ((s.size : Int) - 1) = true := in64 (by omega) (by omega)
    have q2 : (decide ((0 : Int) ≤ (s.size : Int) - 1) && decide ((s.size : Int) - 1 < (s.size : Int))) = true := by rw [Bool.and_eq_true, decide_eq_true_eq, decide_eq_true_eq]; omega
    have q3 : (decide ((0 : Int) ≤ (0 : Int)) && decide ((0 : Int) ≤ (s.size : Int) - 1) && decide ((s.size : Int) - 1 ≤ (s.size : Int))) = true := by rw [Bool.and_eq_true, Bool.and_eq_true, decide_eq_true_eq, decide_eq_true_eq, decide_eq_true_eq]; omega
    simp only [rtr] at h
    by_cases hc : lastB s = 32
    · rw [if_pos hc] at h
      obtain ⟨fu, hfu⟩ := vl66 k (subS s 0 (Int.toNat ((s.size : Int) - 1))) (by rw [subS_size (by omega)]; omega) (by omega) h
      refine ⟨fu + 1, ?_⟩
      unfold l66_1
      refine brt (decide_eq_true (by omega)) ?_
      rw [rq q1, rq q2]
      refine brt (decide_eq_true hc) ?_
      rw [rq q1, rq q3]
      exact hfu
    · rw [if_neg hc] at h
      refine ⟨1, ?_⟩
      unfold l66_1
      refine brt (decide_eq_true (by omega)) ?_
      rw [rq q1, rq q2]
      exact brf (decide_eq_false hc) h
def textR (r : Dat) : Dat := .str (rtr (catR { data := #[] } r.toList).size (catR { data := #[] } r.toList))
/-- how many bytes the rows' texts have at most -/
def TextB (l : List Dat) : Prop := ∀ r ∈ l, r.toList.length ≤ bigL ∧ ∀ c ∈ r.toList, (tx c).size ≤ bigL
theorem vl29c {l xs xs2 : List Dat} {n n2 : Int} (hb : xs2.length ≤ bigL) (hc : ∀ c ∈ xs2, (tx c).size ≤ bigL) {E2 : List Dat → ByteArray → List Dat → Int → Int → Prop} : ∀ (rest pre : List Dat) (s : ByteArray), xs2 = pre ++ rest → s.size ≤ bigL * pre.length → E2 l (catR s rest) xs n n2 → ∃ fu, l29_7 fu l s xs n n2 xs2 (xs2.length : Int) (pre.length : Int) E2
  | [], pre, s, hx, hs, h => by
    subst hx
    refine ⟨1, ?_⟩
    unfold l29_7
    rw [ixe, br_f]
    exact h
  | d :: rest, pre, s, hx, hs, h => by
    subst hx
    have hbig := bigL_eq
    have hd := hc d (by simp)
    have hpl : pre.length < bigL := by simp only [List.length_append, List.length_cons] at hb; omega
    have hsz : s.size ≤ 1000000000000000000 := by rw [hbig] at hs hpl; omega
    obtain ⟨fu, hfu⟩ := vl29c hb hc rest (pre ++ [d]) (s ++ tx d) (snoc2 pre d rest) (by rw [ByteArray.size_append, List.length_append, List.length_singleton, Nat.mul_add]; omega) h
    refine ⟨fu + 1, ?_⟩
    rw [← snoc1 pre d] at hfu
    unfold l29_7
    rw [ixl, br_t, ix1, req_t, ix2, req_t, gd]
    refine req_mk (by rw [decide_eq_true_eq]; show s.size + (tx d).size ≤ _; omega) ?_
    rw [rq (pre_in hb)]
    exact ⟨rfl, hfu⟩
theorem catR_size : ∀ (r : List Dat) (s : ByteArray), (∀ c ∈ r, (tx c).size ≤ bigL) → (catR s r).size ≤ s.size + bigL * r.length
  | [], s, _ => by simp [catR]
  | d :: r, s, h => by
    have h1 := h d (by simp)
    have := catR_size r (s ++ tx d) (fun c hc => h c (by simp [hc]))
    simp only [catR, List.foldl_cons, ByteArray.size_append, List.length_cons, Nat.mul_add, Nat.mul_one] at this ⊢
    omega
theorem vl29 {xs : List Dat} (hb : xs.length ≤ bigL) (ht : TextB xs) {E0 : List Dat → Prop} : ∀ (rest pre acc : List Dat), xs = pre ++ rest → acc.length = pre.length → E0 (acc ++ rest.map textR) → ∃ fu, l29_3 fu acc xs (xs.length : Int) (pre.length : Int) E0
  | [], pre, acc, hx, ha, h => by
    subst hx
    refine ⟨1, ?_⟩
    unfold l29_3
    rw [ixe, br_f]
    simpa using h
  | d :: rest, pre, acc, hx, ha, h => by
    subst hx
    have hbig := bigL_eq
    obtain ⟨hd1, hd2⟩ := ht d (by simp)
    have hpl : pre.length < bigL := by simp only [List.length_append, List.length_cons] at hb; omega
    obtain ⟨fu, hfu⟩ := vl29 hb ht rest (pre ++ [d]) (acc ++ [textR d]) (snoc2 pre d rest) (by simp [ha]) (by simpa using h)
    refine ⟨fu + 1, ?_⟩
    rw [← snoc1 pre d] at hfu
    unfold l29_3
    rw [ixl, br_t, ix1, req_t, ix2, req_t, gd]
    have hcs := catR_size d.toList { data := #[] } hd2
    have hcs' : (catR { data := #[] } d.toList).size ≤ 1000000000000000000 := by
      have e0 : (ByteArray.mk #[]).size = 0 := rfl
      have : bigL * d.toList.length ≤ bigL * bigL := Nat.mul_le_mul_left _ hd1
      rw [hbig] at this hcs
      rw [e0] at hcs
      omega
    refine (fun (hf : ∃ fu2, l29_7 fu2 _ _ _ _ _ _ _ ((([] : List Dat).length : Nat) : Int) _) => hf.elim fun f2 hf => ⟨f2, rfl, hf⟩) (vl29c hd1 hd2 d.toList [] { data := #[] } rfl (Nat.zero_le _) ?_)
    have hap : appOK acc (0 : Nat) acc.length (1 : Nat) (16 : Nat) = true := app_ok (by omega)
    have done : ∀ t : ByteArray, textR d = .str t → req (appOK acc (0 : Nat) acc.length (1 : Nat) (16 : Nat)) (req (inR IntKind.i64 ((pre.length : Int) + (1 : Int))) (((List.length (dapp acc (0 : Nat) (List.length acc) [Dat.str t])) = List.length (dapp acc (0 : Nat) (List.length acc) [Dat.str t]) ∧ l29_3 fu (dapp acc (0 : Nat) (List.length acc) [Dat.str t]) (pre ++ d :: rest) ((pre ++ d :: rest).length : Int) ((pre.length : Int) + (1 : Int)) E0))) := fun t e => by
      refine req_mk hap ?_
      rw [rq (pre_in hb)]
      refine ⟨rfl, ?_⟩
      rw [dapp_full, ← e]
      exact hfu
    refine br_mk (fun he => ?_) (fun he => ?_)
    · refine Eq.mp ?_ (done (catR { data := #[] } d.toList) ?_)
      · rfl
      · have : (catR { data := #[] } d.toList).size = 0 := by
          have h2 : (catR { data := #[] } d.toList).data.toList = [] := by
            unfold strEq at he
            simpa using he
          show (catR { data := #[] } d.toList).data.size = 0
          rw [← Array.length_toList, h2]
          rfl
        unfold textR
        rw [this]
        rfl
    · unfold m66
      refine vl66 _ _ rfl hcs' ?_
      exact Eq.mp rfl (done _ rfl)
theorem v29 {f : List Dat} {f2 f3 f4 : Int} (hb : f.length ≤ bigL) (ht : TextB f) {K : List Dat → Prop} (h : K (f.map textR)) : m29 f f2 f3 f4 K := by
  unfold m29
  exact (fun (hf : ∃ fu2, l29_3 fu2 _ _ _ ((([] : List Dat).length : Nat) : Int) _) => hf.elim fun f2 hf => ⟨f2, rfl, hf⟩) (vl29 hb ht f [] [] rfl rfl (E0 := fun y1 => K y1) h)
/-! ### The answer that the document fixes -/
def cel (b : UInt8) : Dat := mk { data := #[b] } 1 0
theorem live_rows : rowsF [Dat.int (Int.ofNat (36 : Nat)), Dat.int (Int.ofNat (32 : Nat))] [Dat.int (Int.ofNat (97 : Nat)), Dat.int (Int.ofNat (98 : Nat))] 1 80 false = ([.list [cel 36, cel 32, cel 97, cel 98]], 0, 3) := by kernel_rfl
theorem live_shown : renderF [.list [cel 36, cel 32, cel 97, cel 98]] 0 24 = [.list [cel 36, cel 32, cel 97, cel 98]] := by kernel_rfl
theorem v11 {K : Bool → Prop} (h : K true) : m11 K := by
  unfold m11
  refine v10 (fun _ => ?_) ?_
  · rw [live_rows]
    intro r hr
    rw [List.mem_singleton] at hr
    subst hr
    decide
  · rw [live_rows, if_pos (by decide)]
    show br _ _ _
    rw [live_shown]
    refine brt (by decide) (brt (by decide) (req_mk (by decide) (v29 (by decide) (fun r hr => ?_) ?_)))
    · rw [List.take_length, List.mem_singleton] at hr
      subst hr
      refine ⟨by decide, fun c hc => ?_⟩
      have : c = cel 36 ∨ c = cel 32 ∨ c = cel 97 ∨ c = cel 98 := by simpa [Dat.toList] using hc
      rcases this with rfl | rfl | rfl | rfl <;> decide
    · refine req_mk (len_ok _) (v28 (by decide) ?_)
      refine brt (by kernel_rfl) ?_
      exact Eq.mp (congrArg K (by decide)) h
end Go.Proofs.YthegkipclogoeaaDoor

set_option linter.unusedVariables false
set_option linter.unusedSimpArgs false
set_option maxRecDepth 100000
namespace Go.Proofs.YthegkipclogoeaaDoor
open Go.AM Go.LTxt Go.LMem Go.RowKit
/-- cells in their order: of the width 1, or of 2 and of 0 behind -/
inductive Pat : List Dat → Prop
  | nil : Pat []
  | one {c : Dat} {r : List Dat} : wd c = 1 → Pat r → Pat (c :: r)
  | two {c d : Dat} {r : List Dat} : wd c = 2 → wd d = 0 → Pat r → Pat (c :: d :: r)
theorem Pat.app {l m : List Dat} (h : Pat l) (h2 : Pat m) : Pat (l ++ m) := by
  induction h with
  | nil => exact h2
  | one h1 _ ih => exact .one h1 ih
  | two h1 h3 _ ih => exact .two h1 h3 ih
theorem Pat.congr {l : List Dat} (h : Pat l) : ∀ {m : List Dat}, m.map wd = l.map wd → Pat m := by
  induction h with
  | nil => intro m hm; simp at hm; subst hm; exact .nil
  | one h1 _ ih =>
    intro m hm
    cases m with
    | nil => simp at hm
    | cons a m =>
      simp only [List.map_cons, List.cons.injEq] at hm
      exact .one (hm.1.trans h1) (ih hm.2)
  | two h1 h3 _ ih =>
    intro m hm
    match m, hm with
    | [], hm => simp at hm
    | [a], hm => simp at hm
    | a :: b :: m, hm =>
      simp only [List.map_cons, List.cons.injEq] at hm
      exact .two (hm.1.trans h1) (hm.2.1.trans h3) (ih hm.2.2)
theorem Pat.ones : ∀ {m : List Dat}, (∀ c ∈ m, wd c = 1) → Pat m
  | [], _ => .nil
  | c :: m, h => .one (h c (by simp)) (Pat.ones fun x hx => h x (by simp [hx]))
theorem cellS_pat {l : List Dat} (r : Int) (h : Pat l) : Pat (cellS l r) := by
  rcases cellS_cases l r with h1 | ⟨m, h1, _, _, h2 | ⟨h2, _⟩⟩
  · exact h.congr h1
  · rw [h1]; exact h.app (.ones h2)
  · rw [h1]
    refine h.app ?_
    exact (Pat.two (c := mk { data := #[] } 2 0) (d := mk { data := #[] } 0 0) rfl rfl .nil).congr (by rw [h2]; rfl)
theorem cellsF_pat : ∀ (l acc : List Dat), Pat acc → Pat (cellsF acc l)
  | [], acc, h => h
  | d :: l, acc, h => cellsF_pat l _ (cellS_pat _ h)
theorem cells_pat (l : List Dat) : Pat (cells l) := cellsF_pat l [] .nil
/-! ### Whole -/
theorem wa_app (l m : List Dat) (i : Nat) : wa (l ++ m) i = if i < l.length then wa l i else wa m (i - l.length) := by
  unfold wa
  simp only [List.getD_eq_getElem?_getD]
  split
  · rename_i h; rw [List.getElem?_append_left h]
  · rename_i h; rw [List.getElem?_append_right (by omega)]
theorem wa_one (c : Dat) : wa [c] 0 = wd c := rfl
theorem whole_nil : Whole [] := fun i h => by simp at h
theorem whole_app {l m : List Dat} (h : Whole l) (h2 : Whole m) : Whole (l ++ m) := fun i hi => by
  rw [List.length_append] at hi
  by_cases hl : i < l.length
  · have := h i hl
    unfold bad at this ⊢
    rw [wa_app, wa_app, wa_app, if_pos hl, List.length_append, if_pos (show i - 1 < l.length by omega)]
    by_cases h1 : i + 1 < l.length
    · rw [if_pos h1]; omega
    · rw [if_neg h1]; omega
  · have := h2 (i - l.length) (by omega)
    unfold bad at this ⊢
    rw [wa_app, wa_app, wa_app, if_neg hl, List.length_append, if_neg (show ¬ i + 1 < l.length by omega), show i + 1 - l.length = i - l.length + 1 by omega]
    by_cases h1 : i - 1 < l.length
    · rw [if_pos h1]
      have e : i - l.length = 0 ∨ i - l.length ≠ 0 := by omega
      by_cases h3 : i - l.length = 0
      · rw [h3] at this ⊢; omega
      · omega
    · rw [if_neg h1, show i - 1 - l.length = i - l.length - 1 by omega]
      omega
theorem whole_one {c : Dat} (h : wd c = 1) : Whole [c] := fun i hi => by
  have : i = 0 := by simpa using hi
  subst this
  unfold bad
  rw [wa_one]
  omega
theorem whole_two {c d : Dat} (h : wd c = 2) (h2 : wd d = 0) : Whole [c, d] := fun i hi => by
  have e0 : wa [c, d] 0 = 2 := h
  have e1 : wa [c, d] 1 = 0 := h2
  have : i = 0 ∨ i = 1 := by simp at hi; omega
  rcases this with rfl | rfl
  · unfold bad
    rw [e0]
    show ¬ ((_ ∧ ((2 : Nat) ≤ 0 + 1 ∨ wa [c, d] 1 ≠ 0)) ∨ _)
    rw [e1]
    omega
  · unfold bad
    rw [e1]
    show ¬ (_ ∨ (_ ∧ (_ ∨ wa [c, d] 0 ≠ 2)))
    rw [e0]
    omega
theorem Pat.whole {l : List Dat} (h : Pat l) : Whole l := by
  induction h with
  | nil => exact whole_nil
  | one h1 _ ih => exact whole_app (whole_one h1) ih
  | two h1 h2 _ ih => exact whole_app (whole_two h1 h2) ih
/-! ### Rows -/
structure RowOK (cols : Int) (l : List Dat) : Prop where
  wh : Whole l
  le : (l.length : Int) ≤ cols
def RowsOK (cols : Int) (ls : List Dat) : Prop := ∀ r ∈ ls, RowOK cols r.toList
theorem RowsOK.app {cols : Int} {a b : List Dat} (h : RowsOK cols a) (h2 : RowsOK cols b) : RowsOK cols (a ++ b) := fun r hr => (List.mem_append.1 hr).elim (h r) (h2 r)
theorem RowsOK.one {cols : Int} {l : List Dat} (h : RowOK cols l) : RowsOK cols [.list l] := fun r hr => by rw [List.mem_singleton] at hr; subst hr; exact h
structure Inv (cols : Int) (s : List Dat × List Dat) : Prop where
  rows : RowsOK cols s.1
  last : RowOK cols s.2
theorem prep_inv {cols w : Int} {s : List Dat × List Dat} (hc : 2 ≤ cols) (h : Inv cols s) : Inv cols (prep cols w s) ∧ ((prep cols w s).2.length : Int) < cols ∧ (w = 2 → ((prep cols w s).2.length : Int) ≤ cols - 2) := by
  have h1 : RowOK cols (prep1 cols w s.2) := by
    unfold prep1
    split
    · refine ⟨whole_app h.last.wh (whole_one rfl), ?_⟩
      rw [List.length_append, List.length_singleton]; omega
    · exact h.last
  have h2 : ((prep1 cols w s.2).length : Int) ≠ cols → w = 2 → ((prep1 cols w s.2).length : Int) ≤ cols - 2 := fun hn hw => by
    have hl := h.last.le
    unfold prep1 at hn ⊢
    by_cases hq : w = 2 ∧ (s.2.length : Int) = cols - 1
    · rw [if_pos hq, List.length_append, List.length_singleton] at hn; omega
    · rw [if_neg hq] at hn ⊢; omega
  have hl := h1.le
  unfold prep
  split
  · exact ⟨⟨h.rows.app (.one h1), whole_nil, by simp; omega⟩, by simp; omega, fun _ => by simp; omega⟩
  · rename_i hne
    exact ⟨⟨h.rows, h1⟩, by show ((prep1 cols w s.2).length : Int) < cols; omega, h2 hne⟩
theorem wd_cn (c : Dat) : wd (cn c) = wd c := rfl
theorem lay_inv {cols : Int} (hc : 2 ≤ cols) {l : List Dat} (hp : Pat l) : ∀ {s : List Dat × List Dat}, Inv cols s → Inv cols (l.foldl (layS cols) s) := by
  induction hp with
  | nil => intro s h; exact h
  | @one c r h1 _ ih =>
    intro s h
    simp only [List.foldl_cons]
    refine ih ?_
    obtain ⟨i1, i2, _⟩ := prep_inv (w := wd c) hc h
    refine ⟨i1.rows, whole_app i1.last.wh (whole_one (by rw [wd_cn]; exact h1)), ?_⟩
    simp only [layS, List.length_append, List.length_singleton]
    omega
  | @two c d r h1 h2 _ ih =>
    intro s h
    simp only [List.foldl_cons]
    refine ih ?_
    obtain ⟨i1, i2, i3⟩ := prep_inv (w := wd c) hc h
    have i3 := i3 h1
    have e : prep cols (wd d) (layS cols s c) = layS cols s c := by
      have hq : prep1 cols (wd d) (layS cols s c).2 = (layS cols s c).2 := by unfold prep1; rw [if_neg (by omega)]
      have hl : ¬ (((layS cols s c).2.length : Int) = cols) := by
        simp only [layS, List.length_append, List.length_singleton]; omega
      unfold prep
      rw [hq, if_neg hl]
    unfold layS
    rw [show (prep cols (wd c) s).1 = (layS cols s c).1 from rfl, show (prep cols (wd c) s).2 ++ [cn c] = (layS cols s c).2 from rfl, show ((layS cols s c).1, (layS cols s c).2) = layS cols s c from rfl, e]
    refine ⟨i1.rows, ?_, ?_⟩
    · show Whole (((prep cols (wd c) s).2 ++ [cn c]) ++ [cn d])
      rw [List.append_assoc]
      exact whole_app i1.last.wh (whole_two (by rw [wd_cn]; exact h1) (by rw [wd_cn]; exact h2))
    · show (((((prep cols (wd c) s).2 ++ [cn c]) ++ [cn d]).length : Nat) : Int) ≤ cols
      simp only [List.length_append, List.length_singleton]
      omega
theorem cutF_state {cols cursor : Int} : ∀ (l : List Dat) (k : Nat) (s : List Dat × List Dat) (a : C27), (cutF cols cursor k s a l).1 = l.foldl (layS cols) s
  | [], _, _, _ => rfl
  | d :: l, k, s, a => by simp only [cutF, List.foldl_cons]; exact cutF_state l _ _ _
theorem inv0 {cols : Int} (hc : 2 ≤ cols) : Inv cols ([], []) := ⟨fun r hr => by simp at hr, whole_nil, by simp; omega⟩
theorem cut_ok {cols : Int} (hc : 2 ≤ cols) {l : List Dat} (hp : Pat l) (cursor : Int) : RowsOK cols (rowsOf (cut l cols cursor)) := by
  have h := lay_inv hc hp (inv0 hc)
  unfold rowsOf cut cutEnd
  split
  · rw [cutF_state]
    have h2 := (prep_inv (w := 1) hc h).1
    exact h2.rows.app (.one h2.last)
  · rw [cutF_state]
    exact h.rows.app (.one h.last)
theorem prep_lt {cols w : Int} (hc : 2 ≤ cols) {s : List Dat × List Dat} (h : (s.2.length : Int) ≤ cols) : ((prep cols w s).2.length : Int) < cols := by
  have h1 : ((prep1 cols w s.2).length : Int) ≤ cols := by
    unfold prep1
    split
    · rw [List.length_append, List.length_singleton]; omega
    · exact h
  unfold prep
  split
  · simp; omega
  · show ((prep1 cols w s.2).length : Int) < cols
    omega
theorem cutF_col {cols cursor : Int} (hc : 2 ≤ cols) : ∀ (l : List Dat) (k : Nat) (s : List Dat × List Dat) (a : C27), (s.2.length : Int) ≤ cols → (0 ≤ a.col ∧ a.col < cols) → (0 ≤ (cutF cols cursor k s a l).2.col ∧ (cutF cols cursor k s a l).2.col < cols) ∧ ((cutF cols cursor k s a l).1.2.length : Int) ≤ cols
  | [], _, _, _, h, ha => ⟨ha, h⟩
  | d :: l, k, s, a, h, ha => by
    simp only [cutF]
    have hp := prep_lt (w := wd d) hc h
    refine cutF_col hc l _ _ _ ?_ ?_
    · simp only [layS, List.length_append, List.length_singleton]; omega
    · split
      · simp only [spotOf]; omega
      · exact ha
theorem cut_col {cols : Int} (hc : 2 ≤ cols) (l : List Dat) (cursor : Int) : 0 ≤ (cut l cols cursor).2.col ∧ (cut l cols cursor).2.col < cols := by
  have h := cutF_col (cursor := cursor) hc l 0 ([], []) ⟨0, 0⟩ (by simp; omega) (by simp; omega)
  unfold cut cutEnd
  split
  · have := prep_lt (w := 1) hc h.2
    simp only [spotOf]; omega
  · exact h.1
theorem lone_le {l : List Dat} {cols : Int} (h : (l.length : Int) ≤ cols) : RowOK cols (lone l) := ⟨lone_whole l, by rw [lone_len]; exact h⟩
theorem across_ok {cells : List Dat} {cols at' : Int} (hp : Pat cells) (hc : 8 ≤ cols) (h0 : 0 ≤ at') (h1 : at' ≤ (cells.length : Int)) : RowOK cols (acrossF cells cols at').1 ∧ 0 ≤ (acrossF cells cols at').2 ∧ (acrossF cells cols at').2 < cols := by
  have f3 := from_facts hc h0
  unfold acrossF
  have hm0 : (at' = (cells.length : Int) → (if at' = (cells.length : Int) then (cells.length : Int) + 1 else (cells.length : Int)) = (cells.length : Int) + 1) ∧ (at' ≠ (cells.length : Int) → (if at' = (cells.length : Int) then (cells.length : Int) + 1 else (cells.length : Int)) = (cells.length : Int)) := ⟨fun h => if_pos h, fun h => if_neg h⟩
  generalize (if at' = (cells.length : Int) then (cells.length : Int) + 1 else (cells.length : Int)) = m at hm0 ⊢
  by_cases hm : m ≤ cols
  · rw [if_pos hm]
    refine ⟨⟨hp.whole, ?_⟩, h0, ?_⟩
    · show (cells.length : Int) ≤ cols
      omega
    · show at' < cols
      omega
  · rw [if_neg hm]
    refine ⟨lone_le ?_, by omega, by omega⟩
    have hl : ((part cells cols at').length : Int) ≤ cols := by
      unfold part
      rw [lone_len, List.length_take, List.length_drop]
      unfold toF
      omega
    have e1 : (markL (fromF cols at') (part cells cols at')).length = (part cells cols at').length := by unfold markL; split <;> simp
    have e2 : (markR (toF cells cols at' < (cells.length : Int)) (markL (fromF cols at') (part cells cols at'))).length = (part cells cols at').length := by unfold markR; split <;> simp [e1]
    omega
theorem outF_ok {cols : Int} (hc : 2 ≤ cols) : ∀ (heads acc : List Dat), HeadsOK heads → RowsOK cols acc → RowsOK cols (outF cols acc heads)
  | [], acc, _, h => h
  | d :: r, acc, hh, h => by
    obtain ⟨x, hd, _⟩ := hh d (by simp)
    have hdl : d.toList = cells x := by rw [hd]; rfl
    refine outF_ok hc r _ (fun y hy => hh y (by simp [hy])) (h.app ?_)
    rw [hdl]
    exact cut_ok hc (cells_pat x) _
theorem rowsF_ok {s s2 : List Dat} {s3 s4 cols : Int} {across : Bool} (hc : chk s s2 s3 s4 cols = 0) : RowsOK cols (rowsF s s2 s3 cols across).1 ∧ 0 ≤ (rowsF s s2 s3 cols across).2.2 ∧ (rowsF s s2 s3 cols across).2.2 < cols := by
  obtain ⟨⟨g1, g2, g3, g4⟩, g5, g6, g7, g8⟩ := chk_ok hc
  obtain ⟨hh, hl1, hl2⟩ := split_facts g5
  have ho : RowsOK cols (outS s cols) := outF_ok (by omega) _ [] hh (fun r hr => by simp at hr)
  have hcu : curS s s2 s3 ≤ (cells (allS s s2)).length := curF_le _ _
  unfold rowsF
  split
  · obtain ⟨h1, h2, h3⟩ := across_ok (cells_pat (allS s s2)) g3 (show (0 : Int) ≤ (curS s s2 s3 : Int) by omega) (by omega)
    exact ⟨ho.app (.one h1), h2, h3⟩
  · exact ⟨ho.app (cut_ok (by omega) (cells_pat _) _), cut_col (by omega) _ _⟩
theorem rowsF_bound {s s2 : List Dat} {s3 s4 cols : Int} {across : Bool} (hc : chk s s2 s3 s4 cols = 0) : RowsB bigL (rowsF s s2 s3 cols across).1 := fun r hr => by
  have h := ((rowsF_ok (across := across) hc).1 r hr).le
  obtain ⟨⟨g1, g2, g3, g4⟩, _⟩ := chk_ok hc
  rw [bigL_eq]
  omega
/-! ### Blanks at the end -/
theorem trimN_blank (row : List Dat) : ∀ (k i : Nat), trimN row k ≤ i → i < k → wa row i = 1
  | 0, i, h1, h2 => by omega
  | k + 1, i, h1, h2 => by
    simp only [trimN] at h1
    split at h1
    · rename_i hb
      by_cases he : i = k
      · subst he
        unfold isB at hb
        rw [Bool.and_eq_true, Bool.and_eq_true, decide_eq_true_eq] at hb
        exact hb.2.1
      · exact trimN_blank row k i h1 (by omega)
    · omega
theorem wa_take (l : List Dat) (n i : Nat) : wa (l.take n) i = if i < n then wa l i else 0 := by
  unfold wa
  simp only [List.getD_eq_getElem?_getD, List.getElem?_take]
  split
  · rfl
  · rfl
theorem whole_take {l : List Dat} {n : Nat} (h : Whole l) (hn : n ≤ l.length) (hb : ∀ i, n ≤ i → i < l.length → wa l i = 1) : Whole (l.take n) := fun i hi => by
  rw [List.length_take] at hi
  have hin : i < n := by omega
  have h1 := h i (by omega)
  unfold bad at h1 ⊢
  rw [wa_take, wa_take, wa_take, if_pos hin, if_pos (show i - 1 < n by omega), List.length_take, show min n l.length = n by omega]
  by_cases h2 : i + 1 < n
  · rw [if_pos h2]; omega
  · rw [if_neg h2]
    by_cases h3 : i + 1 < l.length
    · have := hb (i + 1) (by omega) h3
      rw [this] at h1
      omega
    · omega
theorem trim_ok {cols : Int} {l : List Dat} (h : RowOK cols l) : RowOK cols (trim l) := by
  refine ⟨whole_take h.wh (trimN_le l l.length) fun i h1 h2 => trimN_blank l l.length i h1 h2, ?_⟩
  have := trim_len l
  have := h.le
  omega
theorem renderF_ok {cols : Int} {rows : List Dat} {row s4 : Int} (h : RowsOK cols rows) : RowsOK cols (renderF rows row s4) := fun r hr => by
  unfold renderF at hr
  obtain ⟨x, hx, rfl⟩ := List.mem_map.1 hr
  exact trim_ok (h x (List.mem_of_mem_drop (List.mem_of_mem_take hx)))
theorem renderF_len {rows : List Dat} {row s4 : Int} (h0 : 0 ≤ row) (h1 : row < rows.length) (h4 : 1 ≤ s4) : 1 ≤ (renderF rows row s4).length ∧ ((renderF rows row s4).length : Int) ≤ s4 ∧ 0 ≤ row - aboveF row s4 ∧ row - aboveF row s4 < ((renderF rows row s4).length : Int) := by
  unfold renderF
  rw [List.length_map, List.length_take, List.length_drop]
  unfold lastF aboveF
  omega
end Go.Proofs.YthegkipclogoeaaDoor

