/- Layer 21, Find: which bytes stand in a text; the scan of a line in plain words. -/
import Derived.Test.YtbhehldefflhpaaDoorFs
set_option linter.unusedVariables false
set_option linter.unusedSimpArgs false
set_option maxRecDepth 100000
namespace Go.Proofs.YtbhehldefflhpaaDoor
open Go.AM Go.LTxt Go.LMem Go.RowKit
theorem rq_t {K : Prop} : req true K = K := rfl
theorem b_t {A B : Prop} : br true A B = A := rfl
theorem b_f {A B : Prop} : br false A B = B := rfl
theorem i64ok {n : Int} (h0 : -9223372036854775808 ≤ n) (h1 : n ≤ 9223372036854775807) : inR .i64 n = true := by
  unfold inR
  rw [Bool.and_eq_true, decide_eq_true_eq, decide_eq_true_eq]
  exact ⟨h0, h1⟩
def bigF : Nat := 1000000000
/-- a rune of a line -/
abbrev gi (xs : List Dat) (i : Nat) : Int := Dat.toInt (List.getD xs i default)
def memI (l : List Int) (r : Int) : Bool := l.any fun b => decide (b = r)
theorem memI_cons {b r : Int} {l : List Int} : memI (b :: l) r = (decide (b = r) || memI l r) := by simp [memI]
def ends : List Int := [32, 9, 10, 62, 60, 61, 59, 124, 38, 123, 40, 64, 36, 96]
def ends2 : List Int := [62, 60, 61, 59, 124, 38, 123, 40, 64, 36, 96]
def dqs : List Int := [92, 34, 36, 96]
def bqs : List Int := [92, 96]
/-! ### Which byte stands in a text -/
def natsOf (l : List UInt8) : List Int := l.map fun b => (b.toNat : Int)
theorem idxB_mem {c : UInt8} : ∀ (l : List UInt8) (i : Nat), decide ((0 : Int) ≤ idxB c l i) = l.any fun b => b == c
  | [], i => by simp [idxB]
  | b :: l, i => by
    unfold idxB
    cases hb : b == c
    · simp only [List.any_cons, hb, Bool.false_or]
      exact idxB_mem l (i + 1)
    · simp only [List.any_cons, hb, Bool.true_or, decide_eq_true_eq]
      omega
theorem any_mem {r : Int} (h0 : 0 < r) (h1 : r < 128) : ∀ (l : List UInt8), (l.any fun b => b == UInt8.ofNat r.toNat) = memI (natsOf l) r
  | [] => rfl
  | b :: l => by
    rw [show natsOf (b :: l) = (b.toNat : Int) :: natsOf l from rfl, memI_cons, List.any_cons, any_mem h0 h1 l]
    congr 1
    rw [Bool.eq_iff_iff, decide_eq_true_eq, beq_iff_eq]
    constructor
    · intro h
      rw [h]
      simp
      omega
    · intro h
      apply UInt8.toNat_inj.1
      simp
      omega
theorem mem_none {r : Int} : ∀ {l : List Int}, (∀ b ∈ l, 0 < b ∧ b < 128) → ¬ (0 < r ∧ r < 128) → memI l r = false
  | [], _, _ => rfl
  | b :: l, h, hr => by
    rw [memI_cons, mem_none (fun x hx => h x (by simp [hx])) hr, Bool.or_false, decide_eq_false_iff_not]
    rintro rfl
    exact hr (h b (by simp))
theorem v29 {r : Int} {s : ByteArray} {L : List Int} (hs : natsOf s.data.toList = L) (hl : ∀ b ∈ L, 0 < b ∧ b < 128) {K : Bool → Prop} (h : K (memI L r)) : m29 r s K := by
  unfold m29
  refine br_mk (fun h0 => br_mk (fun h1 => ?_) fun h1 => ?_) fun h0 => ?_
  · rw [decide_eq_true_eq] at h0 h1
    have e : IntKind.wrap IntKind.u8 r = r := wrap_inR (by unfold inR; rw [Bool.and_eq_true, decide_eq_true_eq, decide_eq_true_eq]; have : IntKind.u8.min = 0 := rfl; have : IntKind.u8.max = 255 := rfl; omega)
    rw [e]
    unfold idxS
    rw [idxB_mem, any_mem h0 h1, hs]
    exact h
  · rw [mem_none hl (by rw [decide_eq_false_iff_not] at h1; omega)] at h
    exact h
  · rw [mem_none hl (by rw [decide_eq_false_iff_not] at h0; omega)] at h
    exact h
theorem l55_ok {c : Int} {s : ByteArray} (hs : s.data.toList.length ≤ 100) {E0 : Prop} {R : Bool → Prop} : ∀ (k i : Nat), i + k = s.data.toList.length → (memI (natsOf (s.data.toList.drop i)) c = true → R true) → (memI (natsOf (s.data.toList.drop i)) c = false → E0) → l55_2 (k + 1) c s (i : Int) E0 R
  | 0, i, hi, h1, h2 => by
    have hz : ByteArray.size s = s.data.toList.length := by cases s; rfl
    unfold l55_2
    refine br_mk (fun h => ?_) fun _ => h2 ?_
    · rw [decide_eq_true_eq] at h
      omega
    · rw [List.drop_eq_nil_of_le (by omega)]
      rfl
  | k + 1, i, hi, h1, h2 => by
    have hz : ByteArray.size s = s.data.toList.length := by cases s; rfl
    have hlt : i < s.data.toList.length := by omega
    have hd : s.data.toList.drop i = s.data.toList[i] :: s.data.toList.drop (i + 1) := by rw [List.drop_eq_getElem_cons hlt]
    have hg : List.getD s.data.toList (Int.toNat (i : Int)) (0 : UInt8) = s.data.toList[i] := by
      rw [Int.toNat_natCast, List.getD_eq_getElem?_getD, List.getElem?_eq_getElem hlt]
      rfl
    rw [hd, show natsOf (s.data.toList[i] :: s.data.toList.drop (i + 1)) = ((s.data.toList[i]).toNat : Int) :: natsOf (s.data.toList.drop (i + 1)) from rfl, memI_cons] at h1 h2
    unfold l55_2
    refine br_mk (fun _ => ?_) fun h => ?_
    · have hb : (s.data.toList[i]).toNat < 256 := UInt8.toNat_lt _
      have hr : inR IntKind.i32 ((s.data.toList[i]).toNat : Int) = true := by
        unfold inR
        rw [Bool.and_eq_true, decide_eq_true_eq, decide_eq_true_eq]
        have : IntKind.i32.min = -2147483648 := rfl
        have : IntKind.i32.max = 2147483647 := rfl
        omega
      rw [hg, hr, rq_t]
      refine req_mk (by rw [Bool.and_eq_true, decide_eq_true_eq, decide_eq_true_eq]; omega) (br_mk (fun h => h1 (by rw [h]; rfl)) fun h => ?_)
      rw [i64ok (n := (i : Int) + 1) (by omega) (by omega), rq_t, show ((i : Int) + 1) = ((i + 1 : Nat) : Int) by omega]
      exact l55_ok hs k (i + 1) (by omega) (fun h3 => h1 (by rw [h, h3]; rfl)) (fun h3 => h2 (by rw [h, h3]; rfl))
    · rw [decide_eq_false_iff_not] at h
      omega
theorem v55 {c : Int} {s : ByteArray} {L : List Int} (hs : natsOf s.data.toList = L) (hl : s.data.toList.length ≤ 100) {K : Bool → Prop} (h : K (memI L c)) : m55 c s K := by
  unfold m55
  refine ⟨s.data.toList.length + 1, l55_ok hl s.data.toList.length 0 (by omega) (fun h1 => ?_) fun h1 => ?_⟩
  · rw [List.drop_zero, hs] at h1; rw [h1] at h; exact h
  · rw [List.drop_zero, hs] at h1; rw [h1] at h; exact h
theorem l32_ok {L : List Int} (hl : L.length ≤ 100) {r : Int} {E0 : Prop} {R : Bool → Prop} : ∀ (k i : Nat), i + k = L.length → (memI (L.drop i) r = true → R true) → (memI (L.drop i) r = false → E0) → l32_3 (k + 1) (L.map Dat.int) r (i : Int) E0 R
  | 0, i, hi, h1, h2 => by
    unfold l32_3
    refine br_mk (fun h => ?_) fun _ => h2 ?_
    · rw [decide_eq_true_eq, List.length_map] at h
      omega
    · rw [List.drop_eq_nil_of_le (by omega)]
      rfl
  | k + 1, i, hi, h1, h2 => by
    have hlt : i < L.length := by omega
    rw [List.drop_eq_getElem_cons hlt, memI_cons] at h1 h2
    have hg : Dat.toInt (List.getD (L.map Dat.int) (0 + Int.toNat (i : Int)) default) = L[i] := by
      rw [Int.toNat_natCast, Nat.zero_add, List.getD_eq_getElem?_getD, List.getElem?_map, List.getElem?_eq_getElem hlt]
      rfl
    unfold l32_3
    refine br_mk (fun _ => ?_) fun h => ?_
    · rw [hg]
      refine req_mk (by rw [Bool.and_eq_true, decide_eq_true_eq, decide_eq_true_eq, List.length_map]; omega) (req_mk (by rw [decide_eq_true_eq, List.length_map]; omega) (br_mk (fun h => h1 (by rw [h]; rfl)) fun h => ?_))
      rw [i64ok (n := (i : Int) + 1) (by omega) (by omega), rq_t, show ((i : Int) + 1) = ((i + 1 : Nat) : Int) by omega]
      exact ⟨rfl, l32_ok hl k (i + 1) (by omega) (fun h3 => h1 (by rw [h, h3]; rfl)) (fun h3 => h2 (by rw [h, h3]; rfl))⟩
    · rw [decide_eq_false_iff_not, List.length_map] at h
      omega
theorem v32 {r : Int} {s : ByteArray} {L : List Int} (hs : runesD s = L.map Dat.int) (hl : L.length ≤ 100) {K : Bool → Prop} (h : K (memI L r)) : m32 r s K := by
  unfold m32
  rw [hs]
  refine ⟨L.length + 1, rfl, l32_ok hl L.length 0 (by omega) (fun h1 => ?_) fun h1 => ?_⟩
  · rw [List.drop_zero] at h1; rw [h1] at h; exact h
  · rw [List.drop_zero] at h1; rw [h1] at h; exact h
theorem nats_ends : natsOf (ByteArray.mk #[32, 9, 10, 62, 60, 61, 59, 124, 38, 123, 40, 64, 36, 96]).data.toList = ends := by kernel_rfl
theorem nats_dq : natsOf (ByteArray.mk #[92, 34, 36, 96]).data.toList = dqs := by kernel_rfl
theorem nats_bq : natsOf (ByteArray.mk #[92, 96]).data.toList = bqs := by kernel_rfl
theorem runes_dq : runesD ⟨#[92, 34, 36, 96]⟩ = dqs.map Dat.int := by kernel_rfl
theorem runes_ends : runesD ⟨#[62, 60, 61, 59, 124, 38, 123, 40, 64, 36, 96]⟩ = ends2.map Dat.int := by kernel_rfl
/-! ### The scan -/
def scan (xs : List Dat) (n : Nat) : Nat → Nat → Nat → Int → Nat × Int
  | 0, i, f, q => (f, q)
  | k + 1, i, f, q =>
    if i < n then
      if gi xs i = 92 ∧ q ≠ 39 then scan xs n k (i + 2) f q
      else if q ≠ 0 ∧ gi xs i = q then scan xs n k (i + 1) f 0
      else if q = 0 ∧ (gi xs i = 39 ∨ gi xs i = 34) then scan xs n k (i + 1) (i + 1) (gi xs i)
      else if q = 0 ∧ memI ends (gi xs i) = true then scan xs n k (i + 1) (i + 1) q
      else scan xs n k (i + 1) f q
    else (f, q)
def okQ (q : Int) : Prop := q = 0 ∨ q = 34 ∨ q = 39
section
variable {xs : List Dat} {n k i f : Nat} {q : Int}
theorem scan_stop (h : n ≤ i) : scan xs n k i f q = (f, q) := by
  cases k with
  | zero => rfl
  | succ k => unfold scan; rw [if_neg (by omega)]
theorem scan_esc (h : i < n) (h1 : gi xs i = 92) (h2 : q ≠ 39) : scan xs n (k + 1) i f q = scan xs n k (i + 2) f q := by
  conv => lhs; unfold scan
  rw [if_pos h, if_pos ⟨h1, h2⟩]
theorem scan_close (h : i < n) (h1 : ¬ (gi xs i = 92 ∧ q ≠ 39)) (h2 : q ≠ 0) (h3 : gi xs i = q) : scan xs n (k + 1) i f q = scan xs n k (i + 1) f 0 := by
  conv => lhs; unfold scan
  rw [if_pos h, if_neg h1, if_pos ⟨h2, h3⟩]
theorem scan_open (h : i < n) (h1 : gi xs i ≠ 92) (h3 : gi xs i = 39 ∨ gi xs i = 34) : scan xs n (k + 1) i f 0 = scan xs n k (i + 1) (i + 1) (gi xs i) := by
  conv => lhs; unfold scan
  rw [if_pos h, if_neg (fun h => h1 h.1), if_neg (fun h => h.1 rfl), if_pos ⟨rfl, h3⟩]
theorem scan_end (h : i < n) (h1 : gi xs i ≠ 92) (h3 : ¬ (gi xs i = 39 ∨ gi xs i = 34)) (h4 : memI ends (gi xs i) = true) : scan xs n (k + 1) i f 0 = scan xs n k (i + 1) (i + 1) 0 := by
  conv => lhs; unfold scan
  rw [if_pos h, if_neg (fun h => h1 h.1), if_neg (fun h => h.1 rfl), if_neg (fun h => h3 h.2), if_pos ⟨rfl, h4⟩]
theorem scan_else (h : i < n) (h1 : ¬ (gi xs i = 92 ∧ q ≠ 39)) (h2 : ¬ (q ≠ 0 ∧ gi xs i = q)) (h3 : ¬ (q = 0 ∧ (gi xs i = 39 ∨ gi xs i = 34))) (h4 : ¬ (q = 0 ∧ memI ends (gi xs i) = true)) : scan xs n (k + 1) i f q = scan xs n k (i + 1) f q := by
  conv => lhs; unfold scan
  rw [if_pos h, if_neg h1, if_neg h2, if_neg h3, if_neg h4]
end
theorem scan_inv {xs : List Dat} {n : Nat} : ∀ (k i f : Nat) (q : Int), f ≤ n → okQ q → (scan xs n k i f q).1 ≤ n ∧ okQ (scan xs n k i f q).2
  | 0, i, f, q, h, hq => ⟨h, hq⟩
  | k + 1, i, f, q, h, hq => by
    unfold scan
    split
    · split
      · exact scan_inv k _ _ _ h hq
      split
      · exact scan_inv k _ _ _ h (.inl rfl)
      split
      · rename_i h3
        exact scan_inv k _ _ _ (by omega) (by rcases h3.2 with h4 | h4 <;> rw [h4] <;> simp [okQ])
      split
      · exact scan_inv k _ _ _ (by omega) hq
      · exact scan_inv k _ _ _ h hq
    · exact ⟨h, hq⟩
end Go.Proofs.YtbhehldefflhpaaDoor
