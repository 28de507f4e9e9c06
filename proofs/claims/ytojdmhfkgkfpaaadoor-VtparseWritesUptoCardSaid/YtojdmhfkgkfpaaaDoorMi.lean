/- Layer 05: what holds of the machine's states lasts; how many actions there are. -/
import Derived.Test.YtojdmhfkgkfpaaaDoorMx
set_option linter.unusedVariables false
set_option linter.unusedSimpArgs false
set_option maxRecDepth 100000
namespace Go.Proofs.YtojdmhfkgkfpaaaDoor
open Go.AM Go.LTxt Go.LMem Go.RowKit
set_option maxHeartbeats 0
theorem ite_p {α : Type} {c : Prop} [Decidable c] {a b : α} {P : α → Prop} (h1 : c → P a) (h2 : ¬ c → P b) : P (if c then a else b) := by
  split
  · exact h1 ‹_›
  · exact h2 ‹_›
theorem enc_size (b : Int) (h0 : 0 ≤ b) (h1 : b < 128) : (Utf8.encode b).size = 1 := by
  unfold Utf8.encode
  have hv : Utf8.valid b = true := by unfold Utf8.valid; simp; omega
  simp only [hv, if_true]
  rw [if_pos (by omega)]
  rfl
theorem putT_size (t : ByteArray) (b : Int) (h : t.size ≤ 1024) : (putT t b).size ≤ 1024 := by
  unfold putT
  split
  · rename_i h1
    have : (strD [Dat.int b]).size = 1 := rfl
    rw [ByteArray.size_append, this]
    omega
  · exact h
theorem gat_size (t : ByteArray) (b : Int) (h : t.size ≤ 2) (h0 : 0 ≤ b) (h1 : b < 128) : (gat t b).size ≤ 2 := by
  unfold gat
  split
  · rw [ByteArray.size_append, enc_size b h0 h1]
    omega
  · exact h
theorem nx_len (ps : List Dat) (m : Int) (h0 : 0 ≤ m) (h1 : m ≤ 17) (hl : (ps.length : Int) = min m 16) : ((nxP ps m).length : Int) = min (nxM m) 16 ∧ 0 ≤ nxM m ∧ nxM m ≤ 17 := by
  unfold nxP nxM
  by_cases h : m = 0
  · simp [h]; decide
  · simp only [if_neg h]
    by_cases h2 : m ≤ 16
    · by_cases h3 : m + 1 ≤ 16
      · simp only [if_pos h2, if_pos h3, List.length_append, List.length_cons, List.length_nil]; omega
      · simp only [if_pos h2, if_neg h3]; omega
    · simp only [if_neg h2, if_neg (show ¬ m + 1 ≤ 16 by omega)]; omega
theorem nx_rng (ps : List Dat) (m : Int) (h : ∀ d ∈ ps, -1 ≤ d.toInt ∧ d.toInt ≤ 65535) : ∀ d ∈ nxP ps m, -1 ≤ d.toInt ∧ d.toInt ≤ 65535 := by
  intro d hd
  unfold nxP at hd
  have one : ∀ d : Dat, d = .int (-1) → -1 ≤ d.toInt ∧ d.toInt ≤ 65535 := fun d e => by rw [e]; simp [Dat.toInt]
  split at hd
  · simp at hd; exact one d (by first | exact hd | (rcases hd with h | h <;> exact h))
  · split at hd
    · rcases List.mem_append.1 hd with h1 | h1
      · exact h d h1
      · exact one d (by simpa using h1)
    · exact h d hd
theorem dg_len (ps : List Dat) (m b : Int) (h0 : 0 ≤ m) (h1 : m ≤ 17) (hl : (ps.length : Int) = min m 16) : ((dgP ps m b).length : Int) = min (dgM m) 16 ∧ 0 ≤ dgM m ∧ dgM m ≤ 17 := by
  unfold dgP dgM
  by_cases h : m = 0
  · simp [h]; decide
  · simp only [if_neg h]
    by_cases h2 : m ≤ 16
    · simp only [if_pos h2, List.length_set]; omega
    · simp only [if_neg h2]; omega
theorem dg_rng (n b : Int) (h0 : 48 ≤ b) : -1 ≤ (dg n b).toInt ∧ (dg n b).toInt ≤ 65535 := by
  unfold dg capV
  simp only [Dat.toInt]
  constructor
  · have : 0 ≤ max n 0 := by omega
    omega
  · omega
theorem dgP_rng (ps : List Dat) (m b : Int) (h0 : 48 ≤ b) (h : ∀ d ∈ ps, -1 ≤ d.toInt ∧ d.toInt ≤ 65535) : ∀ d ∈ dgP ps m b, -1 ≤ d.toInt ∧ d.toInt ≤ 65535 := by
  intro d hd
  unfold dgP at hd
  split at hd
  · have : d = dg (-1) b := by simpa using hd
    rw [this]; exact dg_rng _ b h0
  · split at hd
    · rcases List.mem_or_eq_of_mem_set hd with h1 | h1
      · exact h d h1
      · rw [h1]; exact dg_rng _ b h0
    · exact h d hd
theorem Inv_st (k : Int) (h0 : 0 ≤ k) (h1 : k ≤ 13) : Inv { X0 with st := k } :=
  ⟨h0, h1, Int.le_refl 0, (by show (0 : Int) ≤ 17; decide), (by show ((0 : Nat) : Int) = min 0 16; decide), (fun d hd => by simp [X0] at hd), (fun h => ⟨rfl, rfl, rfl⟩), (fun h => rfl), (fun _ _ => rfl), (fun _ => rfl), (by show 0 ≤ 2; decide), (by show 0 ≤ 1024; decide), (fun h => rfl)⟩
theorem Inv_held (l : List UInt8) : Inv { X0 with held := l } :=
  ⟨Int.le_refl 0, (by show (0 : Int) ≤ 13; decide), Int.le_refl 0, (by show (0 : Int) ≤ 17; decide), (by show ((0 : Nat) : Int) = min 0 16; decide), (fun d hd => by simp [X0] at hd), (fun h => ⟨rfl, rfl, rfl⟩), (fun h => rfl), (fun _ _ => rfl), (fun _ => rfl), (by show 0 ≤ 2; decide), (by show 0 ≤ 1024; decide), (fun h => absurd rfl h)⟩
theorem Inv0 : Inv X0 := Inv_held []
theorem Inv_step {x : X} (hI : Inv x) (b : Int) (h0 : 0 ≤ b) (h1 : b ≤ 255) : Inv (step x b).1 := by
  have a := hI.s0
  have c := hI.s1
  obtain ⟨i0, i1, i2, i3, i4, i5, i6, i7, i8, i9, i10, i11, i13⟩ := hI
  obtain ⟨st, held, priv, params, many, inter, text, fin⟩ := x
  simp only at *
  unfold step
  simp only
  have hp := putT_size text b i11
  have hn := nx_len params many i2 i3 i4
  have hd := dg_len params many b i2 i3 i4
  have hnr := nx_rng params many i5
  repeat' (first | (with_reducible refine ite_p (P := fun z : X × List Dat => Inv z.1) ?_ ?_) | (intro hc; first | (exfalso; omega) | skip))
  all_goals first
    | exact Inv0
    | exact Inv_st _ (by decide) (by decide)
    | exact Inv_held _
    | skip
  all_goals
    refine ⟨?_, ?_, ?_, ?_, ?_, ?_, fun h => ?_, fun h => ?_, fun h h' => ?_, fun h => ?_, ?_, ?_, fun h => ?_⟩ <;> simp only at *
    · first | omega | (split <;> omega)
    · first | omega | (split <;> omega)
    · first | assumption | exact hn.2.1 | exact hd.2.1
    · first | assumption | exact hn.2.2 | exact hd.2.2
    · first | assumption | exact hn.1 | exact hd.1
    · first | exact i5 | exact hnr | exact dgP_rng _ _ _ (by omega) i5
    · first | exact i6 (by omega) | (exfalso; omega) | (exfalso; split at h <;> omega)
    · first | exact i7 (by omega) | (exfalso; omega) | (exfalso; split at h <;> omega)
    · first | exact i8 (by omega) (by omega) | (exfalso; omega)
    · first | exact i9 (by omega) | (exfalso; omega)
    · first | exact i10 | exact gat_size _ _ i10 (by omega) (by omega)
    · first | exact i11 | exact hp
    · exact i13 (by omega)
theorem s_ite {c : Prop} [Decidable c] {A B : Prop} (h1 : c → A) (h2 : ¬ c → B) : (if c then A else B) := by
  split
  · exact h1 ‹_›
  · exact h2 ‹_›
theorem runes_len : ∀ (n : Nat) (l : List UInt8), l.length ≤ n → (runes l).length ≤ l.length
  | 0, l, h => by
    have : l = [] := List.eq_nil_of_length_eq_zero (by omega)
    rw [this, runes_nil]
    simp
  | n + 1, l, h => by
    by_cases h0 : l.length = 0
    · have : l = [] := List.eq_nil_of_length_eq_zero h0
      rw [this, runes_nil]
      simp
    · have h1 := dec_pos l
      have h2 := dec_le l (by omega)
      have h3 := runes_len n (l.drop (dec l).2) (by simp; omega)
      rw [runes_step l (by omega), List.length_cons]
      simp at h3
      omega
theorem putD_len : ∀ (n : Nat) (l : List UInt8), l.length ≤ n → (putD l).1.length + (putD l).2.length ≤ l.length
  | 0, l, h => by
    have : l = [] := List.eq_nil_of_length_eq_zero (by omega)
    rw [this, putD_nil]
    simp
  | n + 1, l, h => by
    by_cases h0 : l.length = 0
    · have : l = [] := List.eq_nil_of_length_eq_zero h0
      rw [this, putD_nil]
      simp
    · cases hw : whole l with
      | false => rw [putD_hold l (by omega) hw]; simp
      | true =>
        have h1 := dec_pos l
        have h2 := dec_le l (by omega)
        have h3 := putD_len n (l.drop (dec l).2) (by simp; omega)
        rw [putD_step l (by omega) hw]
        simp only [List.length_cons]
        simp at h3
        omega
theorem prR_len (l : List UInt8) : (prD (rD l)).length ≤ l.length := by
  have h1 := prD_length (rD l)
  have h2 := runes_len l.length l (Nat.le_refl _)
  have h3 : (rD l).length = (runes l).length := by simp [rD]
  omega
theorem prP_len (l : List UInt8) : (prD (iD (putD l).1)).length + (putD l).2.length ≤ l.length := by
  have h1 := prD_length (iD (putD l).1)
  have h2 := putD_len l.length l (Nat.le_refl _)
  have h3 : (iD (putD l).1).length = (putD l).1.length := by simp [iD]
  omega
def pend (x : X) : Nat := if x.st = 11 ∨ x.st = 12 then 1 else 0
def cnt (x : X) : Nat := x.held.length + pend x
theorem cnt_step {x : X} (hI : Inv x) (b : Int) : (step x b).2.length + cnt (step x b).1 ≤ cnt x + 1 := by
  have i13 := hI.hz
  clear hI
  obtain ⟨st, held, priv, params, many, inter, text, fin⟩ := x
  simp only at i13
  have h1 := prR_len held
  have h2 := prP_len (held ++ [UInt8.ofNat b.toNat])
  simp only [List.length_append, List.length_cons, List.length_nil] at h2
  unfold step
  simp only
  repeat' (first | (with_reducible refine ite_p (P := fun z : X × List Dat => z.2.length + cnt z.1 ≤ cnt _ + 1) ?_ ?_) | (intro hc; first | (exfalso; omega) | skip))
  all_goals simp only [cnt, pend, X0, List.length_append, List.length_cons, List.length_nil]
  all_goals first
    | omega
    | (split <;> first | omega | (simp; done) | (simp; omega))
    | skip
  all_goals (repeat' split) <;> simp_all <;> omega
end Go.Proofs.YtojdmhfkgkfpaaaDoor
