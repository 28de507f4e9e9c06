/- Layer 21: strings.IndexByte as a rule of the machine. -/
import Derived.Test.YtbhehldefflhpaaDoorSd
import Derived.Test.YtbhehldefflhpaaDoorSh
import Derived.Test.YtbhehldefflhpaaDoorAmPat
set_option linter.unusedVariables false
namespace Go.Proofs.YtbhehldefflhpaaDoor
open Go.AM Go.LTxt Go.LMem Go.RowKit
/-- the place of the first such byte, or -1 -/
def idxB (c : UInt8) : List UInt8 → Nat → Int
  | [], _ => -1
  | b :: l, i => match b == c with
    | true => (i : Nat)
    | false => idxB c l (i + 1)
theorem indexByte_ge (c : UInt8) : ∀ l : List UInt8, -1 ≤ Lib.indexByte l c
  | [] => by simp [Lib.indexByte]
  | b :: l => by
    have := indexByte_ge c l
    unfold Lib.indexByte
    split
    · omega
    · split <;> simp_all; omega
theorem idxB_eq (c : UInt8) : ∀ (l : List UInt8) (i : Nat), idxB c l i = if Lib.indexByte l c = -1 then -1 else Lib.indexByte l c + i
  | [], i => by simp [idxB, Lib.indexByte]
  | b :: l, i => by
    have h := indexByte_ge c l
    unfold idxB Lib.indexByte
    cases hb : b == c
    · simp only [idxB_eq c l (i + 1), Bool.false_eq_true, if_false]
      by_cases h1 : Lib.indexByte l c = -1
      · simp [h1]
      · have h2 : (Lib.indexByte l c == -1) = false := by simpa using h1
        rw [if_neg h1, h2]
        simp only [Bool.false_eq_true, if_false]
        rw [if_neg (by omega)]
        push_cast
        omega
    · simp
def idxS (s : ByteArray) (c : Int) : Int := idxB (UInt8.ofNat c.toNat) s.data.toList 0
theorem idxS_eq (s : ByteArray) (c : Int) : idxS s c = Lib.indexByte s.data.toList c.toNat.toUInt8 := by
  unfold idxS
  rw [idxB_eq]
  split
  · rename_i h
    rw [← h]
  · simp
def R52 : CallT := fun args h K => match args with
  | [.c (.string s), .c (.int .u8 c)] => K (.c (.int .i64 (idxS s c))) h
  | _ => False
theorem ok52 : CallOK Tryd.prog 52 R52 := by
  intro args h K hf own w vs H hv
  unfold R52 at hf
  split at hf
  · rename_i s c
    obtain ⟨v, r, rfl, h1, h2⟩ := VRs.cons_iff.1 hv
    obtain ⟨v2, r2, rfl, h3, h4⟩ := VRs.cons_iff.1 h2
    rw [VRs.nil_iff] at h4
    subst h4
    rw [VR.c_iff] at h1 h3
    subst h1 h3
    refine (Tryd.strings_IndexByte s c w).mono fun e w' ⟨he, hw⟩ => ?_
    subst hw
    exact ⟨_, own, h, _, he, H, .refl _ _ _, VR.c_iff.2 (by rw [idxS_eq]), hf⟩
  · exact hf.elim
end Go.Proofs.YtbhehldefflhpaaDoor
