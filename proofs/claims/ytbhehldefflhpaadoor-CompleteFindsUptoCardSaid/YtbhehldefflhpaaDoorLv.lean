/- Layer 21: what live asks, on its constants: Find, Common, Columns by the machine, each once. -/
import Derived.Test.YtbhehldefflhpaaDoorSi
set_option linter.unusedVariables false
set_option linter.unusedSimpArgs false
set_option maxRecDepth 100000
namespace Go.Proofs.YtbhehldefflhpaaDoor
open Go.AM Go.LTxt Go.LMem Go.RowKit
def calls0 : List (FuncId × CallT) := [(52, R52)]
def ls0 : List (FuncId × Nat × LoopT) := []
theorem calls0_ok : CallsOK Tryd.prog calls0 := .cons ok52 .nil
theorem ls0_ok : LoopsOK Tryd.prog ls0 := .nil
def G00 : Rules := mkG [] calls0 ls0
theorem sG00 : Sound Tryd.prog tys G00 := mk_sound mixed tysOK names (by kernel_rfl) calls0_ok ls0_ok
/-- the same numbers; the same texts -/
def eqI : List Dat → List Int → Bool
  | [], l => match l with | [] => true | _ => false
  | d :: ds, l => match d, l with
    | .int a, b :: l => match decide (a = b) with | true => eqI ds l | false => false
    | _, _ => false
def eqS : List Dat → List ByteArray → Bool
  | [], l => match l with | [] => true | _ => false
  | d :: ds, l => match d, l with
    | .str a, b :: l => match a.data.toList == b.data.toList with | true => eqS ds l | false => false
    | _, _ => false
theorem eqI_eq : ∀ {ds : List Dat} {l : List Int}, eqI ds l = true → ds = l.map .int
  | [], l, h => by
    unfold eqI at h
    split at h
    · rfl
    · cases h
  | d :: ds, l, h => by
    unfold eqI at h
    split at h
    · split at h
      · rename_i a b l ha
        rw [decide_eq_true_eq] at ha
        rw [List.map_cons, ha, eqI_eq h]
      · cases h
    · cases h
theorem bytes_eq {a b : ByteArray} (h : (a.data.toList == b.data.toList) = true) : a = b := by
  have := eq_of_beq h
  cases a; cases b
  simp only [ByteArray.mk.injEq]
  exact Array.ext' this
theorem eqS_eq : ∀ {ds : List Dat} {l : List ByteArray}, eqS ds l = true → ds = l.map .str
  | [], l, h => by
    unfold eqS at h
    split at h
    · rfl
    · cases h
  | d :: ds, l, h => by
    unfold eqS at h
    split at h
    · split at h
      · rename_i ha
        rw [List.map_cons, bytes_eq ha, eqS_eq h]
      · cases h
    · cases h
def F9c : AM.Form := ⟨[.ro (.int .i32), .int .i64], []⟩
def mm9c (ds : List Dat) (K : AV → AH → Prop) : Prop := match ds with
  | [.list xs, .int n] => req (eqI xs [108, 115, 32, 34, 97, 32, 98] && decide (n = 7)) (K (.agg [.c (.int .i64 4), .c (.int .i32 34), .sl 0 0 3]) ⟨[.seq 21 (.int .i32) [.int 97, .int 32, .int 98]], []⟩)
  | _ => False
theorem e9c (K : AV → AH → Prop) : callA Tryd.prog tys G00 1000 9 [.ro (.int .i32) [.int 108, .int 115, .int 32, .int 34, .int 97, .int 32, .int 98], .c (.int .i64 7)] ⟨[], []⟩ (fun v h' => endK Tryd.prog [] (.agg [.keep, .keep, .row 21 (.int .i32)]) ⟨[], []⟩ [.ro (.int .i32) [.int 108, .int 115, .int 32, .int 34, .int 97, .int 32, .int 98], .c (.int .i64 7)] v h' K) = (((K (.agg [.c (.int .i64 4), .c (.int .i32 34), .sl 0 0 3]) ⟨[.seq 21 (.int .i32) [.int 97, .int 32, .int 98]], []⟩ ∧ (K (.agg [.c (.int .i64 4), .c (.int .i32 34), .sl 0 0 3]) ⟨[.seq 21 (.int .i32) [.int 97, .int 32, .int 98]], []⟩ ∧ True)) ∧ ((K (.agg [.c (.int .i64 4), .c (.int .i32 34), .sl 0 0 3]) ⟨[.seq 21 (.int .i32) [.int 97, .int 32, .int 98]], []⟩ ∧ (K (.agg [.c (.int .i64 4), .c (.int .i32 34), .sl 0 0 3]) ⟨[.seq 21 (.int .i32) [.int 97, .int 32, .int 98]], []⟩ ∧ True)) ∧ True)) ∧ (((K (.agg [.c (.int .i64 4), .c (.int .i32 34), .sl 0 0 3]) ⟨[.seq 21 (.int .i32) [.int 97, .int 32, .int 98]], []⟩ ∧ (K (.agg [.c (.int .i64 4), .c (.int .i32 34), .sl 0 0 3]) ⟨[.seq 21 (.int .i32) [.int 97, .int 32, .int 98]], []⟩ ∧ True)) ∧ ((K (.agg [.c (.int .i64 4), .c (.int .i32 34), .sl 0 0 3]) ⟨[.seq 21 (.int .i32) [.int 97, .int 32, .int 98]], []⟩ ∧ (K (.agg [.c (.int .i64 4), .c (.int .i32 34), .sl 0 0 3]) ⟨[.seq 21 (.int .i32) [.int 97, .int 32, .int 98]], []⟩ ∧ True)) ∧ True)) ∧ True)) := by kernel_rfl
theorem t9c (ds : List Dat) (K : AV → AH → Prop) (h : mm9c ds K) : callA Tryd.prog tys G00 1000 9 (F9c.fr ds) (F9c.hp ds) (fun v h' => endK Tryd.prog [] (.agg [.keep, .keep, .row 21 (.int .i32)]) (F9c.hp ds) (F9c.fr ds) v h' K) := by
  unfold mm9c at h
  split at h
  · obtain ⟨hc, h⟩ := req_iff.1 h
    simp only [Bool.and_eq_true, decide_eq_true_eq, beq_iff_eq] at hc
    obtain ⟨h1, h2⟩ := hc
    have h1 := eqI_eq h1
    subst h1 h2
    rw [show F9c.fr [.list (List.map .int [108, 115, 32, 34, 97, 32, 98]), .int 7] = [.ro (.int .i32) [.int 108, .int 115, .int 32, .int 34, .int 97, .int 32, .int 98], .c (.int .i64 7)] from rfl, show F9c.hp [.list (List.map .int [108, 115, 32, 34, 97, 32, 98]), .int 7] = ⟨[], []⟩ from rfl]
    exact (e9c K).mpr ⟨⟨⟨h, ⟨h, trivial⟩⟩, ⟨⟨h, ⟨h, trivial⟩⟩, trivial⟩⟩, ⟨⟨⟨h, ⟨h, trivial⟩⟩, ⟨⟨h, ⟨h, trivial⟩⟩, trivial⟩⟩, trivial⟩⟩
  · exact h.elim
def R9c : CallT := ruleF Tryd.prog [.ro (.int .i32), .keep] [] F9c mm9c
theorem ok9c : CallOK Tryd.prog 9 R9c := ruleF_ok1 sG00 t9c
def F27c : AM.Form := ⟨[.ro .str, .bool], []⟩
def mm27c (ds : List Dat) (K : AV → AH → Prop) : Prop := match ds with
  | [.list xs, .bool b] => req (eqS xs [⟨#[47, 97, 47, 98, 49]⟩, ⟨#[47, 97, 47, 98, 50]⟩] && (b == false)) (K (.c (.string ⟨#[47, 97, 47, 98]⟩)) ⟨[], []⟩)
  | _ => False
theorem e27c (K : AV → AH → Prop) : callA Tryd.prog tys G00 1000 27 [.ro .str [.str ⟨#[47, 97, 47, 98, 49]⟩, .str ⟨#[47, 97, 47, 98, 50]⟩], .c (.bool false)] ⟨[], []⟩ (fun v h' => endK Tryd.prog [] .keep ⟨[], []⟩ [.ro .str [.str ⟨#[47, 97, 47, 98, 49]⟩, .str ⟨#[47, 97, 47, 98, 50]⟩], .c (.bool false)] v h' K) = K (.c (.string ⟨#[47, 97, 47, 98]⟩)) ⟨[], []⟩ := by kernel_rfl
theorem t27c (ds : List Dat) (K : AV → AH → Prop) (h : mm27c ds K) : callA Tryd.prog tys G00 1000 27 (F27c.fr ds) (F27c.hp ds) (fun v h' => endK Tryd.prog [] .keep (F27c.hp ds) (F27c.fr ds) v h' K) := by
  unfold mm27c at h
  split at h
  · obtain ⟨hc, h⟩ := req_iff.1 h
    simp only [Bool.and_eq_true, decide_eq_true_eq, beq_iff_eq] at hc
    obtain ⟨h1, h2⟩ := hc
    have h1 := eqS_eq h1
    subst h1 h2
    rw [show F27c.fr [.list (List.map .str [⟨#[47, 97, 47, 98, 49]⟩, ⟨#[47, 97, 47, 98, 50]⟩]), .bool false] = [.ro .str [.str ⟨#[47, 97, 47, 98, 49]⟩, .str ⟨#[47, 97, 47, 98, 50]⟩], .c (.bool false)] from rfl, show F27c.hp [.list (List.map .str [⟨#[47, 97, 47, 98, 49]⟩, ⟨#[47, 97, 47, 98, 50]⟩]), .bool false] = ⟨[], []⟩ from rfl]
    exact (e27c K).mpr h
  · exact h.elim
def R27c : CallT := ruleF Tryd.prog [.ro .str, .keep] [] F27c mm27c
theorem ok27c : CallOK Tryd.prog 27 R27c := ruleF_ok1 sG00 t27c
def F21c : AM.Form := ⟨[.ro .str, .int .i64, .bool], []⟩
def mm21c (ds : List Dat) (K : AV → AH → Prop) : Prop := match ds with
  | [.list xs, .int n, .bool b] => req (eqS xs [⟨#[97]⟩, ⟨#[98]⟩, ⟨#[99]⟩] && decide (n = 7) && (b == false)) (K (.sl 0 0 2) ⟨[.seq 9 .str [.str ⟨#[97, 32, 32, 99]⟩, .str ⟨#[98]⟩]], []⟩)
  | _ => False
theorem e21c (K : AV → AH → Prop) : callA Tryd.prog tys G00 1000 21 [.ro .str [.str ⟨#[97]⟩, .str ⟨#[98]⟩, .str ⟨#[99]⟩], .c (.int .i64 7), .c (.bool false)] ⟨[], []⟩ (fun v h' => endK Tryd.prog [] (.row 9 .str) ⟨[], []⟩ [.ro .str [.str ⟨#[97]⟩, .str ⟨#[98]⟩, .str ⟨#[99]⟩], .c (.int .i64 7), .c (.bool false)] v h' K) = K (.sl 0 0 2) ⟨[.seq 9 .str [.str ⟨#[97, 32, 32, 99]⟩, .str ⟨#[98]⟩]], []⟩ := by kernel_rfl
theorem t21c (ds : List Dat) (K : AV → AH → Prop) (h : mm21c ds K) : callA Tryd.prog tys G00 1000 21 (F21c.fr ds) (F21c.hp ds) (fun v h' => endK Tryd.prog [] (.row 9 .str) (F21c.hp ds) (F21c.fr ds) v h' K) := by
  unfold mm21c at h
  split at h
  · obtain ⟨hc, h⟩ := req_iff.1 h
    simp only [Bool.and_eq_true, decide_eq_true_eq, beq_iff_eq] at hc
    obtain ⟨⟨h1, h2⟩, h3⟩ := hc
    have h1 := eqS_eq h1
    subst h1 h2 h3
    rw [show F21c.fr [.list (List.map .str [⟨#[97]⟩, ⟨#[98]⟩, ⟨#[99]⟩]), .int 7, .bool false] = [.ro .str [.str ⟨#[97]⟩, .str ⟨#[98]⟩, .str ⟨#[99]⟩], .c (.int .i64 7), .c (.bool false)] from rfl, show F21c.hp [.list (List.map .str [⟨#[97]⟩, ⟨#[98]⟩, ⟨#[99]⟩]), .int 7, .bool false] = ⟨[], []⟩ from rfl]
    rw [e21c K]
    exact h
  · exact h.elim
def R21c : CallT := ruleF Tryd.prog [.ro .str, .keep, .keep] [] F21c mm21c
theorem ok21c : CallOK Tryd.prog 21 R21c := ruleF_ok1 sG00 t21c
def calls1 : List (FuncId × CallT) := (21, R21c) :: (27, R27c) :: (9, R9c) :: calls0
theorem calls1_ok : CallsOK Tryd.prog calls1 := .cons ok21c (.cons ok27c (.cons ok9c calls0_ok))
def G01 : Rules := mkG [] calls1 ls0
theorem sG01 : Sound Tryd.prog tys G01 := mk_sound mixed tysOK names (by kernel_rfl) calls1_ok ls0_ok
noncomputable def m7 (K : Bool → Prop) : Prop := K true
def F7 : AM.Form := ⟨[], []⟩
noncomputable def mm7 (ds : List Dat) (K : AV → AH → Prop) : Prop := m7 (fun rb => K (.c (.bool rb)) ⟨[], []⟩)
theorem t7 (ds : List Dat) (K : AV → AH → Prop) : callA Tryd.prog tys G01 1000 7 (F7.fr ds) (F7.hp ds) (fun v h' => endK Tryd.prog [] .keep (F7.hp ds) (F7.fr ds) v h' K) = mm7 ds K := by kernel_rfl
noncomputable def R7 : CallT := ruleF Tryd.prog [] [] F7 mm7
theorem ok7 : CallOK Tryd.prog 7 R7 := ruleF_ok sG01 t7
/-- what the laws begin with -/
noncomputable def calls2 : List (FuncId × CallT) := (7, R7) :: calls0
theorem calls2_ok : CallsOK Tryd.prog calls2 := .cons ok7 calls0_ok
noncomputable def G02 : Rules := mkG [] calls2 ls0
theorem sG02 : Sound Tryd.prog tys G02 := mk_sound mixed tysOK names (by kernel_rfl) calls2_ok ls0_ok
end Go.Proofs.YtbhehldefflhpaaDoor
