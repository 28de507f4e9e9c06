/- Bytes and runes in memory; what the contracts' ends need. -/
import Derived.Test.YtojdmhfkgkfpaaaDoorBase
set_option linter.unusedVariables false
namespace Go.Proofs.YtojdmhfkgkfpaaaDoor
open Go.LTxt Go.LMem Go.RowKit
theorem ret_int {k : IntKind} {a b : Int} (h : a = b) : Ending.returned (.int k a) = .returned (.int k b) := by rw [h]
theorem ret_bool {a b : Bool} (h : a = b) : Ending.returned (.bool a) = .returned (.bool b) := by rw [h]
theorem info_of {P : Program} {t : TypeId} {z : Value} {s b : Nat} (h : (P.info? t).map (fun i => (i.zero, i.size, i.bytes)) = some (some z, s, b)) : ∃ i, P.info? t = some i ∧ i.zero = some z ∧ i.size = s ∧ i.bytes = b := by
  cases hi : P.info? t with
  | none => rw [hi] at h; cases h
  | some i => rw [hi] at h; simp at h; exact ⟨i, rfl, h⟩
theorem i5 : ∃ i, Tryd.prog.info? 5 = some i ∧ i.zero = some (.int .u8 0) ∧ i.size = 1 ∧ i.bytes = 1 := info_of (by kernel_rfl)
theorem i21 : ∃ i, Tryd.prog.info? 21 = some i ∧ i.zero = some (.int .i32 0) ∧ i.size = 1 ∧ i.bytes = 4 := info_of (by kernel_rfl)
theorem i3 : ∃ i, Tryd.prog.info? 3 = some i ∧ i.zero = some (.int .i64 0) ∧ i.size = 1 ∧ i.bytes = 8 := info_of (by kernel_rfl)
theorem i35 : ∃ i, Tryd.prog.info? 35 = some i ∧ i.zero = some (.agg #[.int .i64 0, .int .i32 0, .int .u8 0, .int .u8 0, .slice none 0 0, .string ByteArray.empty, .string ByteArray.empty]) ∧ i.size = 7 ∧ i.bytes = 72 :=
  info_of (by kernel_rfl)
/-! append at each of the element types -/
theorem app22 {w : World} {o : Oper} {a : Act} {K : Act → World → Prop} {Q : Exit → Act → World → Prop} (s x : Operand) (tx : TypeId)
    (ho : o.op = .call { callee := .builtin .append, args := #[s, x], argTypes := #[22, tx] })
    (n : Nat) (xs : List Value) (hv : Sl w 5 1 (a.eval s) n xs) (m : Nat) (news : List Value) (hx : Src Tryd.prog 1 tx (a.eval x) m news w) (hm : n + m ≤ 1099511627776)
    (h : ∀ v' w', Appended 5 1 (a.eval s) (n + m) (xs ++ news) w v' w' → K (a.put o.dst v') w') : o.wp Tryd.prog a w K Q := by
  obtain ⟨i, hi, hz, hs, hb⟩ := i5
  exact wp_app s x 22 tx 5 ho i _ Tryd.underlying22 hi hz (by rw [hs]; rfl) (by decide) n xs (by rw [hs]; exact hv) m news (by rw [hs]; exact hx) (by unfold maxLen; omega) (by rw [hb]; omega) (by rw [hs]; exact h)
theorem app37 {w : World} {o : Oper} {a : Act} {K : Act → World → Prop} {Q : Exit → Act → World → Prop} (s x : Operand) (tx : TypeId)
    (ho : o.op = .call { callee := .builtin .append, args := #[s, x], argTypes := #[37, tx] })
    (n : Nat) (xs : List Value) (hv : Sl w 21 1 (a.eval s) n xs) (m : Nat) (news : List Value) (hx : Src Tryd.prog 1 tx (a.eval x) m news w) (hm : n + m ≤ 1099511627776)
    (h : ∀ v' w', Appended 21 1 (a.eval s) (n + m) (xs ++ news) w v' w' → K (a.put o.dst v') w') : o.wp Tryd.prog a w K Q := by
  obtain ⟨i, hi, hz, hs, hb⟩ := i21
  exact wp_app s x 37 tx 21 ho i _ Tryd.underlying37 hi hz (by rw [hs]; rfl) (by decide) n xs (by rw [hs]; exact hv) m news (by rw [hs]; exact hx) (by unfold maxLen; omega) (by rw [hb]; omega) (by rw [hs]; exact h)
theorem app33 {w : World} {o : Oper} {a : Act} {K : Act → World → Prop} {Q : Exit → Act → World → Prop} (s x : Operand) (tx : TypeId)
    (ho : o.op = .call { callee := .builtin .append, args := #[s, x], argTypes := #[33, tx] })
    (n : Nat) (xs : List Value) (hv : Sl w 3 1 (a.eval s) n xs) (m : Nat) (news : List Value) (hx : Src Tryd.prog 1 tx (a.eval x) m news w) (hm : n + m ≤ 1099511627776)
    (h : ∀ v' w', Appended 3 1 (a.eval s) (n + m) (xs ++ news) w v' w' → K (a.put o.dst v') w') : o.wp Tryd.prog a w K Q := by
  obtain ⟨i, hi, hz, hs, hb⟩ := i3
  exact wp_app s x 33 tx 3 ho i _ Tryd.underlying33 hi hz (by rw [hs]; rfl) (by decide) n xs (by rw [hs]; exact hv) m news (by rw [hs]; exact hx) (by unfold maxLen; omega) (by rw [hb]; omega) (by rw [hs]; exact h)
theorem app25 {w : World} {o : Oper} {a : Act} {K : Act → World → Prop} {Q : Exit → Act → World → Prop} (s x : Operand) (tx : TypeId)
    (ho : o.op = .call { callee := .builtin .append, args := #[s, x], argTypes := #[25, tx] })
    (n : Nat) (xs : List Value) (hv : Sl w 35 7 (a.eval s) n xs) (m : Nat) (news : List Value) (hx : Src Tryd.prog 7 tx (a.eval x) m news w) (hm : n + m ≤ 1099511627776)
    (h : ∀ v' w', Appended 35 7 (a.eval s) (n + m) (xs ++ news) w v' w' → K (a.put o.dst v') w') : o.wp Tryd.prog a w K Q := by
  obtain ⟨i, hi, hz, hs, hb⟩ := i35
  exact wp_app s x 25 tx 35 ho i _ Tryd.underlying25 hi hz (by rw [hs]; rfl) (by decide) n xs (by rw [hs]; exact hv) m news (by rw [hs]; exact hx) (by unfold maxLen; omega) (by rw [hb]; omega) (by rw [hs]; exact h)

def bcells (l : List UInt8) : List Value := l.map fun b => .int .u8 b.toNat
def rcells (l : List Int) : List Value := l.map fun r => .int .i32 r
def RdB (w : World) (v : Value) (l : List UInt8) : Prop := Rd w 1 v l.length (bcells l)
def SlB (w : World) (v : Value) (l : List UInt8) : Prop := Sl w 5 1 v l.length (bcells l)
def SlR (w : World) (v : Value) (l : List Int) : Prop := Sl w 21 1 v l.length (rcells l)
theorem bcells_length (l : List UInt8) : (bcells l).length = l.length := by simp [bcells]
theorem bcells_append (l m : List UInt8) : bcells (l ++ m) = bcells l ++ bcells m := by simp [bcells]
theorem bcells_drop (l : List UInt8) (k : Nat) : bcells (l.drop k) = (bcells l).drop k := by simp [bcells]
theorem bcells_take (l : List UInt8) (k : Nat) : bcells (l.take k) = (bcells l).take k := by simp [bcells]
theorem bcells_one (l : List UInt8) : ∀ u ∈ bcells l, u.oneCell' = true := by
  intro u hu
  obtain ⟨b, _, rfl⟩ := List.mem_map.1 hu
  rfl
theorem rcells_length (l : List Int) : (rcells l).length = l.length := by simp [rcells]
theorem rcells_append (l m : List Int) : rcells (l ++ m) = rcells l ++ rcells m := by simp [rcells]
theorem rcells_one (l : List Int) : ∀ u ∈ rcells l, u.oneCell' = true := by
  intro u hu
  obtain ⟨b, _, rfl⟩ := List.mem_map.1 hu
  rfl
theorem SlB.rd {w : World} {v : Value} {l : List UInt8} (h : SlB w v l) : RdB w v l := Sl.rd h
/-- the cells of a slice of bytes that holds one at least -/
theorem RdB.cells {w : World} {v : Value} {l : List UInt8} (h : RdB w v l) (hn : 0 < l.length) : ∃ g off c, v = .slice (some ⟨g, off, none⟩) l.length c ∧ ∀ i (b : UInt8), l[i]? = some b → w.cell? ⟨g, off + i, none⟩ = some (.int .u8 b.toNat) := by
  obtain ⟨g, off, c, rfl, hc⟩ := Rd.at_ h hn
  exact ⟨g, off, c, rfl, fun i b hb => hc i _ (by unfold bcells; rw [List.getElem?_map, hb]; rfl)⟩
theorem RdB.len {w : World} {v : Value} {l : List UInt8} (h : RdB w v l) : ∃ a c, v = .slice a l.length c := Rd.len h
end Go.Proofs.YtojdmhfkgkfpaaaDoor
