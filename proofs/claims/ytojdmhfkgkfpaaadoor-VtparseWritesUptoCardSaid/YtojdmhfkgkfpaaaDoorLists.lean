/- Slices of bytes that are read, with their capacity; a walk that stops ahead of an append. -/
import Derived.Test.YtojdmhfkgkfpaaaDoorDecL
import Derived.Test.YtojdmhfkgkfpaaaDoorDecX
import Derived.Lib.Hide
set_option linter.unusedVariables false
namespace Go.Proofs.YtojdmhfkgkfpaaaDoor
open Go.LTxt Go.LMem Go.RowKit
/-- bytes that are read, with their capacity -/
def RdC (w : World) (v : Value) (l : List UInt8) : Prop := RdB w v l ∧ (∃ a c, v = .slice a l.length c ∧ l.length ≤ c) ∧ ∀ i ∈ blk v, i < w.heap.size
theorem RdC.frame {F : List Nat} {w w1 : World} {v : Value} {l : List UInt8} (h : RdC w v l) (hf : Fr F w w1) (hd : ∀ i ∈ blk v, i ∉ F) : RdC w1 v l := ⟨Rd.frame h.1 hf hd, h.2.1, fun i hi => hf.lt (h.2.2 i hi)⟩
theorem SlB.rdc {w : World} {v : Value} {l : List UInt8} (h : SlB w v l) : RdC w v l := by
  refine ⟨h.rd, ?_, h.lt⟩
  rcases h.2.2 with ⟨rfl, hn⟩ | ⟨g, off, cap, cs, rfl, _, hc, _⟩
  · exact ⟨none, 0, by rw [hn], by omega⟩
  · exact ⟨_, _, rfl, hc⟩
theorem blk_drop {g off n c k m : Nat} : blk (.slice (if c = k then some (⟨g, off, none⟩ : Addr) else some ⟨g, off + k, none⟩) n m) = [g] := by split <;> rfl
theorem RdC.drop {w : World} {l : List UInt8} {g off c : Nat} (h : RdC w (.slice (some ⟨g, off, none⟩) l.length c) l) (k : Nat) (hk : k ≤ l.length) :
    RdC w (.slice (if c = k then some ⟨g, off, none⟩ else some ⟨g, off + k, none⟩) (l.drop k).length (c - k : Nat)) (l.drop k) := by
  obtain ⟨h, ⟨a, c', e, hc⟩, hb⟩ := h
  cases e
  have hb' : g < w.heap.size := hb g (by simp [blk])
  have := Rd.drop h k hk hc
  refine ⟨?_, ⟨_, _, rfl, by rw [List.length_drop]; omega⟩, by rw [blk_drop]; intro i hi; simp only [List.mem_singleton] at hi; subst hi; exact hb'⟩
  unfold RdB
  rw [List.length_drop, bcells_drop]
  rw [Nat.mul_one, Addr.add_lit] at this
  have e : (if c = k then some (⟨g, off, none⟩ : Addr) else some ⟨g, off + k, none⟩) = some (if c = k then ⟨g, off, none⟩ else ⟨g, off + k, none⟩) := by split <;> rfl
  rw [e]
  exact this
/-- a walk stops ahead of an append -/
def Stop (p : Prop) : Prop := p
theorem Stop.out {p : Prop} (h : Stop p) : p := h
theorem stop_list {P : Program} {w : World} {ops : Array Oper} {l : List Oper} {a : Act} {Q : Exit → Act → World → Prop} (h : Stop (wpList P ops Q l a w)) : wpList P ops Q l a w := h
/-- append at a list of operations, whichever element type's law -/
theorem list_app {P : Program} {w : World} {ops : Array Oper} {o : Oper} {rest : List Oper} {a : Act} {Q : Exit → Act → World → Prop} {A : Value → World → Prop} (hg : o.guard = none)
    (h : ∀ K : Act → World → Prop, (∀ v' w', A v' w' → K (a.put o.dst v') w') → o.wp P a w K Q) (h2 : ∀ v' w', A v' w' → wpList P ops Q rest (a.put o.dst v') w') : Stop (wpList P ops Q (o :: rest) a w) :=
  wpList_plain hg fun K hK => h K fun v' w' hA => hK _ _ (h2 v' w' hA)
theorem unstop {p : Prop} (h : p) : Stop p := h
theorem src37 {w : World} (r : Value) (hr : r.oneCell' = true) : Src Tryd.prog 1 37 (.slice (some ⟨w.heap.size, 0, none⟩) 1 1) 1 [r] (w.alloc (.cells #[r] 21)) :=
  (Rd.of_block (size := 1) (n := 1) (xs := [r]) (off := 0) (cap := 1) (heap_new (w := w) (.cells #[r] 21)) rfl (by simpa using hr) (by simp)).src Tryd.underlying37
theorem RdB.take {w : World} {l : List UInt8} {g off c : Nat} (h : RdB w (.slice (some ⟨g, off, none⟩) l.length c) l) (k : Nat) (hk : k ≤ l.length) (c' : Nat) : RdB w (.slice (some ⟨g, off, none⟩) (l.take k).length c') (l.take k) := by
  have := Rd.take h k hk c'
  unfold RdB
  rw [List.length_take, Nat.min_eq_left hk, bcells_take]
  rw [Nat.mul_one] at this
  exact this
theorem value65 (w : World) (v : Value) (l : List UInt8) (h : RdB w v l) (h0 : 0 < l.length) (h4 : l.length ≤ 4) : Calls Tryd.prog 65 #[v] w fun e w' => e = .returned (.int .i32 (value l)) ∧ Fr [] w w' := by
  match l, h, h0, h4 with
  | [x], h, _, _ => exact value65_1 w v x h
  | [x, y], h, _, _ => exact value65_2 w v x y h
  | [x, y, z], h, _, _ => exact value65_3 w v x y z h
  | [x, y, z, t], h, _, _ => exact value65_4 w v x y z t h
  | _ :: _ :: _ :: _ :: _ :: _, h, _, h4 => simp at h4
end Go.Proofs.YtojdmhfkgkfpaaaDoor
