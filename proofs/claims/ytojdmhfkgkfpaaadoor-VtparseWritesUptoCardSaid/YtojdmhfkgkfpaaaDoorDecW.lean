/- The reference's reading of runes: what its functions compute. -/
import Derived.Test.YtojdmhfkgkfpaaaDoorBytes
import Derived.Test.YtojdmhfkgkfpaaaDoorDec
import Derived.Lib.DecodeN
import Derived.Lib.Hide
set_option linter.unusedVariables false
namespace Go.Proofs.YtojdmhfkgkfpaaaDoor
open Go.LTxt Go.LMem Go.RowKit
set_option maxRecDepth 100000 in
theorem need81 (x : UInt8) (w : World) : Calls Tryd.prog 81 #[.int .u8 x.toNat] w fun e w' => e = .returned (.int .i64 (need x.toNat)) ∧ w = w' := by
  go_enter Tryd.func81, Tryd.ntmps81
  go_wp2
  all_goals go_ret
  all_goals refine ⟨ret_int ?_, rfl⟩
  all_goals simp only [need]
  all_goals repeat (first | rw [if_pos (by omega)] | rw [if_neg (by omega)])
  all_goals rfl
set_option maxRecDepth 100000 in
theorem second82 (x y : UInt8) (w : World) : Calls Tryd.prog 82 #[.int .u8 x.toNat, .int .u8 y.toNat] w fun e w' => e = .returned (.bool (second x.toNat y.toNat)) ∧ w = w' := by
  go_enter Tryd.func82, Tryd.ntmps82
  go_wp2
  all_goals go_ret
  all_goals refine ⟨ret_bool ?_, rfl⟩
  all_goals simp only [beq_iff_eq, beq_eq_false_iff_ne, ne_eq] at *
  all_goals simp only [second]
  all_goals repeat (first | rw [if_pos (by omega)] | rw [if_neg (by omega)])
  all_goals (rw [Bool.eq_iff_iff]; simp; try omega)
set_option maxRecDepth 100000 in
theorem value65_1 (w : World) (v : Value) (x : UInt8) (h : RdB w v [x]) : Calls Tryd.prog 65 #[v] w fun e w' => e = .returned (.int .i32 (value [x])) ∧ Fr [] w w' := by
  obtain ⟨g, off, c, rfl, hc⟩ := h.cells (by simp)
  have h0 : w.cell? ⟨g, off, none⟩ = some (.int .u8 x.toNat) := hc 0 x rfl
  clear hc h
  have bx : (x.toNat : Int) ≤ 255 := by have := x.toNat_lt; omega
  go_enter Tryd.func65, Tryd.ntmps65
  go_wp2
  go_ret
  exact ⟨rfl, Fr.refl _ _⟩
set_option maxRecDepth 100000 in
theorem value65_2 (w : World) (v : Value) (x y : UInt8) (h : RdB w v [x, y]) : Calls Tryd.prog 65 #[v] w fun e w' => e = .returned (.int .i32 (value [x, y])) ∧ Fr [] w w' := by
  obtain ⟨g, off, c, rfl, hc⟩ := h.cells (by simp)
  have h0 : w.cell? ⟨g, off, none⟩ = some (.int .u8 x.toNat) := hc 0 x rfl
  have h1 : w.cell? ⟨g, off + 1, none⟩ = some (.int .u8 y.toNat) := hc 1 y rfl
  clear hc h
  have b_x : (x.toNat : Int) ≤ 255 := by have := x.toNat_lt; omega
  have b_y : (y.toNat : Int) ≤ 255 := by have := y.toNat_lt; omega
  go_enter Tryd.func65, Tryd.ntmps65
  go_wp2_with (first | ((with_reducible refine wp_region_text tys mixed tysOK ?_ ?_); · decide +kernel) | ((with_reducible refine wpTxt_nil ?_)) | ((with_reducible refine txt_here ?_); (first | ((with_reducible refine st_txt ?_ ?_); (· exact ⟨rfl, fun _ => rfl⟩); intro _ _) | ((with_reducible refine st_skip ?_ ?_); (· exact ⟨rfl, _, _, rfl, rfl⟩)) | ((with_reducible refine wpTxt_skip ?_ ?_); (· rfl); simp only [Act.put, List.setIfInBounds_toArray, List.set_cons_succ, List.set_cons_zero]) | ((with_reducible refine st_txtg ?_ ?_); (· exact fun _ => rfl); intro _ _; go_simp))))
  go_ret
  exact ⟨rfl, (Fr.refl _ _).drew⟩
set_option maxRecDepth 100000 in
theorem value65_3 (w : World) (v : Value) (x y z : UInt8) (h : RdB w v [x, y, z]) : Calls Tryd.prog 65 #[v] w fun e w' => e = .returned (.int .i32 (value [x, y, z])) ∧ Fr [] w w' := by
  obtain ⟨g, off, c, rfl, hc⟩ := h.cells (by simp)
  have h0 : w.cell? ⟨g, off, none⟩ = some (.int .u8 x.toNat) := hc 0 x rfl
  have h1 : w.cell? ⟨g, off + 1, none⟩ = some (.int .u8 y.toNat) := hc 1 y rfl
  have h2 : w.cell? ⟨g, off + 2, none⟩ = some (.int .u8 z.toNat) := hc 2 z rfl
  clear hc h
  have b_x : (x.toNat : Int) ≤ 255 := by have := x.toNat_lt; omega
  have b_y : (y.toNat : Int) ≤ 255 := by have := y.toNat_lt; omega
  have b_z : (z.toNat : Int) ≤ 255 := by have := z.toNat_lt; omega
  go_enter Tryd.func65, Tryd.ntmps65
  go_wp2_with (first | ((with_reducible refine wp_region_text tys mixed tysOK ?_ ?_); · decide +kernel) | ((with_reducible refine wpTxt_nil ?_)) | ((with_reducible refine txt_here ?_); (first | ((with_reducible refine st_txt ?_ ?_); (· exact ⟨rfl, fun _ => rfl⟩); intro _ _) | ((with_reducible refine st_skip ?_ ?_); (· exact ⟨rfl, _, _, rfl, rfl⟩)) | ((with_reducible refine wpTxt_skip ?_ ?_); (· rfl); simp only [Act.put, List.setIfInBounds_toArray, List.set_cons_succ, List.set_cons_zero]) | ((with_reducible refine st_txtg ?_ ?_); (· exact fun _ => rfl); intro _ _; go_simp))))
  go_ret
  exact ⟨rfl, (Fr.refl _ _).drew⟩
set_option maxRecDepth 100000 in
theorem value65_4 (w : World) (v : Value) (x y z t : UInt8) (h : RdB w v [x, y, z, t]) : Calls Tryd.prog 65 #[v] w fun e w' => e = .returned (.int .i32 (value [x, y, z, t])) ∧ Fr [] w w' := by
  obtain ⟨g, off, c, rfl, hc⟩ := h.cells (by simp)
  have h0 : w.cell? ⟨g, off, none⟩ = some (.int .u8 x.toNat) := hc 0 x rfl
  have h1 : w.cell? ⟨g, off + 1, none⟩ = some (.int .u8 y.toNat) := hc 1 y rfl
  have h2 : w.cell? ⟨g, off + 2, none⟩ = some (.int .u8 z.toNat) := hc 2 z rfl
  have h3 : w.cell? ⟨g, off + 3, none⟩ = some (.int .u8 t.toNat) := hc 3 t rfl
  clear hc h
  have b_x : (x.toNat : Int) ≤ 255 := by have := x.toNat_lt; omega
  have b_y : (y.toNat : Int) ≤ 255 := by have := y.toNat_lt; omega
  have b_z : (z.toNat : Int) ≤ 255 := by have := z.toNat_lt; omega
  have b_t : (t.toNat : Int) ≤ 255 := by have := t.toNat_lt; omega
  go_enter Tryd.func65, Tryd.ntmps65
  go_wp2_with (first | ((with_reducible refine wp_region_text tys mixed tysOK ?_ ?_); · decide +kernel) | ((with_reducible refine wpTxt_nil ?_)) | ((with_reducible refine txt_here ?_); (first | ((with_reducible refine st_txt ?_ ?_); (· exact ⟨rfl, fun _ => rfl⟩); intro _ _) | ((with_reducible refine st_skip ?_ ?_); (· exact ⟨rfl, _, _, rfl, rfl⟩)) | ((with_reducible refine wpTxt_skip ?_ ?_); (· rfl); simp only [Act.put, List.setIfInBounds_toArray, List.set_cons_succ, List.set_cons_zero]) | ((with_reducible refine st_txtg ?_ ?_); (· exact fun _ => rfl); intro _ _; go_simp))))
  go_ret
  exact ⟨rfl, (Fr.refl _ _).drew⟩
set_option maxRecDepth 100000 in
set_option maxHeartbeats 1000000 in
theorem slow80_2 (w : World) (g off c n b0 b1 b2 b3 x lo hi : Nat) (hg : g < w.heap.size) (h0 : 0 < w.heap.size) (h1 : 1 < w.heap.size) (hn : 2 ≤ (n:Int)) (hn2 : (n:Int) ≤ 1099511627776) (c0 : w.cell? ⟨g, off, none⟩ = some (.int .u8 b0)) (hb0 : (b0 : Int) ≤ 255) (hb1 : (b1 : Int) ≤ 255) (hb2 : (b2 : Int) ≤ 255) (hb3 : (b3 : Int) ≤ 255)
   (c1 : w.cell? ⟨g, off + 1, none⟩ = some (.int .u8 b1))
  (hx : w.cell? ⟨0, b0, none⟩ = some (.int .u8 x)) (hx2 : (x : Int) < 240)
  (hlo : w.cell? ⟨1, x / 16 * 2, none⟩ = some (.int .u8 lo)) (hhi : w.cell? ⟨1, x / 16 * 2 + 1, none⟩ = some (.int .u8 hi)) (hsz : 2 ≤ (x : Int) % 8) (hsz2 : (x : Int) % 8 ≤ 2) :
   Calls Tryd.prog 80 #[.slice (some ⟨g, off, none⟩) n c] w fun e w' => e = .returned (.tuple #[.int .i32 (Lib.slowN n b0 b1 b2 b3 2 lo hi).1, .int .i64 (Lib.slowN n b0 b1 b2 b3 2 lo hi).2]) ∧ Fr [] w w' := by
  go_enter Tryd.func80, Tryd.ntmps80
  go_wp2_with (first | ((with_reducible refine wp_region_text tys mixed tysOK ?_ ?_); · decide +kernel))
  all_goals go_ret2
  all_goals (refine ⟨?_, (Fr.refl _ _).alloc _⟩; simp only [Lib.slowN]; repeat (first | rw [if_pos (by omega)] | rw [if_neg (by omega)]))
  all_goals rfl
set_option maxRecDepth 100000 in
set_option maxHeartbeats 1000000 in
theorem slow80_3 (w : World) (g off c n b0 b1 b2 b3 x lo hi : Nat) (hg : g < w.heap.size) (h0 : 0 < w.heap.size) (h1 : 1 < w.heap.size) (hn : 3 ≤ (n:Int)) (hn2 : (n:Int) ≤ 1099511627776) (c0 : w.cell? ⟨g, off, none⟩ = some (.int .u8 b0)) (hb0 : (b0 : Int) ≤ 255) (hb1 : (b1 : Int) ≤ 255) (hb2 : (b2 : Int) ≤ 255) (hb3 : (b3 : Int) ≤ 255)
   (c1 : w.cell? ⟨g, off + 1, none⟩ = some (.int .u8 b1)) (c2 : w.cell? ⟨g, off + 2, none⟩ = some (.int .u8 b2))
  (hx : w.cell? ⟨0, b0, none⟩ = some (.int .u8 x)) (hx2 : (x : Int) < 240)
  (hlo : w.cell? ⟨1, x / 16 * 2, none⟩ = some (.int .u8 lo)) (hhi : w.cell? ⟨1, x / 16 * 2 + 1, none⟩ = some (.int .u8 hi)) (hsz : 3 ≤ (x : Int) % 8) (hsz2 : (x : Int) % 8 ≤ 3) :
   Calls Tryd.prog 80 #[.slice (some ⟨g, off, none⟩) n c] w fun e w' => e = .returned (.tuple #[.int .i32 (Lib.slowN n b0 b1 b2 b3 3 lo hi).1, .int .i64 (Lib.slowN n b0 b1 b2 b3 3 lo hi).2]) ∧ Fr [] w w' := by
  go_enter Tryd.func80, Tryd.ntmps80
  go_wp2_with (first | ((with_reducible refine wp_region_text tys mixed tysOK ?_ ?_); · decide +kernel))
  all_goals go_ret2
  all_goals (refine ⟨?_, (Fr.refl _ _).alloc _⟩; simp only [Lib.slowN]; repeat (first | rw [if_pos (by omega)] | rw [if_neg (by omega)]))
  all_goals rfl
set_option maxRecDepth 100000 in
set_option maxHeartbeats 1000000 in
theorem slow80_4 (w : World) (g off c n b0 b1 b2 b3 x lo hi : Nat) (hg : g < w.heap.size) (h0 : 0 < w.heap.size) (h1 : 1 < w.heap.size) (hn : 4 ≤ (n:Int)) (hn2 : (n:Int) ≤ 1099511627776) (c0 : w.cell? ⟨g, off, none⟩ = some (.int .u8 b0)) (hb0 : (b0 : Int) ≤ 255) (hb1 : (b1 : Int) ≤ 255) (hb2 : (b2 : Int) ≤ 255) (hb3 : (b3 : Int) ≤ 255)
   (c1 : w.cell? ⟨g, off + 1, none⟩ = some (.int .u8 b1)) (c2 : w.cell? ⟨g, off + 2, none⟩ = some (.int .u8 b2)) (c3 : w.cell? ⟨g, off + 3, none⟩ = some (.int .u8 b3))
  (hx : w.cell? ⟨0, b0, none⟩ = some (.int .u8 x)) (hx2 : (x : Int) < 240)
  (hlo : w.cell? ⟨1, x / 16 * 2, none⟩ = some (.int .u8 lo)) (hhi : w.cell? ⟨1, x / 16 * 2 + 1, none⟩ = some (.int .u8 hi)) (hsz : 4 ≤ (x : Int) % 8) (hsz2 : (x : Int) % 8 ≤ 4) :
   Calls Tryd.prog 80 #[.slice (some ⟨g, off, none⟩) n c] w fun e w' => e = .returned (.tuple #[.int .i32 (Lib.slowN n b0 b1 b2 b3 4 lo hi).1, .int .i64 (Lib.slowN n b0 b1 b2 b3 4 lo hi).2]) ∧ Fr [] w w' := by
  go_enter Tryd.func80, Tryd.ntmps80
  go_wp2_with (first | ((with_reducible refine wp_region_text tys mixed tysOK ?_ ?_); · decide +kernel))
  all_goals go_ret2
  all_goals (refine ⟨?_, (Fr.refl _ _).alloc _⟩; simp only [Lib.slowN]; repeat (first | rw [if_pos (by omega)] | rw [if_neg (by omega)]))
  all_goals rfl
set_option maxRecDepth 100000 in
set_option maxHeartbeats 1000000 in
theorem slow80_short (w : World) (g off c n b0 b1 b2 b3 x lo hi : Nat) (hg : g < w.heap.size) (h0 : 0 < w.heap.size) (h1 : 1 < w.heap.size) (hn : 1 ≤ (n:Int)) (hn2 : (n:Int) ≤ 1099511627776) (c0 : w.cell? ⟨g, off, none⟩ = some (.int .u8 b0)) (hb0 : (b0 : Int) ≤ 255)
  (hx : w.cell? ⟨0, b0, none⟩ = some (.int .u8 x)) (hx2 : (x : Int) < 240)
  (hlo : w.cell? ⟨1, x / 16 * 2, none⟩ = some (.int .u8 lo)) (hhi : w.cell? ⟨1, x / 16 * 2 + 1, none⟩ = some (.int .u8 hi)) (hsz : (n : Int) < (x : Int) % 8) :
   Calls Tryd.prog 80 #[.slice (some ⟨g, off, none⟩) n c] w fun e w' => e = .returned (.tuple #[.int .i32 65533, .int .i64 1]) ∧ Fr [] w w' := by
  go_enter Tryd.func80, Tryd.ntmps80
  go_wp2
  all_goals go_ret2
  all_goals exact ⟨rfl, (Fr.refl _ _).alloc _⟩
theorem mask_bad_fin : ∀ b : Fin 256, bits BinOp.or IntKind.i32 (bits BinOp.andNot IntKind.i32 ((b.val : Nat) : Int) (wrap32 517543559168 / 2147483648)) (bits BinOp.and IntKind.i32 65533 (wrap32 517543559168 / 2147483648)) = 65533 := by decide +kernel
theorem mask_bad (b : Nat) (h : b ≤ 255) : bits BinOp.or IntKind.i32 (bits BinOp.andNot IntKind.i32 (b : Int) (wrap32 517543559168 / 2147483648)) (bits BinOp.and IntKind.i32 65533 (wrap32 517543559168 / 2147483648)) = 65533 := mask_bad_fin ⟨b, by omega⟩
set_option maxRecDepth 100000 in
set_option maxHeartbeats 1000000 in
theorem slow80_bad (w : World) (g off c n b0 : Nat) (hn : 1 ≤ (n:Int)) (hn2 : (n:Int) ≤ 1099511627776) (c0 : w.cell? ⟨g, off, none⟩ = some (.int .u8 b0)) (hb0 : (b0 : Int) ≤ 255)
  (hx : w.cell? ⟨0, b0, none⟩ = some (.int .u8 241)) :
   Calls Tryd.prog 80 #[.slice (some ⟨g, off, none⟩) n c] w fun e w' => e = .returned (.tuple #[.int .i32 65533, .int .i64 1]) ∧ Fr [] w w' := by
  go_enter Tryd.func80, Tryd.ntmps80
  go_wp2_with (first | ((with_reducible refine wp_region_text tys mixed tysOK ?_ ?_); · decide +kernel) | ((with_reducible refine wpTxt_nil ?_)) | ((with_reducible refine txt_here ?_); (first | ((with_reducible refine st_txt ?_ ?_); (· exact ⟨rfl, fun _ => rfl⟩); intro _ _) | ((with_reducible refine st_skip ?_ ?_); (· exact ⟨rfl, _, _, rfl, rfl⟩)) | ((with_reducible refine wpTxt_skip ?_ ?_); (· rfl); simp only [Act.put, List.setIfInBounds_toArray, List.set_cons_succ, List.set_cons_zero]) | ((with_reducible refine st_txtg ?_ ?_); (· exact fun _ => rfl); intro _ _; go_simp))))
  all_goals go_ret2
  all_goals (refine ⟨?_, by first | exact Fr.refl _ _ | exact (Fr.refl _ _).drew⟩)
  all_goals (have e := mask_bad b0 (by omega))
  all_goals exact congrArg Ending.returned (congrArg Value.tuple (congrArg (fun z => #[Value.int .i32 z, Value.int .i64 1]) e))
/-! ### the tables; the library's functions -/
structure Tabs (w : World) : Prop where
  size : 2 ≤ w.heap.size
  first : ∀ c, c < 256 → w.cell? ⟨0, c, none⟩ = some (.int .u8 (Lib.firstT c : Nat))
  acc : ∀ i, i < 16 → w.cell? ⟨1, i * 2, none⟩ = some (.int .u8 (Lib.accLo i : Nat)) ∧ w.cell? ⟨1, i * 2 + 1, none⟩ = some (.int .u8 (Lib.accHi i : Nat))
theorem Tabs.frame {F : List Nat} {w w' : World} (h : Tabs w) (hf : Fr F w w') (hF : ∀ i ∈ F, 2 ≤ i) : Tabs w' :=
  ⟨Nat.le_trans h.size hf.size, fun c hc => hf.cell (h.first c hc) (fun hm => by have := hF _ hm; simp at this),
    fun i hi => ⟨hf.cell (h.acc i hi).1 (fun hm => by have := hF _ hm; simp at this), hf.cell (h.acc i hi).2 (fun hm => by have := hF _ hm; simp at this)⟩⟩
/-- what a call of decodeRuneSlow gives -/
theorem slow80 (w : World) (g off c : Nat) (l : List UInt8) (hg : g < w.heap.size) (hT : Tabs w) (hn : 0 < l.length) (hn2 : l.length ≤ 1099511627776) (h128 : 128 ≤ b_ l 0)
    (hc : ∀ i (b : UInt8), l[i]? = some b → w.cell? ⟨g, off + i, none⟩ = some (.int .u8 b.toNat)) :
    Calls Tryd.prog 80 #[.slice (some ⟨g, off, none⟩) l.length c] w fun e w' => e = .returned (.tuple #[.int .i32 (decP l).1, .int .i64 (decP l).2]) ∧ Fr [] w w' := by
  have hb : ∀ i, i < l.length → w.cell? ⟨g, off + i, none⟩ = some (.int .u8 (b_ l i : Nat)) := fun i hi => hc i (l.getD i 0) (by simp [hi])
  have c0 := hb 0 hn
  rw [Nat.add_zero] at c0
  have hx := hT.first (b_ l 0) (by have := b_le l 0; omega)
  have b0 := b_le l 0
  have b1 := b_le l 1
  have b2 := b_le l 2
  have b3 := b_le l 3
  have hsz := hT.size
  have hf : Lib.firstT (b_ l 0) ≠ 240 := fun h => by have := first_240 _ h; omega
  have hd : decP l = if 240 ≤ Lib.firstT (b_ l 0) then (65533, 1) else Lib.slowN l.length (b_ l 0) (b_ l 1) (b_ l 2) (b_ l 3) (Lib.firstT (b_ l 0) % 8) (Lib.accLo (Lib.firstT (b_ l 0) / 16)) (Lib.accHi (Lib.firstT (b_ l 0) / 16)) := by
    unfold decP
    rw [if_neg (by omega), if_neg (by omega)]
  by_cases hbad : Lib.firstT (b_ l 0) = 241
  · rw [hbad] at hd hx
    rw [hd]
    exact slow80_bad w g off c l.length (b_ l 0) (by omega) (by omega) c0 (by omega) hx
  · have hlt : Lib.firstT (b_ l 0) < 240 := by rcases first_cases (b_ l 0) with h | h | h | h | h | h | h | h | h <;> omega
    have h16 : Lib.firstT (b_ l 0) / 16 < 16 := by omega
    have h8 : Lib.firstT (b_ l 0) % 8 = 2 ∨ Lib.firstT (b_ l 0) % 8 = 3 ∨ Lib.firstT (b_ l 0) % 8 = 4 := by
      rcases first_cases (b_ l 0) with h | h | h | h | h | h | h | h | h <;> omega
    obtain ⟨hlo, hhi⟩ := hT.acc _ h16
    rw [if_neg (by omega)] at hd
    rw [hd]
    generalize Lib.firstT (b_ l 0) = x at *
    by_cases hshort : l.length < x % 8
    · rw [Lib.slowN, if_pos hshort]
      exact slow80_short w g off c l.length (b_ l 0) (b_ l 1) (b_ l 2) (b_ l 3) x _ _ hg (by omega) (by omega) (by omega) (by omega) c0 (by omega) hx (by omega) hlo hhi (by omega)
    · rcases h8 with h8 | h8 | h8
      · rw [h8]
        exact slow80_2 w g off c l.length (b_ l 0) (b_ l 1) (b_ l 2) (b_ l 3) x _ _ hg (by omega) (by omega) (by omega) (by omega) c0 (by omega) (by omega) (by omega) (by omega) (hb 1 (by omega)) hx (by omega) hlo hhi (by omega) (by omega)
      · rw [h8]
        exact slow80_3 w g off c l.length (b_ l 0) (b_ l 1) (b_ l 2) (b_ l 3) x _ _ hg (by omega) (by omega) (by omega) (by omega) c0 (by omega) (by omega) (by omega) (by omega) (hb 1 (by omega)) (hb 2 (by omega)) hx (by omega) hlo hhi (by omega) (by omega)
      · rw [h8]
        exact slow80_4 w g off c l.length (b_ l 0) (b_ l 1) (b_ l 2) (b_ l 3) x _ _ hg (by omega) (by omega) (by omega) (by omega) c0 (by omega) (by omega) (by omega) (by omega) (hb 1 (by omega)) (hb 2 (by omega)) (hb 3 (by omega)) hx (by omega) hlo hhi (by omega) (by omega)
set_option maxRecDepth 100000 in
theorem slow80_nil (w : World) (a : Option Addr) (c : Nat) : Calls Tryd.prog 80 #[.slice a 0 c] w fun e w' => e = .returned (.tuple #[.int .i32 65533, .int .i64 0]) ∧ Fr [] w w' := by
  go_enter Tryd.func80, Tryd.ntmps80
  go_wp2
  go_ret2
  exact ⟨rfl, Fr.refl _ _⟩
set_option maxRecDepth 100000 in
theorem dec63 (w : World) (v : Value) (l : List UInt8) (h : RdB w v l) (hT : Tabs w) (hn2 : l.length ≤ 1099511627776) :
    Calls Tryd.prog 63 #[v] w fun e w' => e = .returned (.tuple #[.int .i32 (decP l).1, .int .i64 (decP l).2]) ∧ Fr [] w w' := by
  by_cases hn : l.length = 0
  · obtain ⟨a, c, rfl⟩ := h.len
    have hd : decP l = (65533, 0) := by unfold decP; rw [if_pos hn]
    rw [hd, hn]
    clear hd h
    go_enter Tryd.func63, Tryd.ntmps63
    go_wp2
    refine wp_loop_once ?_
    go_wp2_with (go_at_call 80; refine (slow80_nil _ _ _).mono ?_; rintro e w' ⟨rfl, hF⟩)
    go_ret2
    exact ⟨rfl, hF⟩
  · obtain ⟨g, off, c, rfl, hc⟩ := h.cells (by omega)
    have hb : ∀ i, i < l.length → w.cell? ⟨g, off + i, none⟩ = some (.int .u8 (b_ l i : Nat)) := fun i hi => hc i (l.getD i 0) (by simp [hi])
    have c0 := hb 0 (by omega)
    rw [Nat.add_zero] at c0
    have hg : g < w.heap.size := World.block_lt_of_cell? w _ c0
    have b0 := b_le l 0
    have hpos : (0 : Int) < (l.length : Int) := by omega
    by_cases h128 : b_ l 0 < 128
    · have hd : decP l = (b_ l 0, 1) := by unfold decP; rw [if_neg hn, if_pos h128]
      rw [hd]
      clear hd hb hc h
      go_enter Tryd.func63, Tryd.ntmps63
      go_wp2
      refine wp_loop_once ?_
      go_wp2
      go_ret2
      exact ⟨rfl, Fr.refl _ _⟩
    · have hs := slow80 w g off c l hg hT (by omega) hn2 (by omega) hc
      have H := Lib.hid hs
      clear hs hb hc h
      go_enter Tryd.func63, Tryd.ntmps63
      go_wp2
      refine wp_loop_once ?_
      go_wp2_with (go_at_call 80; refine H.out.mono ?_; rintro e w' ⟨rfl, hF⟩)
      go_ret2
      exact ⟨rfl, hF⟩
set_option maxRecDepth 100000 in
set_option maxHeartbeats 1000000 in
theorem full83_nil (w : World) (a : Option Addr) (c : Nat) : Calls Tryd.prog 83 #[.slice a 0 c] w fun e w' => e = .returned (.bool false) ∧ Fr [] w w' := by
  go_enter Tryd.func83, Tryd.ntmps83
  go_wp2
  go_ret
  exact ⟨rfl, Fr.refl _ _⟩
set_option maxRecDepth 100000 in
set_option maxHeartbeats 1000000 in
theorem full83_long (w : World) (g off c n b0 x : Nat) (hn : 1 ≤ (n:Int)) (hn2 : (n:Int) ≤ 1099511627776) (c0 : w.cell? ⟨g, off, none⟩ = some (.int .u8 b0)) (hb0 : (b0 : Int) ≤ 255)
  (hx : w.cell? ⟨0, b0, none⟩ = some (.int .u8 x)) (hx2 : (x : Int) ≤ 255) (hsz : (x : Int) % 8 ≤ n) :
    Calls Tryd.prog 83 #[.slice (some ⟨g, off, none⟩) n c] w fun e w' => e = .returned (.bool true) ∧ Fr [] w w' := by
  have hn0 : ((n : Int) == 0) = false := by simp; omega
  go_enter Tryd.func83, Tryd.ntmps83
  go_wp2
  go_ret
  exact ⟨rfl, Fr.refl _ _⟩
set_option maxRecDepth 100000 in
set_option maxHeartbeats 1000000 in
theorem full83_1 (w : World) (g off c b0 x lo hi : Nat) (hg : g < w.heap.size) (h0 : 0 < w.heap.size) (h1 : 1 < w.heap.size) (c0 : w.cell? ⟨g, off, none⟩ = some (.int .u8 b0)) (hb0 : (b0 : Int) ≤ 255)
 
  (hx : w.cell? ⟨0, b0, none⟩ = some (.int .u8 x)) (hx2 : (x : Int) < 240)
  (hlo : w.cell? ⟨1, x / 16 * 2, none⟩ = some (.int .u8 lo)) (hhi : w.cell? ⟨1, x / 16 * 2 + 1, none⟩ = some (.int .u8 hi)) (hsz : 1 < (x : Int) % 8)  :
    Calls Tryd.prog 83 #[.slice (some ⟨g, off, none⟩) 1 c] w fun e w' => e = .returned (.bool false) ∧ Fr [] w w' := by
  go_enter Tryd.func83, Tryd.ntmps83
  go_wp2_with (first | ((with_reducible refine wp_region_text tys mixed tysOK ?_ ?_); · decide +kernel) | ((with_reducible refine wpTxt_nil ?_)) | ((with_reducible refine txt_here ?_); (first | ((with_reducible refine st_txt ?_ ?_); (· exact ⟨rfl, fun _ => rfl⟩); intro _ _) | ((with_reducible refine st_skip ?_ ?_); (· exact ⟨rfl, _, _, rfl, rfl⟩)) | ((with_reducible refine wpTxt_skip ?_ ?_); (· rfl); simp only [Act.put, List.setIfInBounds_toArray, List.set_cons_succ, List.set_cons_zero]) | ((with_reducible refine st_txtg ?_ ?_); (· exact fun _ => rfl); intro _ _; go_simp))))
  all_goals go_ret
  all_goals exact ⟨rfl, by repeat (first | exact Fr.refl _ _ | refine Fr.drew ?_ | refine Fr.alloc ?_ _)⟩
set_option maxRecDepth 100000 in
set_option maxHeartbeats 1000000 in
theorem full83_2a (w : World) (g off c b0 b1 x lo hi : Nat) (hg : g < w.heap.size) (h0 : 0 < w.heap.size) (h1 : 1 < w.heap.size) (c0 : w.cell? ⟨g, off, none⟩ = some (.int .u8 b0)) (hb0 : (b0 : Int) ≤ 255)
  (c1 : w.cell? ⟨g, off + 1, none⟩ = some (.int .u8 b1)) (hb1 : (b1 : Int) ≤ 255)
  (hx : w.cell? ⟨0, b0, none⟩ = some (.int .u8 x)) (hx2 : (x : Int) < 240)
  (hlo : w.cell? ⟨1, x / 16 * 2, none⟩ = some (.int .u8 lo)) (hhi : w.cell? ⟨1, x / 16 * 2 + 1, none⟩ = some (.int .u8 hi)) (hsz : 2 < (x : Int) % 8) (k1 : (b1 : Int) < lo) :
    Calls Tryd.prog 83 #[.slice (some ⟨g, off, none⟩) 2 c] w fun e w' => e = .returned (.bool true) ∧ Fr [] w w' := by
  go_enter Tryd.func83, Tryd.ntmps83
  go_wp2_with (first | ((with_reducible refine wp_region_text tys mixed tysOK ?_ ?_); · decide +kernel) | ((with_reducible refine wpTxt_nil ?_)) | ((with_reducible refine txt_here ?_); (first | ((with_reducible refine st_txt ?_ ?_); (· exact ⟨rfl, fun _ => rfl⟩); intro _ _) | ((with_reducible refine st_skip ?_ ?_); (· exact ⟨rfl, _, _, rfl, rfl⟩)) | ((with_reducible refine wpTxt_skip ?_ ?_); (· rfl); simp only [Act.put, List.setIfInBounds_toArray, List.set_cons_succ, List.set_cons_zero]) | ((with_reducible refine st_txtg ?_ ?_); (· exact fun _ => rfl); intro _ _; go_simp))))
  all_goals go_ret
  all_goals exact ⟨rfl, by repeat (first | exact Fr.refl _ _ | refine Fr.drew ?_ | refine Fr.alloc ?_ _)⟩
set_option maxRecDepth 100000 in
set_option maxHeartbeats 1000000 in
theorem full83_2b (w : World) (g off c b0 b1 x lo hi : Nat) (hg : g < w.heap.size) (h0 : 0 < w.heap.size) (h1 : 1 < w.heap.size) (c0 : w.cell? ⟨g, off, none⟩ = some (.int .u8 b0)) (hb0 : (b0 : Int) ≤ 255)
  (c1 : w.cell? ⟨g, off + 1, none⟩ = some (.int .u8 b1)) (hb1 : (b1 : Int) ≤ 255)
  (hx : w.cell? ⟨0, b0, none⟩ = some (.int .u8 x)) (hx2 : (x : Int) < 240)
  (hlo : w.cell? ⟨1, x / 16 * 2, none⟩ = some (.int .u8 lo)) (hhi : w.cell? ⟨1, x / 16 * 2 + 1, none⟩ = some (.int .u8 hi)) (hsz : 2 < (x : Int) % 8) (k1 : (lo : Int) ≤ b1) (k2 : (hi : Int) < b1) :
    Calls Tryd.prog 83 #[.slice (some ⟨g, off, none⟩) 2 c] w fun e w' => e = .returned (.bool true) ∧ Fr [] w w' := by
  go_enter Tryd.func83, Tryd.ntmps83
  go_wp2_with (first | ((with_reducible refine wp_region_text tys mixed tysOK ?_ ?_); · decide +kernel) | ((with_reducible refine wpTxt_nil ?_)) | ((with_reducible refine txt_here ?_); (first | ((with_reducible refine st_txt ?_ ?_); (· exact ⟨rfl, fun _ => rfl⟩); intro _ _) | ((with_reducible refine st_skip ?_ ?_); (· exact ⟨rfl, _, _, rfl, rfl⟩)) | ((with_reducible refine wpTxt_skip ?_ ?_); (· rfl); simp only [Act.put, List.setIfInBounds_toArray, List.set_cons_succ, List.set_cons_zero]) | ((with_reducible refine st_txtg ?_ ?_); (· exact fun _ => rfl); intro _ _; go_simp))))
  all_goals go_ret
  all_goals exact ⟨rfl, by repeat (first | exact Fr.refl _ _ | refine Fr.drew ?_ | refine Fr.alloc ?_ _)⟩
set_option maxRecDepth 100000 in
set_option maxHeartbeats 1000000 in
theorem full83_2c (w : World) (g off c b0 b1 x lo hi : Nat) (hg : g < w.heap.size) (h0 : 0 < w.heap.size) (h1 : 1 < w.heap.size) (c0 : w.cell? ⟨g, off, none⟩ = some (.int .u8 b0)) (hb0 : (b0 : Int) ≤ 255)
  (c1 : w.cell? ⟨g, off + 1, none⟩ = some (.int .u8 b1)) (hb1 : (b1 : Int) ≤ 255)
  (hx : w.cell? ⟨0, b0, none⟩ = some (.int .u8 x)) (hx2 : (x : Int) < 240)
  (hlo : w.cell? ⟨1, x / 16 * 2, none⟩ = some (.int .u8 lo)) (hhi : w.cell? ⟨1, x / 16 * 2 + 1, none⟩ = some (.int .u8 hi)) (hsz : 2 < (x : Int) % 8) (k1 : (lo : Int) ≤ b1) (k2 : (b1 : Int) ≤ hi) :
    Calls Tryd.prog 83 #[.slice (some ⟨g, off, none⟩) 2 c] w fun e w' => e = .returned (.bool false) ∧ Fr [] w w' := by
  go_enter Tryd.func83, Tryd.ntmps83
  go_wp2_with (first | ((with_reducible refine wp_region_text tys mixed tysOK ?_ ?_); · decide +kernel) | ((with_reducible refine wpTxt_nil ?_)) | ((with_reducible refine txt_here ?_); (first | ((with_reducible refine st_txt ?_ ?_); (· exact ⟨rfl, fun _ => rfl⟩); intro _ _) | ((with_reducible refine st_skip ?_ ?_); (· exact ⟨rfl, _, _, rfl, rfl⟩)) | ((with_reducible refine wpTxt_skip ?_ ?_); (· rfl); simp only [Act.put, List.setIfInBounds_toArray, List.set_cons_succ, List.set_cons_zero]) | ((with_reducible refine st_txtg ?_ ?_); (· exact fun _ => rfl); intro _ _; go_simp))))
  all_goals go_ret
  all_goals exact ⟨rfl, by repeat (first | exact Fr.refl _ _ | refine Fr.drew ?_ | refine Fr.alloc ?_ _)⟩
set_option maxRecDepth 100000 in
set_option maxHeartbeats 1000000 in
theorem full83_3a (w : World) (g off c b0 b1 b2 x lo hi : Nat) (hg : g < w.heap.size) (h0 : 0 < w.heap.size) (h1 : 1 < w.heap.size) (c0 : w.cell? ⟨g, off, none⟩ = some (.int .u8 b0)) (hb0 : (b0 : Int) ≤ 255)
  (c1 : w.cell? ⟨g, off + 1, none⟩ = some (.int .u8 b1)) (hb1 : (b1 : Int) ≤ 255) (c2 : w.cell? ⟨g, off + 2, none⟩ = some (.int .u8 b2)) (hb2 : (b2 : Int) ≤ 255)
  (hx : w.cell? ⟨0, b0, none⟩ = some (.int .u8 x)) (hx2 : (x : Int) < 240)
  (hlo : w.cell? ⟨1, x / 16 * 2, none⟩ = some (.int .u8 lo)) (hhi : w.cell? ⟨1, x / 16 * 2 + 1, none⟩ = some (.int .u8 hi)) (hsz : 3 < (x : Int) % 8) (k1 : (b1 : Int) < lo) :
    Calls Tryd.prog 83 #[.slice (some ⟨g, off, none⟩) 3 c] w fun e w' => e = .returned (.bool true) ∧ Fr [] w w' := by
  go_enter Tryd.func83, Tryd.ntmps83
  go_wp2_with (first | ((with_reducible refine wp_region_text tys mixed tysOK ?_ ?_); · decide +kernel) | ((with_reducible refine wpTxt_nil ?_)) | ((with_reducible refine txt_here ?_); (first | ((with_reducible refine st_txt ?_ ?_); (· exact ⟨rfl, fun _ => rfl⟩); intro _ _) | ((with_reducible refine st_skip ?_ ?_); (· exact ⟨rfl, _, _, rfl, rfl⟩)) | ((with_reducible refine wpTxt_skip ?_ ?_); (· rfl); simp only [Act.put, List.setIfInBounds_toArray, List.set_cons_succ, List.set_cons_zero]) | ((with_reducible refine st_txtg ?_ ?_); (· exact fun _ => rfl); intro _ _; go_simp))))
  all_goals go_ret
  all_goals exact ⟨rfl, by repeat (first | exact Fr.refl _ _ | refine Fr.drew ?_ | refine Fr.alloc ?_ _)⟩
set_option maxRecDepth 100000 in
set_option maxHeartbeats 1000000 in
theorem full83_3b (w : World) (g off c b0 b1 b2 x lo hi : Nat) (hg : g < w.heap.size) (h0 : 0 < w.heap.size) (h1 : 1 < w.heap.size) (c0 : w.cell? ⟨g, off, none⟩ = some (.int .u8 b0)) (hb0 : (b0 : Int) ≤ 255)
  (c1 : w.cell? ⟨g, off + 1, none⟩ = some (.int .u8 b1)) (hb1 : (b1 : Int) ≤ 255) (c2 : w.cell? ⟨g, off + 2, none⟩ = some (.int .u8 b2)) (hb2 : (b2 : Int) ≤ 255)
  (hx : w.cell? ⟨0, b0, none⟩ = some (.int .u8 x)) (hx2 : (x : Int) < 240)
  (hlo : w.cell? ⟨1, x / 16 * 2, none⟩ = some (.int .u8 lo)) (hhi : w.cell? ⟨1, x / 16 * 2 + 1, none⟩ = some (.int .u8 hi)) (hsz : 3 < (x : Int) % 8) (k1 : (lo : Int) ≤ b1) (k2 : (hi : Int) < b1) :
    Calls Tryd.prog 83 #[.slice (some ⟨g, off, none⟩) 3 c] w fun e w' => e = .returned (.bool true) ∧ Fr [] w w' := by
  go_enter Tryd.func83, Tryd.ntmps83
  go_wp2_with (first | ((with_reducible refine wp_region_text tys mixed tysOK ?_ ?_); · decide +kernel) | ((with_reducible refine wpTxt_nil ?_)) | ((with_reducible refine txt_here ?_); (first | ((with_reducible refine st_txt ?_ ?_); (· exact ⟨rfl, fun _ => rfl⟩); intro _ _) | ((with_reducible refine st_skip ?_ ?_); (· exact ⟨rfl, _, _, rfl, rfl⟩)) | ((with_reducible refine wpTxt_skip ?_ ?_); (· rfl); simp only [Act.put, List.setIfInBounds_toArray, List.set_cons_succ, List.set_cons_zero]) | ((with_reducible refine st_txtg ?_ ?_); (· exact fun _ => rfl); intro _ _; go_simp))))
  all_goals go_ret
  all_goals exact ⟨rfl, by repeat (first | exact Fr.refl _ _ | refine Fr.drew ?_ | refine Fr.alloc ?_ _)⟩
set_option maxRecDepth 100000 in
set_option maxHeartbeats 1000000 in
theorem full83_3c (w : World) (g off c b0 b1 b2 x lo hi : Nat) (hg : g < w.heap.size) (h0 : 0 < w.heap.size) (h1 : 1 < w.heap.size) (c0 : w.cell? ⟨g, off, none⟩ = some (.int .u8 b0)) (hb0 : (b0 : Int) ≤ 255)
  (c1 : w.cell? ⟨g, off + 1, none⟩ = some (.int .u8 b1)) (hb1 : (b1 : Int) ≤ 255) (c2 : w.cell? ⟨g, off + 2, none⟩ = some (.int .u8 b2)) (hb2 : (b2 : Int) ≤ 255)
  (hx : w.cell? ⟨0, b0, none⟩ = some (.int .u8 x)) (hx2 : (x : Int) < 240)
  (hlo : w.cell? ⟨1, x / 16 * 2, none⟩ = some (.int .u8 lo)) (hhi : w.cell? ⟨1, x / 16 * 2 + 1, none⟩ = some (.int .u8 hi)) (hsz : 3 < (x : Int) % 8) (k1 : (lo : Int) ≤ b1) (k2 : (b1 : Int) ≤ hi) (k3 : (b2 : Int) < 128) :
    Calls Tryd.prog 83 #[.slice (some ⟨g, off, none⟩) 3 c] w fun e w' => e = .returned (.bool true) ∧ Fr [] w w' := by
  go_enter Tryd.func83, Tryd.ntmps83
  go_wp2_with (first | ((with_reducible refine wp_region_text tys mixed tysOK ?_ ?_); · decide +kernel) | ((with_reducible refine wpTxt_nil ?_)) | ((with_reducible refine txt_here ?_); (first | ((with_reducible refine st_txt ?_ ?_); (· exact ⟨rfl, fun _ => rfl⟩); intro _ _) | ((with_reducible refine st_skip ?_ ?_); (· exact ⟨rfl, _, _, rfl, rfl⟩)) | ((with_reducible refine wpTxt_skip ?_ ?_); (· rfl); simp only [Act.put, List.setIfInBounds_toArray, List.set_cons_succ, List.set_cons_zero]) | ((with_reducible refine st_txtg ?_ ?_); (· exact fun _ => rfl); intro _ _; go_simp))))
  all_goals go_ret
  all_goals exact ⟨rfl, by repeat (first | exact Fr.refl _ _ | refine Fr.drew ?_ | refine Fr.alloc ?_ _)⟩
set_option maxRecDepth 100000 in
set_option maxHeartbeats 1000000 in
theorem full83_3d (w : World) (g off c b0 b1 b2 x lo hi : Nat) (hg : g < w.heap.size) (h0 : 0 < w.heap.size) (h1 : 1 < w.heap.size) (c0 : w.cell? ⟨g, off, none⟩ = some (.int .u8 b0)) (hb0 : (b0 : Int) ≤ 255)
  (c1 : w.cell? ⟨g, off + 1, none⟩ = some (.int .u8 b1)) (hb1 : (b1 : Int) ≤ 255) (c2 : w.cell? ⟨g, off + 2, none⟩ = some (.int .u8 b2)) (hb2 : (b2 : Int) ≤ 255)
  (hx : w.cell? ⟨0, b0, none⟩ = some (.int .u8 x)) (hx2 : (x : Int) < 240)
  (hlo : w.cell? ⟨1, x / 16 * 2, none⟩ = some (.int .u8 lo)) (hhi : w.cell? ⟨1, x / 16 * 2 + 1, none⟩ = some (.int .u8 hi)) (hsz : 3 < (x : Int) % 8) (k1 : (lo : Int) ≤ b1) (k2 : (b1 : Int) ≤ hi) (k3 : 128 ≤ (b2 : Int)) (k4 : 191 < (b2 : Int)) :
    Calls Tryd.prog 83 #[.slice (some ⟨g, off, none⟩) 3 c] w fun e w' => e = .returned (.bool true) ∧ Fr [] w w' := by
  go_enter Tryd.func83, Tryd.ntmps83
  go_wp2_with (first | ((with_reducible refine wp_region_text tys mixed tysOK ?_ ?_); · decide +kernel) | ((with_reducible refine wpTxt_nil ?_)) | ((with_reducible refine txt_here ?_); (first | ((with_reducible refine st_txt ?_ ?_); (· exact ⟨rfl, fun _ => rfl⟩); intro _ _) | ((with_reducible refine st_skip ?_ ?_); (· exact ⟨rfl, _, _, rfl, rfl⟩)) | ((with_reducible refine wpTxt_skip ?_ ?_); (· rfl); simp only [Act.put, List.setIfInBounds_toArray, List.set_cons_succ, List.set_cons_zero]) | ((with_reducible refine st_txtg ?_ ?_); (· exact fun _ => rfl); intro _ _; go_simp))))
  all_goals go_ret
  all_goals exact ⟨rfl, by repeat (first | exact Fr.refl _ _ | refine Fr.drew ?_ | refine Fr.alloc ?_ _)⟩
set_option maxRecDepth 100000 in
set_option maxHeartbeats 1000000 in
theorem full83_3e (w : World) (g off c b0 b1 b2 x lo hi : Nat) (hg : g < w.heap.size) (h0 : 0 < w.heap.size) (h1 : 1 < w.heap.size) (c0 : w.cell? ⟨g, off, none⟩ = some (.int .u8 b0)) (hb0 : (b0 : Int) ≤ 255)
  (c1 : w.cell? ⟨g, off + 1, none⟩ = some (.int .u8 b1)) (hb1 : (b1 : Int) ≤ 255) (c2 : w.cell? ⟨g, off + 2, none⟩ = some (.int .u8 b2)) (hb2 : (b2 : Int) ≤ 255)
  (hx : w.cell? ⟨0, b0, none⟩ = some (.int .u8 x)) (hx2 : (x : Int) < 240)
  (hlo : w.cell? ⟨1, x / 16 * 2, none⟩ = some (.int .u8 lo)) (hhi : w.cell? ⟨1, x / 16 * 2 + 1, none⟩ = some (.int .u8 hi)) (hsz : 3 < (x : Int) % 8) (k1 : (lo : Int) ≤ b1) (k2 : (b1 : Int) ≤ hi) (k3 : 128 ≤ (b2 : Int)) (k4 : (b2 : Int) ≤ 191) :
    Calls Tryd.prog 83 #[.slice (some ⟨g, off, none⟩) 3 c] w fun e w' => e = .returned (.bool false) ∧ Fr [] w w' := by
  go_enter Tryd.func83, Tryd.ntmps83
  go_wp2_with (first | ((with_reducible refine wp_region_text tys mixed tysOK ?_ ?_); · decide +kernel) | ((with_reducible refine wpTxt_nil ?_)) | ((with_reducible refine txt_here ?_); (first | ((with_reducible refine st_txt ?_ ?_); (· exact ⟨rfl, fun _ => rfl⟩); intro _ _) | ((with_reducible refine st_skip ?_ ?_); (· exact ⟨rfl, _, _, rfl, rfl⟩)) | ((with_reducible refine wpTxt_skip ?_ ?_); (· rfl); simp only [Act.put, List.setIfInBounds_toArray, List.set_cons_succ, List.set_cons_zero]) | ((with_reducible refine st_txtg ?_ ?_); (· exact fun _ => rfl); intro _ _; go_simp))))
  all_goals go_ret
  all_goals exact ⟨rfl, by repeat (first | exact Fr.refl _ _ | refine Fr.drew ?_ | refine Fr.alloc ?_ _)⟩
end Go.Proofs.YtojdmhfkgkfpaaaDoor
