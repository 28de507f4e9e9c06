/- FullRune whole; the reference's Head; runes of bytes, both. -/
import Derived.Test.YtojdmhfkgkfpaaaDoorDecW
set_option linter.unusedVariables false
namespace Go.Proofs.YtojdmhfkgkfpaaaDoor
open Go.LTxt Go.LMem Go.RowKit
theorem full83 (w : World) (v : Value) (l : List UInt8) (h : RdB w v l) (hT : Tabs w) (hn2 : l.length ≤ 1099511627776) :
    Calls Tryd.prog 83 #[v] w fun e w' => e = .returned (.bool (fullP l)) ∧ Fr [] w w' := by
  by_cases hn : l.length = 0
  · obtain ⟨a, c, rfl⟩ := h.len
    have hd : fullP l = false := by unfold fullP; rw [if_pos hn]
    rw [hd, hn]
    exact full83_nil w a c
  · obtain ⟨g, off, c, rfl, hc⟩ := h.cells (by omega)
    have hb : ∀ i, i < l.length → w.cell? ⟨g, off + i, none⟩ = some (.int .u8 (b_ l i : Nat)) := fun i hi => hc i (l.getD i 0) (by simp [hi])
    have c0 := hb 0 (by omega)
    rw [Nat.add_zero] at c0
    have hg : g < w.heap.size := World.block_lt_of_cell? w _ c0
    have b0 := b_le l 0
    have b1 := b_le l 1
    have b2 := b_le l 2
    have hx := hT.first (b_ l 0) (by omega)
    have hsz := hT.size
    have hx255 : Lib.firstT (b_ l 0) ≤ 241 := by rcases first_cases (b_ l 0) with h | h | h | h | h | h | h | h | h <;> omega
    by_cases hlong : Lib.firstT (b_ l 0) % 8 ≤ l.length
    · have hd : fullP l = true := by unfold fullP; rw [if_neg hn, if_pos hlong]
      rw [hd]
      exact full83_long w g off c l.length (b_ l 0) _ (by omega) (by omega) c0 (by omega) hx (by omega) (by omega)
    · have hlt : Lib.firstT (b_ l 0) < 240 := by
        rcases first_cases (b_ l 0) with h | h | h | h | h | h | h | h | h <;> omega
      obtain ⟨hlo, hhi⟩ := hT.acc (Lib.firstT (b_ l 0) / 16) (by omega)
      have h8 : Lib.firstT (b_ l 0) % 8 ≤ 4 := by
        rcases first_cases (b_ l 0) with h | h | h | h | h | h | h | h | h <;> omega
      unfold fullP
      rw [if_neg hn, if_neg hlong]
      generalize Lib.firstT (b_ l 0) = x at *
      generalize Lib.accLo (x / 16) = lo at *
      generalize Lib.accHi (x / 16) = hi at *
      have hlen : l.length = 1 ∨ l.length = 2 ∨ l.length = 3 := by omega
      rcases hlen with hl | hl | hl
      · rw [hl]
        rw [if_neg (by omega), if_neg (by omega)]
        exact full83_1 w g off c (b_ l 0) x lo hi hg (by omega) (by omega) c0 (by omega) hx (by omega) hlo hhi (by omega)
      · have c1 := hb 1 (by omega)
        rw [hl]
        by_cases k1 : b_ l 1 < lo
        · rw [if_pos (by omega)]
          exact full83_2a w g off c (b_ l 0) (b_ l 1) x lo hi hg (by omega) (by omega) c0 (by omega) c1 (by omega) hx (by omega) hlo hhi (by omega) (by omega)
        · by_cases k2 : hi < b_ l 1
          · rw [if_pos (by omega)]
            exact full83_2b w g off c (b_ l 0) (b_ l 1) x lo hi hg (by omega) (by omega) c0 (by omega) c1 (by omega) hx (by omega) hlo hhi (by omega) (by omega) (by omega)
          · rw [if_neg (by omega), if_neg (by omega)]
            exact full83_2c w g off c (b_ l 0) (b_ l 1) x lo hi hg (by omega) (by omega) c0 (by omega) c1 (by omega) hx (by omega) hlo hhi (by omega) (by omega) (by omega)
      · have c1 := hb 1 (by omega)
        have c2 := hb 2 (by omega)
        rw [hl]
        by_cases k1 : b_ l 1 < lo
        · rw [if_pos (by omega)]
          exact full83_3a w g off c (b_ l 0) (b_ l 1) (b_ l 2) x lo hi hg (by omega) (by omega) c0 (by omega) c1 (by omega) c2 (by omega) hx (by omega) hlo hhi (by omega) (by omega)
        · by_cases k2 : hi < b_ l 1
          · rw [if_pos (by omega)]
            exact full83_3b w g off c (b_ l 0) (b_ l 1) (b_ l 2) x lo hi hg (by omega) (by omega) c0 (by omega) c1 (by omega) c2 (by omega) hx (by omega) hlo hhi (by omega) (by omega) (by omega)
          · by_cases k3 : b_ l 2 < 128
            · rw [if_neg (by omega), if_pos (by omega)]
              exact full83_3c w g off c (b_ l 0) (b_ l 1) (b_ l 2) x lo hi hg (by omega) (by omega) c0 (by omega) c1 (by omega) c2 (by omega) hx (by omega) hlo hhi (by omega) (by omega) (by omega) (by omega)
            · by_cases k4 : 191 < b_ l 2
              · rw [if_neg (by omega), if_pos (by omega)]
                exact full83_3d w g off c (b_ l 0) (b_ l 1) (b_ l 2) x lo hi hg (by omega) (by omega) c0 (by omega) c1 (by omega) c2 (by omega) hx (by omega) hlo hhi (by omega) (by omega) (by omega) (by omega) (by omega)
              · rw [if_neg (by omega), if_neg (by omega)]
                exact full83_3e w g off c (b_ l 0) (b_ l 1) (b_ l 2) x lo hi hg (by omega) (by omega) c0 (by omega) c1 (by omega) c2 (by omega) hx (by omega) hlo hhi (by omega) (by omega) (by omega) (by omega) (by omega)
/-! ### Head -/
set_option maxRecDepth 100000 in
theorem head64_nil (w : World) (a : Option Addr) (c : Nat) : Calls Tryd.prog 64 #[.slice a 0 c] w fun e w' => e = .returned (.tuple #[.int .i64 0, .int .i64 0]) ∧ Fr [] w w' := by
  go_enter Tryd.func64, Tryd.ntmps64
  go_wp2
  go_ret2
  exact ⟨rfl, Fr.refl _ _⟩
set_option maxRecDepth 100000 in
theorem head64_none (w : World) (g off c n : Nat) (b : UInt8) (hn : 1 ≤ (n : Int)) (c0 : w.cell? ⟨g, off, none⟩ = some (.int .u8 b.toNat)) (hz : need b.toNat = 0) :
    Calls Tryd.prog 64 #[.slice (some ⟨g, off, none⟩) n c] w fun e w' => e = .returned (.tuple #[.int .i64 0, .int .i64 0]) ∧ Fr [] w w' := by
  have hn0 : ((n : Int) == 0) = false := by simp; omega
  have hneed := need81 b w
  rw [hz] at hneed
  have H := Lib.hid hneed
  clear hneed hz
  go_enter Tryd.func64, Tryd.ntmps64
  go_wp2_with (go_at_call 81; refine H.out.mono ?_; rintro e w' ⟨rfl, rfl⟩)
  all_goals go_ret2
  all_goals exact ⟨rfl, Fr.refl _ _⟩
set_option maxRecDepth 100000 in
set_option maxHeartbeats 1000000 in
theorem head64_loop (w : World) (g off c : Nat) (l : List UInt8) (x0 : UInt8) (m : Nat) (hx0 : l.headD 0 = x0) (hn : 1 ≤ (l.length : Int)) (hn2 : (l.length : Int) ≤ 1099511627776)
    (hc : ∀ i (b : UInt8), l[i]? = some b → w.cell? ⟨g, off + i, none⟩ = some (.int .u8 b.toNat)) (hz : need x0.toNat = m) (hm : 1 ≤ (m : Int)) (hm4 : (m : Int) ≤ 4) :
    Calls Tryd.prog 64 #[.slice (some ⟨g, off, none⟩) l.length c] w fun e w' => e = .returned (.tuple #[.int .i64 (headFrom l m 4 1).1, .int .i64 (headFrom l m 4 1).2]) ∧ Fr [] w w' := by
  have hn0 : ((l.length : Int) == 0) = false := by rw [beq_eq_false_iff_ne]; omega
  have hm0 : ((m : Int) == 0) = false := by rw [beq_eq_false_iff_ne]; omega
  have hneed := need81 x0 w
  rw [hz] at hneed
  have H := Lib.hid hneed
  have Hc := Lib.hid hc
  have c0 := hc 0 x0 (by rw [← hx0]; cases l with | nil => simp at hn | cons x r => rfl)
  have HX := Lib.hid hx0
  clear hx0
  rw [Nat.add_zero] at c0
  clear hneed hz hc
  go_enter Tryd.func64, Tryd.ntmps64
  go_wp2_with (go_at_call 81; refine H.out.mono ?_; rintro e w' ⟨rfl, rfl⟩)
  go_loopw [5] (fun i wr => ∃ k : Nat, 1 ≤ (k : Int) ∧ (k : Int) ≤ m ∧ i = .int .i64 k ∧ Fr [] w wr ∧ headFrom l m 4 1 = headFrom l m (5 - k) k) (fun i _ => 5 - (intOf i).toNat)
  case atStart => exact ⟨1, by omega, by omega, rfl, Fr.refl _ _, rfl⟩
  case round =>
    obtain ⟨k, hk1, hk2, rfl, hF, hE⟩ := hrel
    have HE := Lib.hid hE
    clear hE
    have hcr : ∀ i (b : UInt8), l[i]? = some b → wr.cell? ⟨g, off + i, none⟩ = some (.int .u8 b.toNat) := fun i b hb => hF.cell (Hc.out i b hb) (by simp)
    by_cases hkm : (k : Int) < m
    · have hst : ∀ (f : Nat), headFrom l m (f + 1) k = match l[k]? with
          | none => (k, m)
          | some y => if ((k == 1) && !second x0.toNat y.toNat) || !contB y.toNat then (0, m) else headFrom l m f (k + 1) := fun f => by
        rw [headFrom, if_pos (by omega), HX.out]
        cases l[k]? <;> rfl
      have h5 : 5 - k = (5 - (k + 1)) + 1 := by omega
      by_cases hkl : (k : Int) < l.length
      · obtain ⟨y, hy⟩ : ∃ y, l[k]? = some y := ⟨l[k]'(by omega), by simp [show k < l.length by omega]⟩
        have ck := hcr k y hy
        have hby : (y.toNat : Int) ≤ 255 := by have := y.toNat_lt; omega
        have hres : headFrom l m 4 1 = if ((k == 1) && !second x0.toNat y.toNat) || !contB y.toNat then (0, m) else headFrom l m (5 - (k + 1)) (k + 1) := by
          rw [HE.out, h5, hst, hy]
        clear hst h5 HE
        by_cases hk : k = 1
        · subst hk
          have c0' := hcr 0 x0 (by rw [← HX.out]; cases l with | nil => simp at hn | cons x r => rfl)
          rw [Nat.add_zero] at c0'
          clear hcr hy
          by_cases hsec : second x0.toNat y.toNat = true
          · have h82 := fun w => second82 x0 y w
            rw [hsec] at h82
            have H82 := Lib.hid h82
            clear h82
            by_cases hy1 : (y.toNat : Int) < 128
            · have hR := Lib.hid (hres.trans (if_pos (by simp [contB]; omega)))
              clear hres hsec
              go_wp2_with (first | (go_at_call 82; refine (H82.out _).mono ?_; rintro e w' ⟨rfl, rfl⟩) | ((with_reducible refine wp_region_text tys mixed tysOK ?_ ?_); · decide +kernel) | ((with_reducible refine wpTxt_nil ?_)) | ((with_reducible refine txt_here ?_); (first | ((with_reducible refine st_txt ?_ ?_); (· exact ⟨rfl, fun _ => rfl⟩); intro _ _) | ((with_reducible refine st_skip ?_ ?_); (· exact ⟨rfl, _, _, rfl, rfl⟩)) | ((with_reducible refine wpTxt_skip ?_ ?_); (· rfl); simp only [Act.put, List.setIfInBounds_toArray, List.set_cons_succ, List.set_cons_zero]) | ((with_reducible refine st_txtg ?_ ?_); (· exact fun _ => rfl); intro _ _; go_simp))))
              go_ret2
              exact ⟨by rw [hR.out]; rfl, hF.drew⟩
            · by_cases hy2 : (191 : Int) < y.toNat
              · have hR := Lib.hid (hres.trans (if_pos (by simp [contB]; omega)))
                clear hres hsec
                go_wp2_with (first | (go_at_call 82; refine (H82.out _).mono ?_; rintro e w' ⟨rfl, rfl⟩) | ((with_reducible refine wp_region_text tys mixed tysOK ?_ ?_); · decide +kernel) | ((with_reducible refine wpTxt_nil ?_)) | ((with_reducible refine txt_here ?_); (first | ((with_reducible refine st_txt ?_ ?_); (· exact ⟨rfl, fun _ => rfl⟩); intro _ _) | ((with_reducible refine st_skip ?_ ?_); (· exact ⟨rfl, _, _, rfl, rfl⟩)) | ((with_reducible refine wpTxt_skip ?_ ?_); (· rfl); simp only [Act.put, List.setIfInBounds_toArray, List.set_cons_succ, List.set_cons_zero]) | ((with_reducible refine st_txtg ?_ ?_); (· exact fun _ => rfl); intro _ _; go_simp))))
                go_ret2
                exact ⟨by rw [hR.out]; rfl, hF.drew⟩
              · have hR := Lib.hid (hres.trans (if_neg (by simp [contB, hsec]; omega)))
                clear hres hsec
                go_wp2_with (first | (go_at_call 82; refine (H82.out _).mono ?_; rintro e w' ⟨rfl, rfl⟩) | ((with_reducible refine wp_region_text tys mixed tysOK ?_ ?_); · decide +kernel) | ((with_reducible refine wpTxt_nil ?_)) | ((with_reducible refine txt_here ?_); (first | ((with_reducible refine st_txt ?_ ?_); (· exact ⟨rfl, fun _ => rfl⟩); intro _ _) | ((with_reducible refine st_skip ?_ ?_); (· exact ⟨rfl, _, _, rfl, rfl⟩)) | ((with_reducible refine wpTxt_skip ?_ ?_); (· rfl); simp only [Act.put, List.setIfInBounds_toArray, List.set_cons_succ, List.set_cons_zero]) | ((with_reducible refine st_txtg ?_ ?_); (· exact fun _ => rfl); intro _ _; go_simp))))
                go_roundw
                case rel => exact ⟨2, by omega, by omega, rfl, hF.drew, hR.out⟩
                case measure => simp [intOf]
          · have hsec' : second x0.toNat y.toNat = false := by simpa using hsec
            have h82 := fun w => second82 x0 y w
            rw [hsec'] at h82
            have H82 := Lib.hid h82
            have hR := Lib.hid (hres.trans (if_pos (by simp [hsec'])))
            clear h82 hres hsec hsec'
            go_wp2_with (first | (go_at_call 82; refine (H82.out _).mono ?_; rintro e w' ⟨rfl, rfl⟩) | ((with_reducible refine wp_region_text tys mixed tysOK ?_ ?_); · decide +kernel) | ((with_reducible refine wpTxt_nil ?_)) | ((with_reducible refine txt_here ?_); (first | ((with_reducible refine st_txt ?_ ?_); (· exact ⟨rfl, fun _ => rfl⟩); intro _ _) | ((with_reducible refine st_skip ?_ ?_); (· exact ⟨rfl, _, _, rfl, rfl⟩)) | ((with_reducible refine wpTxt_skip ?_ ?_); (· rfl); simp only [Act.put, List.setIfInBounds_toArray, List.set_cons_succ, List.set_cons_zero]) | ((with_reducible refine st_txtg ?_ ?_); (· exact fun _ => rfl); intro _ _; go_simp))))
            go_ret2
            exact ⟨by rw [hR.out]; rfl, hF.drew⟩
        · have hk1' : ((k : Int) == 1) = false := by simp; omega
          have hkb : (k == 1) = false := by simp [hk]
          rw [hkb] at hres
          clear hcr hy hkb
          by_cases hy1 : (y.toNat : Int) < 128
          · have hR := Lib.hid (hres.trans (if_pos (by simp [contB]; omega)))
            clear hres
            go_wp2_with (first | ((with_reducible refine wp_region_text tys mixed tysOK ?_ ?_); · decide +kernel) | ((with_reducible refine wpTxt_nil ?_)) | ((with_reducible refine txt_here ?_); (first | ((with_reducible refine st_txt ?_ ?_); (· exact ⟨rfl, fun _ => rfl⟩); intro _ _) | ((with_reducible refine st_skip ?_ ?_); (· exact ⟨rfl, _, _, rfl, rfl⟩)) | ((with_reducible refine wpTxt_skip ?_ ?_); (· rfl); simp only [Act.put, List.setIfInBounds_toArray, List.set_cons_succ, List.set_cons_zero]) | ((with_reducible refine st_txtg ?_ ?_); (· exact fun _ => rfl); intro _ _; go_simp))))
            go_ret2
            exact ⟨by rw [hR.out]; rfl, hF.drew⟩
          · by_cases hy2 : (191 : Int) < y.toNat
            · have hR := Lib.hid (hres.trans (if_pos (by simp [contB]; omega)))
              clear hres
              go_wp2_with (first | ((with_reducible refine wp_region_text tys mixed tysOK ?_ ?_); · decide +kernel) | ((with_reducible refine wpTxt_nil ?_)) | ((with_reducible refine txt_here ?_); (first | ((with_reducible refine st_txt ?_ ?_); (· exact ⟨rfl, fun _ => rfl⟩); intro _ _) | ((with_reducible refine st_skip ?_ ?_); (· exact ⟨rfl, _, _, rfl, rfl⟩)) | ((with_reducible refine wpTxt_skip ?_ ?_); (· rfl); simp only [Act.put, List.setIfInBounds_toArray, List.set_cons_succ, List.set_cons_zero]) | ((with_reducible refine st_txtg ?_ ?_); (· exact fun _ => rfl); intro _ _; go_simp))))
              go_ret2
              exact ⟨by rw [hR.out]; rfl, hF.drew⟩
            · have hR := Lib.hid (hres.trans (if_neg (by simp [contB]; omega)))
              clear hres
              go_wp2_with (first | ((with_reducible refine wp_region_text tys mixed tysOK ?_ ?_); · decide +kernel) | ((with_reducible refine wpTxt_nil ?_)) | ((with_reducible refine txt_here ?_); (first | ((with_reducible refine st_txt ?_ ?_); (· exact ⟨rfl, fun _ => rfl⟩); intro _ _) | ((with_reducible refine st_skip ?_ ?_); (· exact ⟨rfl, _, _, rfl, rfl⟩)) | ((with_reducible refine wpTxt_skip ?_ ?_); (· rfl); simp only [Act.put, List.setIfInBounds_toArray, List.set_cons_succ, List.set_cons_zero]) | ((with_reducible refine st_txtg ?_ ?_); (· exact fun _ => rfl); intro _ _; go_simp))))
              go_roundw
              case rel => exact ⟨k + 1, by omega, by omega, by go_num, hF.drew, hR.out⟩
              case measure => simp [intOf]; omega
      · have hy : l[k]? = none := by simp; omega
        have hR := Lib.hid (show headFrom l m 4 1 = (k, m) by rw [HE.out, h5, hst, hy])
        clear hst h5 HE hcr hy
        go_wp2_with (first | ((with_reducible refine wp_region_text tys mixed tysOK ?_ ?_); · decide +kernel) | ((with_reducible refine wpTxt_nil ?_)) | ((with_reducible refine txt_here ?_); (first | ((with_reducible refine st_txt ?_ ?_); (· exact ⟨rfl, fun _ => rfl⟩); intro _ _) | ((with_reducible refine st_skip ?_ ?_); (· exact ⟨rfl, _, _, rfl, rfl⟩)) | ((with_reducible refine wpTxt_skip ?_ ?_); (· rfl); simp only [Act.put, List.setIfInBounds_toArray, List.set_cons_succ, List.set_cons_zero]) | ((with_reducible refine st_txtg ?_ ?_); (· exact fun _ => rfl); intro _ _; go_simp))))
        go_ret2
        exact ⟨by rw [hR.out]; rfl, hF⟩
    · have hR := Lib.hid (show headFrom l m 4 1 = (k, m) by
        rw [HE.out]
        have : k = m := by omega
        subst this
        cases 5 - k with
        | zero => rfl
        | succ f => rw [headFrom, if_neg (by omega)])
      clear HE hcr
      go_wp2_with (first | ((with_reducible refine wp_region_text tys mixed tysOK ?_ ?_); · decide +kernel) | ((with_reducible refine wpTxt_nil ?_)) | ((with_reducible refine txt_here ?_); (first | ((with_reducible refine st_txt ?_ ?_); (· exact ⟨rfl, fun _ => rfl⟩); intro _ _) | ((with_reducible refine st_skip ?_ ?_); (· exact ⟨rfl, _, _, rfl, rfl⟩)) | ((with_reducible refine wpTxt_skip ?_ ?_); (· rfl); simp only [Act.put, List.setIfInBounds_toArray, List.set_cons_succ, List.set_cons_zero]) | ((with_reducible refine st_txtg ?_ ?_); (· exact fun _ => rfl); intro _ _; go_simp))))
      go_ret2
      exact ⟨by rw [hR.out]; rfl, hF⟩
theorem head64 (w : World) (v : Value) (l : List UInt8) (h : RdB w v l) (hn2 : l.length ≤ 1099511627776) :
    Calls Tryd.prog 64 #[v] w fun e w' => e = .returned (.tuple #[.int .i64 (head l).1, .int .i64 (head l).2]) ∧ Fr [] w w' := by
  cases l with
  | nil => obtain ⟨a, c, rfl⟩ := h.len; exact head64_nil w a c
  | cons x r =>
    obtain ⟨g, off, c, rfl, hc⟩ := h.cells (by simp)
    by_cases hz : need x.toNat = 0
    · have hd : head (x :: r) = (0, 0) := by unfold head; dsimp only; rw [if_pos hz]
      rw [hd]
      have c0 := hc 0 x rfl
      exact head64_none w g off c _ x (by simp; omega) c0 hz
    · have hd : head (x :: r) = headFrom (x :: r) (need x.toNat) 4 1 := by unfold head; dsimp only; rw [if_neg hz]
      rw [hd]
      have := need_le x.toNat
      exact head64_loop w g off c (x :: r) x _ rfl (by simp; omega) (by simp at hn2 ⊢; omega) hc rfl (by omega) (by omega)
end Go.Proofs.YtojdmhfkgkfpaaaDoor
