/- Slices that are made: literals, make. -/
import Derived.Test.YthegkipclogoeaaDoorAmOp6
import Derived.Great.BuildSlice
import Derived.Laws.MakeOwn
set_option linter.unusedVariables false
set_option linter.unusedSimpArgs false
namespace Go
namespace AM
open LMem LTxt
section
variable {P : Program} {own : Own} {h : AH} {w : World}
/-- a new row of elements -/
theorem new_seqF {s : Sh} {xs : List Dat} {us : List Value} (rest : List Value) (E : TypeId) (fr : Nat × Nat) (hfr : frOK fr (us ++ rest).length) (H : HR own h w) (hF : Flat (DR (Cw own h w) s) s.size xs us) :
    ∃ own', HR own' (h.new (.seq E s xs)) (w.alloc (.cells (us ++ rest).toArray E fr)) ∧ Ext own h w own' (h.new (.seq E s xs)) (w.alloc (.cells (us ++ rest).toArray E fr)) ∧
      own' h.next = some (some ⟨w.heap.size, 0, (us ++ rest).length, s.size⟩) := by
  have hE : Ext own h w (own.upd h.next (some ⟨w.heap.size, 0, (us ++ rest).length, s.size⟩)) (h.new (.seq E s xs)) (w.alloc (.cells (us ++ rest).toArray E fr)) := .new H trivial rfl
  refine ⟨_, .new H trivial rfl ?_, hE, upd_self⟩
  have hl := hF.length
  refine ⟨(us ++ rest).toArray, E, fr, heap_new _, ⟨by simpa using hfr, rfl⟩, by simp, rfl, by simp; omega, flat_rows (hF.mono fun _ _ => DR.mono hE.cells) fun j u hj => ?_⟩
  rw [Nat.zero_add]
  have := (List.getElem?_eq_some_iff.1 hj).1
  simp [List.getElem?_append_left this, hj]
theorem new_seq {s : Sh} {xs : List Dat} {us : List Value} (rest : List Value) (E : TypeId) (H : HR own h w) (hF : Flat (DR (Cw own h w) s) s.size xs us) :
    ∃ own', HR own' (h.new (.seq E s xs)) (w.alloc (.cells (us ++ rest).toArray E)) ∧ Ext own h w own' (h.new (.seq E s xs)) (w.alloc (.cells (us ++ rest).toArray E)) ∧
      own' h.next = some (some ⟨w.heap.size, 0, (us ++ rest).length, s.size⟩) := new_seqF rest E (0, 0) (.inr rfl) H hF
theorem repA_get {l : List AV} : ∀ {n i : Nat}, (repA l n)[i]? = if i < n * l.length then l[i % l.length]? else none
  | 0, i => by simp [repA]
  | n + 1, i => by
    simp only [repA]
    by_cases hi : i < l.length
    · rw [List.getElem?_append_left hi, if_pos (by rw [Nat.add_mul]; omega), Nat.mod_eq_of_lt hi]
    · rw [List.getElem?_append_right (by omega), repA_get]
      have e : (i - l.length) % l.length = i % l.length := by
        conv => rhs; rw [show i = (i - l.length) + l.length by omega, Nat.add_mod_right]
      rw [e]
      by_cases h2 : i - l.length < n * l.length
      · rw [if_pos h2, if_pos (by rw [Nat.add_mul]; omega)]
      · rw [if_neg h2, if_neg (by rw [Nat.add_mul]; omega)]
theorem repA_length {l : List AV} : ∀ {n : Nat}, (repA l n).length = n * l.length
  | 0 => by simp [repA]
  | n + 1 => by simp only [repA, List.length_append, repA_length, Nat.add_mul, Nat.one_mul]; omega
theorem repA_ones {l : List AV} (h1 : ones l = true) : ∀ {n : Nat}, ones (repA l n) = true
  | 0 => rfl
  | n + 1 => by simp only [repA]; exact enc_ones_aux h1 (repA_ones h1)
/-- zeros, one behind the other -/
theorem rep_VRs {C : CellsP} (z : Array Value) (n : Nat) : VRs own C (repA (z.toList.map .c) n) ((Array.range (n * z.size)).map (z[· % z.size]!)).toList := by
  refine VRs.of_get (by rw [repA_length]; simp) fun i a v h1 h2 => ?_
  rw [repA_get] at h1
  split at h1
  · rename_i hlt
    simp only [List.length_map, Array.length_toList] at hlt h1
    have hz : 0 < z.size := by
      rcases Nat.eq_zero_or_pos z.size with h0 | h0
      · rw [h0] at hlt; simp at hlt
      · exact h0
    have hm : i % z.size < z.size := Nat.mod_lt _ hz
    rw [List.getElem?_map, Array.getElem?_toList, Array.getElem?_eq_getElem hm] at h1
    simp at h1
    subst h1
    rw [VR.c_iff]
    rw [Array.getElem?_toList, Array.getElem?_map, Array.getElem?_range, if_pos hlt] at h2
    simp at h2
    rw [← h2, getElem!_pos z _ hm]
  · cases h1
theorem shOf_size : ∀ {n : Nat} {t : TypeId} {s : Sh}, shOf P n t = some s → ∃ i, P.info? t = some i ∧ s.size = i.size
  | 0, t, s, h => by simp [shOf] at h
  | n + 1, t, s, h => by
    simp only [shOf] at h
    split at h
    · split at h
      · split at h
        · cases h; exact ⟨_, ‹_›, ‹_›⟩
        · cases h
      · cases h
    · cases h
theorem shT_size {t : TypeId} {s : Sh} {i : TypeInfo} (h : shT P t = some s) (hi : P.info? t = some i) : s.size = i.size := by
  obtain ⟨j, hj, hs⟩ := shOf_size h
  rw [hi] at hj
  cases hj
  exact hs
theorem buildSlice_good {t : TypeId} {len : Nat} {ps : Array (Nat × Operand)} {ra : Operand → AV} {rc : Operand → Value} {K : AV → AH → Prop} (H : HR own h w) (hr : ∀ x, VR own (Cw own h w) (ra x) (rc x))
    (hf : buildSliceK P t len (ps.toList.map fun x => (x.1, ra x.2)) h K) : Good P own h w K ((Instr.buildSlice t len (ps.map fun x => (x.1, rc x.2))).run P w) := by
  unfold buildSliceK at hf
  split at hf
  · rename_i e hu
    split at hf
    · rename_i j z s hj hz hs
      have hsz := shT_size hs hj
      split at hf
      · rename_i hc
        obtain ⟨hc1, hc2⟩ := hc
        split at hf
        · rename_i l hl
          obtain ⟨i, zv, hi, hzv, hzs, rfl, h1⟩ := zeroA_spec hz
          rw [hj] at hi
          cases hi
          obtain ⟨cs', h2, h3, h4, h5⟩ := fill_sound (pc := fun i => some (i * j.size, j.size)) hr (fun _ _ h => h) (rep_VRs zv.cells len) (repA_ones h1) hl
          split at hf
          · split at hf
            · rename_i s' b
              obtain ⟨u, r, hu1, hu2, hu3⟩ := VRs.cons_iff.1 h3
              rw [VRs.nil_iff] at hu3
              subst hu3
              have hj1 : j.size = 1 := hsz.symm
              have hl1 : len = 1 := by
                have := h5
                rw [repA_length] at this
                simp [hzs, hj1] at this
                exact this.symm
              subst hl1
              have hcs : cs' = #[u] := Array.ext' hu1
              obtain ⟨own', H2, E2, ho⟩ := new_mix (xs := []) (us := []) (s := s') [] e H rfl hu2 (ones_mem.1 h4 b (by simp))
              have hrun : (Instr.buildSlice t 1 (ps.map fun x => (x.1, rc x.2))).run P w = .ok (.slice (some ⟨w.heap.size, 0, none⟩) 1 1) (w.alloc (.cells cs' e)) := by
                refine run_buildSlice w t e 1 _ cs' j zv hu hj hzv (by rw [hj1]; omega) (by rw [hj1]; omega) ?_
                rw [hzs] at h2
                simpa [hzs] using h2
              rw [hcs] at hrun
              refine ⟨_, _, own', _, _, hrun, by simpa using H2, by simpa using E2, ?_, hf⟩
              simp only [VR]
              exact .inr ⟨_, 0, 1, ho, rfl, Nat.le_refl _, fun _ => ⟨by simp, by simp⟩⟩
            · exact hf.elim
          obtain ⟨xs, h', hK, H', E', n', lx, ub, ⟨uc, hub⟩, F'⟩ := decsK_sound hf H h3 (show Flat _ _ [] [] from rfl)
          rw [List.nil_append] at F'
          obtain ⟨own', H2, E2, ho⟩ := new_seq uc e H' F'
          rw [← hub] at H2 E2 ho
          have hrun : (Instr.buildSlice t len (ps.map fun x => (x.1, rc x.2))).run P w = .ok (.slice (some ⟨w.heap.size, 0, none⟩) len len) (w.alloc (.cells cs' e)) := by
            by_cases hpos : len * j.size = 0
            · have hl0 : len = 0 := by
                rcases Nat.mul_eq_zero.1 hpos with h0 | h0
                · exact h0
                · omega
              subst hl0
              have h2' : Instr.fill (fun i => some (i * j.size, j.size)) #[] (ps.map fun x => (x.1, rc x.2)).toList = some cs' := by
                have : ((Array.range (0 * zv.cells.size)).map (zv.cells[· % zv.cells.size]!)) = #[] := by simp
                rw [this] at h2
                simpa using h2
              have h3' : Instr.fill (fun i => some (i * j.size, j.size)) #[] (ps.toList.map fun x => (x.1, rc x.2)) = some cs' := by simpa using h2'
              have hr0 : Array.map (fun _ : Nat => (default : Value)) (Array.range 0) = #[] := by simp
              simp [Instr.buildSlice, run_underlying hu, sizeOf, typeInfo, hj, newRow, hr0, h3']
            · refine run_buildSlice w t e len _ cs' j zv hu hj hzv (by omega) hpos ?_
              rw [hzs] at h2
              simpa [hzs] using h2
          refine ⟨_, _, own', _, _, hrun, by simpa using H2, E'.trans (by simpa using E2), ?_, hK⟩
          simp only [VR]
          have hcl : cs'.size = len * j.size := by
            have := h3.length
            rw [h5, repA_length] at this
            simpa [hzs] using this
          refine .inr ⟨_, 0, len, ho, rfl, Nat.le_refl _, fun _ => ⟨by simp, ?_⟩⟩
          simp only [Nat.zero_add, Array.length_toList, hcl, hsz]
          exact Nat.le_refl _
        · exact hf.elim
      · exact hf.elim
    · rename_i j z hj hz hs
      split at hf
      · rename_i hc
        obtain ⟨hc1, hc2, hc3⟩ := hc
        split at hf
        · rename_i l hl
          obtain ⟨i, zv, hi, hzv, hzs, rfl, h1⟩ := zeroA_spec hz
          rw [hj] at hi
          cases hi
          obtain ⟨cs', h2, h3, h4, h5⟩ := fill_sound (pc := fun i => some (i * 1, 1)) hr (fun _ _ h => h) (rep_VRs zv.cells len) (repA_ones h1) hl
          obtain ⟨own', H2, E2, ho⟩ := new_cells (T := e) H h3 h4
          have hrun : (Instr.buildSlice t len (ps.map fun x => (x.1, rc x.2))).run P w = .ok (.slice (some ⟨w.heap.size, 0, none⟩) len len) (w.alloc (.cells cs' e)) := by
            refine run_buildSlice w t e len _ cs' j zv hu hj hzv (by rw [hc3]; omega) (by rw [hc3]; omega) ?_
            rw [hzs] at h2
            simpa [hzs, hc3] using h2
          refine ⟨_, _, own', _, _, hrun, by simpa using H2, by simpa using E2, ?_, hf⟩
          simp only [VR]
          have hcl : cs'.size = len := by
            have := h3.length
            rw [h5, repA_length] at this
            simpa [hzs, hc3] using this
          refine .inr ⟨_, 0, len, ho, rfl, Nat.le_refl _, fun _ => ⟨by simp, ?_⟩⟩
          simp [hcl]
        · exact hf.elim
      · exact hf.elim
    · exact hf.elim
  · exact hf.elim
theorem zeroFits_spec {C : CellsP} : ∀ {s : Sh} {l r : List AV} {us : List Value}, zeroFits s l = some r → VRs own C l us → ∃ ua ub, us = ua ++ ub ∧ ua.length = s.size ∧ DR C s (zeroD s) ua ∧ VRs own C r ub
  | .int k, l, r, us, h, hv => by
    simp only [zeroFits] at h
    split at h
    · split at h
      · rename_i hc
        cases h
        obtain ⟨v, r', rfl, h1, h2⟩ := VRs.cons_iff.1 hv
        rw [VR.c_iff] at h1; subst h1
        obtain ⟨rfl, rfl⟩ := hc
        exact ⟨[_], r', rfl, rfl, rfl, h2⟩
      · cases h
    · cases h
  | .bool, l, r, us, h, hv => by
    simp only [zeroFits] at h
    split at h
    · split at h
      · cases h
        obtain ⟨v, r', rfl, h1, h2⟩ := VRs.cons_iff.1 hv
        rw [VR.c_iff] at h1; subst h1
        exact ⟨[_], r', rfl, rfl, rfl, h2⟩
      · cases h
    · cases h
  | .str, l, r, us, h, hv => by
    simp only [zeroFits] at h
    split at h
    · rename_i s _
      split at h
      · rename_i hs
        cases h
        obtain ⟨v, r', rfl, h1, h2⟩ := VRs.cons_iff.1 hv
        rw [VR.c_iff] at h1; subst h1
        have : s = ByteArray.empty := by
          apply ByteArray.ext
          apply Array.ext'
          rw [hs]
          rfl
        subst this
        exact ⟨[_], r', rfl, rfl, rfl, h2⟩
      · cases h
    · cases h
  | .slice s, l, r, us, h, hv => by
    simp only [zeroFits] at h
    split at h
    · cases h
      obtain ⟨v, r', rfl, h1, h2⟩ := VRs.cons_iff.1 hv
      rw [VR.c_iff] at h1; subst h1
      exact ⟨[_], r', rfl, rfl, ⟨_, rfl, none, 0, rfl, Nat.le_refl _, fun hn => absurd rfl hn⟩, h2⟩
    · cases h
  | .pair a b, l, r, us, h, hv => by
    simp only [zeroFits] at h
    split at h
    · rename_i l1 h1
      obtain ⟨ua, ub, rfl, l2, D, V⟩ := zeroFits_spec h1 hv
      obtain ⟨uc, ud, rfl, l3, D2, V2⟩ := zeroFits_spec h V
      exact ⟨ua ++ uc, ud, by simp, by simp [Sh.size, l2, l3], ⟨ua, uc, rfl, D, D2⟩, V2⟩
    · cases h
  | .unit, l, r, us, h, hv => by
    simp only [zeroFits] at h
    cases h
    exact ⟨[], us, rfl, rfl, rfl, hv⟩
theorem flat_replicate {R : Dat → List Value → Prop} {size : Nat} {d : Dat} {z : List Value} (hz : z.length = size) (hd : R d z) : ∀ (n : Nat) {us : List Value}, (∀ i, i < n * size → us[i]? = z[i % size]?) → us.length = n * size → Flat R size (List.replicate n d) us
  | 0, us, _, hl => by simp at hl; subst hl; rfl
  | n + 1, us, h, hl => by
    rw [Nat.add_mul, Nat.one_mul] at hl
    refine ⟨us.take size, us.drop size, (List.take_append_drop _ _).symm, by rw [List.length_take]; omega, ?_, flat_replicate hz hd n (fun i hi => ?_) (by rw [List.length_drop]; omega)⟩
    · have : us.take size = z := by
        apply List.ext_getElem?
        intro i
        rw [List.getElem?_take]
        split
        · rename_i hi
          rw [h i (by rw [Nat.add_mul]; omega), Nat.mod_eq_of_lt hi]
        · rw [List.getElem?_eq_none (by omega)]
      rw [this]; exact hd
    · rw [List.getElem?_drop, h _ (by rw [Nat.add_mul]; omega), Nat.add_mod_left]
theorem makeSlice_good {t : TypeId} {a b : AV} {x y : Value} {K : AV → AH → Prop} (H : HR own h w) (hx : VR own (Cw own h w) a x) (hy : VR own (Cw own h w) b y) (hf : makeSliceK P t a b h K) : Good P own h w K ((Instr.makeSlice t x y).run P w) := by
  unfold makeSliceK at hf
  split at hf
  · rename_i e kn n kc c hu
    rw [VR.c_iff] at hx hy; subst hx hy
    split at hf
    · rename_i j z s hj hz hs
      have hsz := shT_size hs hj
      split at hf
      · rename_i hc
        split at hf
        · rename_i hzf
          obtain ⟨hb, hf⟩ := req_iff.1 hf
          simp only [Bool.and_eq_true, decide_eq_true_eq] at hb
          obtain ⟨⟨h0, hnc⟩, hbytes⟩ := hb
          obtain ⟨i, zv, hi, hzv, hzs, rfl, h1⟩ := zeroA_spec hz
          rw [hj] at hi
          cases hi
          have hb1 : (1 : Int) ≤ j.bytes := by omega
          have hcb : c ≤ c * j.bytes := by
            have := Int.mul_le_mul_of_nonneg_left hb1 (show 0 ≤ c by omega)
            omega
          have hrun := run_make (P := P) w t e j zv hu hj hzv kn kc n c h0 hnc (by rw [Int.mul_comm]; omega) (by omega)
          obtain ⟨ua, ub, hua, lua, hD, hVn⟩ := zeroFits_spec hzf (VRs.consts (own := own) (C := Cw own h w) zv.cells.toList)
          rw [VRs.nil_iff] at hVn
          subst hVn
          rw [List.append_nil] at hua
          subst hua
          have hm : (madeCells zv.cells (c.toNat * j.size)).toList.length = c.toNat * j.size := by simp [madeCells]
          have hnle : n.toNat * j.size ≤ c.toNat * j.size := Nat.mul_le_mul_right _ (by omega)
          have hget : ∀ i, i < c.toNat * j.size → (madeCells zv.cells (c.toNat * j.size)).toList[i]? = zv.cells.toList[i % j.size]? := fun i hi => by
            have hmod : i % j.size < zv.cells.size := by rw [hzs]; exact Nat.mod_lt _ hc.1
            unfold madeCells
            rw [Array.getElem?_toList, Array.getElem?_map, Array.getElem?_range, if_pos hi, Array.getElem?_toList, Array.getElem?_eq_getElem hmod]
            simp only [Option.map_some, hzs]
            rw [getElem!_pos zv.cells _ hmod]
          have hF : Flat (DR (Cw own h w) s) s.size (List.replicate n.toNat (zeroD s)) ((madeCells zv.cells (c.toNat * j.size)).toList.take (n.toNat * j.size)) :=
            flat_replicate lua hD n.toNat (fun i hi => by
              rw [hsz] at hi ⊢
              rw [List.getElem?_take, if_pos hi, hget i (by omega)]) (by rw [List.length_take, hm, hsz]; omega)
          obtain ⟨own', H2, E2, ho⟩ := new_seq ((madeCells zv.cells (c.toNat * j.size)).toList.drop (n.toNat * j.size)) e H hF
          rw [List.take_append_drop] at H2 E2 ho
          refine ⟨_, _, own', _, _, hrun, by simpa using H2, by simpa using E2, ?_, hf⟩
          simp only [VR]
          refine .inr ⟨_, 0, c.toNat, ho, rfl, by omega, fun _ => ⟨by simp, ?_⟩⟩
          simp only [Nat.zero_add, hm, hsz]
          exact Nat.le_refl _
        · exact hf.elim
      · exact hf.elim
    · exact hf.elim
  · exact hf.elim
end
end AM
end Go
