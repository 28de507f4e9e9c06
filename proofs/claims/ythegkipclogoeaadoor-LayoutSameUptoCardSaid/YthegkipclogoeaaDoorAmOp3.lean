/- Memory: rows of elements, loads, stores. -/
import Derived.Test.YthegkipclogoeaaDoorAmOp2
set_option linter.unusedVariables false
set_option linter.unusedSimpArgs false
namespace Go
namespace AM
open LMem LTxt
/-- elements, one behind the other -/
def Flat (R : Dat → List Value → Prop) (size : Nat) : List Dat → List Value → Prop
  | [], us => us = []
  | d :: xs, us => ∃ va ub, us = va ++ ub ∧ va.length = size ∧ R d va ∧ Flat R size xs ub
section
variable {R : Dat → List Value → Prop} {size : Nat}
theorem Flat.length : ∀ {xs : List Dat} {us : List Value}, Flat R size xs us → us.length = xs.length * size
  | [], us, h => by simp only [Flat] at h; subst h; simp
  | d :: xs, us, h => by
    obtain ⟨va, ub, rfl, h1, _, h3⟩ := h
    rw [List.length_append, h1, h3.length, List.length_cons, Nat.add_mul, Nat.one_mul, Nat.add_comm]
theorem Flat.append : ∀ {xs ys : List Dat} {us vs : List Value}, Flat R size xs us → Flat R size ys vs → Flat R size (xs ++ ys) (us ++ vs)
  | [], _, us, _, h, h2 => by simp only [Flat] at h; subst h; exact h2
  | d :: xs, _, us, vs, h, h2 => by
    obtain ⟨va, ub, rfl, h1, h3, h4⟩ := h
    exact ⟨va, ub ++ vs, by simp, h1, h3, h4.append h2⟩
theorem Flat.split : ∀ {xs ys : List Dat} {us : List Value}, Flat R size (xs ++ ys) us → ∃ ua ub, us = ua ++ ub ∧ Flat R size xs ua ∧ Flat R size ys ub
  | [], _, us, h => ⟨[], us, rfl, rfl, h⟩
  | d :: xs, _, us, h => by
    obtain ⟨va, ub, rfl, h1, h3, h4⟩ := h
    obtain ⟨uc, ud, rfl, h5, h6⟩ := h4.split
    exact ⟨va ++ uc, ud, by simp, ⟨va, uc, rfl, h1, h3, h5⟩, h6⟩
theorem Flat.drop {xs : List Dat} {us : List Value} (h : Flat R size xs us) (n : Nat) (hn : n ≤ xs.length) : Flat R size (xs.drop n) (us.drop (n * size)) := by
  rw [← List.take_append_drop n xs] at h
  obtain ⟨ua, ub, rfl, h1, h2⟩ := h.split
  have h3 := h1.length
  rw [List.length_take, Nat.min_eq_left hn] at h3
  rw [← h3, List.drop_left]
  exact h2
theorem Flat.take {xs : List Dat} {us : List Value} (h : Flat R size xs us) (n : Nat) (hn : n ≤ xs.length) : Flat R size (xs.take n) (us.take (n * size)) := by
  rw [← List.take_append_drop n xs] at h
  obtain ⟨ua, ub, rfl, h1, h2⟩ := h.split
  have h3 := h1.length
  rw [List.length_take, Nat.min_eq_left hn] at h3
  rw [← h3, List.take_left]
  exact h1
theorem Flat.mono {R' : Dat → List Value → Prop} (hR : ∀ d vs, R d vs → R' d vs) : ∀ {xs : List Dat} {us : List Value}, Flat R size xs us → Flat R' size xs us
  | [], _, h => h
  | d :: xs, us, h => by
    obtain ⟨va, ub, h0, h1, h2, h3⟩ := h
    exact ⟨va, ub, h0, h1, hR _ _ h2, h3.mono hR⟩
theorem Flat.one {d : Dat} {us : List Value} (h : R d us) (hl : us.length = size) : Flat R size [d] us := ⟨us, [], by simp, hl, h, rfl⟩
theorem Flat.get : ∀ {xs : List Dat} {us : List Value} {i : Nat} {d : Dat}, Flat R size xs us → xs[i]? = some d → ∃ ua va ub, us = ua ++ (va ++ ub) ∧ ua.length = i * size ∧ va.length = size ∧ R d va
  | [], _, i, d, _, hi => by simp at hi
  | e :: xs, us, i, d, h, hi => by
    obtain ⟨va, ub, rfl, h1, h2, h3⟩ := h
    cases i with
    | zero => simp at hi; subst hi; exact ⟨[], va, ub, rfl, by simp, h1, h2⟩
    | succ i =>
      obtain ⟨ua, vb, uc, rfl, h4, h5, h6⟩ := h3.get (by simpa using hi)
      exact ⟨va ++ ua, vb, uc, by simp, by rw [List.length_append, h1, h4, Nat.add_mul, Nat.one_mul, Nat.add_comm], h5, h6⟩
theorem Flat.set : ∀ {xs : List Dat} {us : List Value} {i : Nat} {d : Dat} {va : List Value}, Flat R size xs us → i < xs.length → R d va → va.length = size → Flat R size (xs.set i d) (us.take (i * size) ++ (va ++ us.drop ((i + 1) * size)))
  | [], _, i, d, va, _, hi, _, _ => by simp at hi
  | e :: xs, us, i, d, va, h, hi, hd, hl => by
    obtain ⟨vb, ub, rfl, h1, h2, h3⟩ := h
    cases i with
    | zero => exact ⟨va, ub, by simp [← h1], hl, hd, h3⟩
    | succ i =>
      have := Flat.set h3 (by simpa using hi) hd hl
      refine ⟨vb, ub.take (i * size) ++ (va ++ ub.drop ((i + 1) * size)), ?_, h1, h2, this⟩
      have e1 : (i + 1) * size = vb.length + i * size := by rw [Nat.add_mul, h1]; omega
      have e2 : (i + 1 + 1) * size = vb.length + (i + 1) * size := by rw [Nat.add_mul (i + 1), h1]; omega
      rw [e1, e2, List.take_length_add_append, List.drop_length_add_append, ← e1]
      simp
theorem rows_flat {C : CellsP} {g : Nat} : ∀ {xs : List Dat} {o : Nat}, Rows C R size xs g o → ∃ us, Flat R size xs us ∧ ∀ j u, us[j]? = some u → C g (o + j) u
  | [], o, h => ⟨[], rfl, fun j u hj => by simp at hj⟩
  | d :: xs, o, h => by
    obtain ⟨vs, h1, h2, h3⟩ := h 0 d rfl
    obtain ⟨us, h4, h5⟩ := rows_flat (xs := xs) (o := o + size) (C := C) (g := g) (fun i e hi => by
      obtain ⟨vs, h6, h7, h8⟩ := h (i + 1) e (by simpa using hi)
      refine ⟨vs, h6, h7, fun j u hj => ?_⟩
      have := h8 j u hj
      rw [Nat.add_mul, Nat.one_mul] at this
      rw [show o + size + i * size + j = o + (i * size + size) + j by omega]
      exact this)
    refine ⟨vs ++ us, ⟨vs, us, rfl, h1, h2, h4⟩, fun j u hj => ?_⟩
    rcases Nat.lt_or_ge j vs.length with hlt | hge
    · rw [List.getElem?_append_left hlt] at hj
      have := h3 j u hj
      simpa using this
    · rw [List.getElem?_append_right hge] at hj
      have := h5 _ u hj
      rw [show o + j = o + size + (j - vs.length) by omega]
      exact this
theorem flat_rows {C : CellsP} {g : Nat} {xs : List Dat} {us : List Value} {o : Nat} (h : Flat R size xs us) (hc : ∀ j u, us[j]? = some u → C g (o + j) u) : Rows C R size xs g o := fun i d hi => by
  obtain ⟨ua, va, ub, rfl, h1, h2, h3⟩ := h.get hi
  refine ⟨va, h2, h3, fun j u hj => ?_⟩
  have hlt := (List.getElem?_eq_some_iff.1 hj).1
  have := hc (ua.length + j) u (by
    rw [List.getElem?_append_right (by omega), Nat.add_sub_cancel_left, List.getElem?_append_left hlt]
    exact hj)
  rw [h1] at this
  rw [show o + i * size + j = o + (i * size + j) by omega]
  exact this
end
section
variable {P : Program} {own : Own} {h : AH} {w : World}
theorem isAgA_run {t : TypeId} {b : Bool} (hb : isAgA P t = some b) (w : World) : (isAgg t).run P w = .ok b w := by
  unfold isAgA at hb
  unfold isAgg
  split at hb <;> cases hb
  · simp [run_underlying ‹P.underlying t = some _›]
  · simp [run_underlying ‹P.underlying t = some _›]
  · rename_i d h1 h2 hu
    simp only [Sem.run_bind, run_underlying hu, Result.andThen_ok]
    rfl
theorem info_run {t : TypeId} {i : TypeInfo} (hi : P.info? t = some i) (w : World) : (sizeOf t).run P w = .ok i.size w := by
  unfold sizeOf typeInfo
  simp [hi]
/-- cells that are loaded, in whichever world holds them -/
theorem load_partU {C : CellsP} {t : TypeId} {l : List AV} {us : List Value} {off g o : Nat} {K : AV → Prop} (hf : partK P t l off K) (hv : VRs own C l us) :
    ∃ v av, (∀ w : World, (∀ i u, us[i]? = some u → w.cell? ⟨g, o + i, none⟩ = some u) → (loadVar t ⟨g, o + off, none⟩).run P w = .ok v w) ∧ VR own C av v ∧ K av := by
  unfold partK at hf
  split at hf
  · rename_i hb
    split at hf
    · rename_i i hi
      split at hf
      · rename_i hle
        have hl := hv.length
        have hsz : ((us.drop off).take i.size).length = i.size := by rw [List.length_take, List.length_drop]; omega
        refine ⟨.agg ((us.drop off).take i.size).toArray, _, fun w hc => ?_, ?_, hf⟩
        · have hld := run_loadCells_list (P := P) w ⟨g, o + off, none⟩ ((us.drop off).take i.size) (fun j v hj => by
            rw [Addr.add_lit]
            rw [List.getElem?_take] at hj
            split at hj
            · rw [List.getElem?_drop] at hj
              have := hc _ _ hj
              rw [← Nat.add_assoc] at this
              exact this
            · cases hj)
          rw [hsz] at hld
          unfold loadVar
          simp [isAgA_run hb, info_run hi, hld]
        · simp only [VR]
          exact ⟨_, rfl, by simpa using (hv.drop off).take i.size⟩
      · exact hf.elim
    · exact hf.elim
  · rename_i hb
    split at hf
    · rename_i a ha
      obtain ⟨u, hu, hau⟩ := hv.get ha
      refine ⟨u, a, fun w hc => ?_, hau, hf⟩
      unfold loadVar
      simp [isAgA_run hb, run_load, hc _ _ hu]
    · exact hf.elim
  · exact hf.elim
theorem load_part {C : CellsP} {t : TypeId} {l : List AV} {us : List Value} {off g o : Nat} {K : AV → Prop} (hf : partK P t l off K) (hv : VRs own C l us) (hc : ∀ i u, us[i]? = some u → w.cell? ⟨g, o + i, none⟩ = some u) :
    ∃ v av, (loadVar t ⟨g, o + off, none⟩).run P w = .ok v w ∧ VR own C av v ∧ K av := by
  obtain ⟨v, av, h1, h2, h3⟩ := load_partU (g := g) (o := o) hf hv
  exact ⟨v, av, h1 w hc, h2, h3⟩
/-- a part of a struct's value -/
theorem part_run {C : CellsP} {t : TypeId} {l : List AV} {cs : Array Value} {off : Nat} {K : AV → Prop} (hf : partK P t l off K) (hv : VRs own C l cs.toList) (w : World) :
    ∃ v av, (∀ w, (part t cs off).run P w = .ok v w) ∧ VR own C av v ∧ K av := by
  unfold partK at hf
  split at hf
  · rename_i hb
    split at hf
    · rename_i i hi
      split at hf
      · rename_i hle
        refine ⟨.agg (cs.extract off (off + i.size)), _, fun w => ?_, ?_, hf⟩
        · unfold part
          simp [isAgA_run hb, info_run hi]
        · simp only [VR]
          refine ⟨_, rfl, ?_⟩
          have := (hv.drop off).take i.size
          simpa [Array.toList_extract, List.extract_eq_take_drop] using this
      · exact hf.elim
    · exact hf.elim
  · rename_i hb
    split at hf
    · rename_i a ha
      obtain ⟨u, hu, hau⟩ := hv.get ha
      rw [Array.getElem?_toList] at hu
      refine ⟨u, a, fun w => ?_, hau, hf⟩
      unfold part
      simp [isAgA_run hb, hu]
    · exact hf.elim
  · exact hf.elim
/-- the cells of a block of structs and variables -/
theorem HR.cells (H : HR own h w) {id : Nat} {pl : Pl} {T : TypeId} {l : List AV} (ho : own id = some (some pl)) (hb : h.get id = .cells T l) :
    ∃ cs T' fr us, w.heap[pl.g]? = some (.cells cs T' fr) ∧ FrC T T' fr cs.size pl.d l.length pl.sz ∧ pl.N = cs.size ∧ VRs own (Cw own h w) l us ∧ ones l = true ∧ ∀ i u, us[i]? = some u → cs[pl.d + i]? = some u := by
  have := H.block (by rw [hb]; trivial) ho
  rw [hb] at this
  exact this
theorem HR.mix (H : HR own h w) {id : Nat} {pl : Pl} {E : TypeId} {s : Sh} {xs : List Dat} {a : AV} (ho : own id = some (some pl)) (hb : h.get id = .mix E s xs a) :
    ∃ cs T' fr us u, w.heap[pl.g]? = some (.cells cs T' fr) ∧ FrT E T' fr cs.size ∧ pl.N = cs.size ∧ pl.sz = 1 ∧ pl.d + (xs.length + 1) ≤ pl.N ∧ Flat (DR (Cw own h w) (.slice s)) 1 xs us ∧ VR own (Cw own h w) a u ∧ a.one = true ∧
      (∀ j v, us[j]? = some v → cs[pl.d + j]? = some v) ∧ cs[pl.d + xs.length]? = some u := by
  have hB := H.block (id := id) (by rw [hb]; trivial) ho
  rw [hb] at hB
  obtain ⟨cs, T', fr, u, h1, h2, h3, h4, h5, h6, h7, h8, h9⟩ := hB
  obtain ⟨us, h10, h11⟩ := rows_flat h6
  exact ⟨cs, T', fr, us, u, h1, h2, h3, h4, h5, h10, h7, h8, h11, h9⟩
theorem HR.seq (H : HR own h w) {id : Nat} {pl : Pl} {E : TypeId} {s : Sh} {xs : List Dat} (ho : own id = some (some pl)) (hb : h.get id = .seq E s xs) :
    ∃ cs T' fr us, w.heap[pl.g]? = some (.cells cs T' fr) ∧ FrT E T' fr cs.size ∧ pl.N = cs.size ∧ pl.sz = s.size ∧ pl.d + xs.length * s.size ≤ pl.N ∧ Flat (DR (Cw own h w) s) s.size xs us ∧ ∀ i u, us[i]? = some u → cs[pl.d + i]? = some u := by
  have := H.block (by rw [hb]; trivial) ho
  rw [hb] at this
  obtain ⟨cs, T', fr, h1, h2, h3, h4, h5, h6⟩ := this
  obtain ⟨us, h7, h8⟩ := rows_flat h6
  exact ⟨cs, T', fr, us, h1, h2, h3, h4, h5, h7, h8⟩
end
end AM
end Go
