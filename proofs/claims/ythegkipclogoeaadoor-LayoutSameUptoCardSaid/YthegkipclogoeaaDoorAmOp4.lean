/- Memory: loads, new blocks, stores. -/
import Derived.Test.YthegkipclogoeaaDoorAmOp3
set_option linter.unusedVariables false
set_option linter.unusedSimpArgs false
namespace Go
namespace AM
open LMem LTxt
section
variable {P : Program} {own : Own} {h : AH} {w : World}
theorem cell_of {w : World} {g : Nat} {cs : Array Value} {T : TypeId} {fr : Nat × Nat} (hb : w.heap[g]? = some (.cells cs T fr)) (i : Nat) : w.cell? ⟨g, i, none⟩ = cs[i]? := cell_at hb i
theorem froz_of {w : World} {g : Nat} {cs : Array Value} {T : TypeId} {fr : Nat × Nat} (hb : w.heap[g]? = some (.cells cs T fr)) (hf : frOK fr cs.size) {i : Nat} (hi : i < cs.size) : w.frozen? ⟨g, i, none⟩ = false := by
  simp only [World.frozen?, hb]
  unfold frOK at hf
  simp
  omega
theorem loadK_run {t : TypeId} {a : AV} {x : Value} {K : AV → Prop} (H : HR own h w) (hx : VR own (Cw own h w) a x) (hf : loadK P t a h K) :
    ∃ v av, (Instr.loadAt t x).run P w = .ok v w ∧ VR own (Cw own h w) av v ∧ K av := by
  unfold loadK at hf
  split at hf
  · rename_i id off
    simp only [VR] at hx
    obtain ⟨pl, ho, rfl⟩ := hx
    split at hf
    · rename_i T l hb
      obtain ⟨cs, T', fr, us, h1, h2, h3, h4, h5, h6⟩ := H.cells ho hb
      obtain ⟨v, av, h7, h8, h9⟩ := load_part (g := pl.g) (o := pl.d) hf h4 (fun i u hu => by rw [cell_of h1]; exact h6 i u hu)
      exact ⟨v, av, by unfold Instr.loadAt Instr.sureAddr; simpa using h7, h8, h9⟩
    · rename_i T l hb
      have hB := H.block (id := id) (by rw [hb]; trivial) ho
      rw [hb] at hB
      obtain ⟨cs, T', fr, us, h1, h2, h3, h4, h5, h6⟩ := hB
      obtain ⟨v, av, h7, h8, h9⟩ := load_part (g := pl.g) (o := pl.d) hf h4 (fun i u hu => by rw [cell_of h1]; exact h6 i u hu)
      exact ⟨v, av, by unfold Instr.loadAt Instr.sureAddr; simpa using h7, h8, h9⟩
    · exact hf.elim
  · rename_i id i off
    simp only [VR] at hx
    obtain ⟨pl, ho, rfl⟩ := hx
    split at hf
    · rename_i E s xs hb
      obtain ⟨hi, hf⟩ := req_iff.1 hf
      rw [decide_eq_true_eq] at hi
      obtain ⟨cs, T', fr, us, h1, h2, h3, h4, h5, h6, h7⟩ := H.seq ho hb
      have hd : xs[i]? = some (xs.getD i default) := by rw [List.getD_eq_getElem?_getD, List.getElem?_eq_getElem hi]; rfl
      obtain ⟨ua, va, ub, rfl, h8, h9, h10⟩ := h6.get hd
      obtain ⟨v, av, g1, g2, g3⟩ := load_part (g := pl.g) (o := pl.d + i * pl.sz) hf (DR.enc.1 h10) (fun j u hu => by
        rw [cell_of h1, h4, Nat.add_assoc]
        refine h7 _ _ ?_
        have := (List.getElem?_eq_some_iff.1 hu).1
        rw [← h8, List.getElem?_append_right (by omega), Nat.add_sub_cancel_left, List.getElem?_append_left this]
        exact hu)
      exact ⟨v, av, by unfold Instr.loadAt Instr.sureAddr; simpa using g1, g2, g3⟩
    · rename_i E s xs b hb
      obtain ⟨hi, hf⟩ := req_iff.1 hf
      rw [decide_eq_true_eq] at hi
      obtain ⟨cs, T', fr, us, u, h1, h2, h3, h4, h5, h6, h7, h8, h9, h10⟩ := H.mix ho hb
      obtain ⟨v, av, g1, g2, g3⟩ := load_part (g := pl.g) (o := pl.d + i * pl.sz) hf (VRs.one h7) (fun j v hv => by
        rw [cell_of h1, h4, Nat.mul_one, hi]
        cases j with
        | zero => simp at hv; subst hv; exact h10
        | succ j => simp at hv)
      exact ⟨v, av, by unfold Instr.loadAt Instr.sureAddr; simpa using g1, g2, g3⟩
    · exact hf.elim
  · rename_i s xs i off
    simp only [VR] at hx
    obtain ⟨g, o, rfl, hr⟩ := hx
    obtain ⟨hi, hf⟩ := req_iff.1 hf
    rw [decide_eq_true_eq] at hi
    have hd : xs[i]? = some (xs.getD i default) := by rw [List.getD_eq_getElem?_getD, List.getElem?_eq_getElem hi]; rfl
    obtain ⟨vs, h1, h2, h3⟩ := hr i _ hd
    obtain ⟨v, av, g1, g2, g3⟩ := load_part (g := g) (o := o + i * s.size) hf (DR.enc.1 h2) (fun j u hu => (h3 j u hu).2)
    exact ⟨v, av, by unfold Instr.loadAt Instr.sureAddr; simpa using g1, g2, g3⟩
  · exact hf.elim
/-- the cells of a value -/
theorem cells_VRs {own : Own} {C : CellsP} {a : AV} {v : Value} (hv : VR own C a v) (h1 : ones a.cells = true) : VRs own C a.cells v.cells.toList := by
  unfold AV.cells at h1 ⊢
  split at h1
  · simp only [VR] at hv
    obtain ⟨vs, rfl, h2⟩ := hv
    exact h2
  · rename_i cs
    rw [VR.c_iff] at hv
    subst hv
    exact VRs.consts _
  · rename_i h2 h3
    have ho : a.one = true := ones_mem.1 h1 a (by simp)
    have hoc := hv.one ho
    have : v.cells = #[v] := by
      cases v <;> first | rfl | (simp [Value.oneCell'] at hoc)
    rw [this]
    exact VRs.one hv
/-- a new block of cells -/
theorem new_cells {l : List AV} {us : List Value} {T : TypeId} (H : HR own h w) (hv : VRs own (Cw own h w) l us) (h1 : ones l = true) :
    ∃ own', HR own' (h.new (.cells T l)) (w.alloc (.cells us.toArray T)) ∧ Ext own h w own' (h.new (.cells T l)) (w.alloc (.cells us.toArray T)) ∧ own' h.next = some (some ⟨w.heap.size, 0, us.length, 1⟩) := by
  have hE : Ext own h w (own.upd h.next (some ⟨w.heap.size, 0, us.length, 1⟩)) (h.new (.cells T l)) (w.alloc (.cells us.toArray T)) := .new H trivial rfl
  refine ⟨_, .new H trivial rfl ?_, hE, upd_self⟩
  exact ⟨us.toArray, T, (0, 0), us, heap_new _, ⟨.inr rfl, rfl, rfl, by simpa using hv.length, rfl⟩, by simp, hE.vrs hv, h1, fun i u hu => by simpa using hu⟩
/-- a new row whose last element is written -/
theorem new_mix {s : Sh} {xs : List Dat} {us : List Value} {a : AV} {u : Value} (rest : List Value) (E : TypeId) (H : HR own h w) (hF : Flat (DR (Cw own h w) (.slice s)) 1 xs us) (hv : VR own (Cw own h w) a u) (h1 : a.one = true) :
    ∃ own', HR own' (h.new (.mix E s xs a)) (w.alloc (.cells (us ++ u :: rest).toArray E)) ∧ Ext own h w own' (h.new (.mix E s xs a)) (w.alloc (.cells (us ++ u :: rest).toArray E)) ∧
      own' h.next = some (some ⟨w.heap.size, 0, (us ++ u :: rest).length, 1⟩) := by
  have hE : Ext own h w (own.upd h.next (some ⟨w.heap.size, 0, (us ++ u :: rest).length, 1⟩)) (h.new (.mix E s xs a)) (w.alloc (.cells (us ++ u :: rest).toArray E)) := .new H trivial rfl
  have hl := hF.length
  rw [Nat.mul_one] at hl
  refine ⟨_, .new H trivial rfl ?_, hE, upd_self⟩
  refine ⟨(us ++ u :: rest).toArray, E, (0, 0), u, heap_new _, ⟨.inr rfl, rfl⟩, by simp, rfl, by simp; omega, flat_rows (hF.mono fun _ _ => DR.mono hE.cells) fun j v hj => ?_, hE.vr hv, h1, ?_⟩
  · rw [Nat.zero_add]
    have := (List.getElem?_eq_some_iff.1 hj).1
    simp [List.getElem?_append_left this, hj]
  · rw [Nat.zero_add, ← hl]
    simp
/-- the zero of a type -/
theorem zeroA_spec {e : TypeId} {z : List AV} (hz : zeroA P e = some z) : ∃ i zv, P.info? e = some i ∧ i.zero = some zv ∧ zv.cells.size = i.size ∧ z = zv.cells.toList.map .c ∧ ones z = true := by
  unfold zeroA at hz
  split at hz
  · rename_i i hi
    split at hz
    · rename_i zv hzv
      split at hz
      · cases hz
        exact ⟨i, zv, hi, hzv, ‹_ ∧ _›.1, rfl, ‹_ ∧ _›.2⟩
      · cases hz
    · cases hz
  · cases hz
theorem alloc_good {e : TypeId} {z : List AV} {K : AV → AH → Prop} (H : HR own h w) (hz : zeroA P e = some z) (hK : K (.p h.next 0) (h.new (.cells e z))) : Good P own h w K ((Instr.alloc e true (.tuple #[])).run P w) := by
  obtain ⟨i, zv, hi, hzv, hsz, rfl, h1⟩ := zeroA_spec hz
  obtain ⟨own', h2, h3, h4⟩ := new_cells (T := e) H (VRs.consts zv.cells.toList) h1
  refine ⟨.pointer (some ⟨w.heap.size, 0, none⟩), _, own', _, _, ?_, h2, h3, ?_, hK⟩
  · simp [Instr.alloc, zeroValue, typeInfo, hi, hzv, newVar, newRow]
  · simp only [VR]; exact ⟨_, h4, rfl⟩
theorem box_good {e : TypeId} {a : AV} {x : Value} {K : AV → AH → Prop} (H : HR own h w) (hx : VR own (Cw own h w) a x) (h1 : ones a.cells = true) (hK : K (.p h.next 0) (h.new (.cells e a.cells))) :
    Good P own h w K ((Instr.box e x).run P w) := by
  obtain ⟨own', h2, h3, h4⟩ := new_cells (T := e) H (cells_VRs hx h1) h1
  refine ⟨.pointer (some ⟨w.heap.size, 0, none⟩), _, own', _, _, ?_, h2, h3, ?_, hK⟩
  · simp [Instr.box, newVar, newRow]
  · simp only [VR]; exact ⟨_, h4, rfl⟩
/-- cells are stored in a block -/
theorem store_run {t : TypeId} {x : Value} {cs : Array Value} {T : TypeId} {fr : Nat × Nat} {g o : Nat} (hs : x.cells.size = P.cellsOf t) (hi : ∃ i, P.info? t = some i) (hb : w.heap[g]? = some (.cells cs T fr)) (hf : frOK fr cs.size) (ho : o + x.cells.size ≤ cs.size)
    (h1 : ∀ u ∈ x.cells.toList, u.oneCell' = true) :
    ∃ w' cs', (storeVar t ⟨g, o, none⟩ x).run P w = .ok () w' ∧ But g w w' ∧ w'.heap[g]? = some (.cells cs' T fr) ∧ cs'.size = cs.size ∧ (∀ j, (j < o ∨ o + x.cells.size ≤ j) → cs'[j]? = cs[j]?) ∧ ∀ j, j < x.cells.size → cs'[o + j]? = x.cells.toList[j]? := by
  obtain ⟨i, hi⟩ := hi
  have hst := run_storeCells_cells (P := P) g o x.cells.toList 0 w (fun j hj => by
      rw [cell_of hb, Nat.add_zero]
      simp at hj
      rw [Array.getElem?_eq_getElem (by omega)]
      rfl) (fun j hj => by simp at hj; exact froz_of hb hf (by omega)) h1
  obtain ⟨cs', k1, k2, k3, k4⟩ := setCells_heap g x.cells.toList o w cs T fr hb
  refine ⟨_, cs', ?_, But.setCells g _ o w, k1, k2, fun j hj => k3 j (by simpa using hj), fun j hj => k4 j (by omega) (by simpa using hj)⟩
  have hsz : x.cells.size = i.size := by rw [hs]; simp [Program.cellsOf, hi]
  unfold storeVar
  simp only [Sem.run_bind, info_run hi, Result.andThen_ok, ne_eq, hsz, not_true, if_false]
  simpa using hst
theorem splice_len {l vs : List AV} {off : Nat} (h : off + vs.length ≤ l.length) : (splice l off vs).length = l.length := by
  unfold splice
  simp
  omega
theorem splice_VRs {own : Own} {C : CellsP} {l vs : List AV} {us xs : List Value} {off : Nat} (h1 : VRs own C l us) (h2 : VRs own C vs xs) : VRs own C (splice l off vs) (us.take off ++ (xs ++ us.drop (off + xs.length))) := by
  unfold splice
  rw [h2.length]
  exact (h1.take off).append (h2.append (h1.drop _))
theorem splice_ones {l vs : List AV} {off : Nat} (h1 : ones l = true) (h2 : ones vs = true) : ones (splice l off vs) = true := by
  refine ones_mem.2 fun a ha => ?_
  unfold splice at ha
  simp only [List.mem_append] at ha
  rcases ha with ha | ha | ha
  · exact ones_mem.1 h1 a (List.mem_of_mem_take ha)
  · exact ones_mem.1 h2 a ha
  · exact ones_mem.1 h1 a (List.mem_of_mem_drop ha)
/-- what stands in the cells behind a store -/
theorem splice_cells {cs cs' : Array Value} {us xs : List Value} {d off : Nat} (hle : off + xs.length ≤ us.length) (h1 : ∀ i u, us[i]? = some u → cs[d + i]? = some u) (h2 : ∀ j, (j < d + off ∨ d + off + xs.length ≤ j) → cs'[j]? = cs[j]?)
    (h3 : ∀ j, j < xs.length → cs'[d + off + j]? = xs[j]?) : ∀ i u, (us.take off ++ (xs ++ us.drop (off + xs.length)))[i]? = some u → cs'[d + i]? = some u := by
  intro i u hu
  have ht : (us.take off).length = off := by rw [List.length_take]; omega
  by_cases hi : i < off
  · rw [List.getElem?_append_left (by omega), List.getElem?_take, if_pos hi] at hu
    rw [h2 _ (.inl (by omega))]
    exact h1 i u hu
  · rw [List.getElem?_append_right (by omega), ht] at hu
    by_cases hi2 : i - off < xs.length
    · rw [List.getElem?_append_left hi2] at hu
      rw [show d + i = d + off + (i - off) by omega, h3 _ hi2]
      exact hu
    · rw [List.getElem?_append_right (by omega), List.getElem?_drop] at hu
      rw [h2 _ (.inr (by omega))]
      rw [show off + xs.length + (i - off - xs.length) = i by omega] at hu
      exact h1 i u hu
end
end AM
end Go
