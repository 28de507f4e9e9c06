/- Conversions, whole. -/
import Derived.Test.YthegkipclogoeaaDoorAmOpA
import Derived.Lib.Builder
set_option linter.unusedVariables false
set_option linter.unusedSimpArgs false
namespace Go
namespace AM
open LMem LTxt
section
variable {P : Program} {own : Own} {h : AH} {w : World}
theorem runesFrom_ints (s : ByteArray) : ∀ (bound i : Nat) (acc : Array Value), (∀ u ∈ acc.toList, ∃ n, u = Value.int .i32 n) → ∀ u ∈ (Conv.runesFrom s bound i acc).toList, ∃ n, u = Value.int .i32 n
  | 0, i, acc, h => h
  | bound + 1, i, acc, h => by
    unfold Conv.runesFrom
    split
    · simp only []
      refine runesFrom_ints s bound _ _ fun u hu => ?_
      rw [Array.toList_push] at hu
      rcases List.mem_append.1 hu with hu | hu
      · exact h u hu
      · rw [List.mem_singleton] at hu; exact ⟨_, hu⟩
    · exact h
theorem runesD_cells (s : ByteArray) : (runesD s).map (fun d => Value.int .i32 d.toInt) = (Conv.runesFrom s s.size 0 #[]).toList := by
  have hall := runesFrom_ints s s.size 0 #[] (by simp)
  unfold runesD
  rw [List.map_map]
  conv => rhs; rw [← List.map_id (Conv.runesFrom s s.size 0 #[]).toList]
  apply List.map_congr_left
  intro u hu
  obtain ⟨n, rfl⟩ := hall u hu
  rfl
theorem ints_flat {C : CellsP} {k : IntKind} : ∀ (xs : List Dat), Flat (DR C (.int k)) 1 xs (xs.map fun d => Value.int k d.toInt)
  | [] => rfl
  | d :: xs => ⟨[_], _, rfl, rfl, rfl, ints_flat xs⟩
theorem stringToRunes_run (e : TypeId) (s : ByteArray) : (Conv.stringToRunes e s).run P w = .ok (.slice (some ⟨w.heap.size, 0, none⟩) (runesD s).length (grownCap w (runesD s).length 0 e))
    (w.drew.alloc (.cells ((runesD s).map (fun d => Value.int .i32 d.toInt) ++ List.replicate (grownCap w (runesD s).length 0 e - (runesD s).length) (Value.int .i32 0)).toArray e)) := by
  have hsz : (Conv.runesFrom s s.size 0 #[]).size = (runesD s).length := by rw [← Array.length_toList, ← runesD_cells]; simp
  have harr : Conv.runesFrom s s.size 0 #[] ++ Array.replicate (grownCap w (runesD s).length 0 e - (runesD s).length) (Value.int .i32 0) = ((runesD s).map (fun d => Value.int .i32 d.toInt) ++ List.replicate (grownCap w (runesD s).length 0 e - (runesD s).length) (Value.int .i32 0)).toArray := by
    apply Array.ext'
    simp [runesD_cells]
  unfold Conv.stringToRunes
  simp only [Sem.run_bind, run_choose, Question.forced, Bool.false_eq_true, if_false, Result.andThen_ok, hsz]
  have hg : (Question.appendCap (runesD s).length 0 e).cut (w.tape w.drawn (Question.appendCap (runesD s).length 0 e)) = grownCap w (runesD s).length 0 e := rfl
  rw [hg, harr]
  simp only [newRow, Sem.run_bind, run_newObj_alloc, Result.andThen_ok, Sem.run_pure]
  rfl
theorem freeze_run {w : World} {g : Nat} {cs : Array Value} {T : TypeId} {fr : Nat × Nat} (hb : w.heap[g]? = some (.cells cs T fr)) (hf : frOK fr cs.size) (o : Nat) :
    ∃ w' fr', (markStringish ⟨g, o, none⟩).run P w = .ok () w' ∧ But g w w' ∧ w'.heap[g]? = some (.cells cs T fr') ∧ frOK fr' cs.size := by
  obtain ⟨lo, hi⟩ := fr
  refine ⟨w.freeze ⟨g, cs.size, none⟩ 1, if lo == hi then (cs.size, cs.size + 1) else (min lo cs.size, max hi (cs.size + 1)), ?_, ?_, ?_, ?_⟩
  · unfold markStringish shape
    simp only [Sem.run_bind, Sem.run, World.shape?, hb, Result.andThen_ok]
    rfl
  · unfold World.freeze
    rw [if_neg (by simp)]
    exact ⟨by simp, rfl, rfl, rfl, fun i hi => by simp [Array.getElem?_modify, Ne.symm hi]⟩
  · unfold World.freeze
    rw [if_neg (by simp)]
    simp [Array.getElem?_modify, hb]
  · unfold frOK at hf ⊢
    split
    · exact .inl (Nat.le_refl _)
    · rename_i hne
      simp only at hf ⊢
      rcases hf with hf | hf
      · exact .inl (by omega)
      · exact absurd (by simpa using hf) hne
theorem mark_good {id off len : Nat} {E : TypeId} {s : Sh} {xs : List Dat} {x : Value} (H : HR own h w) (hx : VR own (Cw own h w) (.sl id off len) x) (hb : h.get id = .seq E s xs) (hl : 0 < len) :
    ∃ a n c w', x = .slice (some a) n c ∧ (markStringish a).run P w = .ok () w' ∧ HR own h w' ∧ Ext own h w own h w' := by
  simp only [VR] at hx
  rcases hx with ⟨h1, _⟩ | ⟨pl, o, cap, ho, rfl, hlc, hcap⟩
  · omega
  · obtain ⟨cs, T', fr, us, h1, h2, h3, h4, h5, h6, h7⟩ := H.seq ho hb
    obtain ⟨w', fr', k1, k2, k3, k4⟩ := freeze_run (P := P) h1 h2 o
    have hlv : isLive (h.get id) := by rw [hb]; trivial
    have hE : Ext own h w own (h.put id (h.get id)) w' := .put H (by rw [hb]; exact fun h => h) hlv ho hlv k2
    obtain ⟨H', E'⟩ := H.touch (by rw [hb]; exact fun h => h) hlv ho k2 (by
      rw [hb] at hE ⊢
      exact ⟨cs, T', fr', k3, ⟨k4, h2.ty⟩, h3, h4, h5, flat_rows (h6.mono fun _ _ => DR.mono hE.cells) h7⟩)
    exact ⟨_, _, _, w', rfl, k1, H', E'⟩
/-- all of a block of structs and variables -/
theorem own_shape {id : Nat} {pl : Pl} {T : TypeId} {n : Nat} (H : HR own h w) (ho : own id = some (some pl)) (hT : ownT (h.get id) = some (T, n)) : ∃ cs fr, w.heap[pl.g]? = some (.cells cs T fr) ∧ pl.d = 0 ∧ cs.size = n := by
  unfold ownT at hT
  split at hT
  · rename_i T1 l hb
    cases hT
    have hB := H.block (id := id) (by rw [hb]; trivial) ho
    rw [hb] at hB
    obtain ⟨cs, T', fr, us, h1, h2, _⟩ := hB
    have e := h2.ty
    subst e
    exact ⟨cs, fr, h1, h2.d0, h2.len⟩
  · rename_i T1 l hb
    cases hT
    have hB := H.block (id := id) (by rw [hb]; trivial) ho
    rw [hb] at hB
    obtain ⟨cs, T', fr, us, h1, h2, _⟩ := hB
    have e := h2.ty
    subst e
    exact ⟨cs, fr, h1, h2.d0, h2.len⟩
  · cases hT
theorem convK_good {src dst : TypeId} {a : AV} {x : Value} {K : AV → AH → Prop} (H : HR own h w) (hx : VR own (Cw own h w) a x) (hf : convK P src dst a h K) : Good P own h w K ((convert src dst x).run P w) := by
  unfold convK at hf
  split at hf
  · rename_i k k' k2 n hs hd
    rw [VR.c_iff] at hx; subst hx
    split at hf
    · obtain ⟨h1, hf⟩ := req_iff.1 hf
      refine .const H ?_ hf
      simp [convert, run_underlying hs, run_underlying hd, Conv.intToInt, wrap_inR h1]
    · refine .const H ?_ hf
      simp [convert, run_underlying hs, run_underlying hd, Conv.intToInt]
  · rename_i k k2 n hs hd
    rw [VR.c_iff] at hx; subst hx
    refine .const H ?_ hf
    simp [convert, run_underlying hs, run_underlying hd, Conv.intToString]
  · rename_i s hs hd
    rw [VR.c_iff] at hx; subst hx
    refine .const H ?_ hf
    simp [convert, run_underlying hs, run_underlying hd]
  · rename_i e s hs hd
    rw [VR.c_iff] at hx; subst hx
    split at hf
    · rename_i hu hsh
      have hfl : Flat (DR (Cw own h w.drew) (.int .u8)) 1 (bytesD s) (byteCells s) := bytes_flat _
      have hge := grownCap_ge w s.size 0 e
      have hbl : (byteCells s).length = s.size := byteCells_length s
      obtain ⟨own', H2, E2, ho⟩ := new_seqF (s := .int .u8) (List.replicate (grownCap w s.size 0 e - s.size) (Value.int .u8 0)) e ((byteCells s ++ List.replicate (grownCap w s.size 0 e - s.size) (Value.int .u8 0)).toArray.size, (byteCells s ++ List.replicate (grownCap w s.size 0 e - s.size) (Value.int .u8 0)).toArray.size + 1) (.inl (by simp)) H.drew hfl
      have hrun : (convert src dst (.string s)).run P w = (Conv.stringToBytes e s).run P w := by
        unfold convert
        simp only [Sem.run_bind, run_underlying hs, run_underlying hd, Result.andThen_ok, run_underlying hu]
      refine ⟨_, _, own', _, _, hrun.trans (stringToBytes_run e s), H2, Ext.drew.trans E2, ?_, hf⟩
      · simp only [VR]
        refine .inr ⟨_, 0, _, ho, rfl, hge, fun _ => ⟨by simp, ?_⟩⟩
        simp only [Sh.size, Nat.mul_one, Nat.zero_add, List.length_append, List.length_replicate, hbl]
        omega
    · rename_i hu hsh
      have hfl : Flat (DR (Cw own h w.drew) (.int .i32)) 1 (runesD s) ((runesD s).map fun d => Value.int .i32 d.toInt) := ints_flat _
      have hge := grownCap_ge w (runesD s).length 0 e
      obtain ⟨own', H2, E2, ho⟩ := new_seq (s := .int .i32) (List.replicate (grownCap w (runesD s).length 0 e - (runesD s).length) (Value.int .i32 0)) e H.drew hfl
      have hrun : (convert src dst (.string s)).run P w = (Conv.stringToRunes e s).run P w := by
        unfold convert
        simp only [Sem.run_bind, run_underlying hs, run_underlying hd, Result.andThen_ok, run_underlying hu]
      refine ⟨_, _, own', _, _, hrun.trans (stringToRunes_run e s), H2, Ext.drew.trans E2, ?_, hf⟩
      · simp only [VR]
        refine .inr ⟨_, 0, _, ho, rfl, hge, fun _ => ⟨by simp, ?_⟩⟩
        simp only [Sh.size, Nat.mul_one, Nat.zero_add, List.length_append, List.length_replicate, List.length_map]
        omega
    · exact hf.elim
  · rename_i e1 e id off len hs hd
    split at hf
    · rename_i hu
      split at hf
      · rename_i hsd
        split at hf
        · rename_i E s xs hb
          obtain ⟨hl, hf⟩ := req_iff.1 hf
          rw [decide_eq_true_eq] at hl
          obtain ⟨ad, n, c, w', rfl, k1, H', E'⟩ := mark_good (P := P) H hx hb hl
          refine ⟨_, w', own, h, _, ?_, H', E', E'.vr hx, hf⟩
          unfold convert
          simp only [Sem.run_bind, run_underlying hs, run_underlying hd, Result.andThen_ok, run_underlying hu]
          simp [hsd, k1]
        · exact hf.elim
      · exact hf.elim
    · exact hf.elim
  · rename_i e ad n c hs hd
    rw [VR.c_iff] at hx; subst hx
    split at hf
    · rename_i hu
      refine .const H ?_ hf
      simp [convert, run_underlying hs, run_underlying hd, run_underlying hu, Conv.bytesToString]
    · rename_i hu
      refine .const H ?_ hf
      simp [convert, run_underlying hs, run_underlying hd, run_underlying hu, Conv.runesToString]
    · exact hf.elim
  · rename_i e _ hs hd _
    split at hf
    · rename_i hu
      obtain ⟨s, xs, us, hK, hF, ad, cap, rfl, hc⟩ := readK_feed (P := P) H hx hf
      split at hK
      · refine .const H ?_ hK
        have := bytesToString_run (P := P) (w := w) (cap := cap) hF.flat hc
        simp [convert, run_underlying hs, run_underlying hd, run_underlying hu, this]
      · exact hK.elim
    · rename_i hu
      obtain ⟨s, xs, us, hK, hF, ad, cap, rfl, hc⟩ := readK_feed (P := P) H hx hf
      split at hK
      · refine .const H ?_ hK
        have := runesToString_run (P := P) (w := w) (cap := cap) hF.flat hc
        simp [convert, run_underlying hs, run_underlying hd, run_underlying hu, this]
      · exact hK.elim
    · exact hf.elim
  · rename_i t id off hs hd
    split at hf
    · rename_i T n j hT hj
      split at hf
      · rename_i hq
        simp only [VR] at hx
        obtain ⟨pl, ho, rfl⟩ := hx
        obtain ⟨cs, fr, hb, hd0, hn⟩ := own_shape H ho hT
        refine ⟨_, w, own, h, _, Lib.run_to_unsafe w ⟨pl.g, pl.d + off, none⟩ hs hd hj hq.1 (e := T) (cells := n) (by simp [World.shape?, hb, hn]) (by simp only [hd0]; omega), H, .refl _ _ _, ?_, hf⟩
        simp only [VR]
        exact ⟨pl, ho, rfl⟩
      · exact hf.elim
    · exact hf.elim
  · rename_i u id off hs hd
    split at hf
    · rename_i T n j hT hj
      split at hf
      · rename_i hq
        simp only [VR] at hx
        obtain ⟨pl, ho, rfl⟩ := hx
        obtain ⟨cs, fr, hb, hd0, hn⟩ := own_shape H ho hT
        refine ⟨_, w, own, h, _, Lib.run_from_unsafe w ⟨pl.g, pl.d + off, none⟩ hs hd hj (e := T) (cells := n) (by simp [World.shape?, hb, hn]) (by simp only [hd0, Nat.zero_add]; exact hq), H, .refl _ _ _, ?_, hf⟩
        simp only [VR]
        exact ⟨pl, ho, rfl⟩
      · exact hf.elim
    · exact hf.elim
  · exact hf.elim
end
end AM
end Go
