/- copy, conversions. -/
import Derived.Test.YthegkipclogoeaaDoorAmOp9
set_option linter.unusedVariables false
set_option linter.unusedSimpArgs false
namespace Go
namespace AM
open LMem LTxt
section
variable {P : Program} {own : Own} {h : AH} {w : World}
theorem put_same {id : Nat} {b : AB} (hb : h.get id = b) (hl : isLive b) : (h.put id b).bl = h.bl := by
  have hlt : id < h.bl.length := get_lt (by rw [hb]; exact hl)
  unfold AH.get at hb
  rw [List.getD_eq_getElem?_getD, List.getElem?_eq_getElem hlt] at hb
  simp at hb
  unfold AH.put
  simp only
  rw [← hb]
  exact List.set_getElem_self _
/-- a block is written, the abstract one stays -/
theorem HR.touch {id : Nat} {pl : Pl} {w' : World} (H : HR own h w) (hnl : ¬ isLock (h.get id)) (hl : isLive (h.get id)) (ho : own id = some (some pl)) (hw : But pl.g w w') (hB : BR own (Cw own (h.put id (h.get id)) w') w' (h.get id) pl) : HR own h w' ∧ Ext own h w own h w' := by
  have H' := HR.put H hnl hl ho hl hw hB
  have E' : Ext own h w own (h.put id (h.get id)) w' := .put H hnl hl ho hl hw
  have hs := put_same (h := h) (id := id) rfl hl
  exact ⟨H'.same hs.symm rfl, E'.trans (Ext.same hs.symm rfl rfl rfl rfl)⟩
theorem copy_good {t ty : TypeId} {ts : List TypeId} {a b : AV} {x y : Value} {K : AV → AH → Prop} (H : HR own h w) (hx : VR own (Cw own h w) a x) (hy : VR own (Cw own h w) b y)
    (hf : copyK P t a b h K) : Good P own h w K ((Builtin.copy_ (t :: ts).toArray ty #[x, y]).run P w) := by
  unfold copyK at hf
  split at hf
  · rename_i e hu
    split at hf
    · rename_i j hj
      split at hf
      · rw [VR.c_iff] at hx; subst hx
        have fin : ∀ (k : Nat), (∀ w' : World, (Builtin.lenOf y).run P w' = .ok k w') → (Builtin.firstCells j.size 0 y).run P w = .ok #[] w → K (.c (.int .i64 0)) h → Good P own h w K ((Builtin.copy_ (t :: ts).toArray ty #[.slice none 0 0, y]).run P w) := fun k h1 h2 h3 => by
          refine .const H ?_ h3
          have hm : Nat.min k 0 = 0 := Nat.min_zero k
          simp [Builtin.copy_, run_underlying hu, sizeOf, typeInfo, hj, h1, hm, h2, goInt]
        split at hf
        · rw [VR.c_iff] at hy; subst hy
          exact fin 0 (fun _ => rfl) (by simp [Builtin.firstCells]) hf
        · rename_i s
          rw [VR.c_iff] at hy; subst hy
          exact fin s.size (fun _ => rfl) (by simp [Builtin.firstCells]) hf
        · obtain ⟨s', xs, us, hK, hF, ad, cap, rfl, hc⟩ := readK_feed (P := P) H hy hf
          refine fin xs.length hF.len ?_ hK
          cases ad <;> simp [Builtin.firstCells, loadCells, loadCellsFrom]
      · rename_i id off len
        split at hf
        · rename_i E s xs hb
          split at hf
          · rename_i hsz
            obtain ⟨ys, us, hf, hF⟩ := newsK_feed (P := P) H hy hf
            obtain ⟨hle, hf⟩ := req_iff.1 hf
            rw [decide_eq_true_eq] at hle
            have hlv : isLive (h.get id) := by rw [hb]; trivial
            have hnm : Nat.min ys.length len = min ys.length len := rfl
            have hfst := hF.first w rfl (min ys.length len) (Nat.min_le_left _ _)
            rw [hsz] at hfst
            have h0case : min ys.length len = 0 → xs.take off ++ (ys.take (min ys.length len) ++ xs.drop (off + min ys.length len)) = xs := fun h0 => by rw [h0]; simp
            simp only [VR] at hx
            by_cases h0 : min ys.length len = 0
            · -- nothing is copied
              rw [h0case h0] at hf
              have hs := put_same (h := h) (id := id) hb trivial
              have hrun : (Builtin.copy_ (t :: ts).toArray ty #[x, y]).run P w = .ok (.int .i64 (min ys.length len : Nat)) w := by
                have hc0 : (Builtin.firstCells j.size 0 y).run P w = .ok #[] w := by
                  have := hF.first w rfl 0 (Nat.zero_le _)
                  rw [hsz] at this
                  simpa using this
                rcases hx with ⟨_, rfl, _⟩ | ⟨pl, o, cap, ho, rfl, _⟩
                · have hm : Nat.min ys.length len = 0 := h0
                  simp only [h0]
                  simp_all [Builtin.copy_, run_underlying hu, sizeOf, typeInfo, hj, hF.len, goInt]
                · have hm : Nat.min ys.length len = 0 := h0
                  simp only [h0]
                  simp [Builtin.copy_, run_underlying hu, sizeOf, typeInfo, hj, hF.len, goInt, storeCells, hm, hc0]
              exact ⟨_, _, own, _, _, hrun, H.same hs rfl, Ext.same hs rfl rfl rfl rfl, VR.c_iff.2 rfl, hf⟩
            · rcases hx with ⟨h1, _⟩ | ⟨pl, o, cap, ho, rfl, hlc, hcap⟩
              · omega
              · obtain ⟨cs, T', fr, us0, h1, h2, h3, h4, h5, h6, h7⟩ := H.seq ho hb
                obtain ⟨ho2, hN⟩ := hcap (by omega)
                rw [h4] at ho2
                have hul := hF.flat.length
                have hul0 := h6.length
                have hmin1 : min ys.length len * s.size ≤ ys.length * s.size := Nat.mul_le_mul_right _ (Nat.min_le_left _ _)
                have hmin2 : (off + min ys.length len) * s.size ≤ xs.length * s.size := Nat.mul_le_mul_right _ (by omega)
                rw [Nat.add_mul] at hmin2
                have htl : (us.take (min ys.length len * s.size)).length = min ys.length len * s.size := by rw [List.length_take]; omega
                have hst := run_storeCells_cells (P := P) pl.g o (us.take (min ys.length len * s.size)) 0 w (fun i hi => by
                    rw [cell_of h1, Nat.add_zero, Array.getElem?_eq_getElem (by omega)]; rfl) (fun i hi => by rw [Nat.add_zero]; exact froz_of h1 h2 (by omega)) (fun u hu => hF.flat.ones u (List.mem_of_mem_take hu))
                obtain ⟨cs', k1, k2, k3, k4⟩ := setCells_heap pl.g (us.take (min ys.length len * s.size)) o w cs T' fr h1
                have hfl := (h6.take off (by omega)).append ((hF.flat.take (min ys.length len) (Nat.min_le_left _ _)).append (h6.drop (off + min ys.length len) (by omega)))
                have hus : us0.take (off * s.size) ++ (us.take (min ys.length len * s.size) ++ us0.drop ((off + min ys.length len) * s.size)) = us0.take (off * s.size) ++ (us.take (min ys.length len * s.size) ++ us0.drop (off * s.size + (us.take (min ys.length len * s.size)).length)) := by
                  rw [htl, Nat.add_mul]
                rw [hus] at hfl
                obtain ⟨H', E'⟩ := put_seq (E := E) H (by rw [hb]; exact fun h => h) hlv ho (But.setCells pl.g (us.take (min ys.length len * s.size)) o w) k1 (by rw [k2]; exact h2) (by rw [k2]; exact h3) h4 (by
                    simp only [List.length_append, List.length_take, List.length_drop]
                    rw [show min off xs.length + (min (min ys.length len) ys.length + (xs.length - (off + min ys.length len))) = xs.length by omega]
                    exact h5) hfl
                  (splice_cells (d := pl.d) (by rw [htl]; omega) h7 (fun i hi => k3 i (by rw [ho2]; exact hi)) (fun i hi => by rw [← ho2]; exact k4 i (by omega) hi))
                refine ⟨.int .i64 (min ys.length len : Nat), _, own, _, _, ?_, H', E', VR.c_iff.2 rfl, hf⟩
                rw [hsz] at hst
                simp only [Nat.add_zero] at hst
                simp [Builtin.copy_, run_underlying hu, sizeOf, typeInfo, hj, hF.len, goInt, hnm, hfst, hst, hsz]
          · exact hf.elim
        · exact hf.elim
      · exact hf.elim
    · exact hf.elim
  · exact hf.elim
/-! ### Conversions -/
theorem fold_loop {F : Value → ByteArray → Sem (ForInStep ByteArray)} {G : ByteArray → Dat → ByteArray} {k : IntKind} (hF : ∀ (d : Dat) (s : ByteArray) (w : World), (F (Value.int k d.toInt) s).run P w = Result.ok (ForInStep.yield (G s d)) w) :
    ∀ (xs : List Dat) (acc : ByteArray) (w : World), (forIn (xs.map fun d => Value.int k d.toInt) acc F).run P w = Result.ok (xs.foldl G acc) w
  | [], acc, w => rfl
  | d :: xs, acc, w => by
    simp only [List.map_cons, List.forIn_cons, Sem.run_bind, hF, Result.andThen_ok, List.foldl_cons]
    exact fold_loop hF xs _ w
theorem flat_ints {C : CellsP} {k : IntKind} : ∀ {xs : List Dat} {us : List Value}, Flat (DR C (.int k)) 1 xs us → us = xs.map fun d => Value.int k d.toInt
  | [], us, h => h
  | d :: xs, us, h => by
    obtain ⟨va, ub, rfl, _, h2, h3⟩ := h
    rw [show va = [.int k d.toInt] from h2, flat_ints h3]
    rfl
theorem strD_fold (xs : List Dat) : xs.foldl (fun (s : ByteArray) d => s.push (UInt8.ofNat d.toInt.toNat)) ByteArray.empty = strD xs := by
  have : ∀ (xs : List Dat) (acc : ByteArray), xs.foldl (fun (s : ByteArray) d => s.push (UInt8.ofNat d.toInt.toNat)) acc = ⟨acc.data ++ (xs.map fun d => UInt8.ofNat d.toInt.toNat).toArray⟩ := by
    intro xs
    induction xs with
    | nil => intro acc; simp
    | cons d xs ih =>
      intro acc
      simp only [List.foldl_cons]
      rw [ih]
      apply ByteArray.ext
      apply Array.ext'
      simp
  rw [this]
  apply ByteArray.ext
  apply Array.ext'
  simp [strD]
theorem load_all {us : List Value} {g o : Nat} {n : Nat} (hn : us.length = n) (hc : ∀ j u, us[j]? = some u → w.cell? ⟨g, o + j, none⟩ = some u) : (loadCells ⟨g, o, none⟩ n).run P w = .ok us.toArray w := by
  have := run_loadCells_list (P := P) w ⟨g, o, none⟩ us (fun j u hj => by rw [Addr.add_lit]; exact hc j u hj)
  rwa [hn] at this
theorem bytesToString_run {xs : List Dat} {us : List Value} {ad : Option Addr} {cap : Nat} {C : CellsP} (hf : Flat (DR C (.int .u8)) 1 xs us) (hc : xs.length ≠ 0 → ∃ g o, ad = some ⟨g, o, none⟩ ∧ ∀ j u, us[j]? = some u → w.cell? ⟨g, o + j, none⟩ = some u) :
    (Conv.bytesToString (.slice ad xs.length cap)).run P w = .ok (.string (strD xs)) w := by
  have hl := hf.length
  rw [Nat.mul_one] at hl
  have hus := flat_ints hf
  cases ad with
  | none =>
    have h0 : xs = [] := List.eq_nil_of_length_eq_zero (Classical.byContradiction fun h0 => by obtain ⟨_, _, h1, _⟩ := hc h0; cases h1)
    subst h0
    rfl
  | some a =>
    have hld : (loadCells a xs.length).run P w = .ok us.toArray w := by
      by_cases h0 : xs.length = 0
      · have : xs = [] := List.eq_nil_of_length_eq_zero h0
        subst this
        have : us = [] := by simpa using hl
        subst this
        rfl
      · obtain ⟨g, o, ha, hcell⟩ := hc h0
        cases ha
        exact load_all hl hcell
    unfold Conv.bytesToString
    simp only [Sem.run_bind, hld, Result.andThen_ok, ← Array.forIn_toList]
    rw [hus]
    rw [fold_loop (G := fun s d => s.push (UInt8.ofNat d.toInt.toNat)) (fun d s w => rfl)]
    rw [strD_fold]
    rfl
theorem runesToString_run {xs : List Dat} {us : List Value} {ad : Option Addr} {cap : Nat} {C : CellsP} (hf : Flat (DR C (.int .i32)) 1 xs us) (hc : xs.length ≠ 0 → ∃ g o, ad = some ⟨g, o, none⟩ ∧ ∀ j u, us[j]? = some u → w.cell? ⟨g, o + j, none⟩ = some u) :
    (Conv.runesToString (.slice ad xs.length cap)).run P w = .ok (.string (runeStrD xs)) w := by
  have hl := hf.length
  rw [Nat.mul_one] at hl
  have hus := flat_ints hf
  cases ad with
  | none =>
    have h0 : xs = [] := List.eq_nil_of_length_eq_zero (Classical.byContradiction fun h0 => by obtain ⟨_, _, h1, _⟩ := hc h0; cases h1)
    subst h0
    rfl
  | some a =>
    have hld : (loadCells a xs.length).run P w = .ok us.toArray w := by
      by_cases h0 : xs.length = 0
      · have : xs = [] := List.eq_nil_of_length_eq_zero h0
        subst this
        have : us = [] := by simpa using hl
        subst this
        rfl
      · obtain ⟨g, o, ha, hcell⟩ := hc h0
        cases ha
        exact load_all hl hcell
    unfold Conv.runesToString
    simp only [Sem.run_bind, hld, Result.andThen_ok, ← Array.forIn_toList]
    rw [hus]
    rw [fold_loop (G := fun s d => s ++ Utf8.encode d.toInt) (fun d s w => rfl)]
    rw [show xs.foldl (fun (s : ByteArray) d => s ++ Utf8.encode d.toInt) ByteArray.empty = runeStrD xs from rfl]
    rfl
theorem freeze_new (w : World) (cs : Array Value) (T : TypeId) : (w.alloc (.cells cs T)).freeze ⟨w.heap.size, cs.size, none⟩ 1 = w.alloc (.cells cs T (cs.size, cs.size + 1)) := by
  unfold World.freeze World.alloc
  simp only [Nat.one_ne_zero, if_false]
  congr 1
  apply Array.ext_getElem?
  intro i
  rw [Array.getElem?_modify]
  by_cases hi : w.heap.size = i
  · subst hi; simp
  · rw [if_neg hi]
    rw [Array.getElem?_push, Array.getElem?_push]
    split <;> simp_all
theorem stringToBytes_run (e : TypeId) (s : ByteArray) : (Conv.stringToBytes e s).run P w = .ok (.slice (some ⟨w.heap.size, 0, none⟩) s.size (grownCap w s.size 0 e))
    (w.drew.alloc (.cells (byteCells s ++ List.replicate (grownCap w s.size 0 e - s.size) (Value.int .u8 0)).toArray e ((byteCells s ++ List.replicate (grownCap w s.size 0 e - s.size) (Value.int .u8 0)).toArray.size, (byteCells s ++ List.replicate (grownCap w s.size 0 e - s.size) (Value.int .u8 0)).toArray.size + 1))) := by
  have harr : (s.data.map fun b => Value.int .u8 b.toNat) ++ Array.replicate (grownCap w s.size 0 e - s.size) (Value.int .u8 0) = (byteCells s ++ List.replicate (grownCap w s.size 0 e - s.size) (Value.int .u8 0)).toArray := by
    apply Array.ext'
    simp [byteCells]
  have hfr := freeze_new w.drew (byteCells s ++ List.replicate (grownCap w s.size 0 e - s.size) (Value.int .u8 0)).toArray e
  unfold Conv.stringToBytes markStringish
  simp only [Sem.run_bind, run_choose, Question.forced, Bool.false_eq_true, if_false, Result.andThen_ok]
  have hg : (Question.appendCap s.size 0 e).cut (w.tape w.drawn (Question.appendCap s.size 0 e)) = grownCap w s.size 0 e := rfl
  rw [hg, harr]
  have hdr : ({ w with drawn := w.drawn + 1 } : World) = w.drew := rfl
  rw [hdr]
  simp only [newRow, Sem.run_bind, run_newObj_alloc, Result.andThen_ok, Sem.run_pure]
  have hsh : (shape w.drew.heap.size).run P (w.drew.alloc (.cells (byteCells s ++ List.replicate (grownCap w s.size 0 e - s.size) (Value.int .u8 0)).toArray e)) = .ok (some (e, (byteCells s ++ List.replicate (grownCap w s.size 0 e - s.size) (Value.int .u8 0)).toArray.size)) (w.drew.alloc (.cells (byteCells s ++ List.replicate (grownCap w s.size 0 e - s.size) (Value.int .u8 0)).toArray e)) := by
    unfold shape
    simp only [Sem.run, World.shape?]
    have := heap_new (w := w.drew) (.cells (byteCells s ++ List.replicate (grownCap w s.size 0 e - s.size) (Value.int .u8 0)).toArray e)
    rw [this]
  rw [hsh]
  simp only [Result.andThen_ok, freeze, Sem.run]
  rw [hfr]
  rfl
end
end AM
end Go
