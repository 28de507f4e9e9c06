/- unsafe.SliceData and unsafe.String: a string out of a builder's bytes. -/
import Derived.Test.YthegkipclogoeaaDoorAmOpB
import Derived.Lib.UnsafeStr
set_option linter.unusedVariables false
set_option linter.unusedSimpArgs false
namespace Go
namespace AM
open LMem LTxt
section
variable {P : Program} {own : Own} {h : AH} {w w' : World}
/-- a block is let go, and turned -/
theorem Ext.killBut {id : Nat} {pl : Pl} (H : HR own h w) (hnl : ¬ isLock (h.get id)) (hl : isLive (h.get id)) (ho : own id = some (some pl)) (hw : But pl.g w w') : Ext own h w own (h.put id .dead) w' :=
  ⟨fun _ _ h => h, by rw [hw.size]; exact Nat.le_refl _, hw.os, hw.tape, hw.output, fun g _ hg => ⟨fun h1 => hg (live_kill H h1), hw.keep g (by rintro rfl; exact hg ⟨id, pl, hl, ho, rfl⟩)⟩, fun i T l hi => by
    have hne : i ≠ id := by rintro rfl; rw [hi] at hnl; exact hnl trivial
    exact ⟨by rw [get_put_ne hne]; exact hi, fun pl' hp => hw.keep _ fun e => hne (H.inj i id pl' pl (by rw [hi]; trivial) hl hp ho e)⟩, rfl⟩
theorem HR.killBut {id : Nat} {pl : Pl} (H : HR own h w) (hnl : ¬ isLock (h.get id)) (hl : isLive (h.get id)) (ho : own id = some (some pl)) (hw : But pl.g w w') : HR own (h.put id .dead) w' := by
  have hE : Ext own h w own (h.put id .dead) w' := .killBut H hnl hl ho hw
  have hg : ∀ i, isLive ((h.put id .dead).get i) → i ≠ id ∧ isLive (h.get i) := fun i hi => by
    by_cases he : i = id
    · subst he
      rw [get_put, if_pos rfl] at hi
      split at hi <;> exact hi.elim
    · rw [get_put_ne he] at hi; exact ⟨he, hi⟩
  refine ⟨fun i hi => ?_, fun i i' pl1 pl2 h1 h2 => H.inj i i' pl1 pl2 (hg i h1).2 (hg i' h2).2, fun i hi => H.dom i (by rw [next_put] at hi; exact hi), H.st.ext hE⟩
  obtain ⟨he, hi'⟩ := hg i hi
  rw [get_put_ne he]
  rcases H.live i hi' with ⟨pl', h1, h2⟩ | h1
  · exact .inl ⟨pl', h1, h2.mono hE.ow hE.cells (hw.keep _ fun e => he (H.inj i id pl' pl hi' hl h1 ho e))⟩
  · exact .inr h1
theorem sliceData_run {ts : Array TypeId} {ty : TypeId} {a : AV} {x : Value} {K : AV → Prop} (H : HR own h w) (hx : VR own (Cw own h w) a x) (hf : sliceDataK a h K) :
    ∃ v av, (Builtin.unsafeSliceData_ ts ty #[x]).run P w = .ok v w ∧ VR own (Cw own h w) av v ∧ K av := by
  unfold sliceDataK at hf
  split at hf
  · rw [VR.c_iff] at hx
    subst hx
    exact ⟨_, _, Lib.run_unsafeSliceData_nil w ts ty _ _, VR.c_iff.2 rfl, hf⟩
  · rename_i id off len
    split at hf
    · rename_i E s xs hb
      obtain ⟨hl, hf⟩ := req_iff.1 hf
      rw [decide_eq_true_eq] at hl
      simp only [VR] at hx
      rcases hx with ⟨h1, _⟩ | ⟨pl, o, cap, ho, rfl, hlc, hcap⟩
      · omega
      · have hc : cap ≠ 0 := by omega
        refine ⟨_, _, Lib.run_unsafeSliceData_row w ts ty _ _ _ hc, ?_, hf⟩
        simp only [VR]
        exact ⟨pl, ho, by rw [(hcap hc).1, Nat.add_zero]⟩
    · exact hf.elim
  · exact hf.elim
theorem liesAt_row {e : TypeId} (hc : P.cellsOf e = 1) (count off n : Nat) (hn : off + n ≤ count) : liesAt P P.depth e count off e n = true := by
  have hd : P.depth = (2 * (P.types.size + Made.depth) + 1) + 1 := rfl
  rw [hd]
  simp only [liesAt, Bool.or_eq_true]
  left
  rw [hd]
  simp [rowAt, hc, hn, sameLayout, Nat.mod_one]
theorem loadBytes_run : ∀ (ds : List Dat) (g o : Nat) (acc : ByteArray), (∀ j u, (ds.map fun d => Value.int .u8 d.toInt)[j]? = some u → w.cell? ⟨g, o + j, none⟩ = some u) →
    (loadBytes ⟨g, o, none⟩ acc ds.length).run P w = .ok (ds.foldl (fun s d => s.push (UInt8.ofNat d.toInt.toNat)) acc) w
  | [], g, o, acc, _ => rfl
  | d :: ds, g, o, acc, hc => by
    have h0 := hc 0 (.int .u8 d.toInt) rfl
    rw [Nat.add_zero] at h0
    have ih := loadBytes_run ds g (o + 1) (acc.push (UInt8.ofNat d.toInt.toNat)) fun j u hj => by
      rw [Nat.add_assoc, Nat.add_comm 1 j]
      exact hc (j + 1) u (by simpa using hj)
    simp only [List.length_cons, loadBytes, Sem.run_bind, run_load, h0, Result.andThen, Addr.add_lit, List.foldl_cons]
    exact ih
theorem freeze_but {g o n : Nat} : But g w (w.freeze ⟨g, o, none⟩ n) := by
  unfold World.freeze
  split
  · exact .refl g w
  · exact ⟨by simp, rfl, rfl, rfl, fun i hi => by simp [Array.getElem?_modify, Ne.symm hi]⟩
theorem unsafeString_good {pt tn ty : TypeId} {a n : AV} {x y : Value} {K : AV → AH → Prop} (H : HR own h w) (hx : VR own (Cw own h w) a x) (hy : VR own (Cw own h w) n y) (hf : unsafeStringK P pt a n h K) :
    Good P own h w K ((Builtin.unsafeString_ #[pt, tn] ty #[x, y]).run P w) := by
  unfold unsafeStringK at hf
  split at hf
  · rename_i e m hp
    rw [VR.c_iff] at hx hy
    subst hx hy
    obtain ⟨h0, hf⟩ := req_iff.1 hf
    rw [decide_eq_true_eq] at h0
    subst h0
    exact .const H (Lib.run_unsafeString_none w pt tn ty none) hf
  · rename_i e id i m hp
    rw [VR.c_iff] at hy
    subst hy
    split at hf
    · rename_i E xs hb
      split at hf
      · rename_i hq
        obtain ⟨rfl, hc1⟩ := hq
        obtain ⟨hr, hf⟩ := req_iff.1 hf
        simp only [Bool.and_eq_true, decide_eq_true_eq, inR] at hr
        obtain ⟨⟨hm, hle⟩, h63⟩ := hr
        have h63 := h63.2
        simp only [VR] at hx
        obtain ⟨pl, ho, rfl⟩ := hx
        have hlv : isLive (h.get id) := by rw [hb]; trivial
        have hnl : ¬ isLock (h.get id) := by rw [hb]; exact fun h => h
        obtain ⟨cs, T', fr, us, h1, h2, h3, h4, h5, h6, h7⟩ := H.seq ho hb
        have hT := h2.ty
        subst hT
        have hsz : pl.sz = 1 := h4
        have hus := flat_ints h6
        have hlen : ((xs.drop i).take m.toNat).length = m.toNat := by rw [List.length_take, List.length_drop]; omega
        have hld := loadBytes_run (P := P) (w := w) ((xs.drop i).take m.toNat) pl.g (pl.d + i) .empty fun j u hj => by
          rw [cell_of h1, Nat.add_assoc]
          refine h7 _ _ ?_
          rw [hus]
          rw [List.getElem?_map] at hj ⊢
          rw [List.getElem?_take] at hj
          split at hj
          · rw [List.getElem?_drop] at hj; exact hj
          · cases hj
        rw [hlen, strD_fold] at hld
        have hxl : pl.d + xs.length ≤ cs.size := by
          rw [← h3]
          have := h5
          simp only [Sh.size, Nat.mul_one] at this
          exact this
        have hlies := liesAt_row (P := P) hc1 (cs.size / P.cellsOf T') (pl.d + i) m.toNat (by rw [hc1]; omega)
        have hsh : w.shape? pl.g = some (T', cs.size) := by unfold World.shape?; rw [h1]
        have hneg : ¬ m < 0 := by omega
        have hbig : ¬ (9223372036854775807 : Int) < m := by
          have : IntKind.i64.max = 9223372036854775807 := rfl
          omega
        have h0 : ¬ m = 0 := by omega
        refine ⟨_, w.freeze ⟨pl.g, pl.d + i, none⟩ m.toNat, own, h.put id .dead, _, ?_, .killBut H hnl hlv ho freeze_but, .killBut H hnl hlv ho freeze_but, VR.c_iff.2 rfl, hf⟩
        have hdef : Builtin.unsafeString_ #[pt, tn] ty #[.pointer (some ⟨pl.g, pl.d + i * pl.sz + 0, none⟩), .int .i64 m] =
            (do
              let n ← asInt (.int .i64 m)
              if n < 0 then runtimePanic (.error "unsafe.String: len out of range")
              if n > IntKind.i64.max then unsupported (.unsafePointer "String: a length above the largest int")
              if n = 0 then pure (.string .empty)
              else if ← variablesAt ⟨pl.g, pl.d + i * pl.sz + 0, none⟩ (← elemOf pt) n.toNat then do
                let s ← loadBytes ⟨pl.g, pl.d + i * pl.sz + 0, none⟩ .empty n.toNat
                freeze ⟨pl.g, pl.d + i * pl.sz + 0, none⟩ n.toNat
                pure (.string s)
              else unsupported (.unsafePointer "String: not so many bytes at ptr")) := rfl
        rw [hdef]
        have hmax : IntKind.i64.max = 9223372036854775807 := rfl
        rw [hsz, Nat.mul_one, Nat.add_zero]
        simp [asInt, asIntOf, hmax, hbig, hneg, h0, variablesAt, hsh, elemOf, run_underlying hp, hlies, hld]
      · exact hf.elim
    · exact hf.elim
  · exact hf.elim
end
end AM
end Go
