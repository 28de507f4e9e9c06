/- Memory: cells that become data; stores. -/
import Derived.Test.YtbhehldefflhpaaDoorAmOp4
set_option linter.unusedVariables false
set_option linter.unusedSimpArgs false
namespace Go
namespace AM
open LMem LTxt
section
variable {P : Program} {own : Own} {h : AH} {w : World}
theorem cut_length {α : Type} (xs : List α) (off len : Nat) (hle : off + len ≤ xs.length) : ((xs.drop off).take len).length = len := by
  rw [List.length_take, List.length_drop]; omega
/-- a slice whose block is let go is read from now on -/
theorem sl_ro {id off len : Nat} {v : Value} {E : TypeId} {s : Sh} {xs : List Dat} (H : HR own h w) (hv : VR own (Cw own h w) (.sl id off len) v) (hb : h.get id = .seq E s xs) (hle : off + len ≤ xs.length) :
    RoS (Cw own (h.put id .dead) w) (DR (Cw own (h.put id .dead) w) s) s.size ((xs.drop off).take len) v := by
  have hcl := cut_length xs off len hle
  simp only [VR] at hv
  rcases hv with ⟨rfl, rfl, _⟩ | ⟨pl, o, cap, ho, rfl, hlc, hcap⟩
  · exact ⟨none, 0, by rw [hcl], by rw [hcl]; exact Nat.le_refl _, fun hn => absurd hcl hn⟩
  · refine ⟨_, cap, by rw [hcl], by rw [hcl]; exact hlc, fun hn => ?_⟩
    rw [hcl] at hn
    obtain ⟨ho2, hN⟩ := hcap (by omega)
    obtain ⟨cs, T', fr, us, h1, h2, h3, h4, h5, h6, h7⟩ := H.seq ho hb
    have hl : isLive (h.get id) := by rw [hb]; trivial
    have hf := ((h6.drop off (by omega)).take len (by rw [List.length_drop]; omega)).mono fun _ _ => DR.mono (Ext.kill H id (by rw [hb]; exact fun h => h)).cells
    refine ⟨pl.g, o, rfl, flat_rows hf fun j u hj => ⟨gone_kill H hl ho, ?_⟩⟩
    rw [cell_of h1, ho2, h4, Nat.add_assoc]
    refine h7 _ _ ?_
    rw [List.getElem?_take] at hj
    split at hj
    · rw [List.getElem?_drop] at hj; exact hj
    · cases hj
theorem dead_not_live (h : AH) (id : Nat) : ¬ isLive ((h.put id .dead).get id) := by
  rw [get_put, if_pos rfl]
  split <;> exact fun h => h
theorem decK_sound : ∀ {s : Sh} {l : List AV} {h : AH} {K : Dat → List AV → AH → Prop} {us : List Value}, decK s l h K → HR own h w → VRs own (Cw own h w) l us →
    ∃ d r h', K d r h' ∧ HR own h' w ∧ Ext own h w own h' w ∧ h'.next = h.next ∧ (∀ i, h'.get i = h.get i ∨ ¬ isLive (h'.get i)) ∧ ∃ ua ub, us = ua ++ ub ∧ ua.length = s.size ∧ DR (Cw own h' w) s d ua ∧ VRs own (Cw own h' w) r ub
  | .int k, l, h, K, us, hf, H, hv => by
    simp only [decK] at hf
    split at hf
    · obtain ⟨v, r, rfl, h1, h2⟩ := VRs.cons_iff.1 hv
      rw [VR.c_iff] at h1; subst h1
      split at hf
      · rename_i hk; subst hk
        exact ⟨_, _, _, hf, H, .refl _ _ _, rfl, fun _ => .inl rfl, _, r, rfl, rfl, rfl, h2⟩
      · exact hf.elim
    · exact hf.elim
  | .bool, l, h, K, us, hf, H, hv => by
    simp only [decK] at hf
    split at hf
    · obtain ⟨v, r, rfl, h1, h2⟩ := VRs.cons_iff.1 hv
      rw [VR.c_iff] at h1; subst h1
      exact ⟨_, _, _, hf, H, .refl _ _ _, rfl, fun _ => .inl rfl, [_], r, rfl, rfl, rfl, h2⟩
    · exact hf.elim
  | .str, l, h, K, us, hf, H, hv => by
    simp only [decK] at hf
    split at hf
    · obtain ⟨v, r, rfl, h1, h2⟩ := VRs.cons_iff.1 hv
      rw [VR.c_iff] at h1; subst h1
      exact ⟨_, _, _, hf, H, .refl _ _ _, rfl, fun _ => .inl rfl, [_], r, rfl, rfl, rfl, h2⟩
    · exact hf.elim
  | .slice s, l, h, K, us, hf, H, hv => by
    simp only [decK] at hf
    split at hf
    · obtain ⟨v, r, rfl, h1, h2⟩ := VRs.cons_iff.1 hv
      rw [VR.c_iff] at h1; subst h1
      exact ⟨_, _, _, hf, H, .refl _ _ _, rfl, fun _ => .inl rfl, [_], r, rfl, rfl, ⟨_, rfl, none, 0, rfl, Nat.le_refl _, fun hn => absurd rfl hn⟩, h2⟩
    · obtain ⟨v, r, rfl, h1, h2⟩ := VRs.cons_iff.1 hv
      simp only [VR] at h1
      split at hf
      · rename_i hs; subst hs
        exact ⟨_, _, _, hf, H, .refl _ _ _, rfl, fun _ => .inl rfl, [_], r, rfl, rfl, ⟨_, rfl, h1⟩, h2⟩
      · exact hf.elim
    · rename_i id off len r'
      obtain ⟨v, r, rfl, h1, h2⟩ := VRs.cons_iff.1 hv
      split at hf
      · rename_i E s' xs hb
        split at hf
        · rename_i hs; subst hs
          obtain ⟨hle, hf⟩ := req_iff.1 hf
          rw [decide_eq_true_eq] at hle
          refine ⟨_, _, _, hf, H.kill id (by rw [hb]; exact fun h => h), .kill H id (by rw [hb]; exact fun h => h), next_put, fun i => ?_, [_], r, rfl, rfl, ⟨_, rfl, sl_ro H h1 hb hle⟩, (Ext.kill H id (by rw [hb]; exact fun h => h)).vrs h2⟩
          by_cases hi : i = id
          · subst hi; exact .inr (dead_not_live h i)
          · exact .inl (get_put_ne hi)
        · exact hf.elim
      · exact hf.elim
    · exact hf.elim
  | .pair a b, l, h, K, us, hf, H, hv => by
    simp only [decK] at hf
    obtain ⟨x, r1, h1, hf1, H1, E1, n1, g1, ua, ub, rfl, l1, D1, V1⟩ := decK_sound hf H hv
    obtain ⟨y, r2, h2, hf2, H2, E2, n2, g2, uc, ud, rfl, l2, D2, V2⟩ := decK_sound hf1 H1 V1
    refine ⟨_, _, _, hf2, H2, E1.trans E2, n2.trans n1, fun i => ?_, ua ++ uc, ud, by simp, by simp [Sh.size, l1, l2], ⟨ua, uc, rfl, D1.mono E2.cells, D2⟩, V2⟩
    rcases g2 i with g | g
    · rcases g1 i with g' | g'
      · exact .inl (g.trans g')
      · exact .inr (by rw [g]; exact g')
    · exact .inr g
  | .unit, l, h, K, us, hf, H, hv => by
    simp only [decK] at hf
    exact ⟨_, _, _, hf, H, .refl _ _ _, rfl, fun _ => .inl rfl, [], us, rfl, rfl, rfl, hv⟩
theorem decsK_sound {s : Sh} : ∀ {n : Nat} {l : List AV} {h : AH} {acc : List Dat} {K : List Dat → AH → Prop} {us ua : List Value}, decsK s n l h acc K → HR own h w → VRs own (Cw own h w) l us → Flat (DR (Cw own h w) s) s.size acc ua →
    ∃ xs h', K xs h' ∧ HR own h' w ∧ Ext own h w own h' w ∧ h'.next = h.next ∧ xs.length = acc.length + n ∧ ∃ ub, (∃ uc, us = ub ++ uc) ∧ Flat (DR (Cw own h' w) s) s.size xs (ua ++ ub)
  | 0, l, h, acc, K, us, ua, hf, H, hv, ha => ⟨acc, h, hf, H, .refl _ _ _, rfl, rfl, [], ⟨us, rfl⟩, by simpa using ha⟩
  | n + 1, l, h, acc, K, us, ua, hf, H, hv, ha => by
    simp only [decsK] at hf
    obtain ⟨d, r, h1, hf1, H1, E1, n1, _, va, vb, rfl, l1, D1, V1⟩ := decK_sound hf H hv
    obtain ⟨xs, h2, hf2, H2, E2, n2, l2, ub, ⟨uc, rfl⟩, F2⟩ := decsK_sound hf1 H1 V1 ((ha.mono fun _ _ => DR.mono E1.cells).append (.one D1 l1))
    exact ⟨xs, h2, hf2, H2, E1.trans E2, n2.trans n1, by rw [l2, List.length_append]; simp; omega, va ++ ub, ⟨uc, by simp⟩, by simpa using F2⟩
/-- a block of cells is written -/
theorem put_cells {id : Nat} {pl : Pl} {T : TypeId} {l : List AV} {us : List Value} {cs' : Array Value} {T' : TypeId} {fr : Nat × Nat} {w' : World} (H : HR own h w) (hnl : ¬ isLock (h.get id)) (hl : isLive (h.get id)) (ho : own id = some (some pl)) (hw : But pl.g w w')
    (hb : w'.heap[pl.g]? = some (.cells cs' T' fr)) (hf : FrC T T' fr cs'.size pl.d l.length pl.sz) (hN : pl.N = cs'.size) (hv : VRs own (Cw own h w) l us) (h1 : ones l = true) (hc : ∀ i u, us[i]? = some u → cs'[pl.d + i]? = some u) :
    HR own (h.put id (.cells T l)) w' ∧ Ext own h w own (h.put id (.cells T l)) w' := by
  have hE : Ext own h w own (h.put id (.cells T l)) w' := .put H hnl hl ho trivial hw
  exact ⟨.put H hnl hl ho trivial hw ⟨cs', T', fr, us, hb, hf, hN, hE.vrs hv, h1, hc⟩, hE⟩
theorem put_seq {id : Nat} {pl : Pl} {E : TypeId} {s : Sh} {xs : List Dat} {us : List Value} {cs' : Array Value} {T' : TypeId} {fr : Nat × Nat} {w' : World} (H : HR own h w) (hnl : ¬ isLock (h.get id)) (hl : isLive (h.get id)) (ho : own id = some (some pl)) (hw : But pl.g w w')
    (hb : w'.heap[pl.g]? = some (.cells cs' T' fr)) (hf : FrT E T' fr cs'.size) (hN : pl.N = cs'.size) (hsz : pl.sz = s.size) (hle : pl.d + xs.length * s.size ≤ pl.N) (hv : Flat (DR (Cw own h w) s) s.size xs us) (hc : ∀ i u, us[i]? = some u → cs'[pl.d + i]? = some u) :
    HR own (h.put id (.seq E s xs)) w' ∧ Ext own h w own (h.put id (.seq E s xs)) w' := by
  have hE : Ext own h w own (h.put id (.seq E s xs)) w' := .put H hnl hl ho trivial hw
  exact ⟨.put H hnl hl ho trivial hw ⟨cs', T', fr, hb, hf, hN, hsz, hle, flat_rows (hv.mono fun _ _ => DR.mono hE.cells) hc⟩, hE⟩
theorem sizeA_spec {t : TypeId} {n : Nat} (hn : n = sizeA P t) (h0 : 0 < n) : ∃ i, P.info? t = some i := by
  unfold sizeA Program.cellsOf at hn
  cases hi : P.info? t with
  | none => rw [hi] at hn; simp at hn; omega
  | some i => exact ⟨i, rfl⟩
theorem storeK_good {t : TypeId} {a b : AV} {x y : Value} {K : AH → Prop} (H : HR own h w) (hx : VR own (Cw own h w) a x) (hy : VR own (Cw own h w) b y) (hf : storeK P t a b h K) :
    ∃ w' h', (Instr.storeAt t x y).run P w = .ok () w' ∧ HR own h' w' ∧ Ext own h w own h' w' ∧ K h' := by
  unfold storeK at hf
  simp only [] at hf
  split at hf
  · rename_i hsz
    obtain ⟨hsz, hpos, hone⟩ := hsz
    have hi := sizeA_spec hsz hpos
    have hcv := cells_VRs hy hone
    have hlen : y.cells.size = b.cells.length := by have := hcv.length; simpa using this
    have hone' := hcv.ones hone
    split at hf
    · rename_i id off
      simp only [VR] at hx
      obtain ⟨pl, ho, rfl⟩ := hx
      split at hf
      · rename_i T l hb
        split at hf
        · rename_i hle
          obtain ⟨cs, T', fr, us, h1, h2, h3, h4, h5, h6⟩ := H.cells ho hb
          have hl := h4.length
          have hus : us.length + pl.d ≤ cs.size := by
            rcases Nat.eq_zero_or_pos us.length with h0 | h0
            · omega
            · have := h6 (us.length - 1) us[us.length - 1] (by simp [h0])
              have := (Array.getElem?_eq_some_iff.1 this).1
              omega
          obtain ⟨w', cs', k1, k2, k3, k4, k5, k6⟩ := store_run (P := P) (x := y) (g := pl.g) (o := pl.d + off) (by rw [hlen]; exact hsz) hi h1 h2 (by omega) hone'
          obtain ⟨H', E'⟩ := put_cells (T := T) H (by rw [hb]; exact fun h => h) (by rw [hb]; trivial) ho k2 k3 (by rw [k4, splice_len (by simpa using hle)]; exact h2) (by rw [k4]; exact h3) (splice_VRs (off := off) h4 hcv) (splice_ones h5 hone)
            (splice_cells (by simp; omega) h6 (fun j hj => k5 j (by simpa [Nat.add_assoc] using hj)) (fun j hj => by simpa using k6 j (by simpa using hj)))
          exact ⟨w', _, by unfold Instr.storeAt Instr.sureAddr; simpa using k1, H', E', hf⟩
        · exact hf.elim
      · exact hf.elim
    · rename_i id i off
      simp only [VR] at hx
      obtain ⟨pl, ho, rfl⟩ := hx
      split at hf
      · rename_i E s xs hb
        obtain ⟨hlt, hf⟩ := req_iff.1 hf
        rw [decide_eq_true_eq] at hlt
        split at hf
        · rename_i hle
          rw [enc_len] at hle
          obtain ⟨cs, T', fr, us, h1, h2, h3, h4, h5, h6, h7⟩ := H.seq ho hb
          have hd : xs[i]? = some (xs.getD i default) := by rw [List.getD_eq_getElem?_getD, List.getElem?_eq_getElem hlt]; rfl
          obtain ⟨ua, va, ub, he, l1, l2, hD⟩ := h6.get hd
          have hul := h6.length
          have hix : (i + 1) * s.size ≤ xs.length * s.size := Nat.mul_le_mul_right _ (by omega)
          rw [Nat.add_mul, Nat.one_mul] at hix
          obtain ⟨d, r, h', hK, H', E', n', g', ve, vf, hve, lve, hDv, hVf⟩ := decK_sound hf H (splice_VRs (off := off) (DR.enc.1 hD) hcv)
          have hvf : vf = [] := by
            have := congrArg List.length hve
            simp [lve, l2] at this
            apply List.eq_nil_of_length_eq_zero
            omega
          subst hvf
          rw [List.append_nil] at hve
          split at hK
          · rename_i E1 s1 xs1 hb1
            have hlv : isLive (h'.get id) := by rw [hb1]; trivial
            obtain ⟨w', cs', k1, k2, k3, k4, k5, k6⟩ := store_run (P := P) (x := y) (g := pl.g) (o := pl.d + (i * s.size + off)) (by rw [hlen]; exact hsz) hi h1 h2 (by omega) hone'
            have hF := (h6.mono fun _ _ => DR.mono E'.cells).set hlt hDv lve
            have hus : us.take (i * s.size) ++ (ve ++ us.drop ((i + 1) * s.size)) = us.take (i * s.size + off) ++ (y.cells.toList ++ us.drop (i * s.size + off + y.cells.toList.length)) := by
              rw [← hve, he, Nat.add_mul, Nat.one_mul, ← l1, List.take_left, List.take_length_add_append, List.take_append_of_le_length (by simp at *; omega)]
              rw [show ua.length + s.size = ua.length + s.size from rfl, List.drop_length_add_append, ← l2, List.drop_left, Nat.add_assoc, List.drop_length_add_append, List.drop_append_of_le_length (by simp at *; omega)]
              simp
            rw [hus] at hF
            obtain ⟨H2, E2⟩ := put_seq (E := E) H' (by rw [hb1]; exact fun h => h) hlv ho k2 k3 (by rw [k4]; exact h2) (by rw [k4]; exact h3) h4 (by rw [List.length_set]; exact h5) hF
              (splice_cells (by simp; omega) h7 (fun j hj => k5 j (by simpa [Nat.add_assoc] using hj)) (fun j hj => by simpa [Nat.add_assoc] using k6 j (by simpa using hj)))
            refine ⟨w', _, ?_, H2, E'.trans E2, hK⟩
            unfold Instr.storeAt Instr.sureAddr
            rw [← h4] at k1
            simpa [Nat.add_assoc] using k1
          · exact hK.elim
        · exact hf.elim
      · exact hf.elim
    · exact hf.elim
  · exact hf.elim
end
end AM
end Go
