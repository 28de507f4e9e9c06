/- Memory: cells that become data; stores. -/
import Derived.Test.YthegkipclogoeaaDoorAmOp4
set_option linter.unusedVariables false
set_option linter.unusedSimpArgs false
namespace Go
namespace AM
open LMem LTxt
section
variable {P : Program} {own : Own} {h : AH} {w : World}
theorem cut_length {α : Type} (xs : List α) (off len : Nat) (hle : off + len ≤ xs.length) : ((xs.drop off).take len).length = len := by
  rw [List.length_take, List.length_drop]; omega
/-- a slice whose block is let go is read from now on -/
theorem sl_ro {id off len : Nat} {v : Value} {E : TypeId} {s : Sh} {xs : List Dat} (H : HR own h w) (hv : VR own (Cw own h w) (.sl id off len) v) (hb : h.get id = .seq E s xs) (hle : off + len ≤ xs.length) :
    RoS (Cw own (h.put id .dead) w) (DR (Cw own (h.put id .dead) w) s) s.size ((xs.drop off).take len) v := by
  have hcl := cut_length xs off len hle
  simp only [VR] at hv
  rcases hv with ⟨rfl, rfl, _⟩ | ⟨pl, o, cap, ho, rfl, hlc, hcap⟩
  · exact ⟨none, 0, by rw [hcl], by rw [hcl]; exact Nat.le_refl _, fun hn => absurd hcl hn⟩
  · refine ⟨_, cap, by rw [hcl], by rw [hcl]; exact hlc, fun hn => ?_⟩
    rw [hcl] at hn
    obtain ⟨ho2, hN⟩ := hcap (by omega)
    obtain ⟨cs, T', fr, us, h1, h2, h3, h4, h5, h6, h7⟩ := H.seq ho hb
    have hl : isLive (h.get id) := by rw [hb]; trivial
    have hf := ((h6.drop off (by omega)).take len (by rw [List.length_drop]; omega)).mono fun _ _ => DR.mono (Ext.kill H id (by rw [hb]; exact fun h => h)).cells
    refine ⟨pl.g, o, rfl, flat_rows hf fun j u hj => ⟨gone_kill H hl ho, ?_⟩⟩
    rw [cell_of h1, ho2, h4, Nat.add_assoc]
    refine h7 _ _ ?_
    rw [List.getElem?_take] at hj
    split at hj
    · rw [List.getElem?_drop] at hj; exact hj
    · cases hj
theorem dead_not_live (h : AH) (id : Nat) : ¬ isLive ((h.put id .dead).get id) := by
  rw [get_put, if_pos rfl]
  split <;> exact fun h => h
theorem mix_own {id : Nat} {E : TypeId} {s : Sh} {xs : List Dat} {a : AV} (H : HR own h w) (hb : h.get id = .mix E s xs a) : ∃ pl, own id = some (some pl) := by
  rcases H.live id (by rw [hb]; trivial) with ⟨pl, h1, _⟩ | ⟨_, E', s', h1⟩
  · exact ⟨pl, h1⟩
  · rw [hb] at h1; cases h1
theorem one_of {u : Value} {ua ub : List Value} (h : [u] = ua ++ ub) (hl : ua.length = 1) : ua = [u] := by
  cases ua with
  | nil => cases hl
  | cons a r =>
    simp only [List.cons_append, List.cons.injEq] at h
    have : r = [] := List.eq_nil_of_length_eq_zero (by simpa using hl)
    rw [this, h.1]
theorem mix_cells {R : Dat → List Value → Prop} {xs : List Dat} {us : List Value} {u : Value} {cs : Array Value} {d : Nat} (hF : Flat R 1 xs us) (h1 : ∀ j v, us[j]? = some v → cs[d + j]? = some v) (h2 : cs[d + xs.length]? = some u) (j : Nat) (v : Value) (hj : (us ++ [u])[j]? = some v) : cs[d + j]? = some v := by
  have hl := hF.length
  rw [Nat.mul_one] at hl
  by_cases hlt : j < us.length
  · rw [List.getElem?_append_left hlt] at hj
    exact h1 j v hj
  · rw [List.getElem?_append_right (by omega)] at hj
    have h0 : j - us.length = 0 := by
      have := (List.getElem?_eq_some_iff.1 hj).1
      simp at this
      omega
    rw [h0] at hj
    simp at hj
    subst hj
    rw [show j = xs.length by omega]
    exact h2
theorem mix_ro {C : CellsP} {id off len : Nat} {v : Value} {pl : Pl} {xs : List Dat} {us : List Value} {R : Dat → List Value → Prop} {C0 : CellsP} (hv : VR own C0 (.sl id off len) v) (ho : own id = some (some pl)) (hsz : pl.sz = 1) (hle : off + len ≤ xs.length) (hF : Flat R 1 xs us)
    (hc : ∀ j u, us[j]? = some u → C pl.g (pl.d + j) u) : RoS C R 1 ((xs.drop off).take len) v := by
  have hcl := cut_length xs off len hle
  simp only [VR] at hv
  rcases hv with ⟨rfl, rfl, _⟩ | ⟨pl', o, cap, ho', rfl, hlc, hcap⟩
  · exact ⟨none, 0, by rw [hcl], by rw [hcl]; exact Nat.le_refl _, fun hn => absurd hcl hn⟩
  · rw [ho] at ho'
    cases ho'
    refine ⟨_, cap, by rw [hcl], by rw [hcl]; exact hlc, fun hn => ?_⟩
    rw [hcl] at hn
    obtain ⟨ho2, hN⟩ := hcap (by omega)
    have hf := (hF.drop off (by omega)).take len (by rw [List.length_drop]; omega)
    refine ⟨pl.g, o, rfl, flat_rows hf fun j u hj => ?_⟩
    rw [ho2, hsz, Nat.add_assoc]
    refine hc _ _ ?_
    rw [List.getElem?_take] at hj
    split at hj
    · rw [List.getElem?_drop] at hj; exact hj
    · cases hj
theorem decK_sound : ∀ {s : Sh} {l : List AV} {h : AH} {K : Dat → List AV → AH → Prop} {us : List Value}, decK s l h K → HR own h w → VRs own (Cw own h w) l us →
    ∃ d r h', K d r h' ∧ HR own h' w ∧ Ext own h w own h' w ∧ h'.next = h.next ∧ (∀ i, h'.get i = h.get i ∨ ¬ isLive (h'.get i)) ∧ ∃ ua ub, us = ua ++ ub ∧ ua.length = s.size ∧ DR (Cw own h' w) s d ua ∧ VRs own (Cw own h' w) r ub
  | .int k, l, h, K, us, hf, H, hv => by
    simp only [decK] at hf
    split at hf
    · obtain ⟨v, r, rfl, h1, h2⟩ := VRs.cons_iff.1 hv
      rw [VR.c_iff] at h1; subst h1
      split at hf
      · rename_i hk; subst hk
        exact ⟨_, _, _, hf, H, .refl _ _ _, rfl, fun _ => .inl rfl, _, r, rfl, rfl, rfl, h2⟩
      · exact hf.elim
    · exact hf.elim
  | .bool, l, h, K, us, hf, H, hv => by
    simp only [decK] at hf
    split at hf
    · obtain ⟨v, r, rfl, h1, h2⟩ := VRs.cons_iff.1 hv
      rw [VR.c_iff] at h1; subst h1
      exact ⟨_, _, _, hf, H, .refl _ _ _, rfl, fun _ => .inl rfl, [_], r, rfl, rfl, rfl, h2⟩
    · exact hf.elim
  | .str, l, h, K, us, hf, H, hv => by
    simp only [decK] at hf
    split at hf
    · obtain ⟨v, r, rfl, h1, h2⟩ := VRs.cons_iff.1 hv
      rw [VR.c_iff] at h1; subst h1
      exact ⟨_, _, _, hf, H, .refl _ _ _, rfl, fun _ => .inl rfl, [_], r, rfl, rfl, rfl, h2⟩
    · exact hf.elim
  | .slice s, l, h, K, us, hf, H, hv => by
    simp only [decK] at hf
    split at hf
    · obtain ⟨v, r, rfl, h1, h2⟩ := VRs.cons_iff.1 hv
      rw [VR.c_iff] at h1; subst h1
      exact ⟨_, _, _, hf, H, .refl _ _ _, rfl, fun _ => .inl rfl, [_], r, rfl, rfl, ⟨_, rfl, none, 0, rfl, Nat.le_refl _, fun hn => absurd rfl hn⟩, h2⟩
    · obtain ⟨v, r, rfl, h1, h2⟩ := VRs.cons_iff.1 hv
      simp only [VR] at h1
      split at hf
      · rename_i hs; subst hs
        exact ⟨_, _, _, hf, H, .refl _ _ _, rfl, fun _ => .inl rfl, [_], r, rfl, rfl, ⟨_, rfl, h1⟩, h2⟩
      · exact hf.elim
    · rename_i id off len r'
      obtain ⟨v, r, rfl, h1, h2⟩ := VRs.cons_iff.1 hv
      split at hf
      · rename_i E s' xs hb
        split at hf
        · rename_i hs; subst hs
          obtain ⟨hle, hf⟩ := req_iff.1 hf
          rw [decide_eq_true_eq] at hle
          refine ⟨_, _, _, hf, H.kill id (by rw [hb]; exact fun h => h), .kill H id (by rw [hb]; exact fun h => h), next_put, fun i => ?_, [_], r, rfl, rfl, ⟨_, rfl, sl_ro H h1 hb hle⟩, (Ext.kill H id (by rw [hb]; exact fun h => h)).vrs h2⟩
          by_cases hi : i = id
          · subst hi; exact .inr (dead_not_live h i)
          · exact .inl (get_put_ne hi)
        · exact hf.elim
      · rename_i E s' xs a hb
        split at hf
        · rename_i hs
          obtain ⟨pl, ho⟩ := mix_own H hb
          obtain ⟨cs, T', fr, us1, u, m1, m2, m3, m4, m5, m6, m7, m8, m9, m10⟩ := H.mix ho hb
          subst hs
          obtain ⟨d, r1, h', hf2, H1, E1, n1, g1, ua, ub, hua, l1, D1, V1⟩ := decK_sound hf H (VRs.one m7)
          have hu1 := one_of hua l1
          subst hu1
          split at hf2
          · rename_i E2 s2 xs2 a2 hb2
            have hlv : isLive (h'.get id) := by rw [hb2]; trivial
            obtain ⟨hle, hf3⟩ := req_iff.1 hf2
            rw [decide_eq_true_eq] at hle
            have hnl : ¬ isLock (h'.get id) := by rw [hb2]; exact fun h => h
            have hk := Ext.kill H1 id hnl
            refine ⟨_, _, _, hf3, H1.kill id hnl, E1.trans hk, next_put.trans n1, fun i => ?_, [_], r, rfl, rfl, ⟨_, rfl, ?_⟩, (E1.trans hk).vrs h2⟩
            · by_cases hi : i = id
              · subst hi; exact .inr (dead_not_live h' i)
              · rcases g1 i with g | g
                · exact .inl ((get_put_ne hi).trans g)
                · exact .inr (by rw [get_put_ne hi]; exact g)
            · refine mix_ro h1 ho m4 (us := us1 ++ [u]) (by simpa using hle) (((m6.mono fun _ _ => DR.mono E1.cells).append (Flat.one D1 rfl)).mono fun _ _ => DR.mono hk.cells) fun j v hj => ⟨gone_kill H1 hlv (E1.ow _ _ ho), ?_⟩
              rw [cell_of m1]
              exact mix_cells m6 m9 m10 j v hj
          · exact hf2.elim
        · exact hf.elim
      · exact hf.elim
    · exact hf.elim
  | .pair a b, l, h, K, us, hf, H, hv => by
    simp only [decK] at hf
    obtain ⟨x, r1, h1, hf1, H1, E1, n1, g1, ua, ub, rfl, l1, D1, V1⟩ := decK_sound hf H hv
    obtain ⟨y, r2, h2, hf2, H2, E2, n2, g2, uc, ud, rfl, l2, D2, V2⟩ := decK_sound hf1 H1 V1
    refine ⟨_, _, _, hf2, H2, E1.trans E2, n2.trans n1, fun i => ?_, ua ++ uc, ud, by simp, by simp [Sh.size, l1, l2], ⟨ua, uc, rfl, D1.mono E2.cells, D2⟩, V2⟩
    rcases g2 i with g | g
    · rcases g1 i with g' | g'
      · exact .inl (g.trans g')
      · exact .inr (by rw [g]; exact g')
    · exact .inr g
  | .unit, l, h, K, us, hf, H, hv => by
    simp only [decK] at hf
    exact ⟨_, _, _, hf, H, .refl _ _ _, rfl, fun _ => .inl rfl, [], us, rfl, rfl, rfl, hv⟩
theorem decsK_sound {s : Sh} : ∀ {n : Nat} {l : List AV} {h : AH} {acc : List Dat} {K : List Dat → AH → Prop} {us ua : List Value}, decsK s n l h acc K → HR own h w → VRs own (Cw own h w) l us → Flat (DR (Cw own h w) s) s.size acc ua →
    ∃ xs h', K xs h' ∧ HR own h' w ∧ Ext own h w own h' w ∧ h'.next = h.next ∧ xs.length = acc.length + n ∧ ∃ ub, (∃ uc, us = ub ++ uc) ∧ Flat (DR (Cw own h' w) s) s.size xs (ua ++ ub)
  | 0, l, h, acc, K, us, ua, hf, H, hv, ha => ⟨acc, h, hf, H, .refl _ _ _, rfl, rfl, [], ⟨us, rfl⟩, by simpa using ha⟩
  | n + 1, l, h, acc, K, us, ua, hf, H, hv, ha => by
    simp only [decsK] at hf
    obtain ⟨d, r, h1, hf1, H1, E1, n1, _, va, vb, rfl, l1, D1, V1⟩ := decK_sound hf H hv
    obtain ⟨xs, h2, hf2, H2, E2, n2, l2, ub, ⟨uc, rfl⟩, F2⟩ := decsK_sound hf1 H1 V1 ((ha.mono fun _ _ => DR.mono E1.cells).append (.one D1 l1))
    exact ⟨xs, h2, hf2, H2, E1.trans E2, n2.trans n1, by rw [l2, List.length_append]; simp; omega, va ++ ub, ⟨uc, by simp⟩, by simpa using F2⟩
/-- a block of cells is written -/
theorem put_cells {id : Nat} {pl : Pl} {T : TypeId} {l : List AV} {us : List Value} {cs' : Array Value} {T' : TypeId} {fr : Nat × Nat} {w' : World} (H : HR own h w) (hnl : ¬ isLock (h.get id)) (hl : isLive (h.get id)) (ho : own id = some (some pl)) (hw : But pl.g w w')
    (hb : w'.heap[pl.g]? = some (.cells cs' T' fr)) (hf : FrC T T' fr cs'.size pl.d l.length pl.sz) (hN : pl.N = cs'.size) (hv : VRs own (Cw own h w) l us) (h1 : ones l = true) (hc : ∀ i u, us[i]? = some u → cs'[pl.d + i]? = some u) :
    HR own (h.put id (.cells T l)) w' ∧ Ext own h w own (h.put id (.cells T l)) w' := by
  have hE : Ext own h w own (h.put id (.cells T l)) w' := .put H hnl hl ho trivial hw
  exact ⟨.put H hnl hl ho trivial hw ⟨cs', T', fr, us, hb, hf, hN, hE.vrs hv, h1, hc⟩, hE⟩
theorem put_seq {id : Nat} {pl : Pl} {E : TypeId} {s : Sh} {xs : List Dat} {us : List Value} {cs' : Array Value} {T' : TypeId} {fr : Nat × Nat} {w' : World} (H : HR own h w) (hnl : ¬ isLock (h.get id)) (hl : isLive (h.get id)) (ho : own id = some (some pl)) (hw : But pl.g w w')
    (hb : w'.heap[pl.g]? = some (.cells cs' T' fr)) (hf : FrT E T' fr cs'.size) (hN : pl.N = cs'.size) (hsz : pl.sz = s.size) (hle : pl.d + xs.length * s.size ≤ pl.N) (hv : Flat (DR (Cw own h w) s) s.size xs us) (hc : ∀ i u, us[i]? = some u → cs'[pl.d + i]? = some u) :
    HR own (h.put id (.seq E s xs)) w' ∧ Ext own h w own (h.put id (.seq E s xs)) w' := by
  have hE : Ext own h w own (h.put id (.seq E s xs)) w' := .put H hnl hl ho trivial hw
  exact ⟨.put H hnl hl ho trivial hw ⟨cs', T', fr, hb, hf, hN, hsz, hle, flat_rows (hv.mono fun _ _ => DR.mono hE.cells) hc⟩, hE⟩
theorem sizeA_spec {t : TypeId} {n : Nat} (hn : n = sizeA P t) (h0 : 0 < n) : ∃ i, P.info? t = some i := by
  unfold sizeA Program.cellsOf at hn
  cases hi : P.info? t with
  | none => rw [hi] at hn; simp at hn; omega
  | some i => exact ⟨i, rfl⟩
theorem storeK_good {t : TypeId} {a b : AV} {x y : Value} {K : AH → Prop} (H : HR own h w) (hx : VR own (Cw own h w) a x) (hy : VR own (Cw own h w) b y) (hf : storeK P t a b h K) :
    ∃ w' h', (Instr.storeAt t x y).run P w = .ok () w' ∧ HR own h' w' ∧ Ext own h w own h' w' ∧ K h' := by
  unfold storeK at hf
  simp only [] at hf
  split at hf
  · rename_i hsz
    obtain ⟨hsz, hpos, hone⟩ := hsz
    have hi := sizeA_spec hsz hpos
    have hcv := cells_VRs hy hone
    have hlen : y.cells.size = b.cells.length := by have := hcv.length; simpa using this
    have hone' := hcv.ones hone
    split at hf
    · rename_i id off
      simp only [VR] at hx
      obtain ⟨pl, ho, rfl⟩ := hx
      split at hf
      · rename_i T l hb
        split at hf
        · rename_i hle
          obtain ⟨cs, T', fr, us, h1, h2, h3, h4, h5, h6⟩ := H.cells ho hb
          have hl := h4.length
          have hus : us.length + pl.d ≤ cs.size := by
            rcases Nat.eq_zero_or_pos us.length with h0 | h0
            · omega
            · have := h6 (us.length - 1) us[us.length - 1] (by simp [h0])
              have := (Array.getElem?_eq_some_iff.1 this).1
              omega
          obtain ⟨w', cs', k1, k2, k3, k4, k5, k6⟩ := store_run (P := P) (x := y) (g := pl.g) (o := pl.d + off) (by rw [hlen]; exact hsz) hi h1 h2 (by omega) hone'
          obtain ⟨H', E'⟩ := put_cells (T := T) H (by rw [hb]; exact fun h => h) (by rw [hb]; trivial) ho k2 k3 (by rw [k4, splice_len (by simpa using hle)]; exact h2) (by rw [k4]; exact h3) (splice_VRs (off := off) h4 hcv) (splice_ones h5 hone)
            (splice_cells (by simp; omega) h6 (fun j hj => k5 j (by simpa [Nat.add_assoc] using hj)) (fun j hj => by simpa using k6 j (by simpa using hj)))
          exact ⟨w', _, by unfold Instr.storeAt Instr.sureAddr; simpa using k1, H', E', hf⟩
        · exact hf.elim
      · exact hf.elim
    · rename_i id i off
      simp only [VR] at hx
      obtain ⟨pl, ho, rfl⟩ := hx
      split at hf
      · rename_i E s xs hb
        obtain ⟨hlt, hf⟩ := req_iff.1 hf
        rw [decide_eq_true_eq] at hlt
        split at hf
        · rename_i hle
          rw [enc_len] at hle
          obtain ⟨cs, T', fr, us, h1, h2, h3, h4, h5, h6, h7⟩ := H.seq ho hb
          have hd : xs[i]? = some (xs.getD i default) := by rw [List.getD_eq_getElem?_getD, List.getElem?_eq_getElem hlt]; rfl
          obtain ⟨ua, va, ub, he, l1, l2, hD⟩ := h6.get hd
          have hul := h6.length
          have hix : (i + 1) * s.size ≤ xs.length * s.size := Nat.mul_le_mul_right _ (by omega)
          rw [Nat.add_mul, Nat.one_mul] at hix
          obtain ⟨d, r, h', hK, H', E', n', g', ve, vf, hve, lve, hDv, hVf⟩ := decK_sound hf H (splice_VRs (off := off) (DR.enc.1 hD) hcv)
          have hvf : vf = [] := by
            have := congrArg List.length hve
            simp [lve, l2] at this
            apply List.eq_nil_of_length_eq_zero
            omega
          subst hvf
          rw [List.append_nil] at hve
          split at hK
          · rename_i E1 s1 xs1 hb1
            have hlv : isLive (h'.get id) := by rw [hb1]; trivial
            obtain ⟨w', cs', k1, k2, k3, k4, k5, k6⟩ := store_run (P := P) (x := y) (g := pl.g) (o := pl.d + (i * s.size + off)) (by rw [hlen]; exact hsz) hi h1 h2 (by omega) hone'
            have hF := (h6.mono fun _ _ => DR.mono E'.cells).set hlt hDv lve
            have hus : us.take (i * s.size) ++ (ve ++ us.drop ((i + 1) * s.size)) = us.take (i * s.size + off) ++ (y.cells.toList ++ us.drop (i * s.size + off + y.cells.toList.length)) := by
              rw [← hve, he, Nat.add_mul, Nat.one_mul, ← l1, List.take_left, List.take_length_add_append, List.take_append_of_le_length (by simp at *; omega)]
              rw [show ua.length + s.size = ua.length + s.size from rfl, List.drop_length_add_append, ← l2, List.drop_left, Nat.add_assoc, List.drop_length_add_append, List.drop_append_of_le_length (by simp at *; omega)]
              simp
            rw [hus] at hF
            obtain ⟨H2, E2⟩ := put_seq (E := E) H' (by rw [hb1]; exact fun h => h) hlv ho k2 k3 (by rw [k4]; exact h2) (by rw [k4]; exact h3) h4 (by rw [List.length_set]; exact h5) hF
              (splice_cells (by simp; omega) h7 (fun j hj => k5 j (by simpa [Nat.add_assoc] using hj)) (fun j hj => by simpa [Nat.add_assoc] using k6 j (by simpa using hj)))
            refine ⟨w', _, ?_, H2, E'.trans E2, hK⟩
            unfold Instr.storeAt Instr.sureAddr
            rw [← h4] at k1
            simpa [Nat.add_assoc] using k1
          · exact hK.elim
        · exact hf.elim
      · rename_i E s xs a0 hb
        split at hf
        · rename_i b' hvs
          obtain ⟨hix, hf⟩ := req_iff.1 hf
          rw [decide_eq_true_eq] at hix
          rw [hvs] at hcv hone hlen hsz
          obtain ⟨cs, T', fr, us, u, h1, h2, h3, h4, h5, h6, h7, h8, h9, h10⟩ := H.mix ho hb
          obtain ⟨u1, r1, hu1, hu2, hu3⟩ := VRs.cons_iff.1 hcv
          rw [VRs.nil_iff] at hu3
          subst hu3
          have hone' := hcv.ones hone
          have hul := h6.length
          have hl1 : y.cells.size = 1 := by simpa using hlen
          obtain ⟨w', cs', k1, k2, k3, k4, k5, k6⟩ := store_run (P := P) (x := y) (g := pl.g) (o := pl.d + xs.length) (by rw [hl1]; simpa [sizeA] using hsz) hi h1 h2 (by omega) hone'
          have hE : Ext own h w own (h.put id (.mix E s xs b')) w' := .put H (by rw [hb]; exact fun h => h) (by rw [hb]; trivial) ho trivial k2
          refine ⟨w', _, ?_, HR.put (b := .mix E s xs b') H (by rw [hb]; exact fun h => h) (by rw [hb]; trivial) ho trivial k2 ⟨cs', T', fr, u1, k3, ⟨by rw [k4]; exact h2.fr, h2.ty⟩, by rw [k4]; exact h3, h4, h5, flat_rows (h6.mono fun _ _ => DR.mono hE.cells) (fun j v hj => ?_), hE.vr hu2, ones_mem.1 hone b' (by simp), ?_⟩, hE, hf⟩
          · unfold Instr.storeAt Instr.sureAddr
            rw [hix, h4]
            simpa using k1
          · rw [k5 _ (.inl ?_)]
            · exact h9 j v hj
            · have := (List.getElem?_eq_some_iff.1 hj).1
              omega
          · have := k6 0 (by omega)
            rw [Nat.add_zero] at this
            rw [this, hu1]
            rfl
        · exact hf.elim
      · exact hf.elim
    · exact hf.elim
  · exact hf.elim
/-- a row's last element is read from now on -/
theorem freeze_sound {id : Nat} {K : AH → Prop} (H : HR own h w) (hf : freezeK h id K) :
    ∃ h', K h' ∧ HR own h' w ∧ Ext own h w own h' w ∧ h'.next = h.next ∧ (∀ i, i ≠ id → h'.get i = h.get i ∨ ¬ isLive (h'.get i)) ∧ ∃ E s xs a ys, h.get id = .mix E s xs a ∧ h'.get id = .seq E (.slice s) ys ∧ ys.length = xs.length + 1 := by
  unfold freezeK at hf
  split at hf
  · rename_i E s xs a hb
    obtain ⟨pl, ho⟩ := mix_own H hb
    obtain ⟨cs, T', fr, us1, u, m1, m2, m3, m4, m5, m6, m7, m8, m9, m10⟩ := H.mix ho hb
    obtain ⟨d, r1, h', hf, H1, E1, n1, g1, ua, ub, hua, l1, D1, V1⟩ := decK_sound hf H (VRs.one m7)
    have hu1 := one_of hua l1
    subst hu1
    split at hf
    · rename_i E2 s2 xs2 a2 hb2
      have hlv : isLive (h'.get id) := by rw [hb2]; trivial
      have hnl : ¬ isLock (h'.get id) := by rw [hb2]; exact fun h => h
      have hsz1 : (Sh.slice s).size = 1 := rfl
      obtain ⟨H2, E2⟩ := put_seq (E := E) (s := .slice s) (xs := xs ++ [d]) (us := us1 ++ [u]) H1 hnl hlv (E1.ow _ _ ho) (But.refl pl.g w) m1 m2 m3 (by rw [m4]; rfl) (by rw [hsz1, List.length_append, List.length_singleton, Nat.mul_one]; exact m5)
        ((m6.mono fun _ _ => DR.mono E1.cells).append (Flat.one D1 rfl)) (mix_cells m6 m9 m10)
      refine ⟨_, hf, H2, E1.trans E2, next_put.trans n1, fun i hi => ?_, E, s, xs, a, xs ++ [d], hb, get_put_self (get_lt hlv), by simp⟩
      rw [get_put_ne hi]
      exact g1 i
    · exact hf.elim
  · exact hf.elim
end
end AM
end Go
