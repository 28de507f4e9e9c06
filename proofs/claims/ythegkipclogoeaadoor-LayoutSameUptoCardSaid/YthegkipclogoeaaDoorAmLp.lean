/- Loops: a rule for a loop is proved round by round over a heap of its own. -/
import Derived.Test.YthegkipclogoeaaDoorAmFr
set_option linter.unusedVariables false
set_option linter.unusedSimpArgs false
namespace Go
namespace AM
open LMem LTxt
/-- what is not asked any more is forgotten -/
def maskF (M : List Nat) : Nat → List AV → List AV
  | _, [] => []
  | i, a :: l => (match idx M i with
    | some _ => a
    | none => .any) :: maskF M (i + 1) l
/-- nil slices in a frame become empty rows -/
def nilsF : List (Nat × TypeId × Sh) → List AV → AH → List AV × AH
  | [], f, h => (f, h)
  | (i, e, s) :: l, f, h => match (f.getD i au).isNil0 with
    | true => nilsF l (f.set i (.sl h.next 0 0)) (h.new (.seq e s []))
    | false => nilsF l f h
/-- what a loop's rule asks: which places of the frame; which of them are slices of which elements -/
structure Msk where
  M : List Nat
  V : List (Nat × TypeId × Sh)
def frameL (P : Program) (M : Msk) (R : LoopT) : LoopT := fun f0 h0 Q =>
  let f1 := maskF M.M 0 (nilsF M.V f0 h0).1
  let h := (nilsF M.V f0 h0).2
  let h1 := nils P h (reach h 200 (idsOf f1) [])
  let ids := reach h1 200 (idsOf f1) []
  match nodupB ids with
  | true => match subs (idx ids) h1 ids with
    | some bl => match rens (idx ids) f1 with
      | some f2 => R f2 ⟨bl, []⟩ fun e f3 h3 => match rens (backR h1.next ids bl) f3 with
        | some f4 => Q e f4 (back h1 ids bl h3)
        | none => False
      | none => False
    | none => False
  | false => False
/-- frame and heap behind a round, put in order -/
def gcF (P : Program) (M : Msk) (h0 : AH) (f0 : List AV) (hh : AH) (K : List AV → AH → Prop) : Prop :=
  let f1 := maskF M.M 0 (nilsF M.V f0 hh).1
  let h := (nilsF M.V f0 hh).2
  let h1 := nils P h (reach h 200 (idsOf f1) [])
  let ids := reach h1 200 (idsOf f1) []
  match nodupB ids with
  | true => match subs (idx ids) h1 ids with
    | some bl => match fixOK h0.bl ids bl 0 with
      | true => match rens (idx ids) f1 with
        | some f2 => K f2 ⟨bl, []⟩
        | none => False
      | false => False
    | none => False
  | false => False
def CQL (Q : AExit → List AV → AH → Prop) (own : Own) (h : AH) (w : World) (e : Exit) (a' : Act) (w' : World) : Prop :=
  ∃ e', e = exitOf e' ∧ ∃ own' h' f', Rel own' h' w' f' a' ∧ Ext0 own h w own' h' w' ∧ Fix own h own' h' ∧ Q e' f' h'
def LocalLoopOK (P : Program) (b : Code) (R : LoopT) : Prop := ∀ f h Q, R f h Q → ∀ (own : Own) w a, Rel own h w f a → (Code.loop b).wp P (CQL Q own h w) a w
def LocalRounds (P : Program) (b : Code) (n : Nat) (R : LoopT) : Prop := ∀ f h Q, R f h Q → ∀ (own : Own) w a, Rel own h w f a → Code.rounds P b (CQL Q own h w) n a w
section
variable {P : Program} {T : Tys} {G : Rules} {own own' : Own} {h h' : AH} {w w' : World}
theorem maskF_VRs {C : CellsP} (M : List Nat) : ∀ {f : List AV} {vs : List Value} (i : Nat), VRs own C f vs → VRs own C (maskF M i f) vs
  | [], vs, i, hv => hv
  | a :: l, vs, i, hv => by
    obtain ⟨v, r, rfl, h1, h2⟩ := VRs.cons_iff.1 hv
    unfold maskF
    refine .cons ?_ (maskF_VRs M (i + 1) h2)
    split
    · exact h1
    · simp only [VR]
theorem nilsF_ok : ∀ (l : List (Nat × TypeId × Sh)) (f : List AV) (h : AH) (own : Own) (us : List Value), HR own h w → VRs own (Cw own h w) f us →
    ∃ own', HR own' (nilsF l f h).2 w ∧ Ext own h w own' (nilsF l f h).2 w ∧ VRs own' (Cw own' (nilsF l f h).2 w) (nilsF l f h).1 us
  | [], f, h, own, us, H, hv => ⟨own, H, .refl _ _ _, hv⟩
  | (i, e, s) :: l, f, h, own, us, H, hv => by
    unfold nilsF
    split
    · rename_i hnil
      obtain ⟨H1, hE1⟩ := H.newNone e s
      have hv1 := hE1.vrs hv
      have hi : i < f.length := by
        rcases Nat.lt_or_ge i f.length with h1 | h1
        · exact h1
        · rw [List.getD_eq_getElem?_getD, List.getElem?_eq_none h1] at hnil
          cases hnil
      obtain ⟨v, h2, h3⟩ := hv.get (List.getElem?_eq_getElem hi)
      have ha : f[i] = .c (.slice none 0 0) := by
        rw [List.getD_eq_getElem?_getD, List.getElem?_eq_getElem hi] at hnil
        simp only [Option.getD_some] at hnil
        unfold AV.isNil0 at hnil
        split at hnil
        · assumption
        · cases hnil
      rw [ha, VR.c_iff] at h3
      subst h3
      have hset : us.set i (.slice none 0 0) = us := by
        apply List.ext_getElem?
        intro j
        rw [List.getElem?_set]
        split
        · rename_i hij
          subst hij
          have := (List.getElem?_eq_some_iff.1 h2).1
          rw [if_pos this, h2]
        · rfl
      have hsl : VR (own.upd h.next none) (Cw (own.upd h.next none) (h.new (.seq e s [])) w) (.sl h.next 0 0) (.slice none 0 0) := by
        simp only [VR]
        exact .inl ⟨trivial, trivial, none, upd_self⟩
      have hv2 := hv1.set i hsl
      rw [hset] at hv2
      obtain ⟨own', g1, g2, g3⟩ := nilsF_ok l _ _ _ us H1 hv2
      exact ⟨own', g1, hE1.trans g2, g3⟩
    · exact nilsF_ok l f h own us H hv
theorem Fix.trans {own'' : Own} {h'' : AH} (h1 : Fix own h own' h') (h2 : Fix own' h' own'' h'') : Fix own h own'' h'' := fun i hi =>
  let ⟨h3, h4⟩ := h1 i hi
  let ⟨h5, h6⟩ := h2 i h4
  ⟨h5.trans h3, h6⟩
theorem CQL.ext {Q : AExit → List AV → AH → Prop} (hE : Ext0 own h w own' h' w') (hf : Fix own h own' h') {e : Exit} {a : Act} {w2 : World} (hq : CQL Q own' h' w' e a w2) : CQL Q own h w e a w2 := by
  obtain ⟨e', h1, own2, h2, f2, h3, h4, h5, h6⟩ := hq
  exact ⟨e', h1, own2, h2, f2, h3, hE.trans h4, hf.trans h5, h6⟩
theorem gcF_ok {h0 : AH} {own0 : Own} {w0 : World} {M : Msk} {f : List AV} {a : Act} {K : List AV → AH → Prop} (hf : gcF P M h0 f h K) (hR : Rel own h w f a) (hE : Ext own0 h0 w0 own h w) (H0 : HR own0 h0 w0) :
    ∃ own' h' f', Rel own' h' w f' a ∧ Ext0 own0 h0 w0 own' h' w ∧ Fix own0 h0 own' h' ∧ K f' h' := by
  unfold gcF at hf
  obtain ⟨ownN, HN, hEN, hvN⟩ := nilsF_ok M.V f h own _ hR.hr hR.fr
  simp only at hf
  generalize nilsF M.V f h = fh at hf HN hEN hvN
  obtain ⟨f, h⟩ := fh
  simp only at hf HN hEN hvN
  generalize hh1 : nils P h (reach h 200 (idsOf (maskF M.M 0 f)) []) = h1 at hf
  generalize hids : reach h1 200 (idsOf (maskF M.M 0 f)) [] = ids at hf
  split at hf
  · rename_i hn
    split at hf
    · rename_i bl hs
      split at hf
      · rename_i hfx
        split at hf
        · rename_i f2 hf2
          have ht : (AV.tup (maskF M.M 0 f)).ren (idx ids) = some (.tup f2) := by simp only [AV.ren, hf2]
          have hv : VR ownN (Cw ownN h w) (.tup (maskF M.M 0 f)) (.tuple a.tmps) := by
            simp only [VR]
            exact ⟨_, rfl, maskF_VRs M.M 0 hvN⟩
          obtain ⟨own', g1, g2, g3, g4⟩ := gc_ok HN (hE.trans hEN) H0 hv hh1 hn hs hfx ht
          simp only [VR] at g4
          obtain ⟨vs, g5, g6⟩ := g4
          cases g5
          exact ⟨own', _, f2, ⟨g6, hR.df, g1⟩, g2, g3, hf⟩
        · exact hf.elim
      · exact hf.elim
    · exact hf.elim
  · exact hf.elim
theorem frameL_ok {b : Code} {M : Msk} {R : LoopT} (hR : LocalLoopOK P b R) : LoopOK P b (frameL P M R) := by
  intro f h Q hf own w a hRel
  unfold frameL at hf
  obtain ⟨ownN, HN, hEN, hvN⟩ := nilsF_ok M.V f h own _ hRel.hr hRel.fr
  simp only at hf
  generalize nilsF M.V f h = fh at hf HN hEN hvN
  obtain ⟨f, h⟩ := fh
  simp only at hf HN hEN hvN
  obtain ⟨own1, H1, hE1⟩ := nils_ok (P := P) (reach h 200 (idsOf (maskF M.M 0 f)) []) ownN h HN
  have hv1 := hE1.vrs (maskF_VRs M.M 0 hvN)
  generalize hh1 : nils P h (reach h 200 (idsOf (maskF M.M 0 f)) []) = h1 at hf H1 hE1 hv1
  generalize hids : reach h1 200 (idsOf (maskF M.M 0 f)) [] = ids at hf
  split at hf
  · rename_i hn
    split at hf
    · rename_i bl hs
      split at hf
      · rename_i f2 ha
        obtain ⟨H2, hC2, hr2⟩ := H1.part hn hs
        refine Code.wp_mono (fun e a' w' hq => ?_) (hR _ _ _ hf _ w a ⟨hv1.ren hr2 hC2 ha, hRel.df, H2⟩)
        obtain ⟨e', rfl, own3, h3, f3, hRel3, hE3, hfix, hk⟩ := hq
        obtain ⟨H4, hE4, hC4, hr4⟩ := H1.back hs hRel3.hr hE3 (fun i hi => (hfix i hi).1) hC2
        split at hk
        · rename_i f4 hf4
          exact ⟨e', rfl, _, _, f4, ⟨hRel3.fr.ren hr4 hC4 hf4, hRel3.df, H4⟩, (hEN.trans hE1).trans hE4, hk⟩
        · exact hk.elim
      · exact hf.elim
    · exact hf.elim
  · exact hf.elim
/-- of any piece of code -/
theorem frameC_ok {c : Code} {M : Msk} {R : LoopT} (hR : ∀ f h Q, R f h Q → ∀ (own : Own) w a, Rel own h w f a → c.wp P (CQL Q own h w) a w) : RegOK P c (frameL P M R) := by
  intro f h Q hf own w a hRel
  unfold frameL at hf
  obtain ⟨ownN, HN, hEN, hvN⟩ := nilsF_ok M.V f h own _ hRel.hr hRel.fr
  simp only at hf
  generalize nilsF M.V f h = fh at hf HN hEN hvN
  obtain ⟨f, h⟩ := fh
  simp only at hf HN hEN hvN
  obtain ⟨own1, H1, hE1⟩ := nils_ok (P := P) (reach h 200 (idsOf (maskF M.M 0 f)) []) ownN h HN
  have hv1 := hE1.vrs (maskF_VRs M.M 0 hvN)
  generalize hh1 : nils P h (reach h 200 (idsOf (maskF M.M 0 f)) []) = h1 at hf H1 hE1 hv1
  generalize hids : reach h1 200 (idsOf (maskF M.M 0 f)) [] = ids at hf
  split at hf
  · rename_i hn
    split at hf
    · rename_i bl hs
      split at hf
      · rename_i f2 ha
        obtain ⟨H2, hC2, hr2⟩ := H1.part hn hs
        refine Code.wp_mono (fun e a' w' hq => ?_) (hR _ _ _ hf _ w a ⟨hv1.ren hr2 hC2 ha, hRel.df, H2⟩)
        obtain ⟨e', rfl, own3, h3, f3, hRel3, hE3, hfix, hk⟩ := hq
        obtain ⟨H4, hE4, hC4, hr4⟩ := H1.back hs hRel3.hr hE3 (fun i hi => (hfix i hi).1) hC2
        split at hk
        · rename_i f4 hf4
          exact ⟨e', rfl, _, _, f4, ⟨hRel3.fr.ren hr4 hC4 hf4, hRel3.df, H4⟩, (hEN.trans hE1).trans hE4, hk⟩
        · exact hk.elim
      · exact hf.elim
    · exact hf.elim
  · exact hf.elim
theorem loopsOf_sub : ∀ {c b : Code}, b ∈ loopsOf c → ∀ d ∈ loopsOf b, d ∈ loopsOf c
  | .seq x y, b, hb, d, hd => by
    simp only [loopsOf, List.mem_append] at hb ⊢
    rcases hb with h1 | h1
    · exact .inl (loopsOf_sub h1 d hd)
    · exact .inr (loopsOf_sub h1 d hd)
  | .cond _ x y, b, hb, d, hd => by
    simp only [loopsOf, List.mem_append] at hb ⊢
    rcases hb with h1 | h1
    · exact .inl (loopsOf_sub h1 d hd)
    · exact .inr (loopsOf_sub h1 d hd)
  | .block _ x, b, hb, d, hd => by
    simp only [loopsOf] at hb ⊢
    exact loopsOf_sub hb d hd
  | .loop x, b, hb, d, hd => by
    simp only [loopsOf, List.mem_cons] at hb ⊢
    rcases hb with rfl | h1
    · exact .inr hd
    · exact .inr (loopsOf_sub h1 d hd)
  | .skip, b, hb, d, hd => by simp [loopsOf] at hb
  | .region .., b, hb, d, hd => by simp [loopsOf] at hb
  | .exit _, b, hb, d, hd => by simp [loopsOf] at hb
  | .ret, b, hb, d, hd => by simp [loopsOf] at hb
  | .rangeFunc .., b, hb, d, hd => by simp [loopsOf] at hb
  | .scope x, b, hb, d, hd => by
    simp only [loopsOf] at hb ⊢
    exact loopsOf_sub hb d hd
  | .label _, b, hb, d, hd => by simp [loopsOf] at hb
  | .goto _, b, hb, d, hd => by simp [loopsOf] at hb
theorem regsOf_sub : ∀ {c b : Code}, b ∈ loopsOf c → ∀ d ∈ regsOf b, d ∈ regsOf c
  | .seq x y, b, hb, d, hd => by
    simp only [loopsOf, List.mem_append] at hb
    simp only [regsOf, List.mem_append]
    rcases hb with h1 | h1
    · exact .inl (regsOf_sub h1 d hd)
    · exact .inr (regsOf_sub h1 d hd)
  | .cond _ x y, b, hb, d, hd => by
    simp only [loopsOf, List.mem_append] at hb
    simp only [regsOf, List.mem_append]
    rcases hb with h1 | h1
    · exact .inl (regsOf_sub h1 d hd)
    · exact .inr (regsOf_sub h1 d hd)
  | .block _ x, b, hb, d, hd => by
    simp only [loopsOf] at hb
    simp only [regsOf]
    exact regsOf_sub hb d hd
  | .loop x, b, hb, d, hd => by
    simp only [loopsOf, List.mem_cons] at hb
    simp only [regsOf]
    rcases hb with rfl | h1
    · exact hd
    · exact regsOf_sub h1 d hd
  | .skip, b, hb, d, hd => by simp [loopsOf] at hb
  | .region .., b, hb, d, hd => by simp [loopsOf] at hb
  | .exit _, b, hb, d, hd => by simp [loopsOf] at hb
  | .ret, b, hb, d, hd => by simp [loopsOf] at hb
  | .rangeFunc .., b, hb, d, hd => by simp [loopsOf] at hb
  | .scope x, b, hb, d, hd => by
    simp only [loopsOf] at hb
    simp only [regsOf]
    exact regsOf_sub hb d hd
  | .label _, b, hb, d, hd => by simp [loopsOf] at hb
  | .goto _, b, hb, d, hd => by simp [loopsOf] at hb
theorem inBody_loop {F : FuncId} {b : Code} (hb : b ∈ loopsOf (bodyOf P F)) : InBody P F b := ⟨fun d hd => loopsOf_sub hb d hd, fun d hd => regsOf_sub hb d hd⟩
/-- ROUND BY ROUND. -/
theorem rounds_ok (hS : Sound P T G) {F : FuncId} {b : Code} (hb : b ∈ loopsOf (bodyOf P F)) {M : Msk} (R : Nat → LoopT) (h0 : ∀ f h Q, ¬ R 0 f h Q)
    (hR : ∀ n f h Q, R (n + 1) f h Q → ∃ m, wpA P T G m F b (fun e f' h' => gcF P M h f' h' fun f2 h2 => match e with
      | .normal => R n f2 h2 Q
      | e => Q e f2 h2) f h) : ∀ n, LocalRounds P b n (R n)
  | 0, f, h, Q, hf, own, w, a, hRel => (h0 f h Q hf).elim
  | n + 1, f, h, Q, hf, own, w, a, hRel => by
    obtain ⟨m, hw⟩ := hR n f h Q hf
    rw [rounds_succ]
    refine Code.wp_mono (fun e a' w' hq => ?_) (wpA_sound hS m F b _ f h hw (inBody_loop hb) own w a hRel).1
    obtain ⟨e', rfl, own', h', f', hRel', hE, hQ⟩ := hq
    obtain ⟨own2, h2, f2, g1, g2, g3, g4⟩ := gcF_ok hQ hRel' hE hRel.hr
    cases e' with
    | normal => exact rounds_mono (fun e a w hq => hq.ext g2 g3) n a' w' (rounds_ok hS hb R h0 hR n f2 h2 Q g4 own2 w' a' g1)
    | exit id => exact ⟨.exit id, rfl, own2, h2, f2, g1, g2, g3, g4⟩
    | ret => exact ⟨.ret, rfl, own2, h2, f2, g1, g2, g3, g4⟩
/-- A LOOP's RULE. -/
theorem loop_ok (hS : Sound P T G) {F : FuncId} {b : Code} (hb : b ∈ loopsOf (bodyOf P F)) {M : Msk} (R : Nat → LoopT) (h0 : ∀ f h Q, ¬ R 0 f h Q)
    (hR : ∀ n f h Q, R (n + 1) f h Q → ∃ m, wpA P T G m F b (fun e f' h' => gcF P M h f' h' fun f2 h2 => match e with
      | .normal => R n f2 h2 Q
      | e => Q e f2 h2) f h) (R' : LoopT) (hR' : ∀ f h Q, R' f h Q → ∃ n, R n f h Q) : LoopOK P b (frameL P M R') :=
  frameL_ok fun f h Q hf own w a hRel =>
    let ⟨n, hn⟩ := hR' f h Q hf
    wp_loop_rounds n (rounds_ok hS hb R h0 hR n f h Q hn own w a hRel)
end
end AM
end Go
