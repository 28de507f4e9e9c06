/- Loops whose structs may be others behind a round: nothing keeps its number, all that the loop reaches is numbered anew. -/
import Derived.Test.YthegkipclogoeaaDoorAmPat
set_option linter.unusedVariables false
set_option linter.unusedSimpArgs false
namespace Go
namespace AM
open LMem LTxt
section
variable {own own' own1 : Own} {h h' h2 : AH} {w w' : World}
theorem backAt_live0 {ids : List Nat} {bl : List AB} (hs : subs (idx ids) h ids = some bl) (hfix : ∀ i, keepB [] i = true → own1 i = (own.loc ids (Rest own h ids bl)) i := fun i hi => absurd hi (by simp [keepB, AB.isC])) {id : Nat} (hl : isLive ((AM.back h ids [] h2).get id)) :
    (∃ i, isLive (h2.get i) ∧ (h2.get i).ren (backR h.next ids []) = some ((AM.back h ids [] h2).get id) ∧ (own.back h.next own1) id = own1 i ∧ ((keepB [] i = true ∧ ids[i]? = some id) ∨ (keepB [] i = false ∧ id = h.next + i))) ∨
    (id < h.next ∧ idx ids id = none ∧ (AM.back h ids [] h2).get id = h.get id ∧ isLive (h.get id) ∧ (own.back h.next own1) id = own id) := by
  rw [back_get] at hl ⊢
  split at hl
  · rename_i hlt
    rw [if_pos hlt]
    unfold backAt at hl ⊢
    split at hl
    · rename_i hb
      have hb' := blt_true.1 hb
      have ho : (own.back h.next own1) id = own id := by simp only [Own.back]; rw [if_pos hb']
      try simp only [hb]
      split at hl
      · rename_i i hi
        split at hl
        · rename_i hk
          try simp only [hi, hk]
          obtain ⟨h1, h3⟩ := renD_live hl
          refine .inl ⟨i, h3, h1, ?_, .inl ⟨hk, idx_some hi⟩⟩
          rw [ho, hfix i hk]
          simp only [Own.loc, idx_some hi]
        · exact hl.elim
      · rename_i hi
        exact .inr ⟨hb', hi, by first | rfl | trivial, hl, ho⟩
    · rename_i hb
      have hb' : ¬ id < h.next := fun hlt' => by rw [blt_true.2 hlt'] at hb; cases hb
      have ho : (own.back h.next own1) id = own1 (id - h.next) := by simp only [Own.back]; rw [if_neg hb']
      try simp only [hb]
      split at hl
      · exact hl.elim
      · rename_i hk
        try simp only [hk]
        obtain ⟨h1, h3⟩ := renD_live hl
        exact .inl ⟨id - h.next, h3, h1, ho, .inr ⟨hk, by omega⟩⟩
  · exact hl.elim
theorem HR.back0 (H : HR own h w) {ids : List Nat} {bl : List AB} (hs : subs (idx ids) h ids = some bl) (H1 : HR own1 h2 w') (hE : Ext0 (own.loc ids (Rest own h ids bl)) ⟨bl, []⟩ w own1 h2 w') (hC0 : ∀ g o u, Cw own h w g o u → Cw (own.loc ids (Rest own h ids bl)) ⟨bl, []⟩ w g o u) :
    HR (own.back h.next own1) (AM.back h ids [] h2) w' ∧ Ext own h w (own.back h.next own1) (AM.back h ids [] h2) w' ∧ (∀ g o u, Cw own1 h2 w' g o u → Cw (own.back h.next own1) (AM.back h ids [] h2) w' g o u) ∧
      (∀ i k x, backR h.next ids [] i = some k → own1 i = some x → (own.back h.next own1) k = some x) := by
  have hX1 : own1.X = Rest own h ids bl := hE.xe
  have hat := fun id hl => backAt_live0 (own := own) (own1 := own1) (h2 := h2) hs (id := id) (hl := hl)
  have hlive : ∀ g, Live (own.back h.next own1) (AM.back h ids [] h2) g → Live own1 h2 g ∨ (Live own h g ∧ Rest own h ids bl g) := by
    rintro g ⟨id, pl, h1, h3, rfl⟩
    rcases hat id h1 with ⟨i, h4, h5, h6, _⟩ | ⟨h4, h5, h6, h7, h8⟩
    · exact .inl ⟨i, pl, h4, by rw [← h6]; exact h3, rfl⟩
    · rw [h8] at h3
      exact .inr ⟨⟨id, pl, h7, h3, rfl⟩, foreign H hs h5 h7 h3⟩
  have hC : ∀ g o u, Cw own1 h2 w' g o u → Cw (own.back h.next own1) (AM.back h ids [] h2) w' g o u := fun g o u ⟨h1, h3⟩ => ⟨⟨fun h4 => by
    rcases hlive g h4 with h5 | h5
    · exact h1.1 h5
    · exact h1.2 (by rw [hX1]; exact h5.2), fun h4 => h1.2 (by rw [hX1]; exact .inl h4)⟩, h3⟩
  have hCall : ∀ g o u, Cw own h w g o u → Cw (own.back h.next own1) (AM.back h ids [] h2) w' g o u := fun g o u h1 => hC g o u (hE.cells g o u (hC0 g o u h1))
  have hr : ∀ i k x, backR h.next ids [] i = some k → own1 i = some x → (own.back h.next own1) k = some x := fun i k x hk ho => by
    unfold backR at hk
    split at hk
    · rename_i hkeep
      cases hk
      exact absurd hkeep (by simp [keepB, AB.isC])
    · cases hk
      simp only [Own.back]
      rw [if_neg (by omega), Nat.add_sub_cancel_left]
      exact ho
  have how : ∀ id x, own id = some x → (own.back h.next own1) id = some x := fun id x hx => by
    have : id < h.next := by
      rcases Nat.lt_or_ge id h.next with h1 | h1
      · exact h1
      · rw [H.dom id h1] at hx; cases hx
    simp only [Own.back]
    rw [if_pos this]
    exact hx
  have hsame : ∀ (id : Nat) (pl : Pl), idx ids id = none → isLive (h.get id) → own id = some (some pl) → w'.heap[pl.g]? = w.heap[pl.g]? := fun id pl hi hl ho =>
    (hE.fz pl.g (H.lt hl ho) (fun h1 => by
      rcases foreign H hs hi hl ho with h3 | h3
      · exact (H.st.rest _ h3).2 ⟨id, pl, hl, ho, rfl⟩
      · exact h3.2 (live_X.1 h1))).2
  refine ⟨⟨fun id hl => ?_, fun id id' pl pl' hl hl' ho ho' hg => ?_, fun id hi => ?_, ⟨fun g hg => ⟨?_, fun hl => ?_⟩, fun g o u hg => hCall g o u (H.st.tab g o u hg), fun g hg => by
    obtain ⟨o, u, h0⟩ := R1_T0 hg
    obtain ⟨h3, h4⟩ := hC0 g o u (H.st.tab g o u h0)
    rw [(hE.fz g (World.block_lt_of_cell? w _ h4) h3.1).2]
    exact H.st.blk g hg⟩⟩, ⟨how, hE.size, hE.os, hE.tape, hE.output, fun g hg hl => ?_, fun id T l hi => ?_, rfl⟩, hC, hr⟩
  · rcases hat id hl with ⟨i, h4, h5, h6, _⟩ | ⟨h4, h5, h6, h7, h8⟩
    · rw [h6]
      rcases H1.live i h4 with ⟨pl, h7, h8⟩ | ⟨h7, E, s, h8⟩
      · exact .inl ⟨pl, h7, h8.ren hr hC h5 rfl⟩
      · rw [h8] at h5
        simp only [AB.ren, Option.some.injEq] at h5
        exact .inr ⟨h7, E, s, h5.symm⟩
    · rw [h6, h8]
      rcases H.live id h7 with ⟨pl, h9, h10⟩ | h9
      · exact .inl ⟨pl, h9, h10.mono how hCall (hsame id pl h5 h7 h9)⟩
      · exact .inr h9
  · rcases hat id hl with ⟨i, h4, h5, h6, h7⟩ | ⟨h4, h5, h6, h7, h8⟩
    · rcases hat id' hl' with ⟨j, g4, g5, g6, g7⟩ | ⟨g4, g5, g6, g7, g8⟩
      · rw [h6] at ho
        rw [g6] at ho'
        have hij := H1.inj i j pl pl' h4 g4 ho ho' hg
        subst hij
        rcases h7 with ⟨h8, h9⟩ | ⟨h8, h9⟩ <;> rcases g7 with ⟨g8, g9⟩ | ⟨g8, g9⟩
        · rw [h9] at g9; cases g9; rfl
        · rw [h8] at g8; cases g8
        · rw [h8] at g8; cases g8
        · rw [h9, g9]
      · rw [h6] at ho
        rw [g8] at ho'
        exact absurd ⟨i, pl, h4, ho, hg⟩ (H1.st.rest pl'.g (by rw [hX1]; exact foreign H hs g5 g7 ho')).2
    · rw [h8] at ho
      rcases hat id' hl' with ⟨j, g4, g5, g6, g7⟩ | ⟨g4, g5, g6, g7, g8⟩
      · rw [g6] at ho'
        exact absurd ⟨j, pl', g4, ho', hg.symm⟩ (H1.st.rest pl.g (by rw [hX1]; exact foreign H hs h5 h7 ho)).2
      · rw [g8] at ho'
        exact H.inj id id' pl pl' h7 g7 ho ho' hg
  · have hi' : h.next + h2.next ≤ id := by simpa [AM.back, AH.next] using hi
    simp only [Own.back]
    rw [if_neg (by omega)]
    exact H1.dom _ (by omega)
  · exact Nat.lt_of_lt_of_le (H.st.rest g hg).1 hE.size
  · rcases hlive g hl with h1 | h1
    · exact (H1.st.rest g (by rw [hX1]; exact .inl hg)).2 h1
    · exact (H.st.rest g hg).2 h1.1
  · have h1 : ¬ Live (own.loc ids (Rest own h ids bl)) ⟨bl, []⟩ g := fun h1 => hl (loc_live hs h1).1
    obtain ⟨h3, h4⟩ := hE.fz g hg h1
    exact ⟨fun h5 => by
      rcases hlive g h5 with h6 | h6
      · exact h3 h6
      · exact hl h6.1, h4⟩
  · have hlv : isLive (h.get id) := by rw [hi]; trivial
    have hlt := get_lt hlv
    have hnone : idx ids id = none := by
      cases hx : idx ids id with
      | none => rfl
      | some i =>
        obtain ⟨b, _, h4⟩ := (subs_get hs).2 i id (idx_some hx)
        rw [hi] at h4
        simp only [AB.ren] at h4
        cases h4
    refine ⟨?_, fun pl hp => hsame id pl hnone hlv hp⟩
    rw [back_get, if_pos (by omega)]
    unfold backAt
    rw [blt_true.2 hlt]
    simp only [hnone]
    exact hi
end
section
variable {P : Program} {T : Tys} {G : Rules} {own own' : Own} {h h' : AH} {w w' : World}
/-- a heap put in order -/
theorem gc0_ok {h0 : AH} {own0 : Own} {w0 : World} {l : List Nat} {a : AV} {v : Value} (H : HR own h w) (hE : Ext own0 h0 w0 own h w) (H0 : HR own0 h0 w0) (hv : VR own (Cw own h w) a v) {h1 : AH} {ids : List Nat} {bl : List AB} {a' : AV} (hh : nils P h l = h1)
    (hn : nodupB ids = true) (hs : subs (idx ids) h1 ids = some bl) (ha : a.ren (idx ids) = some a') :
    ∃ own', HR own' ⟨bl, []⟩ w ∧ Ext0 own0 h0 w0 own' ⟨bl, []⟩ w ∧ VR own' (Cw own' ⟨bl, []⟩ w) a' v := by
  obtain ⟨own1, H1, hE1⟩ := nils_ok (P := P) l own h H
  rw [hh] at H1 hE1
  obtain ⟨H2, hC2, hr2⟩ := H1.loc hn hs (X := own1.X) (fun _ h => h) (fun _ h => .inl h) (fun g hg hl => (H1.st.rest g hg).2 (loc_live hs hl).1)
  have hE01 := hE.trans hE1
  refine ⟨own1.loc ids own1.X, H2, ⟨hE01.size, hE01.os, hE01.tape, hE01.output, fun g hg hl => ?_, hE01.xe⟩, (hE1.vr hv).ren hr2 hC2 ha⟩
  · obtain ⟨h3, h4⟩ := hE01.fz g hg hl
    exact ⟨fun h5 => h3 (loc_live hs h5).1, h4⟩
/-- frame and heap behind a round, put in order -/
def gcF0 (P : Program) (M : Msk) (h0 : AH) (f0 : List AV) (hh : AH) (K : List AV → AH → Prop) : Prop :=
  let f1 := maskF M.M 0 (nilsF M.V f0 hh).1
  let h := (nilsF M.V f0 hh).2
  let h1 := nils P h (reach h 200 (idsOf f1) [])
  let ids := reach h1 200 (idsOf f1) []
  match nodupB ids with
  | true => match subs (idx ids) h1 ids with
    | some bl => match rens (idx ids) f1 with
      | some f2 => K f2 ⟨bl, []⟩
      | none => False
    | none => False
  | false => False
def CQ0 (Q : AExit → List AV → AH → Prop) (own : Own) (h : AH) (w : World) (e : Exit) (a' : Act) (w' : World) : Prop :=
  ∃ e', e = exitOf e' ∧ ∃ own' h' f', Rel own' h' w' f' a' ∧ Ext0 own h w own' h' w' ∧ Q e' f' h'
def LocalLoopOK0 (P : Program) (b : Code) (R : LoopT) : Prop := ∀ f h Q, R f h Q → ∀ (own : Own) w a, Rel own h w f a → (Code.loop b).wp P (CQ0 Q own h w) a w
def LocalRounds0 (P : Program) (b : Code) (n : Nat) (R : LoopT) : Prop := ∀ f h Q, R f h Q → ∀ (own : Own) w a, Rel own h w f a → Code.rounds P b (CQ0 Q own h w) n a w
theorem CQ0.ext {Q : AExit → List AV → AH → Prop} (hE : Ext0 own h w own' h' w') {e : Exit} {a : Act} {w2 : World} (hq : CQ0 Q own' h' w' e a w2) : CQ0 Q own h w e a w2 := by
  obtain ⟨e', h1, own2, h2, f2, h3, h4, h6⟩ := hq
  exact ⟨e', h1, own2, h2, f2, h3, hE.trans h4, h6⟩
theorem gcF0_ok {h0 : AH} {own0 : Own} {w0 : World} {M : Msk} {f : List AV} {a : Act} {K : List AV → AH → Prop} (hf : gcF0 P M h0 f h K) (hR : Rel own h w f a) (hE : Ext own0 h0 w0 own h w) (H0 : HR own0 h0 w0) :
    ∃ own' h' f', Rel own' h' w f' a ∧ Ext0 own0 h0 w0 own' h' w ∧ K f' h' := by
  unfold gcF0 at hf
  obtain ⟨ownN, HN, hEN, hvN⟩ := nilsF_ok M.V f h own _ hR.hr hR.fr
  simp only at hf
  generalize nilsF M.V f h = fh at hf HN hEN hvN
  obtain ⟨f, h⟩ := fh
  simp only at hf HN hEN hvN
  generalize hh1 : nils P h (reach h 200 (idsOf (maskF M.M 0 f)) []) = h1 at hf
  generalize hids : reach h1 200 (idsOf (maskF M.M 0 f)) [] = ids at hf
  split at hf
  · rename_i hn
    split at hf
    · rename_i bl hs
      · split at hf
        · rename_i f2 hf2
          have ht : (AV.tup (maskF M.M 0 f)).ren (idx ids) = some (.tup f2) := by simp only [AV.ren, hf2]
          have hv : VR ownN (Cw ownN h w) (.tup (maskF M.M 0 f)) (.tuple a.tmps) := by
            simp only [VR]
            exact ⟨_, rfl, maskF_VRs M.M 0 hvN⟩
          obtain ⟨own', g1, g2, g4⟩ := gc0_ok HN (hE.trans hEN) H0 hv hh1 hn hs ht
          simp only [VR] at g4
          obtain ⟨vs, g5, g6⟩ := g4
          cases g5
          exact ⟨own', _, f2, ⟨g6, hR.df, g1⟩, g2, hf⟩
        · exact hf.elim
    · exact hf.elim
  · exact hf.elim
def frameL0 (P : Program) (M : Msk) (R : LoopT) : LoopT := fun f0 h0 Q =>
  let f1 := maskF M.M 0 (nilsF M.V f0 h0).1
  let h := (nilsF M.V f0 h0).2
  let h1 := nils P h (reach h 200 (idsOf f1) [])
  let ids := reach h1 200 (idsOf f1) []
  match nodupB ids with
  | true => match subs (idx ids) h1 ids with
    | some bl => match rens (idx ids) f1 with
      | some f2 => R f2 ⟨bl, []⟩ fun e f3 h3 => match rens (backR h1.next ids []) f3 with
        | some f4 => Q e f4 (back h1 ids [] h3)
        | none => False
      | none => False
    | none => False
  | false => False
theorem frameL0_ok {b : Code} {M : Msk} {R : LoopT} (hR : LocalLoopOK0 P b R) : LoopOK P b (frameL0 P M R) := by
  intro f h Q hf own w a hRel
  unfold frameL0 at hf
  obtain ⟨ownN, HN, hEN, hvN⟩ := nilsF_ok M.V f h own _ hRel.hr hRel.fr
  simp only at hf
  generalize nilsF M.V f h = fh at hf HN hEN hvN
  obtain ⟨f, h⟩ := fh
  simp only at hf HN hEN hvN
  obtain ⟨own1, H1, hE1⟩ := nils_ok (P := P) (reach h 200 (idsOf (maskF M.M 0 f)) []) ownN h HN
  have hv1 := hE1.vrs (maskF_VRs M.M 0 hvN)
  generalize hh1 : nils P h (reach h 200 (idsOf (maskF M.M 0 f)) []) = h1 at hf H1 hE1 hv1
  generalize hids : reach h1 200 (idsOf (maskF M.M 0 f)) [] = ids at hf
  split at hf
  · rename_i hn
    split at hf
    · rename_i bl hs
      split at hf
      · rename_i f2 ha
        obtain ⟨H2, hC2, hr2⟩ := H1.part hn hs
        refine Code.wp_mono (fun e a' w' hq => ?_) (hR _ _ _ hf _ w a ⟨hv1.ren hr2 hC2 ha, hRel.df, H2⟩)
        obtain ⟨e', rfl, own3, h3, f3, hRel3, hE3, hk⟩ := hq
        obtain ⟨H4, hE4, hC4, hr4⟩ := H1.back0 hs hRel3.hr hE3 hC2
        split at hk
        · rename_i f4 hf4
          exact ⟨e', rfl, _, _, f4, ⟨hRel3.fr.ren hr4 hC4 hf4, hRel3.df, H4⟩, (hEN.trans hE1).trans hE4, hk⟩
        · exact hk.elim
      · exact hf.elim
    · exact hf.elim
  · exact hf.elim
/-- the end of a round -/
def endF0 (P : Program) (C : List (Nat × Nat × VM)) (M : Msk) (ms : List (Nat × VM)) (h0 : AH) (f : List AV) (h : AH) (K : List AV → AH → Prop) : Prop := normC C h fun h => normF ms f h fun f h => gcF0 P M h0 f h K
theorem endF0_ok {C : List (Nat × Nat × VM)} {ms : List (Nat × VM)} {h0 : AH} {own0 : Own} {w0 : World} {M : Msk} {f : List AV} {a : Act} {K : List AV → AH → Prop} (hf : endF0 P C M ms h0 f h K) (hR : Rel own h w f a) (hE : Ext own0 h0 w0 own h w) (H0 : HR own0 h0 w0) :
    ∃ own' h' f', Rel own' h' w f' a ∧ Ext0 own0 h0 w0 own' h' w ∧ K f' h' := by
  unfold endF0 at hf
  obtain ⟨own1, h1, hk, H1, E1⟩ := normC_ok hf hR.hr
  obtain ⟨own2, h2, f2, hk, H2, E2, hv2⟩ := normF_ok hk H1 (E1.vrs hR.fr)
  exact gcF0_ok hk ⟨hv2, hR.df, H2⟩ ((hE.trans E1).trans E2) H0
theorem rounds0_ok_n {T : Tys} {G : Rules} (hS : Sound P T G) {F : FuncId} {b : Code} (hb : b ∈ loopsOf (bodyOf P F)) {C : AExit → List (Nat × Nat × VM)} {M : AExit → Msk} {ms : AExit → List (Nat × VM)} (R : Nat → LoopT) (h0 : ∀ f h Q, ¬ R 0 f h Q)
    (hR : ∀ n f h Q, R (n + 1) f h Q → ∃ m, wpA P T G m F b (fun e f' h' => endF0 P (C e) (M e) (ms e) h f' h' fun f2 h2 => match e with
      | .normal => R n f2 h2 Q
      | e => Q e f2 h2) f h) : ∀ n, LocalRounds0 P b n (R n)
  | 0, f, h, Q, hf, own, w, a, hRel => (h0 f h Q hf).elim
  | n + 1, f, h, Q, hf, own, w, a, hRel => by
    obtain ⟨m, hw⟩ := hR n f h Q hf
    rw [rounds_succ]
    refine Code.wp_mono (fun e a' w' hq => ?_) (wpA_sound hS m F b _ f h hw (inBody_loop hb) own w a hRel).1
    obtain ⟨e', rfl, own', h', f', hRel', hE, hQ⟩ := hq
    obtain ⟨own2, h2, f2, g1, g2, g4⟩ := endF0_ok hQ hRel' hE hRel.hr
    cases e' with
    | normal => exact rounds_mono (fun e a w hq => hq.ext g2) n a' w' (rounds0_ok_n hS hb R h0 hR n f2 h2 Q g4 own2 w' a' g1)
    | exit id => exact ⟨.exit id, rfl, own2, h2, f2, g1, g2, g4⟩
    | ret => exact ⟨.ret, rfl, own2, h2, f2, g1, g2, g4⟩
/-- the place of a loop: its frame and structs put into form and order -/
def headF0 (P : Program) (C : List (Nat × Nat × VM)) (M : Msk) (ms : List (Nat × VM)) (R : LoopT) : LoopT := frameL0 P M fun f h Q => endF0 P C M ms h f h fun f' h' => R f' h' Q
theorem loop0_ok_n {T : Tys} {G : Rules} (hS : Sound P T G) {F : FuncId} {b : Code} (hb : b ∈ loopsOf (bodyOf P F)) {C : AExit → List (Nat × Nat × VM)} {M : AExit → Msk} {ms : AExit → List (Nat × VM)} {C0 : List (Nat × Nat × VM)} {M0 : Msk} {ms0 : List (Nat × VM)} (R : Nat → LoopT) (h0 : ∀ f h Q, ¬ R 0 f h Q)
    (hR : ∀ n f h Q, R (n + 1) f h Q → ∃ m, wpA P T G m F b (fun e f' h' => endF0 P (C e) (M e) (ms e) h f' h' fun f2 h2 => match e with
      | .normal => R n f2 h2 Q
      | e => Q e f2 h2) f h) (R' : LoopT) (hR' : ∀ f h Q, R' f h Q → ∃ n, R n f h Q) : LoopOK P b (headF0 P C0 M0 ms0 R') :=
  frameL0_ok fun f h Q hf own w a hRel => by
    obtain ⟨own2, h2, f2, g1, g2, g4⟩ := endF0_ok hf hRel (Ext.refl own h w) hRel.hr
    obtain ⟨n, hn⟩ := hR' f2 h2 Q g4
    exact Code.wp_mono (fun e a w hq => hq.ext g2) (wp_loop_rounds n (rounds0_ok_n hS hb R h0 hR n f2 h2 Q hn own2 w a g1))
theorem ruleL0_ok {T : Tys} {G : Rules} (hS : Sound P T G) {g : FuncId} {id : Nat} (ho : oneLoop P g id = true) {C : AExit → List (Nat × Nat × VM)} {M : AExit → Msk} {ms : AExit → List (Nat × VM)} {C0 : List (Nat × Nat × VM)} {M0 : Msk} {ms0 : List (Nat × VM)} {F : Form}
    (mm : Nat → List Dat → (AExit → List AV → AH → Prop) → Prop) (h0 : ∀ ds Q, mm 0 ds Q = False)
    (hm : ∀ n ds Q, wpA P T G 1000 g (theLoop P g id) (fun e f' h' => endF0 P (C e) (M e) (ms e) (F.hp ds) f' h' fun f2 h2 => match e with
      | .normal => locL F (mm n) f2 h2 Q
      | e => Q e f2 h2) (F.fr ds) (F.hp ds) = mm (n + 1) ds Q) :
    LoopOK P (theLoop P g id) (headF0 P C0 M0 ms0 fun f h Q => ∃ n, locL F (mm n) f h Q) := by
  refine loop0_ok_n hS (theLoop_mem ho) (C := C) (M := M) (ms := ms) (fun n => locL F (mm n)) (fun f h Q hr => ?_) (fun n f h Q hr => ?_) _ (fun f h Q hr => hr)
  · obtain ⟨ds, _, _, hk⟩ := Form.at_spec hr
    rw [h0] at hk
    exact hk
  · obtain ⟨ds, rfl, rfl, hk⟩ := Form.at_spec hr
    exact ⟨1000, (hm n ds Q).mpr hk⟩
end
end AM
end Go
