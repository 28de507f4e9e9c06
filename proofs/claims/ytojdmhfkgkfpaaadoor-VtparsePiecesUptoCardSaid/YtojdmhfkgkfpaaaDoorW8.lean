/- VtparsePieces answers true for every input of bulk at most 1048576; conditions: the second form's bound, the listed tables. -/
import Derived.Test.YtojdmhfkgkfpaaaDoorAmPat
import Derived.Test.YtojdmhfkgkfpaaaDoorLz
import Derived.Test.YtojdmhfkgkfpaaaDoorCards
import Derived.Test.YtojdmhfkgkfpaaaDoorTie
import Derived.WalkKit
import Derived.ProofKit
import Derived.OpenShut
import Derived.Deep.DeepHandedRow
import Derived.Lib.LaidTab
set_option linter.unusedVariables false
set_option linter.unusedSimpArgs false
namespace Go
namespace AM
open LMem LTxt
section
variable {own own' own1 : Own} {h h' h2 : AH} {w w' : World}
theorem backAt_live0 {ids : List Nat} {bl : List AB} (hs : subs (idx ids) h ids = some bl) (hfix : ∀ i, keepB [] i = true → own1 i = (own.loc ids (Rest own h ids bl)) i := fun i hi => absurd hi (by simp [keepB, AB.isC])) {id : Nat} (hl : isLive ((AM.back h ids [] h2).get id)) :
    (∃ i, isLive (h2.get i) ∧ (h2.get i).ren (backR h.next ids []) = some ((AM.back h ids [] h2).get id) ∧ (own.back h.next own1) id = own1 i ∧ ((keepB [] i = true ∧ ids[i]? = some id) ∨ (keepB [] i = false ∧ id = h.next + i))) ∨
    (id < h.next ∧ idx ids id = none ∧ (AM.back h ids [] h2).get id = h.get id ∧ isLive (h.get id) ∧ (own.back h.next own1) id = own id) := by
  rw [back_get] at hl ⊢
  split at hl
  · rename_i hlt
    rw [if_pos hlt]
    unfold backAt at hl ⊢
    split at hl
    · rename_i hb
      have hb' := blt_true.1 hb
      have ho : (own.back h.next own1) id = own id := by simp only [Own.back]; rw [if_pos hb']
      try simp only [hb]
      split at hl
      · rename_i i hi
        split at hl
        · rename_i hk
          try simp only [hi, hk]
          obtain ⟨h1, h3⟩ := renD_live hl
          refine .inl ⟨i, h3, h1, ?_, .inl ⟨hk, idx_some hi⟩⟩
          rw [ho, hfix i hk]
          simp only [Own.loc, idx_some hi]
        · exact hl.elim
      · rename_i hi
        exact .inr ⟨hb', hi, by first | rfl | trivial, hl, ho⟩
    · rename_i hb
      have hb' : ¬ id < h.next := fun hlt' => by rw [blt_true.2 hlt'] at hb; cases hb
      have ho : (own.back h.next own1) id = own1 (id - h.next) := by simp only [Own.back]; rw [if_neg hb']
      try simp only [hb]
      split at hl
      · exact hl.elim
      · rename_i hk
        try simp only [hk]
        obtain ⟨h1, h3⟩ := renD_live hl
        exact .inl ⟨id - h.next, h3, h1, ho, .inr ⟨hk, by omega⟩⟩
  · exact hl.elim
theorem HR.back0 (H : HR own h w) {ids : List Nat} {bl : List AB} (hs : subs (idx ids) h ids = some bl) (H1 : HR own1 h2 w') (hE : Ext0 (own.loc ids (Rest own h ids bl)) ⟨bl, []⟩ w own1 h2 w') (hC0 : ∀ g o u, Cw own h w g o u → Cw (own.loc ids (Rest own h ids bl)) ⟨bl, []⟩ w g o u) :
    HR (own.back h.next own1) (AM.back h ids [] h2) w' ∧ Ext own h w (own.back h.next own1) (AM.back h ids [] h2) w' ∧ (∀ g o u, Cw own1 h2 w' g o u → Cw (own.back h.next own1) (AM.back h ids [] h2) w' g o u) ∧
      (∀ i k x, backR h.next ids [] i = some k → own1 i = some x → (own.back h.next own1) k = some x) := by
  have hX1 : own1.X = Rest own h ids bl := hE.xe
  have hat := fun id hl => backAt_live0 (own := own) (own1 := own1) (h2 := h2) hs (id := id) (hl := hl)
  have hlive : ∀ g, Live (own.back h.next own1) (AM.back h ids [] h2) g → Live own1 h2 g ∨ (Live own h g ∧ Rest own h ids bl g) := by
    rintro g ⟨id, pl, h1, h3, rfl⟩
    rcases hat id h1 with ⟨i, h4, h5, h6, _⟩ | ⟨h4, h5, h6, h7, h8⟩
    · exact .inl ⟨i, pl, h4, by rw [← h6]; exact h3, rfl⟩
    · rw [h8] at h3
      exact .inr ⟨⟨id, pl, h7, h3, rfl⟩, foreign H hs h5 h7 h3⟩
  have hC : ∀ g o u, Cw own1 h2 w' g o u → Cw (own.back h.next own1) (AM.back h ids [] h2) w' g o u := fun g o u ⟨h1, h3⟩ => ⟨⟨fun h4 => by
    rcases hlive g h4 with h5 | h5
    · exact h1.1 h5
    · exact h1.2 (by rw [hX1]; exact h5.2), fun h4 => h1.2 (by rw [hX1]; exact .inl h4)⟩, h3⟩
  have hCall : ∀ g o u, Cw own h w g o u → Cw (own.back h.next own1) (AM.back h ids [] h2) w' g o u := fun g o u h1 => hC g o u (hE.cells g o u (hC0 g o u h1))
  have hr : ∀ i k x, backR h.next ids [] i = some k → own1 i = some x → (own.back h.next own1) k = some x := fun i k x hk ho => by
    unfold backR at hk
    split at hk
    · rename_i hkeep
      cases hk
      exact absurd hkeep (by simp [keepB, AB.isC])
    · cases hk
      simp only [Own.back]
      rw [if_neg (by omega), Nat.add_sub_cancel_left]
      exact ho
  have how : ∀ id x, own id = some x → (own.back h.next own1) id = some x := fun id x hx => by
    have : id < h.next := by
      rcases Nat.lt_or_ge id h.next with h1 | h1
      · exact h1
      · rw [H.dom id h1] at hx; cases hx
    simp only [Own.back]
    rw [if_pos this]
    exact hx
  have hsame : ∀ (id : Nat) (pl : Pl), idx ids id = none → isLive (h.get id) → own id = some (some pl) → w'.heap[pl.g]? = w.heap[pl.g]? := fun id pl hi hl ho =>
    (hE.fz pl.g (H.lt hl ho) (fun h1 => by
      rcases foreign H hs hi hl ho with h3 | h3
      · exact (H.st.rest _ h3).2 ⟨id, pl, hl, ho, rfl⟩
      · exact h3.2 (live_X.1 h1))).2
  refine ⟨⟨fun id hl => ?_, fun id id' pl pl' hl hl' ho ho' hg => ?_, fun id hi => ?_, ⟨fun g hg => ⟨?_, fun hl => ?_⟩, fun g o u hg => hCall g o u (H.st.tab g o u hg)⟩⟩, ⟨how, hE.size, hE.os, hE.tape, hE.output, fun g hg hl => ?_, fun id T l hi => ?_, rfl⟩, hC, hr⟩
  · rcases hat id hl with ⟨i, h4, h5, h6, _⟩ | ⟨h4, h5, h6, h7, h8⟩
    · rw [h6]
      rcases H1.live i h4 with ⟨pl, h7, h8⟩ | ⟨h7, E, s, h8⟩
      · exact .inl ⟨pl, h7, h8.ren hr hC h5 rfl⟩
      · rw [h8] at h5
        simp only [AB.ren, Option.some.injEq] at h5
        exact .inr ⟨h7, E, s, h5.symm⟩
    · rw [h6, h8]
      rcases H.live id h7 with ⟨pl, h9, h10⟩ | h9
      · exact .inl ⟨pl, h9, h10.mono how hCall (hsame id pl h5 h7 h9)⟩
      · exact .inr h9
  · rcases hat id hl with ⟨i, h4, h5, h6, h7⟩ | ⟨h4, h5, h6, h7, h8⟩
    · rcases hat id' hl' with ⟨j, g4, g5, g6, g7⟩ | ⟨g4, g5, g6, g7, g8⟩
      · rw [h6] at ho
        rw [g6] at ho'
        have hij := H1.inj i j pl pl' h4 g4 ho ho' hg
        subst hij
        rcases h7 with ⟨h8, h9⟩ | ⟨h8, h9⟩ <;> rcases g7 with ⟨g8, g9⟩ | ⟨g8, g9⟩
        · rw [h9] at g9; cases g9; rfl
        · rw [h8] at g8; cases g8
        · rw [h8] at g8; cases g8
        · rw [h9, g9]
      · rw [h6] at ho
        rw [g8] at ho'
        exact absurd ⟨i, pl, h4, ho, hg⟩ (H1.st.rest pl'.g (by rw [hX1]; exact foreign H hs g5 g7 ho')).2
    · rw [h8] at ho
      rcases hat id' hl' with ⟨j, g4, g5, g6, g7⟩ | ⟨g4, g5, g6, g7, g8⟩
      · rw [g6] at ho'
        exact absurd ⟨j, pl', g4, ho', hg.symm⟩ (H1.st.rest pl.g (by rw [hX1]; exact foreign H hs h5 h7 ho)).2
      · rw [g8] at ho'
        exact H.inj id id' pl pl' h7 g7 ho ho' hg
  · have hi' : h.next + h2.next ≤ id := by simpa [AM.back, AH.next] using hi
    simp only [Own.back]
    rw [if_neg (by omega)]
    exact H1.dom _ (by omega)
  · exact Nat.lt_of_lt_of_le (H.st.rest g hg).1 hE.size
  · rcases hlive g hl with h1 | h1
    · exact (H1.st.rest g (by rw [hX1]; exact .inl hg)).2 h1
    · exact (H.st.rest g hg).2 h1.1
  · have h1 : ¬ Live (own.loc ids (Rest own h ids bl)) ⟨bl, []⟩ g := fun h1 => hl (loc_live hs h1).1
    obtain ⟨h3, h4⟩ := hE.fz g hg h1
    exact ⟨fun h5 => by
      rcases hlive g h5 with h6 | h6
      · exact h3 h6
      · exact hl h6.1, h4⟩
  · have hlv : isLive (h.get id) := by rw [hi]; trivial
    have hlt := get_lt hlv
    have hnone : idx ids id = none := by
      cases hx : idx ids id with
      | none => rfl
      | some i =>
        obtain ⟨b, _, h4⟩ := (subs_get hs).2 i id (idx_some hx)
        rw [hi] at h4
        simp only [AB.ren] at h4
        cases h4
    refine ⟨?_, fun pl hp => hsame id pl hnone hlv hp⟩
    rw [back_get, if_pos (by omega)]
    unfold backAt
    rw [blt_true.2 hlt]
    simp only [hnone]
    exact hi
end
section
variable {P : Program} {T : Tys} {G : Rules} {own own' : Own} {h h' : AH} {w w' : World}
/-- a heap put in order -/
theorem gc0_ok {h0 : AH} {own0 : Own} {w0 : World} {l : List Nat} {a : AV} {v : Value} (H : HR own h w) (hE : Ext own0 h0 w0 own h w) (H0 : HR own0 h0 w0) (hv : VR own (Cw own h w) a v) {h1 : AH} {ids : List Nat} {bl : List AB} {a' : AV} (hh : nils P h l = h1)
    (hn : nodupB ids = true) (hs : subs (idx ids) h1 ids = some bl) (ha : a.ren (idx ids) = some a') :
    ∃ own', HR own' ⟨bl, []⟩ w ∧ Ext0 own0 h0 w0 own' ⟨bl, []⟩ w ∧ VR own' (Cw own' ⟨bl, []⟩ w) a' v := by
  obtain ⟨own1, H1, hE1⟩ := nils_ok (P := P) l own h H
  rw [hh] at H1 hE1
  obtain ⟨H2, hC2, hr2⟩ := H1.loc hn hs (X := own1.X) (fun _ h => h) (fun _ h => .inl h) (fun g hg hl => (H1.st.rest g hg).2 (loc_live hs hl).1)
  have hE01 := hE.trans hE1
  refine ⟨own1.loc ids own1.X, H2, ⟨hE01.size, hE01.os, hE01.tape, hE01.output, fun g hg hl => ?_, hE01.xe⟩, (hE1.vr hv).ren hr2 hC2 ha⟩
  · obtain ⟨h3, h4⟩ := hE01.fz g hg hl
    exact ⟨fun h5 => h3 (loc_live hs h5).1, h4⟩
/-- frame and heap behind a round, put in order -/
def gcF0 (P : Program) (M : Msk) (h0 : AH) (f0 : List AV) (hh : AH) (K : List AV → AH → Prop) : Prop :=
  let f1 := maskF M.M 0 (nilsF M.V f0 hh).1
  let h := (nilsF M.V f0 hh).2
  let h1 := nils P h (reach h 200 (idsOf f1) [])
  let ids := reach h1 200 (idsOf f1) []
  match nodupB ids with
  | true => match subs (idx ids) h1 ids with
    | some bl => match rens (idx ids) f1 with
      | some f2 => K f2 ⟨bl, []⟩
      | none => False
    | none => False
  | false => False
def CQ0 (Q : AExit → List AV → AH → Prop) (own : Own) (h : AH) (w : World) (e : Exit) (a' : Act) (w' : World) : Prop :=
  ∃ e', e = exitOf e' ∧ ∃ own' h' f', Rel own' h' w' f' a' ∧ Ext0 own h w own' h' w' ∧ Q e' f' h'
def LocalLoopOK0 (P : Program) (b : Code) (R : LoopT) : Prop := ∀ f h Q, R f h Q → ∀ (own : Own) w a, Rel own h w f a → (Code.loop b).wp P (CQ0 Q own h w) a w
def LocalRounds0 (P : Program) (b : Code) (n : Nat) (R : LoopT) : Prop := ∀ f h Q, R f h Q → ∀ (own : Own) w a, Rel own h w f a → Code.rounds P b (CQ0 Q own h w) n a w
theorem CQ0.ext {Q : AExit → List AV → AH → Prop} (hE : Ext0 own h w own' h' w') {e : Exit} {a : Act} {w2 : World} (hq : CQ0 Q own' h' w' e a w2) : CQ0 Q own h w e a w2 := by
  obtain ⟨e', h1, own2, h2, f2, h3, h4, h6⟩ := hq
  exact ⟨e', h1, own2, h2, f2, h3, hE.trans h4, h6⟩
theorem gcF0_ok {h0 : AH} {own0 : Own} {w0 : World} {M : Msk} {f : List AV} {a : Act} {K : List AV → AH → Prop} (hf : gcF0 P M h0 f h K) (hR : Rel own h w f a) (hE : Ext own0 h0 w0 own h w) (H0 : HR own0 h0 w0) :
    ∃ own' h' f', Rel own' h' w f' a ∧ Ext0 own0 h0 w0 own' h' w ∧ K f' h' := by
  unfold gcF0 at hf
  obtain ⟨ownN, HN, hEN, hvN⟩ := nilsF_ok M.V f h own _ hR.hr hR.fr
  simp only at hf
  generalize nilsF M.V f h = fh at hf HN hEN hvN
  obtain ⟨f, h⟩ := fh
  simp only at hf HN hEN hvN
  generalize hh1 : nils P h (reach h 200 (idsOf (maskF M.M 0 f)) []) = h1 at hf
  generalize hids : reach h1 200 (idsOf (maskF M.M 0 f)) [] = ids at hf
  split at hf
  · rename_i hn
    split at hf
    · rename_i bl hs
      · split at hf
        · rename_i f2 hf2
          have ht : (AV.tup (maskF M.M 0 f)).ren (idx ids) = some (.tup f2) := by simp only [AV.ren, hf2]
          have hv : VR ownN (Cw ownN h w) (.tup (maskF M.M 0 f)) (.tuple a.tmps) := by
            simp only [VR]
            exact ⟨_, rfl, maskF_VRs M.M 0 hvN⟩
          obtain ⟨own', g1, g2, g4⟩ := gc0_ok HN (hE.trans hEN) H0 hv hh1 hn hs ht
          simp only [VR] at g4
          obtain ⟨vs, g5, g6⟩ := g4
          cases g5
          exact ⟨own', _, f2, ⟨g6, hR.df, g1⟩, g2, hf⟩
        · exact hf.elim
    · exact hf.elim
  · exact hf.elim
def frameL0 (P : Program) (M : Msk) (R : LoopT) : LoopT := fun f0 h0 Q =>
  let f1 := maskF M.M 0 (nilsF M.V f0 h0).1
  let h := (nilsF M.V f0 h0).2
  let h1 := nils P h (reach h 200 (idsOf f1) [])
  let ids := reach h1 200 (idsOf f1) []
  match nodupB ids with
  | true => match subs (idx ids) h1 ids with
    | some bl => match rens (idx ids) f1 with
      | some f2 => R f2 ⟨bl, []⟩ fun e f3 h3 => match rens (backR h1.next ids []) f3 with
        | some f4 => Q e f4 (back h1 ids [] h3)
        | none => False
      | none => False
    | none => False
  | false => False
theorem frameL0_ok {b : Code} {M : Msk} {R : LoopT} (hR : LocalLoopOK0 P b R) : LoopOK P b (frameL0 P M R) := by
  intro f h Q hf own w a hRel
  unfold frameL0 at hf
  obtain ⟨ownN, HN, hEN, hvN⟩ := nilsF_ok M.V f h own _ hRel.hr hRel.fr
  simp only at hf
  generalize nilsF M.V f h = fh at hf HN hEN hvN
  obtain ⟨f, h⟩ := fh
  simp only at hf HN hEN hvN
  obtain ⟨own1, H1, hE1⟩ := nils_ok (P := P) (reach h 200 (idsOf (maskF M.M 0 f)) []) ownN h HN
  have hv1 := hE1.vrs (maskF_VRs M.M 0 hvN)
  generalize hh1 : nils P h (reach h 200 (idsOf (maskF M.M 0 f)) []) = h1 at hf H1 hE1 hv1
  generalize hids : reach h1 200 (idsOf (maskF M.M 0 f)) [] = ids at hf
  split at hf
  · rename_i hn
    split at hf
    · rename_i bl hs
      split at hf
      · rename_i f2 ha
        obtain ⟨H2, hC2, hr2⟩ := H1.part hn hs
        refine Code.wp_mono (fun e a' w' hq => ?_) (hR _ _ _ hf _ w a ⟨hv1.ren hr2 hC2 ha, hRel.df, H2⟩)
        obtain ⟨e', rfl, own3, h3, f3, hRel3, hE3, hk⟩ := hq
        obtain ⟨H4, hE4, hC4, hr4⟩ := H1.back0 hs hRel3.hr hE3 hC2
        split at hk
        · rename_i f4 hf4
          exact ⟨e', rfl, _, _, f4, ⟨hRel3.fr.ren hr4 hC4 hf4, hRel3.df, H4⟩, (hEN.trans hE1).trans hE4, hk⟩
        · exact hk.elim
      · exact hf.elim
    · exact hf.elim
  · exact hf.elim
/-- the end of a round -/
def endF0 (P : Program) (C : List (Nat × Nat × VM)) (M : Msk) (ms : List (Nat × VM)) (h0 : AH) (f : List AV) (h : AH) (K : List AV → AH → Prop) : Prop := normC C h fun h => normF ms f h fun f h => gcF0 P M h0 f h K
theorem endF0_ok {C : List (Nat × Nat × VM)} {ms : List (Nat × VM)} {h0 : AH} {own0 : Own} {w0 : World} {M : Msk} {f : List AV} {a : Act} {K : List AV → AH → Prop} (hf : endF0 P C M ms h0 f h K) (hR : Rel own h w f a) (hE : Ext own0 h0 w0 own h w) (H0 : HR own0 h0 w0) :
    ∃ own' h' f', Rel own' h' w f' a ∧ Ext0 own0 h0 w0 own' h' w ∧ K f' h' := by
  unfold endF0 at hf
  obtain ⟨own1, h1, hk, H1, E1⟩ := normC_ok hf hR.hr
  obtain ⟨own2, h2, f2, hk, H2, E2, hv2⟩ := normF_ok hk H1 (E1.vrs hR.fr)
  exact gcF0_ok hk ⟨hv2, hR.df, H2⟩ ((hE.trans E1).trans E2) H0
theorem rounds0_ok_n {T : Tys} {G : Rules} (hS : Sound P T G) {F : FuncId} {b : Code} (hb : b ∈ loopsOf (bodyOf P F)) {C : AExit → List (Nat × Nat × VM)} {M : AExit → Msk} {ms : AExit → List (Nat × VM)} (R : Nat → LoopT) (h0 : ∀ f h Q, ¬ R 0 f h Q)
    (hR : ∀ n f h Q, R (n + 1) f h Q → ∃ m, wpA P T G m F b (fun e f' h' => endF0 P (C e) (M e) (ms e) h f' h' fun f2 h2 => match e with
      | .normal => R n f2 h2 Q
      | e => Q e f2 h2) f h) : ∀ n, LocalRounds0 P b n (R n)
  | 0, f, h, Q, hf, own, w, a, hRel => (h0 f h Q hf).elim
  | n + 1, f, h, Q, hf, own, w, a, hRel => by
    obtain ⟨m, hw⟩ := hR n f h Q hf
    rw [rounds_succ]
    refine Code.wp_mono (fun e a' w' hq => ?_) (wpA_sound hS m F b _ f h hw (inBody_loop hb) own w a hRel).1
    obtain ⟨e', rfl, own', h', f', hRel', hE, hQ⟩ := hq
    obtain ⟨own2, h2, f2, g1, g2, g4⟩ := endF0_ok hQ hRel' hE hRel.hr
    cases e' with
    | normal => exact rounds_mono (fun e a w hq => hq.ext g2) n a' w' (rounds0_ok_n hS hb R h0 hR n f2 h2 Q g4 own2 w' a' g1)
    | exit id => exact ⟨.exit id, rfl, own2, h2, f2, g1, g2, g4⟩
    | ret => exact ⟨.ret, rfl, own2, h2, f2, g1, g2, g4⟩
/-- the place of a loop: its frame and structs put into form and order -/
def headF0 (P : Program) (C : List (Nat × Nat × VM)) (M : Msk) (ms : List (Nat × VM)) (R : LoopT) : LoopT := frameL0 P M fun f h Q => endF0 P C M ms h f h fun f' h' => R f' h' Q
theorem loop0_ok_n {T : Tys} {G : Rules} (hS : Sound P T G) {F : FuncId} {b : Code} (hb : b ∈ loopsOf (bodyOf P F)) {C : AExit → List (Nat × Nat × VM)} {M : AExit → Msk} {ms : AExit → List (Nat × VM)} {C0 : List (Nat × Nat × VM)} {M0 : Msk} {ms0 : List (Nat × VM)} (R : Nat → LoopT) (h0 : ∀ f h Q, ¬ R 0 f h Q)
    (hR : ∀ n f h Q, R (n + 1) f h Q → ∃ m, wpA P T G m F b (fun e f' h' => endF0 P (C e) (M e) (ms e) h f' h' fun f2 h2 => match e with
      | .normal => R n f2 h2 Q
      | e => Q e f2 h2) f h) (R' : LoopT) (hR' : ∀ f h Q, R' f h Q → ∃ n, R n f h Q) : LoopOK P b (headF0 P C0 M0 ms0 R') :=
  frameL0_ok fun f h Q hf own w a hRel => by
    obtain ⟨own2, h2, f2, g1, g2, g4⟩ := endF0_ok hf hRel (Ext.refl own h w) hRel.hr
    obtain ⟨n, hn⟩ := hR' f2 h2 Q g4
    exact Code.wp_mono (fun e a w hq => hq.ext g2) (wp_loop_rounds n (rounds0_ok_n hS hb R h0 hR n f2 h2 Q hn own2 w a g1))
theorem ruleL0_ok {T : Tys} {G : Rules} (hS : Sound P T G) {g : FuncId} {id : Nat} (ho : oneLoop P g id = true) {C : AExit → List (Nat × Nat × VM)} {M : AExit → Msk} {ms : AExit → List (Nat × VM)} {C0 : List (Nat × Nat × VM)} {M0 : Msk} {ms0 : List (Nat × VM)} {F : Form}
    (mm : Nat → List Dat → (AExit → List AV → AH → Prop) → Prop) (h0 : ∀ ds Q, mm 0 ds Q = False)
    (hm : ∀ n ds Q, wpA P T G 1000 g (theLoop P g id) (fun e f' h' => endF0 P (C e) (M e) (ms e) (F.hp ds) f' h' fun f2 h2 => match e with
      | .normal => locL F (mm n) f2 h2 Q
      | e => Q e f2 h2) (F.fr ds) (F.hp ds) = mm (n + 1) ds Q) :
    LoopOK P (theLoop P g id) (headF0 P C0 M0 ms0 fun f h Q => ∃ n, locL F (mm n) f h Q) := by
  refine loop0_ok_n hS (theLoop_mem ho) (C := C) (M := M) (ms := ms) (fun n => locL F (mm n)) (fun f h Q hr => ?_) (fun n f h Q hr => ?_) _ (fun f h Q hr => hr)
  · obtain ⟨ds, _, _, hk⟩ := Form.at_spec hr
    rw [h0] at hk
    exact hk
  · obtain ⟨ds, rfl, rfl, hk⟩ := Form.at_spec hr
    exact ⟨1000, (hm n ds Q).mpr hk⟩
end
end AM
end Go

set_option linter.unusedVariables false
set_option maxRecDepth 100000
namespace Go.Proofs.YtojdmhfkgkfpaaaDoor
open Go.AM Go.LTxt Go.LMem Go.RowKit
noncomputable def p20r_r6 (r : RS) (E0 : RS → List Dat → Prop) : Prop := E0 r (RS.out r)
def F20r_r6 : AM.Form := ⟨mkF 25 [(0, .p 0 0)], [.cells 59 [.int .i64, .sl 1, .int .u8, .sl 2, .int .i64, .str, .str, .int .u8, .ro (.pair (.int .i64) (.pair (.int .i32) (.pair (.int .u8) (.pair (.int .u8) (.pair (.slice (.int .i64)) (.pair .str (.pair .str .unit)))))))], .seq 5 (.int .u8), .seq 3 (.int .i64)]⟩
noncomputable def mm20r_r6 (ds : List Dat) (Q : AExit → List AV → AH → Prop) : Prop := p20r_r6 ⟨(dat ds 0).toInt, (dat ds 7).toList, (dat ds 1).toInt, (dat ds 8).toList, (dat ds 2).toInt, (dat ds 3).toStr, (dat ds 4).toStr, (dat ds 5).toInt, (dat ds 6).toList⟩ (fun rr rxs => Q .normal (mkAV 25 [(0, .p 0 0), (4, .ro (.pair (.int .i64) (.pair (.int .i32) (.pair (.int .u8) (.pair (.int .u8) (.pair (.slice (.int .i64)) (.pair .str (.pair .str .unit))))))) rxs)]) ⟨[.cells 59 [.c (.int .i64 rr.state), .sl 1 0 rr.db.length, .c (.int .u8 rr.private_), .sl 2 0 rr.params.length, .c (.int .i64 rr.many), .c (.string rr.inter), .c (.string rr.text), .c (.int .u8 rr.final), .ro (.pair (.int .i64) (.pair (.int .i32) (.pair (.int .u8) (.pair (.int .u8) (.pair (.slice (.int .i64)) (.pair .str (.pair .str .unit))))))) rr.out], .seq 5 (.int .u8) rr.db, .seq 3 (.int .i64) rr.params], []⟩)
theorem t20r_r6 (ds : List Dat) (Q : AExit → List AV → AH → Prop) : wpA Tryd.prog tys GG3 1000 20 (theReg Tryd.prog 20 6) (fun e f' h' => endF Tryd.prog ((fun _ => []) e) ((fun _ => ⟨[0, 4], []⟩) e) ((fun _ => []) e) (F20r_r6.hp ds) f' h' fun f2 h2 => Q e f2 h2) (F20r_r6.fr ds) (F20r_r6.hp ds) = mm20r_r6 ds Q := by kernel_rfl
noncomputable def R20r_r6 : LoopT := headF Tryd.prog [(0, 8, .ro (.pair (.int .i64) (.pair (.int .i32) (.pair (.int .u8) (.pair (.int .u8) (.pair (.slice (.int .i64)) (.pair .str (.pair .str .unit))))))))] ⟨[0], []⟩ [] (locL F20r_r6 mm20r_r6)
theorem ok20r_r6 : RegOK Tryd.prog (theReg Tryd.prog 20 6) R20r_r6 := ruleP_ok sGG3 (by kernel_rfl) mm20r_r6 t20r_r6
noncomputable def rs20r_r6 : List (FuncId × Nat × LoopT) := (20, 6, R20r_r6) :: []
theorem rs20r_r6_ok : RegsOK Tryd.prog rs20r_r6 := .cons (by kernel_rfl) ok20r_r6 .nil
noncomputable def GG20r_r6 : Rules := mkG [] cs3 ls13_4 rs20r_r6
theorem sGG20r_r6 : Sound Tryd.prog tys GG20r_r6 := mk_sound mixed tysOK names (by kernel_rfl) cs3_ok ls13_4_ok rs20r_r6_ok
noncomputable def m20r (r : RS) (b : List Dat) (K : RS → List Dat → Prop) : Prop :=
    (∃ y0, 
    ((List.length (RS.db r) = List.length (RS.db r)) ∧ 
    ((List.length (RS.params r) = List.length (RS.params r)) ∧ 
    (((0 : Nat) = (0 : Nat)) ∧ 
    l20_3 y0 { state := RS.state r, db := RS.db r, private_ := RS.private_ r, params := RS.params r, many := RS.many r, inter := RS.inter r, text := RS.text r, final := RS.final r, out := [] } b (0 : Int) (fun y1 => 
     req (decide ((0 : Nat) + List.length (RS.out y1) ≤ List.length (RS.out y1))) (
     ((List.length (RS.db y1) = List.length (RS.db y1)) ∧ 
     ((List.length (RS.params y1) = List.length (RS.params y1)) ∧ 
     p20r_r6 { state := RS.state y1, db := RS.db y1, private_ := RS.private_ y1, params := RS.params y1, many := RS.many y1, inter := RS.inter y1, text := RS.text y1, final := RS.final y1, out := List.take (List.length (RS.out y1)) (RS.out y1) } (fun y2 y3 => K y2 y3)))))))))
def F20r : AM.Form := ⟨[.p 0 0, .ro (.int .u8)], [.cells 59 [.int .i64, .sl 1, .int .u8, .sl 2, .int .i64, .str, .str, .int .u8, .ro (.pair (.int .i64) (.pair (.int .i32) (.pair (.int .u8) (.pair (.int .u8) (.pair (.slice (.int .i64)) (.pair .str (.pair .str .unit)))))))], .seq 5 (.int .u8), .seq 3 (.int .i64)]⟩
noncomputable def mm20r (ds : List Dat) (K : AV → AH → Prop) : Prop := m20r ⟨(dat ds 1).toInt, (dat ds 8).toList, (dat ds 2).toInt, (dat ds 9).toList, (dat ds 3).toInt, (dat ds 4).toStr, (dat ds 5).toStr, (dat ds 6).toInt, (dat ds 7).toList⟩ ((dat ds 0).toList) (fun rr rxs => K (.ro (.pair (.int .i64) (.pair (.int .i32) (.pair (.int .u8) (.pair (.int .u8) (.pair (.slice (.int .i64)) (.pair .str (.pair .str .unit))))))) rxs) ⟨[.cells 59 [.c (.int .i64 rr.state), .sl 1 0 rr.db.length, .c (.int .u8 rr.private_), .sl 2 0 rr.params.length, .c (.int .i64 rr.many), .c (.string rr.inter), .c (.string rr.text), .c (.int .u8 rr.final), .ro (.pair (.int .i64) (.pair (.int .i32) (.pair (.int .u8) (.pair (.int .u8) (.pair (.slice (.int .i64)) (.pair .str (.pair .str .unit))))))) rr.out], .seq 5 (.int .u8) rr.db, .seq 3 (.int .i64) rr.params], []⟩)
theorem t20r (ds : List Dat) (K : AV → AH → Prop) : callA Tryd.prog tys GG20r_r6 1000 20 (F20r.fr ds) (F20r.hp ds) (fun v h' => endK Tryd.prog [] .keep (F20r.hp ds) (F20r.fr ds) v h' K) = mm20r ds K := by kernel_rfl
noncomputable def R20r : CallT := ruleF Tryd.prog [.keep, (.ro (.int .u8))] [] F20r mm20r
theorem ok20r : CallOK Tryd.prog 20 R20r := ruleF_ok sGG20r_r6 t20r
noncomputable def cs20r : List (FuncId × CallT) := (20, R20r) :: cs3
theorem cs20r_ok : CallsOK Tryd.prog cs20r := .cons ok20r cs3_ok
noncomputable def GG20r : Rules := mkG [] cs20r ls13_4 rs20r_r6
theorem sGG20r : Sound Tryd.prog tys GG20r := mk_sound mixed tysOK names (by kernel_rfl) cs20r_ok ls13_4_ok rs20r_r6_ok
noncomputable def m21r (r : RS) (K : RS → Bool → Prop) : Prop :=
    br (decide (RS.state r = (0 : Int))) (K r (decide ((↑(List.length (RS.db r)) : Int) = (0 : Int)))) (K r false)
def F21r : AM.Form := ⟨[.p 0 0], [.cells 59 [.int .i64, .sl 1, .int .u8, .sl 2, .int .i64, .str, .str, .int .u8, .ro (.pair (.int .i64) (.pair (.int .i32) (.pair (.int .u8) (.pair (.int .u8) (.pair (.slice (.int .i64)) (.pair .str (.pair .str .unit)))))))], .seq 5 (.int .u8), .seq 3 (.int .i64)]⟩
noncomputable def mm21r (ds : List Dat) (K : AV → AH → Prop) : Prop := m21r ⟨(dat ds 0).toInt, (dat ds 7).toList, (dat ds 1).toInt, (dat ds 8).toList, (dat ds 2).toInt, (dat ds 3).toStr, (dat ds 4).toStr, (dat ds 5).toInt, (dat ds 6).toList⟩ (fun rr rb => K (.c (.bool rb)) ⟨[.cells 59 [.c (.int .i64 rr.state), .sl 1 0 rr.db.length, .c (.int .u8 rr.private_), .sl 2 0 rr.params.length, .c (.int .i64 rr.many), .c (.string rr.inter), .c (.string rr.text), .c (.int .u8 rr.final), .ro (.pair (.int .i64) (.pair (.int .i32) (.pair (.int .u8) (.pair (.int .u8) (.pair (.slice (.int .i64)) (.pair .str (.pair .str .unit))))))) rr.out], .seq 5 (.int .u8) rr.db, .seq 3 (.int .i64) rr.params], []⟩)
theorem t21r (ds : List Dat) (K : AV → AH → Prop) : callA Tryd.prog tys GG20r 1000 21 (F21r.fr ds) (F21r.hp ds) (fun v h' => endK Tryd.prog [] .keep (F21r.hp ds) (F21r.fr ds) v h' K) = mm21r ds K := by kernel_rfl
noncomputable def R21r : CallT := ruleF Tryd.prog [.keep] [] F21r mm21r
theorem ok21r : CallOK Tryd.prog 21 R21r := ruleF_ok sGG20r t21r
noncomputable def cs21r : List (FuncId × CallT) := (21, R21r) :: cs20r
theorem cs21r_ok : CallsOK Tryd.prog cs21r := .cons ok21r cs20r_ok
noncomputable def GG21r : Rules := mkG [] cs21r ls13_4 rs20r_r6
theorem sGG21r : Sound Tryd.prog tys GG21r := mk_sound mixed tysOK names (by kernel_rfl) cs21r_ok ls13_4_ok rs20r_r6_ok
noncomputable def m19r  (K : RS → Prop) : Prop := K ({ state := (0 : Int), db := [], private_ := (0 : Int), params := [], many := (0 : Int), inter := { data := #[] }, text := { data := #[] }, final := (0 : Int), out := [] } : RS)
def F19r : AM.Form := ⟨[], []⟩
noncomputable def mm19r (ds : List Dat) (K : AV → AH → Prop) : Prop := m19r  (fun rr => K (.p 0 0) ⟨[.cells 59 [.c (.int .i64 rr.state), .sl 1 0 rr.db.length, .c (.int .u8 rr.private_), .sl 2 0 rr.params.length, .c (.int .i64 rr.many), .c (.string rr.inter), .c (.string rr.text), .c (.int .u8 rr.final), .ro (.pair (.int .i64) (.pair (.int .i32) (.pair (.int .u8) (.pair (.int .u8) (.pair (.slice (.int .i64)) (.pair .str (.pair .str .unit))))))) rr.out], .seq 5 (.int .u8) rr.db, .seq 3 (.int .i64) rr.params], []⟩)
theorem t19r (ds : List Dat) (K : AV → AH → Prop) : callA Tryd.prog tys GG21r 1000 19 (F19r.fr ds) (F19r.hp ds) (fun v h' => endK Tryd.prog [(0, 8, .ro (.pair (.int .i64) (.pair (.int .i32) (.pair (.int .u8) (.pair (.int .u8) (.pair (.slice (.int .i64)) (.pair .str (.pair .str .unit))))))))] .keep (F19r.hp ds) (F19r.fr ds) v h' K) = mm19r ds K := by kernel_rfl
noncomputable def R19r : CallT := ruleF Tryd.prog [] [] F19r mm19r
theorem ok19r : CallOK Tryd.prog 19 R19r := ruleF_ok sGG21r t19r
noncomputable def cs19r : List (FuncId × CallT) := (19, R19r) :: cs21r
theorem cs19r_ok : CallsOK Tryd.prog cs19r := .cons ok19r cs21r_ok
noncomputable def GG19r : Rules := mkG [] cs19r ls13_4 rs20r_r6
theorem sGG19r : Sound Tryd.prog tys GG19r := mk_sound mixed tysOK names (by kernel_rfl) cs19r_ok ls13_4_ok rs20r_r6_ok
noncomputable def l8_6 : Nat → PS → DS → RS → List Dat → List Dat → Int → Int → (PS → DS → RS → Prop) → (PS → DS → RS → Bool → Prop) → Prop
  | 0, _, _, _, _, _, _, _, _, _ => False
  | fu + 1, p, d, r, reset, xs, n, n2, E0, R_ =>
    br (decide (n2 < n)) (
     req (decide ((0 : Int) ≤ n2) && decide (n2 < (↑(List.length xs) : Int))) (
     req (decide (Int.toNat n2 < List.length xs)) (
     ((List.length (PS.aParams p) = List.length (PS.aParams p)) ∧ 
     ((List.length (PS.out p) = List.length (PS.out p)) ∧ 
     ((List.length (DS.b d) = List.length (DS.b d)) ∧ 
     m17 { made := PS.made p, state := PS.state p, aKind := PS.aKind p, aRune := PS.aRune p, aFinal := PS.aFinal p, aPrivate := PS.aPrivate p, aParams := PS.aParams p, aInter := PS.aInter p, aText := PS.aText p, many := PS.many p, out := PS.out p } { made := DS.made d, b := DS.b d } (Dat.toList (List.getD xs (Int.toNat n2) default)) (fun y0 y1 y2 => 
      ((List.length (RS.db r) = List.length (RS.db r)) ∧ 
      ((List.length (RS.params r) = List.length (RS.params r)) ∧ 
      m20r { state := RS.state r, db := RS.db r, private_ := RS.private_ r, params := RS.params r, many := RS.many r, inter := RS.inter r, text := RS.text r, final := RS.final r, out := RS.out r } (Dat.toList (List.getD xs (Int.toNat n2) default)) (fun y3 y4 => 
       req (decide ((0 : Nat) + List.length y2 ≤ List.length y2)) (
       m13 (List.take (List.length y2) y2) y4 (fun y5 => 
        br (!y5) (R_ y0 y1 y3 false) (
         ((List.length (PS.aParams y0) = List.length (PS.aParams y0)) ∧ 
         ((List.length (PS.out y0) = List.length (PS.out y0)) ∧ 
         ((List.length (DS.b y1) = List.length (DS.b y1)) ∧ 
         m18 { made := PS.made y0, state := PS.state y0, aKind := PS.aKind y0, aRune := PS.aRune y0, aFinal := PS.aFinal y0, aPrivate := PS.aPrivate y0, aParams := PS.aParams y0, aInter := PS.aInter y0, aText := PS.aText y0, many := PS.many y0, out := PS.out y0 } { made := DS.made y1, b := DS.b y1 } (fun y6 y7 y8 => 
          ((List.length (RS.db y3) = List.length (RS.db y3)) ∧ 
          ((List.length (RS.params y3) = List.length (RS.params y3)) ∧ 
          m21r { state := RS.state y3, db := RS.db y3, private_ := RS.private_ y3, params := RS.params y3, many := RS.many y3, inter := RS.inter y3, text := RS.text y3, final := RS.final y3, out := RS.out y3 } (fun y9 y10 => 
           br (!y8 == y10) (R_ y6 y7 y9 false) (
            br (decide (n2 < (↑(List.length reset) : Int))) (
             req (decide ((0 : Int) ≤ n2) && decide (n2 < (↑(List.length reset) : Int))) (
             req (decide (Int.toNat n2 < List.length reset)) (
             br (Dat.toBool (List.getD reset (Int.toNat n2) default)) (
              br (!!PS.made y6) (
               m16 (fun y11 y12 => 
                m19r (fun y13 => 
                 ((List.length (PS.aParams y11) = List.length (PS.aParams y11)) ∧ 
                 ((List.length (PS.out y11) = List.length (PS.out y11)) ∧ 
                 ((List.length (DS.b y12) = List.length (DS.b y12)) ∧ 
                 m18 { made := PS.made y11, state := PS.state y11, aKind := PS.aKind y11, aRune := PS.aRune y11, aFinal := PS.aFinal y11, aPrivate := PS.aPrivate y11, aParams := PS.aParams y11, aInter := PS.aInter y11, aText := PS.aText y11, many := PS.many y11, out := PS.out y11 } { made := DS.made y12, b := DS.b y12 } (fun y14 y15 y16 => 
                  br (!y16) (R_ y14 y15 y13 false) (
                   req (inR IntKind.i64 (n2 + (1 : Int))) (((List.length (PS.aParams y14)) = List.length (PS.aParams y14) ∧ ((List.length (PS.out y14)) = List.length (PS.out y14) ∧ ((List.length (DS.b y15)) = List.length (DS.b y15) ∧ ((List.length (RS.db y13)) = List.length (RS.db y13) ∧ ((List.length (RS.params y13)) = List.length (RS.params y13) ∧ l8_6 fu y14 y15 y13 reset xs n (n2 + (1 : Int)) E0 R_)))))))))))))) (
               m19r (fun y17 => 
                ((List.length (PS.aParams y6) = List.length (PS.aParams y6)) ∧ 
                ((List.length (PS.out y6) = List.length (PS.out y6)) ∧ 
                ((List.length (DS.b y7) = List.length (DS.b y7)) ∧ 
                m18 { made := PS.made y6, state := PS.state y6, aKind := PS.aKind y6, aRune := PS.aRune y6, aFinal := PS.aFinal y6, aPrivate := PS.aPrivate y6, aParams := PS.aParams y6, aInter := PS.aInter y6, aText := PS.aText y6, many := PS.many y6, out := PS.out y6 } { made := DS.made y7, b := DS.b y7 } (fun y18 y19 y20 => 
                 br (!y20) (R_ y18 y19 y17 false) (
                  req (inR IntKind.i64 (n2 + (1 : Int))) (((List.length (PS.aParams y18)) = List.length (PS.aParams y18) ∧ ((List.length (PS.out y18)) = List.length (PS.out y18) ∧ ((List.length (DS.b y19)) = List.length (DS.b y19) ∧ ((List.length (RS.db y17)) = List.length (RS.db y17) ∧ ((List.length (RS.params y17)) = List.length (RS.params y17) ∧ l8_6 fu y18 y19 y17 reset xs n (n2 + (1 : Int)) E0 R_)))))))))))))) (
              req (inR IntKind.i64 (n2 + (1 : Int))) (((List.length (PS.aParams y6)) = List.length (PS.aParams y6) ∧ ((List.length (PS.out y6)) = List.length (PS.out y6) ∧ ((List.length (DS.b y7)) = List.length (DS.b y7) ∧ ((List.length (RS.db y9)) = List.length (RS.db y9) ∧ ((List.length (RS.params y9)) = List.length (RS.params y9) ∧ l8_6 fu y6 y7 y9 reset xs n (n2 + (1 : Int)) E0 R_)))))))))) (
             req (inR IntKind.i64 (n2 + (1 : Int))) (((List.length (PS.aParams y6)) = List.length (PS.aParams y6) ∧ ((List.length (PS.out y6)) = List.length (PS.out y6) ∧ ((List.length (DS.b y7)) = List.length (DS.b y7) ∧ ((List.length (RS.db y9)) = List.length (RS.db y9) ∧ ((List.length (RS.params y9)) = List.length (RS.params y9) ∧ l8_6 fu y6 y7 y9 reset xs n (n2 + (1 : Int)) E0 R_)))))))))))))))))))))))))))) (E0 p d r)
def F8_6 : AM.Form := ⟨mkF 56 [(1, .ro .bool), (5, .p 0 0), (6, .p 5 0), (17, .ro (.slice (.int .u8))), (18, .int .i64), (19, .int .i64)], [.cells 53 [.bool, .int .i64, .p 1 0, .int .i64, .int .i32, .int .u8, .int .u8, .sl 3, .str, .str, .int .i64, .sl 4], .cells 71 [.bool, .sl 2], .seq 5 (.int .u8), .seq 3 (.int .i64), .seq 35 (.pair (.int .i64) (.pair (.int .i32) (.pair (.int .u8) (.pair (.int .u8) (.pair (.slice (.int .i64)) (.pair .str (.pair .str .unit))))))), .cells 59 [.int .i64, .sl 6, .int .u8, .sl 7, .int .i64, .str, .str, .int .u8, .ro (.pair (.int .i64) (.pair (.int .i32) (.pair (.int .u8) (.pair (.int .u8) (.pair (.slice (.int .i64)) (.pair .str (.pair .str .unit)))))))], .seq 5 (.int .u8), .seq 3 (.int .i64)]⟩
noncomputable def mm8_6 (n : Nat) (ds : List Dat) (Q : AExit → List AV → AH → Prop) : Prop := l8_6 n ⟨(dat ds 4).toBool, (dat ds 5).toInt, (dat ds 6).toInt, (dat ds 7).toInt, (dat ds 8).toInt, (dat ds 9).toInt, (dat ds 15).toList, (dat ds 10).toStr, (dat ds 11).toStr, (dat ds 12).toInt, (dat ds 16).toList⟩ ⟨(dat ds 13).toBool, (dat ds 14).toList⟩ ⟨(dat ds 17).toInt, (dat ds 24).toList, (dat ds 18).toInt, (dat ds 25).toList, (dat ds 19).toInt, (dat ds 20).toStr, (dat ds 21).toStr, (dat ds 22).toInt, (dat ds 23).toList⟩ ((dat ds 0).toList) ((dat ds 1).toList) ((dat ds 2).toInt) ((dat ds 3).toInt) (fun rp rd rr => Q (AExit.exit 0) (mkAV 56 [(5, .p 0 0), (6, .p 5 0)]) ⟨[.cells 53 [.c (.bool rp.made), .c (.int .i64 rp.state), .p 1 0, .c (.int .i64 rp.aKind), .c (.int .i32 rp.aRune), .c (.int .u8 rp.aFinal), .c (.int .u8 rp.aPrivate), .sl 3 0 rp.aParams.length, .c (.string rp.aInter), .c (.string rp.aText), .c (.int .i64 rp.many), .sl 4 0 rp.out.length], .cells 71 [.c (.bool rd.made), .sl 2 0 rd.b.length], .seq 5 (.int .u8) rd.b, .seq 3 (.int .i64) rp.aParams, .seq 35 (.pair (.int .i64) (.pair (.int .i32) (.pair (.int .u8) (.pair (.int .u8) (.pair (.slice (.int .i64)) (.pair .str (.pair .str .unit))))))) rp.out, .cells 59 [.c (.int .i64 rr.state), .sl 6 0 rr.db.length, .c (.int .u8 rr.private_), .sl 7 0 rr.params.length, .c (.int .i64 rr.many), .c (.string rr.inter), .c (.string rr.text), .c (.int .u8 rr.final), .ro (.pair (.int .i64) (.pair (.int .i32) (.pair (.int .u8) (.pair (.int .u8) (.pair (.slice (.int .i64)) (.pair .str (.pair .str .unit))))))) rr.out], .seq 5 (.int .u8) rr.db, .seq 3 (.int .i64) rr.params], []⟩) (fun rp rd rr rb => Q AExit.ret (mkAV 56 [(4, .c (.bool rb)), (5, .p 0 0), (6, .p 5 0)]) ⟨[.cells 53 [.c (.bool rp.made), .c (.int .i64 rp.state), .p 1 0, .c (.int .i64 rp.aKind), .c (.int .i32 rp.aRune), .c (.int .u8 rp.aFinal), .c (.int .u8 rp.aPrivate), .sl 3 0 rp.aParams.length, .c (.string rp.aInter), .c (.string rp.aText), .c (.int .i64 rp.many), .sl 4 0 rp.out.length], .cells 71 [.c (.bool rd.made), .sl 2 0 rd.b.length], .seq 5 (.int .u8) rd.b, .seq 3 (.int .i64) rp.aParams, .seq 35 (.pair (.int .i64) (.pair (.int .i32) (.pair (.int .u8) (.pair (.int .u8) (.pair (.slice (.int .i64)) (.pair .str (.pair .str .unit))))))) rp.out, .cells 59 [.c (.int .i64 rr.state), .sl 6 0 rr.db.length, .c (.int .u8 rr.private_), .sl 7 0 rr.params.length, .c (.int .i64 rr.many), .c (.string rr.inter), .c (.string rr.text), .c (.int .u8 rr.final), .ro (.pair (.int .i64) (.pair (.int .i32) (.pair (.int .u8) (.pair (.int .u8) (.pair (.slice (.int .i64)) (.pair .str (.pair .str .unit))))))) rr.out], .seq 5 (.int .u8) rr.db, .seq 3 (.int .i64) rr.params], []⟩)
theorem t8_6 (n : Nat) (ds : List Dat) (Q : AExit → List AV → AH → Prop) : wpA Tryd.prog tys GG19r 1000 8 (theLoop Tryd.prog 8 6) (fun e f' h' => endF0 Tryd.prog ((fun _ => []) e) ((fun e => match e with | .normal => ⟨[1, 5, 6, 17, 18, 19], []⟩ | .exit 0 => ⟨[5, 6], []⟩ | .ret => ⟨[4, 5, 6], []⟩ | _ => ⟨[], []⟩) e) ((fun e => match e with | .normal => [] | .exit 0 => [] | .ret => [] | _ => []) e) (F8_6.hp ds) f' h' fun f2 h2 => match e with
      | .normal => locL F8_6 (mm8_6 n) f2 h2 Q
      | e => Q e f2 h2) (F8_6.fr ds) (F8_6.hp ds) = mm8_6 (n + 1) ds Q := by kernel_rfl
noncomputable def R8_6 : LoopT := headF0 Tryd.prog [] ⟨[1, 5, 6, 17, 18, 19], []⟩ [] fun f h Q => ∃ n, locL F8_6 (mm8_6 n) f h Q
theorem ok8_6 : LoopOK Tryd.prog (theLoop Tryd.prog 8 6) R8_6 := ruleL0_ok sGG19r (by kernel_rfl) mm8_6 (fun _ _ => rfl) t8_6
noncomputable def ls8_6 : List (FuncId × Nat × LoopT) := (8, 6, R8_6) :: ls13_4
theorem ls8_6_ok : LoopsOK Tryd.prog ls8_6 := .cons (by kernel_rfl) ok8_6 ls13_4_ok
noncomputable def GG8_6 : Rules := mkG [] cs19r ls8_6 rs20r_r6
theorem sGG8_6 : Sound Tryd.prog tys GG8_6 := mk_sound mixed tysOK names (by kernel_rfl) cs19r_ok ls8_6_ok rs20r_r6_ok
noncomputable def m8 (l : List Dat) (reset : List Dat) (K : Bool → Prop) : Prop :=
    m16 (fun y0 y1 => 
     m19r (fun y2 => 
      (∃ y3, 
      ((List.length (PS.aParams y0) = List.length (PS.aParams y0)) ∧ 
      ((List.length (PS.out y0) = List.length (PS.out y0)) ∧ 
      ((List.length (DS.b y1) = List.length (DS.b y1)) ∧ 
      ((List.length (RS.db y2) = List.length (RS.db y2)) ∧ 
      ((List.length (RS.params y2) = List.length (RS.params y2)) ∧ 
      l8_6 y3 { made := PS.made y0, state := PS.state y0, aKind := PS.aKind y0, aRune := PS.aRune y0, aFinal := PS.aFinal y0, aPrivate := PS.aPrivate y0, aParams := PS.aParams y0, aInter := PS.aInter y0, aText := PS.aText y0, many := PS.many y0, out := PS.out y0 } { made := DS.made y1, b := DS.b y1 } { state := RS.state y2, db := RS.db y2, private_ := RS.private_ y2, params := RS.params y2, many := RS.many y2, inter := RS.inter y2, text := RS.text y2, final := RS.final y2, out := RS.out y2 } reset l (↑(List.length l) : Int) (0 : Int) (fun y4 y5 y6 => K true) (fun y7 y8 y9 y10 => K y10)))))))))
def F8 : AM.Form := ⟨[.ro (.slice (.int .u8)), .ro .bool], []⟩
noncomputable def mm8 (ds : List Dat) (K : AV → AH → Prop) : Prop := m8 ((dat ds 0).toList) ((dat ds 1).toList) (fun rb => K (.c (.bool rb)) ⟨[], []⟩)
theorem t8 (ds : List Dat) (K : AV → AH → Prop) : callA Tryd.prog tys GG8_6 1000 8 (F8.fr ds) (F8.hp ds) (fun v h' => endK Tryd.prog [] .keep (F8.hp ds) (F8.fr ds) v h' K) = mm8 ds K := by kernel_rfl
noncomputable def R8 : CallT := ruleF Tryd.prog [(.ro (.slice (.int .u8))), (.ro .bool)] [] F8 mm8
theorem ok8 : CallOK Tryd.prog 8 R8 := ruleF_ok sGG8_6 t8
noncomputable def cs8 : List (FuncId × CallT) := (8, R8) :: cs19r
theorem cs8_ok : CallsOK Tryd.prog cs8 := .cons ok8 cs19r_ok
noncomputable def GG8 : Rules := mkG [] cs8 ls8_6 rs20r_r6
theorem sGG8 : Sound Tryd.prog tys GG8 := mk_sound mixed tysOK names (by kernel_rfl) cs8_ok ls8_6_ok rs20r_r6_ok
end Go.Proofs.YtojdmhfkgkfpaaaDoor

set_option linter.unusedVariables false
set_option linter.unusedSimpArgs false
set_option maxRecDepth 100000
namespace Go.Proofs.YtojdmhfkgkfpaaaDoor
open Go.AM Go.LTxt Go.LMem Go.RowKit
set_option maxHeartbeats 0
def bytesIn (xs : List Dat) : List Dat := xs.flatMap Dat.toList
theorem bytesIn_cons (a : Dat) (r : List Dat) : bytesIn (a :: r) = a.toList ++ bytesIn r := by simp [bytesIn]
theorem v20r {r : RS} {x : X} {o b : List Dat} {K : RS → List Dat → Prop} (hR : RelR r x o) (hI : Inv x) (hb : okB b) (hN : cnt x + b.length + 8 ≤ limB) (hK : ∀ r', RelR r' (steps x b).1 (steps x b).2 → K r' (steps x b).2) : m20r r b K := by
  unfold m20r
  refine ⟨b.length + 1, rfl, rfl, rfl, r20_3 b hb _ _ _ x [] 0 (by omega) (by omega) ⟨hR.st, hR.db, rfl, hR.lv⟩ hI (by simp; omega) (by omega) fun r' hr' => ?_⟩
  have hr2 : RelR r' (steps x b).1 (steps x b).2 := by simpa using hr'
  refine req_mk (decide_eq_true (by omega)) ⟨rfl, rfl, ?_⟩
  rw [List.take_length]
  have := hK r' hr2
  rw [← hr2.out] at this
  exact this
theorem v21r {r : RS} {x : X} {o : List Dat} {K : RS → Bool → Prop} (hR : RelR r x o) (hK : K r (isG x)) : m21r r K := v21 hR hK
theorem v19r {K : RS → Prop} (hK : K newR) : m19r K := hK
theorem r8_6 (reset xs : List Dat) (hx : ∀ d ∈ xs, okB d.toList) (hn : xs.length ≤ limB) (E : PS → DS → RS → Prop) (R_ : PS → DS → RS → Bool → Prop) (hE : ∀ p d r, E p d r) (n : Nat) :
    ∀ (p : PS) (d : DS) (r : RS) (x : X) (o : List Dat) (M k : Nat), xs.length - k < n → RelP p d x [] M → RelR r x o → Inv x → M + 2 * (bytesIn (xs.drop k)).length + 16 ≤ limB → cnt x + (bytesIn (xs.drop k)).length + 16 ≤ limB → l8_6 n p d r reset xs xs.length k E R_ := by
  have hlim : limB = 16777216 := rfl
  induction n with
  | zero => intro p d r x o M k h; omega
  | succ n ih =>
    intro p d r x o M k h hP hR hI hM hC
    unfold l8_6
    rw [Int.toNat_natCast]
    refine br_mk (fun h2 => ?_) (fun _ => hE p d r)
    have hk : k < xs.length := by simpa using h2
    have h3 : (decide ((0 : Int) ≤ (k : Int)) && decide ((k : Int) < (xs.length : Int))) = true := by simp; omega
    have h4 : decide (k < xs.length) = true := by simpa using hk
    have hm : xs.getD k default ∈ xs := by rw [List.getD_eq_getElem?_getD, List.getElem?_eq_getElem hk]; exact List.getElem_mem hk
    have hb := hx _ hm
    rw [drop_cons hk, bytesIn_cons, List.length_append] at hM hC
    generalize (xs.getD k default).toList = b at hb hM hC ⊢
    have e := in64 k (by omega)
    have hs := steps_cnt hI hb
    have hI' := steps_inv hI hb
    have hok := steps_ok hI hb
    have hg : (!isG (steps x b).1 == isG (steps x b).1) = false := by cases isG (steps x b).1 <;> rfl
    have ek : (k : Int) + 1 = ((k + 1 : Nat) : Int) := by omega
    have next : ∀ p' d' r', RelP p' d' (steps x b).1 [] ((M : Int) + 2 * b.length) → RelR r' (steps x b).1 (steps x b).2 → l8_6 n p' d' r' reset xs xs.length ((k : Int) + 1) E R_ := fun p' d' r' h1 h2 => by
      rw [ek]
      exact ih p' d' r' _ _ (M + 2 * b.length) (k + 1) (by omega) (h1.mono (by omega)) h2 hI' (by omega) (by omega)
    have anew : l8_6 n newP newD newR reset xs xs.length ((k : Int) + 1) E R_ := by
      rw [ek]
      exact ih newP newD newR _ _ 0 (k + 1) (by omega) newP_rel newR_rel Inv0 (by omega) (by have : cnt X0 = 0 := rfl; omega)
    clear ih
    rw [h3, req_t, h4, req_t]
    refine ⟨rfl, rfl, rfl, v17 hP hI hb (by omega) (by omega) fun p' d' hp' => ⟨rfl, rfl, v20r hR hI hb (by omega) fun r' hr' => ?_⟩⟩
    refine req_mk (decide_eq_true (by omega)) ?_
    rw [List.take_length]
    refine v13 ?_ hok (by omega)
    rw [Bool.not_true, br_f]
    refine ⟨rfl, rfl, rfl, v18 hp' ⟨rfl, rfl, v21r hr' ?_⟩⟩
    rw [hg, br_f, e]
    have go := next p' d' r' hp' hr'
    refine br_mk (fun h5 => ?_) (fun _ => ?_)
    · have hr0 : k < reset.length := by simpa using h5
      have h6 : (decide ((0 : Int) ≤ (k : Int)) && decide ((k : Int) < (reset.length : Int))) = true := by simp; omega
      have h7 : decide (k < reset.length) = true := by simpa using hr0
      rw [h6, req_t, h7, req_t]
      refine br_mk (fun _ => ?_) (fun _ => ?_)
      · have hmade : (!!p'.made) = true := by rw [hp'.mp]; rfl
        rw [hmade, br_t]
        refine v16 (v19r ⟨rfl, rfl, rfl, v18 newP_rel ?_⟩)
        rw [show (!isG X0) = false from rfl, br_f, req_t]
        exact ⟨rfl, rfl, rfl, rfl, rfl, anew⟩
      · rw [req_t]
        exact ⟨rfl, rfl, rfl, rfl, rfl, go⟩
    · rw [req_t]
      exact ⟨rfl, rfl, rfl, rfl, rfl, go⟩
theorem v8 {xs reset : List Dat} (hx : ∀ d ∈ xs, okB d.toList) (hn : xs.length ≤ limB) (hT : 2 * (bytesIn xs).length + 16 ≤ limB) {K : Bool → Prop} (hK : K true) : m8 xs reset K := by
  have e : cnt X0 = 0 := rfl
  unfold m8
  refine v16 (v19r ⟨_, rfl, rfl, rfl, rfl, rfl, r8_6 reset xs hx hn _ _ (fun _ _ _ => hK) (xs.length + 1) newP newD newR X0 [] 0 0 (by omega) newP_rel newR_rel Inv0 (by rw [List.drop_zero]; omega) (by rw [List.drop_zero]; omega)⟩)
end Go.Proofs.YtojdmhfkgkfpaaaDoor

set_option linter.unusedVariables false
set_option maxRecDepth 100000
namespace Go.Proofs.YtojdmhfkgkfpaaaDoor.vtparsePieces
open Go.ChangeShapes Go.WideShapes Go.ChangeAt Go.RowKit Go.AM
theorem true8 {xs reset : List Dat} (hx : ∀ d ∈ xs, okB d.toList) (hn : xs.length ≤ limB) (hT : 2 * (bytesIn xs).length + 16 ≤ limB) : m8 xs reset tb := v8 hx hn hT trivial
theorem rule8 (xs reset : List Dat) : R8 [.ro (.slice (.int .u8)) xs, .ro .bool reset] h0 isTrue = m8 xs reset tb := by kernel_rfl
theorem by_len {H : Type} (d : DataW H) : (bytesIn (toDat (.slice (.slice (.int .u8))) d).toList).length ≤ Rows.uptoBulk d := by
  cases d with
  | slice elems spare =>
    simp only [toDat, Dat.toList, Rows.uptoBulk]
    suffices h : (bytesIn (elems.map (toDat (.slice (.int .u8))))).length ≤ Rows.uptoBulkAll elems by omega
    induction elems with
    | nil => simp [bytesIn, Rows.uptoBulkAll]
    | cons x r ih =>
      have h := slice_len (.int .u8) x
      simp only [List.map_cons, bytesIn_cons, List.length_append, Rows.uptoBulkAll]
      omega
  | _ => simp only [toDat, Dat.toList, bytesIn, List.flatMap_nil, List.length_nil]; omega
theorem by_ok {H : Type} (d : DataW H) (hF : Fits (.slice (.slice (.int .u8))) (toDat (.slice (.slice (.int .u8))) d)) : ∀ x ∈ (toDat (.slice (.slice (.int .u8))) d).toList, okB x.toList := by
  intro x hx
  have h1 := hF.2 x hx
  cases d with
  | slice elems spare =>
    simp only [toDat, Dat.toList, List.mem_map] at hx
    obtain ⟨y, _, rfl⟩ := hx
    exact bytes_ok y h1
  | _ => simp only [toDat, Dat.toList] at hx; exact absurd hx (by simp)
theorem own : ownKnob Tryd.prog.godebug = none := by kernel_rfl
theorem contract (H : Type) (enc : TypeId × Value → H) (W : World) (base : Nat) (args : Array Value) (ds gs : List (DataW H)) (before : List MemPlace)
    (hval : ∀ (j : Nat) t v, Tryd.f8.params[j]? = some t → args[j]? = some v → Value.okWide Tryd.prog W .any base t v)
    (hW : DataW.Whole enc Tryd.prog Tryd.f8.params.toList Rows.vtparsePiecesSpec.vars false W args.toList ds gs before) (hL : laidMetH Tryd.prog Rows.vtparsePiecesUptoRow.laid W) (hk : Rows.uptoSmall H (ds ++ gs) = true) :
    Calls Tryd.prog 8 args W fun e W' => ∃ v, e = .returned v ∧ Rows.vtparsePiecesSpec.post enc Tryd.prog Tryd.f8 false true false false W args v W' := by
  have one : ∃ d0 d1, ds = [d0, d1] := by
    obtain ⟨p, q, hA, hV, _⟩ := hW
    rw [Tryd.params8] at hA
    obtain ⟨v0, vs0, d0, ds0, p0, q0, hargs0, rfl, rfl, h0, r0⟩ := trodAll_cons hA
    obtain ⟨v1, vs1, d1, ds1, p1, q1, hargs1, rfl, rfl, h1, r1⟩ := trodAll_cons r0
    obtain ⟨rfl, rfl, rfl⟩ := trodAll_nil r1
    exact ⟨d0, d1, rfl⟩
  obtain ⟨d0, d1, rfl⟩ := one
  have hgs : gs = [] := by
    obtain ⟨p, q, hA, hV, _⟩ := hW
    obtain ⟨rfl, _⟩ := trodVars_none hV
    rfl
  subst hgs
  refine law_contractR ok8 (tb := 4) (ss := [.slice (.slice (.int .u8)), .slice .bool]) (tabs_laid hL) hval hW rfl (by kernel_rfl) (by kernel_rfl) (fun hl => rfl) (by kernel_rfl) (by kernel_rfl) (by kernel_rfl) (fun hF => ?_)
  refine ⟨[.ro (.slice (.int .u8)) (toDat (.slice (.slice (.int .u8))) d0).toList, .ro .bool (toDat (.slice .bool) d1).toList], by kernel_rfl, ?_⟩
  rw [rule8]
  have hf0 := hF (.slice (.slice (.int .u8)), d0) (by simp)
  have hf1 := hF (.slice .bool, d1) (by simp)
  have hb := bound hk
  have hb0 := bulk_mem (d := d0) (l := [d0, d1] ++ []) (by simp)
  have hb1 := bulk_mem (d := d1) (l := [d0, d1] ++ []) (by simp)
  have h2 := slice_len (.slice (.int .u8)) d0
  have h3 := by_len d0
  refine true8 (by_ok d0 hf0) (by have hlim : limB = 16777216 := rfl; omega) (by have hlim : limB = 16777216 := rfl; omega)
theorem laid_met (os : Os) : laidMet Tryd.prog Rows.vtparsePiecesUptoRow.laid (((laidWorld Rows.vtparsePiecesUptoRow.laid os).forCall (fun _ _ => 0) ⟨#[], #[.slice none 0 0, .slice none 0 0], []⟩)).memory :=
  laidMet_of_run' 8 (by kernel_rfl) (by kernel_rfl)
theorem reads (os : Os) {H : Type} (enc : TypeId × Value → H) : ∃ places, DataW.whole enc Tryd.prog ((laidWorld Rows.vtparsePiecesUptoRow.laid os).forCall (fun _ _ => 0) ⟨#[], #[.slice none 0 0, .slice none 0 0], []⟩).memory Tryd.f8.params.toList Rows.vtparsePiecesSpec.vars false #[Value.slice none 0 0, .slice none 0 0].toList 8 = some ([.nil, .nil], [], places) :=
  ⟨[], by kernel_rfl⟩
theorem lifted (os : Os) (started : os.Started) (H : Type) (enc : TypeId × Value → H) (F : Stop.Interp) :
    ReturnsInHanded {} Tryd.checked os 8 .any ((Rows.OpenSpec.upto Rows.vtparsePiecesSpec).preRow enc Tryd.prog Tryd.f8 Rows.vtparsePiecesUptoRow.domain false Rows.vtparsePiecesUptoRow.laid) (((Rows.OpenSpec.upto Rows.vtparsePiecesSpec).at F).post enc Tryd.prog Tryd.f8 false true false false) := by
  obtain ⟨places, hx⟩ := reads os enc
  refine returnsInHanded_of_row (C := Tryd.checked) (s := Rows.OpenSpec.upto Rows.vtparsePiecesSpec) own started (by kernel_rfl) Tryd.func8
    (witness_row_at (enc := enc) (C := Tryd.checked) false (laidWorld Rows.vtparsePiecesUptoRow.laid os) #[.slice none 0 0, .slice none 0 0] rfl (by kernel_rfl) (by kernel_rfl) (by kernel_rfl)
      (OpenSpec.preRow_of_cond 8 hx (by kernel_rfl) (fun k hk => by cases hk; kernel_rfl) (by kernel_rfl) (laid_met os))) ?_
  intro W base args ds gs before hval hW hc1 hc2 hc3 hL _ _
  first
    | exact contract H enc W base args ds gs before hval hW hL (hc1 _ rfl)
    | exact contract H enc W base args ds gs before hval hW hL (hc2 _ rfl)
    | exact contract H enc W base args ds gs before hval hW hL (hc3 _ rfl)
theorem said : Rows.VtparsePiecesUptoSaid :=
  OpenClaim.holds_of_cond 8 Tryd.f8 rfl rfl rfl rfl rfl rfl rfl ⟨rfl, rfl, rfl, rfl, rfl⟩ rfl rfl rfl rfl rfl (by kernel_rfl) Tryd.func8 (by kernel_rfl)
    (of_decide_eq_true (by kernel_rfl)) (by unfold Func.isWrapper; first | (rw [if_pos (by decide +kernel)]; kernel_rfl) | (rw [if_neg (by decide +kernel)]; exact ⟨rfl, rfl⟩))
    (fun os started H enc _ F => by rw [OpenClaim.pre_eq_preRow]; exact lifted os started H enc F)
/-- No parameter wants a stand-in; the program's own looks are off. -/
theorem plain (f : FuncId) (fn : Func) (hf : Tryd.pinned.checked.prog.funcNamed "lanyard/lanyardlaw05.VtparsePieces" = some f) (hfn : Tryd.pinned.checked.prog.funcs[f]? = some fn) :
    false = Tryd.pinned.checked.prog.looks [] ∧ ∀ (j : Nat) t, fn.params[j]? = some t → Tryd.pinned.checked.prog.wantsStandIn t = false := by
  obtain rfl : f = 8 := Option.some.inj ((show Tryd.prog.funcNamed "lanyard/lanyardlaw05.VtparsePieces" = some 8 by kernel_rfl).symm.trans hf) |>.symm
  obtain rfl : fn = Tryd.f8 := (Option.some.inj (Tryd.func8.symm.trans hfn)).symm
  refine ⟨by kernel_rfl, fun j t ht => ?_⟩
  have h1 : (Tryd.f8.params.toList.all fun t => !Tryd.pinned.checked.prog.wantsStandIn t) = true := by kernel_rfl
  have h2 := List.all_eq_true.1 h1 t (Array.mem_toList_iff.2 (Array.mem_of_getElem? ht))
  simpa using h2
theorem card : Rows.VtparsePiecesUptoCardSaid :=
  Claim7.holds_tied_plain_at .later [] _ _ _ _ said (fun _ h => by cases h) (by kernel_rfl) (fun _ h => by cases h) vtparsePiecesUpto_row_tie rfl ⟨rfl, rfl⟩ (by kernel_rfl) rfl plain (by kernel_rfl)
end Go.Proofs.YtojdmhfkgkfpaaaDoor.vtparsePieces

