/- A contract that is proved over a small heap of its own holds wherever the call stands; nil slices in structs are empty rows; loops by their rounds. -/
import Derived.Test.YthegkipclogoeaaDoorAmLoc
set_option linter.unusedVariables false
set_option linter.unusedSimpArgs false
namespace Go
namespace AM
open LMem LTxt
/-- nil slices in a struct's cells become empty rows -/
def AV.isNil0 : AV → Bool
  | .c (.slice none 0 0) => true
  | _ => false
def slSh (P : Program) (t : TypeId) : Option (TypeId × Sh) := match P.underlying t with
  | some (.slice e) => match shT P e with
    | some s => some (e, s)
    | none => none
  | _ => none
def nilsCells (P : Program) : List TypeId → List AV → AH → List AV × AH
  | t :: ts, a :: l, h => match a.isNil0 with
    | true => match slSh P t with
      | some (e, s) => (.sl h.next 0 0 :: (nilsCells P ts l (h.new (.seq e s []))).1, (nilsCells P ts l (h.new (.seq e s []))).2)
      | none => (a :: (nilsCells P ts l h).1, (nilsCells P ts l h).2)
    | false => (a :: (nilsCells P ts l h).1, (nilsCells P ts l h).2)
  | _, l, h => (l, h)
def nilsBlk (P : Program) (h : AH) (id : Nat) : AH := match h.get id with
  | .cells T l => match P.cellTypes 9 T with
    | some ts => (nilsCells P ts l h).2.put id (.cells T (nilsCells P ts l h).1)
    | none => h
  | _ => h
def nils (P : Program) (h : AH) : List Nat → AH
  | [] => h
  | id :: l => nils P (nilsBlk P h id) l
section
variable {P : Program} {own own' : Own} {h h' : AH} {w w' : World}
theorem get_new_live {b : AB} {id : Nat} (hl : isLive (h.get id)) : (h.new b).get id = h.get id := by
  rw [get_new, if_neg (by have := get_lt hl; omega)]
theorem nilsCells_ok : ∀ (ts : List TypeId) (l : List AV) (h : AH) (own : Own) (us : List Value), HR own h w → VRs own (Cw own h w) l us →
    ∃ own', HR own' (nilsCells P ts l h).2 w ∧ Ext own h w own' (nilsCells P ts l h).2 w ∧ VRs own' (Cw own' (nilsCells P ts l h).2 w) (nilsCells P ts l h).1 us ∧ (ones l = true → ones (nilsCells P ts l h).1 = true) ∧
      ∀ id, isLive (h.get id) → (nilsCells P ts l h).2.get id = h.get id
  | [], l, h, own, us, H, hv => ⟨own, H, .refl _ _ _, hv, fun h => h, fun _ _ => rfl⟩
  | t :: ts, [], h, own, us, H, hv => ⟨own, H, .refl _ _ _, hv, fun h => h, fun _ _ => rfl⟩
  | t :: ts, a :: l, h, own, us, H, hv => by
    obtain ⟨v, r, rfl, h1, h2⟩ := VRs.cons_iff.1 hv
    have plain : ∃ own', HR own' (nilsCells P ts l h).2 w ∧ Ext own h w own' (nilsCells P ts l h).2 w ∧ VRs own' (Cw own' (nilsCells P ts l h).2 w) (a :: (nilsCells P ts l h).1) (v :: r) ∧ (ones (a :: l) = true → ones (a :: (nilsCells P ts l h).1) = true) ∧
      ∀ id, isLive (h.get id) → (nilsCells P ts l h).2.get id = h.get id := by
      obtain ⟨own', g1, g2, g3, g4, g5⟩ := nilsCells_ok ts l h own r H h2
      refine ⟨own', g1, g2, .cons (g2.vr h1) g3, fun ho => ?_, g5⟩
      simp only [ones] at ho ⊢
      split at ho
      · rename_i hone; try simp only [hone]
        exact g4 ho
      · cases ho
    unfold nilsCells
    split
    · rename_i hnil
      split
      · rename_i e s hs
        obtain ⟨H1, hE1⟩ := H.newNone e s
        obtain ⟨own', g1, g2, g3, g4, g5⟩ := nilsCells_ok ts l (h.new (.seq e s [])) (own.upd h.next none) r H1 (hE1.vrs h2)
        have ha : a = .c (.slice none 0 0) := by
          unfold AV.isNil0 at hnil
          split at hnil
          · rfl
          · cases hnil
        subst ha
        refine ⟨own', g1, hE1.trans g2, .cons ?_ g3, fun ho => ?_, fun id hl => ?_⟩
        · rw [VR.c_iff] at h1
          subst h1
          simp only [VR]
          exact .inl ⟨trivial, trivial, none, g2.ow _ _ upd_self⟩
        · simp only [ones] at ho ⊢
          split at ho
          · exact g4 ho
          · cases ho
        · have h3 := get_new_live (b := .seq e s []) hl
          rw [g5 id (by rw [h3]; exact hl), h3]
      · exact plain
    · exact plain
theorem nilsBlk_ok (H : HR own h w) (id : Nat) : ∃ own', HR own' (nilsBlk P h id) w ∧ Ext own h w own' (nilsBlk P h id) w := by
  unfold nilsBlk
  split
  · rename_i T l hb
    split
    · rename_i ts hts
      have hl : isLive (h.get id) := by rw [hb]; trivial
      rcases H.live id hl with ⟨pl, ho, hB⟩ | ⟨_, E, s, hB⟩
      · rw [hb] at hB
        obtain ⟨cs, T', fr, us, h1, h2, h3, h4, h5, h6⟩ := hB
        obtain ⟨own', g1, g2, g3, g4, g5⟩ := nilsCells_ok (P := P) ts l h own us H h4
        have hl' : isLive ((nilsCells P ts l h).2.get id) := by rw [g5 id hl]; exact hl
        have hnl : ¬ isLock ((nilsCells P ts l h).2.get id) := by rw [g5 id hl, hb]; exact fun h => h
        have ho' := g2.ow _ _ ho
        have hE := Ext.put (b := .cells T (nilsCells P ts l h).1) g1 hnl hl' ho' trivial (But.refl pl.g w)
        exact ⟨own', g1.put hnl hl' ho' trivial (But.refl pl.g w) ⟨cs, T', fr, us, h1, ⟨h2.fr, h2.ty, h2.d0, by rw [h2.len, ← h4.length, g3.length], h2.one⟩, h3, g3.mono (fun _ _ h => h) hE.cells, g4 h5, h6⟩, g2.trans hE⟩
      · rw [hb] at hB; cases hB
    · exact ⟨own, H, .refl _ _ _⟩
  · exact ⟨own, H, .refl _ _ _⟩
theorem nils_ok : ∀ (l : List Nat) (own : Own) (h : AH), HR own h w → ∃ own', HR own' (nils P h l) w ∧ Ext own h w own' (nils P h l) w
  | [], own, h, H => ⟨own, H, .refl _ _ _⟩
  | id :: l, own, h, H => by
    obtain ⟨own1, H1, hE1⟩ := nilsBlk_ok (P := P) H id
    obtain ⟨own2, H2, hE2⟩ := nils_ok l own1 _ H1
    exact ⟨own2, H2, hE1.trans hE2⟩
end

/-! ### Contracts over a heap of their own -/
def frameK (P : Program) (R : CallT) : CallT := fun args h K =>
  let h1 := nils P h (reach h 200 (idsOf args) [])
  let ids := reach h1 200 (idsOf args) []
  match nodupB ids with
  | true => match subs (idx ids) h1 ids with
    | some bl => match rens (idx ids) args with
      | some args' => R args' ⟨bl, []⟩ fun v h2 => match v.ren (backR h1.next ids bl) with
        | some v' => K v' (back h1 ids bl h2)
        | none => False
      | none => False
    | none => False
  | false => False
/-- structs keep their numbers -/
def fixOK : List AB → List Nat → List AB → Nat → Bool
  | [], _, _, _ => true
  | b :: l, ids, bl, i => match b.isC with
    | true => match ids, bl with
      | id :: ids, b' :: bl => match Nat.beq id i with
        | true => match b'.isC with
          | true => fixOK l ids bl (i + 1)
          | false => false
        | false => false
      | _, _ => false
    | false => fixOK l (ids.drop 1) (bl.drop 1) (i + 1)
/-- the heap behind a call, put in order -/
def gcK (P : Program) (h0 : AH) (roots : List AV) (v : AV) (h : AH) (K : AV → AH → Prop) : Prop :=
  let h1 := nils P h (reach h 200 (idsOf roots ++ v.ids) [])
  let ids := reach h1 200 (idsOf roots ++ v.ids) []
  match nodupB ids with
  | true => match subs (idx ids) h1 ids with
    | some bl => match fixOK h0.bl ids bl 0 with
      | true => match v.ren (idx ids) with
        | some v' => K v' ⟨bl, []⟩
        | none => False
      | false => False
    | none => False
  | false => False
def Fix (own : Own) (h : AH) (own' : Own) (h' : AH) : Prop := ∀ i, keepB h.bl i = true → own' i = own i ∧ keepB h'.bl i = true
def CRL (K : AV → AH → Prop) (own : Own) (h : AH) (w : World) (e : Ending) (w' : World) : Prop :=
  ∃ v own' h' av, e = .returned v ∧ HR own' h' w' ∧ Ext0 own h w own' h' w' ∧ Fix own h own' h' ∧ VR own' (Cw own' h' w') av v ∧ K av h'
def LocalOK (P : Program) (g : FuncId) (R : CallT) : Prop := ∀ args h K, R args h K → ∀ (own : Own) w (vs : List Value), HR own h w → VRs own (Cw own h w) args vs → Calls P g vs.toArray w (CRL K own h w)
section
variable {P : Program} {T : Tys} {G : Rules} {own own' : Own} {h h' : AH} {w w' : World}
theorem fixOK_spec : ∀ {l : List AB} {ids : List Nat} {bl : List AB} {k : Nat}, fixOK l ids bl k = true → ∀ i, keepB l i = true → ids[i]? = some (k + i) ∧ keepB bl i = true
  | [], _, _, _, _, i, hk => by simp [keepB, AB.isC] at hk
  | b :: l, ids, bl, k, hf, i, hk => by
    unfold fixOK at hf
    split at hf
    · split at hf
      · split at hf
        · rename_i id ids b' bl hid
          split at hf
          · rename_i hb'
            cases i with
            | zero => exact ⟨by simpa using Nat.eq_of_beq_eq_true hid, by simpa [keepB] using hb'⟩
            | succ i =>
              have := fixOK_spec hf i (by simpa [keepB] using hk)
              exact ⟨by simpa [Nat.add_assoc, Nat.add_comm 1 i] using this.1, by simpa [keepB] using this.2⟩
          · cases hf
        · cases hf
      · cases hf
    · rename_i hb
      cases i with
      | zero => simp [keepB, hb] at hk
      | succ i =>
        have := fixOK_spec hf i (by simpa [keepB] using hk)
        refine ⟨by simpa [Nat.add_assoc, Nat.add_comm 1 i] using this.1, ?_⟩
        have h2 := this.2
        cases bl with
        | nil => simp [keepB, AB.isC] at h2
        | cons b bl => simpa [keepB] using h2
/-- WHAT HOLDS OF THE PART HOLDS OF THE WHOLE. -/
theorem frame_ok {g : FuncId} {R : CallT} (hR : LocalOK P g R) : CallOK P g (frameK P R) := by
  intro args h K hf own w vs H hv
  unfold frameK at hf
  obtain ⟨own1, H1, hE1⟩ := nils_ok (P := P) (reach h 200 (idsOf args) []) own h H
  have hv1 := hE1.vrs hv
  simp only at hf
  generalize hh1 : nils P h (reach h 200 (idsOf args) []) = h1 at hf H1 hE1 hv1
  generalize hids : reach h1 200 (idsOf args) [] = ids at hf
  split at hf
  · rename_i hn
    split at hf
    · rename_i bl hs
      split at hf
      · rename_i args' ha
        obtain ⟨H2, hC2, hr2⟩ := H1.part hn hs
        refine (hR _ _ _ hf _ w vs H2 (hv1.ren hr2 hC2 ha)).mono fun e w' hq => ?_
        obtain ⟨v, own3, h3, av, rfl, H3, hE3, hfix, hvr, hk⟩ := hq
        obtain ⟨H4, hE4, hC4, hr4⟩ := H1.back hs H3 hE3 (fun i hi => (hfix i hi).1) hC2
        split at hk
        · rename_i v' hv'
          exact ⟨v, _, _, v', rfl, H4, hE1.trans hE4, hvr.ren hr4 hC4 hv', hk⟩
        · exact hk.elim
      · exact hf.elim
    · exact hf.elim
  · exact hf.elim
/-- a heap put in order -/
theorem gc_ok {h0 : AH} {own0 : Own} {w0 : World} {l : List Nat} {a : AV} {v : Value} (H : HR own h w) (hE : Ext own0 h0 w0 own h w) (H0 : HR own0 h0 w0) (hv : VR own (Cw own h w) a v) {h1 : AH} {ids : List Nat} {bl : List AB} {a' : AV} (hh : nils P h l = h1)
    (hn : nodupB ids = true) (hs : subs (idx ids) h1 ids = some bl) (hf : fixOK h0.bl ids bl 0 = true) (ha : a.ren (idx ids) = some a') :
    ∃ own', HR own' ⟨bl, []⟩ w ∧ Ext0 own0 h0 w0 own' ⟨bl, []⟩ w ∧ Fix own0 h0 own' ⟨bl, []⟩ ∧ VR own' (Cw own' ⟨bl, []⟩ w) a' v := by
  obtain ⟨own1, H1, hE1⟩ := nils_ok (P := P) l own h H
  rw [hh] at H1 hE1
  obtain ⟨H2, hC2, hr2⟩ := H1.loc hn hs (X := own1.X) (fun _ h => h) (fun _ h => .inl h) (fun g hg hl => (H1.st.rest g hg).2 (loc_live hs hl).1)
  have hE01 := hE.trans hE1
  refine ⟨own1.loc ids own1.X, H2, ⟨hE01.size, hE01.os, hE01.tape, hE01.output, fun g hg hl => ?_, hE01.xe⟩, fun i hi => ?_, (hE1.vr hv).ren hr2 hC2 ha⟩
  · obtain ⟨h3, h4⟩ := hE01.fz g hg hl
    exact ⟨fun h5 => h3 (loc_live hs h5).1, h4⟩
  · obtain ⟨h3, h4⟩ := fixOK_spec hf i hi
    refine ⟨?_, h4⟩
    rw [Nat.zero_add] at h3
    simp only [Own.loc, h3]
    unfold keepB at hi
    have hl : isLive (h0.get i) := by
      unfold AH.get
      cases hb : h0.bl.getD i .dead <;> rw [hb] at hi <;> simp [AB.isC] at hi
      trivial
    rcases H0.live i hl with ⟨pl, h5, _⟩ | ⟨h5, E, s, h6⟩
    · rw [h5]; exact hE01.ow _ _ h5
    · unfold AH.get at h6
      rw [h6] at hi
      simp [AB.isC] at hi
theorem gcK_ok {h0 : AH} {own0 : Own} {w0 : World} {roots : List AV} {a : AV} {v : Value} {K : AV → AH → Prop} (hf : gcK P h0 roots a h K) (H : HR own h w) (hE : Ext own0 h0 w0 own h w) (H0 : HR own0 h0 w0) (hv : VR own (Cw own h w) a v) :
    ∃ own' h' a', HR own' h' w ∧ Ext0 own0 h0 w0 own' h' w ∧ Fix own0 h0 own' h' ∧ VR own' (Cw own' h' w) a' v ∧ K a' h' := by
  unfold gcK at hf
  simp only at hf
  generalize hh1 : nils P h (reach h 200 (idsOf roots ++ a.ids) []) = h1 at hf
  generalize hids : reach h1 200 (idsOf roots ++ a.ids) [] = ids at hf
  split at hf
  · rename_i hn
    split at hf
    · rename_i bl hs
      split at hf
      · rename_i hfx
        split at hf
        · rename_i v' hv'
          obtain ⟨own', g1, g2, g3, g4⟩ := gc_ok H hE H0 hv hh1 hn hs hfx hv'
          exact ⟨own', _, v', g1, g2, g3, g4, hf⟩
        · exact hf.elim
      · exact hf.elim
    · exact hf.elim
  · exact hf.elim
/-- A CONTRACT, FROM A RUN OF THE MACHINE OVER ITS OWN HEAP. -/
theorem local_ok (hS : Sound P T G) {g : FuncId} {R : CallT} (hR : ∀ args h K, R args h K → ∃ n roots, callA P T G n g args h fun v h' => gcK P h roots v h' K) : LocalOK P g R := by
  intro args h K hf own w vs H hv
  obtain ⟨n, roots, hc⟩ := hR args h K hf
  refine (callA_sound hS hc H hv).mono fun e w' hq => ?_
  obtain ⟨v, own', h', av, rfl, H', hE, hvr, hk⟩ := hq
  obtain ⟨own2, h2, a2, g1, g2, g3, g4, g5⟩ := gcK_ok hk H' hE H hvr
  exact ⟨v, own2, h2, a2, rfl, g1, g2, g3, g4, g5⟩
end
end AM
end Go
