/- Values, frames and structs put into a given form: what is not asked is forgotten; slices become rows of their own, are cut down, or are read from now on. -/
import Derived.Test.YthegkipclogoeaaDoorAmTrim
import Derived.Test.YthegkipclogoeaaDoorAmLeaf
set_option linter.unusedVariables false
set_option linter.unusedSimpArgs false
namespace Go
namespace AM
open LMem LTxt
/-- the form of a value -/
inductive VM where
  | keep
  | any
  | row (E : TypeId) (s : Sh)
  | cut (E : TypeId) (s : Sh)
  | ro (s : Sh)
  | agg (l : List VM)
  | tup (l : List VM)
mutual
def normK : VM → AV → AH → (AV → AH → Prop) → Prop
  | .keep, a, h, K => K a h
  | .any, a, h, K => K .any h
  | .row E s, a, h, K => match a.isNil0 with
    | true => K (.sl h.next 0 0) (h.new (.seq E s []))
    | false => K a h
  | .cut E s, a, h, K => match a.isNil0 with
    | true => K (.sl h.next 0 0) (h.new (.seq E s []))
    | false => match a with
      | .sl j off len => match h.get j with
        | .seq E' s' xs => req (decide (off + len ≤ xs.length)) (K (.sl h.next 0 (dcut xs off len).length) ((h.put j .dead).new (.seq E' s' (dcut xs off len))))
        | _ => False
      | _ => False
  | .ro s, a, h, K => decK (.slice s) [a] h fun d _ h' => K (.ro s d.toList) h'
  | .agg m, a, h, K => match a with
    | .agg l => normsK m l h fun l' h' => K (.agg l') h'
    | _ => False
  | .tup m, a, h, K => match a with
    | .tup l => normsK m l h fun l' h' => K (.tup l') h'
    | _ => False
def normsK : List VM → List AV → AH → (List AV → AH → Prop) → Prop
  | m :: ms, a :: l, h, K => normK m a h fun a' h' => normsK ms l h' fun l' h2 => K (a' :: l') h2
  | [], l, h, K => K l h
  | _, [], h, K => K [] h
end
/-- places of a frame -/
def normF : List (Nat × VM) → List AV → AH → (List AV → AH → Prop) → Prop
  | [], f, h, K => K f h
  | (i, m) :: l, f, h, K => match f[i]? with
    | some a => normK m a h fun a' h' => normF l (f.set i a') h' K
    | none => normF l f h K
/-- cells of structs -/
def normC : List (Nat × Nat × VM) → AH → (AH → Prop) → Prop
  | [], h, K => K h
  | (id, c, m) :: l, h, K => match h.get id with
    | .cells T cs => match cs[c]? with
      | some a => normK m a h fun a' h' => match a'.one with
        | true => match h'.get id with
          | .cells T' cs' => normC l (h'.put id (.cells T' (cs'.set c a'))) K
          | _ => False
        | false => False
      | none => False
    | _ => False
section
variable {P : Program} {own own' : Own} {h h' : AH} {w w' : World}
theorem isNil0_eq {a : AV} (h : a.isNil0 = true) : a = .c (.slice none 0 0) := by
  unfold AV.isNil0 at h
  split at h
  · rfl
  · cases h
/-- what stays of the heap: structs -/
def KeepC (h h' : AH) : Prop := ∀ id T l, h.get id = .cells T l → h'.get id = .cells T l
theorem KeepC.refl (h : AH) : KeepC h h := fun _ _ _ h => h
theorem KeepC.trans {h1 h2 h3 : AH} (a : KeepC h1 h2) (b : KeepC h2 h3) : KeepC h1 h3 := fun id T l hi => b id T l (a id T l hi)
theorem KeepC.new (h : AH) (b : AB) : KeepC h (h.new b) := fun id T l hi => by
  rw [get_new_live (by rw [hi]; trivial)]; exact hi
theorem KeepC.put {j : Nat} (hj : ∀ T l, h.get j ≠ .cells T l) (b : AB) : KeepC h (h.put j b) := fun id T l hi => by
  have hne : id ≠ j := fun e => by subst e; exact hj T l hi
  rw [get_put_ne hne]; exact hi
mutual
theorem normK_ok : ∀ {m : VM} {a : AV} {h : AH} {own : Own} {v : Value} {K : AV → AH → Prop}, normK m a h K → HR own h w → VR own (Cw own h w) a v →
    ∃ own' h' a', K a' h' ∧ HR own' h' w ∧ Ext own h w own' h' w ∧ VR own' (Cw own' h' w) a' v
  | .keep, a, h, own, v, K, hf, H, hv => ⟨own, h, a, by simpa only [normK] using hf, H, .refl _ _ _, hv⟩
  | .any, a, h, own, v, K, hf, H, hv => ⟨own, h, .any, by simpa only [normK] using hf, H, .refl _ _ _, by simp only [VR]⟩
  | .row E s, a, h, own, v, K, hf, H, hv => by
    unfold normK at hf
    split at hf
    · rename_i hn
      have := isNil0_eq hn
      subst this
      rw [VR.c_iff] at hv
      subst hv
      obtain ⟨H1, E1⟩ := H.newNone E s
      refine ⟨_, _, _, hf, H1, E1, ?_⟩
      simp only [VR]
      exact .inl ⟨trivial, trivial, none, upd_self⟩
    · exact ⟨own, h, a, hf, H, .refl _ _ _, hv⟩
  | .cut E s, a, h, own, v, K, hf, H, hv => by
    unfold normK at hf
    split at hf
    · rename_i hn
      have := isNil0_eq hn
      subst this
      rw [VR.c_iff] at hv
      subst hv
      obtain ⟨H1, E1⟩ := H.newNone E s
      refine ⟨_, _, _, hf, H1, E1, ?_⟩
      simp only [VR]
      exact .inl ⟨trivial, trivial, none, upd_self⟩
    · split at hf
      · rename_i j off len
        split at hf
        · rename_i E' s' xs hb
          obtain ⟨hq, hf⟩ := req_iff.1 hf
          obtain ⟨own1, H1, E1, hv1⟩ := trim_one H hv hb (of_decide_eq_true hq)
          exact ⟨own1, _, _, hf, H1, E1, hv1⟩
        · exact hf.elim
      · exact hf.elim
  | .ro s, a, h, own, v, K, hf, H, hv => by
    unfold normK at hf
    obtain ⟨d, r', h', k1, k2, k3, k4, k5, ua, ub, k6, k7, k8, k9⟩ := decK_sound hf H (VRs.one hv)
    refine ⟨own, h', _, k1, k2, k3, ?_⟩
    simp only [DR] at k8
    obtain ⟨u, rfl, k10⟩ := k8
    simp only [List.cons_append, List.nil_append, List.cons.injEq] at k6
    rw [k6.1]
    simp only [VR]
    exact k10
  | .agg m, a, h, own, v, K, hf, H, hv => by
    unfold normK at hf
    split at hf
    · rename_i l
      simp only [VR] at hv
      obtain ⟨vs, rfl, hv⟩ := hv
      obtain ⟨own', h', l', g1, g2, g3, g4⟩ := normsK_ok hf H hv
      refine ⟨own', h', _, g1, g2, g3, ?_⟩
      simp only [VR]
      exact ⟨vs, rfl, g4⟩
    · exact hf.elim
  | .tup m, a, h, own, v, K, hf, H, hv => by
    unfold normK at hf
    split at hf
    · rename_i l
      simp only [VR] at hv
      obtain ⟨vs, rfl, hv⟩ := hv
      obtain ⟨own', h', l', g1, g2, g3, g4⟩ := normsK_ok hf H hv
      refine ⟨own', h', _, g1, g2, g3, ?_⟩
      simp only [VR]
      exact ⟨vs, rfl, g4⟩
    · exact hf.elim
theorem normsK_ok : ∀ {ms : List VM} {l : List AV} {h : AH} {own : Own} {vs : List Value} {K : List AV → AH → Prop}, normsK ms l h K → HR own h w → VRs own (Cw own h w) l vs →
    ∃ own' h' l', K l' h' ∧ HR own' h' w ∧ Ext own h w own' h' w ∧ VRs own' (Cw own' h' w) l' vs
  | [], l, h, own, vs, K, hf, H, hv => ⟨own, h, l, by simpa only [normsK] using hf, H, .refl _ _ _, hv⟩
  | m :: ms, [], h, own, vs, K, hf, H, hv => ⟨own, h, [], by simpa only [normsK] using hf, H, .refl _ _ _, hv⟩
  | m :: ms, a :: l, h, own, vs, K, hf, H, hv => by
    unfold normsK at hf
    obtain ⟨v, r, rfl, h1, h2⟩ := VRs.cons_iff.1 hv
    obtain ⟨own1, hh1, a', g1, g2, g3, g4⟩ := normK_ok hf H h1
    obtain ⟨own2, hh2, l', k1, k2, k3, k4⟩ := normsK_ok g1 g2 (g3.vrs h2)
    exact ⟨own2, hh2, _, k1, k2, g3.trans k3, .cons (k3.vr g4) k4⟩
end
theorem normF_ok : ∀ {l : List (Nat × VM)} {f : List AV} {h : AH} {own : Own} {us : List Value} {K : List AV → AH → Prop}, normF l f h K → HR own h w → VRs own (Cw own h w) f us →
    ∃ own' h' f', K f' h' ∧ HR own' h' w ∧ Ext own h w own' h' w ∧ VRs own' (Cw own' h' w) f' us
  | [], f, h, own, us, K, hf, H, hv => ⟨own, h, f, hf, H, .refl _ _ _, hv⟩
  | (i, m) :: l, f, h, own, us, K, hf, H, hv => by
    unfold normF at hf
    split at hf
    · rename_i a ha
      obtain ⟨v, h2, h3⟩ := hv.get ha
      obtain ⟨own1, hh1, a', g1, g2, g3, g4⟩ := normK_ok hf H h3
      have hset : us.set i v = us := by
        apply List.ext_getElem?
        intro j
        rw [List.getElem?_set]
        split
        · rename_i hij
          subst hij
          rw [if_pos (List.getElem?_eq_some_iff.1 h2).1, h2]
        · rfl
      have hv1 := (g3.vrs hv).set i g4
      rw [hset] at hv1
      obtain ⟨own2, hh2, f', k1, k2, k3, k4⟩ := normF_ok g1 g2 hv1
      exact ⟨own2, hh2, f', k1, k2, g3.trans k3, k4⟩
    · exact normF_ok hf H hv
theorem normC_ok : ∀ {l : List (Nat × Nat × VM)} {h : AH} {own : Own} {K : AH → Prop}, normC l h K → HR own h w → ∃ own' h', K h' ∧ HR own' h' w ∧ Ext own h w own' h' w
  | [], h, own, K, hf, H => ⟨own, h, hf, H, .refl _ _ _⟩
  | (id, c, m) :: l, h, own, K, hf, H => by
    unfold normC at hf
    split at hf
    · rename_i T cs hb
      split at hf
      · rename_i a hc
        have hl : isLive (h.get id) := by rw [hb]; trivial
        rcases H.live id hl with ⟨pl, ho, hB⟩ | ⟨_, E', s', hB⟩
        · have hB0 := hB
          rw [hb] at hB
          obtain ⟨cc, T0, fr, us, h1, h2, h3, h4, h5, h6⟩ := hB
          obtain ⟨v, hv1, hv2⟩ := h4.get hc
          obtain ⟨own1, hh1, a', hk, H1, E1, hv3⟩ := normK_ok hf H hv2
          split at hk
          · rename_i hone
            split at hk
            · rename_i T' cs' hb'
              have ho1 := E1.ow _ _ ho
              have hl1 : isLive (hh1.get id) := by rw [hb']; trivial
              have hnl1 : ¬ isLock (hh1.get id) := by rw [hb']; exact fun h => h
              have hB1 := H1.block hl1 ho1
              rw [hb'] at hB1
              obtain ⟨cc', T0', fr', us', j1, j2, j3, j4, j5, j6⟩ := hB1
              rw [h1] at j1
              cases j1
              have hlt : c < cs'.length ∨ cs'.length ≤ c := Nat.lt_or_ge _ _
              have hset : ∃ us2, VRs own1 (Cw own1 hh1 w) (cs'.set c a') us2 ∧ ∀ i u, us2[i]? = some u → cc[pl.d + i]? = some u := by
                refine ⟨us'.set c v, j4.set c hv3, fun i u hi => ?_⟩
                rw [List.getElem?_set] at hi
                split at hi
                · rename_i hci
                  subst hci
                  split at hi
                  · cases hi
                    exact h6 c v hv1
                  · cases hi
                · exact j6 i u hi
              obtain ⟨us2, k4, k6⟩ := hset
              have hones : ones (cs'.set c a') = true := by
                rw [ones_mem] at j5 ⊢
                intro x hx
                rcases List.mem_or_eq_of_mem_set hx with h7 | h7
                · exact j5 x h7
                · subst h7; exact hone
              have E2 := Ext.put (b := .cells T' (cs'.set c a')) H1 hnl1 hl1 ho1 trivial (But.refl pl.g w)
              have H2 := H1.put hnl1 hl1 ho1 (b := .cells T' (cs'.set c a')) trivial (But.refl pl.g w) ⟨cc, T0, fr, us2, h1, ⟨j2.fr, j2.ty, j2.d0, by rw [j2.len, List.length_set], j2.one⟩, j3, k4.mono (fun _ _ h => h) E2.cells, hones, k6⟩
              obtain ⟨own3, h3', g1, g2, g3⟩ := normC_ok hk H2
              exact ⟨own3, h3', g1, g2, (E1.trans E2).trans g3⟩
            · exact hk.elim
          · exact hk.elim
        · rw [hb] at hB; cases hB
      · exact hf.elim
    · exact hf.elim

/-! ### Contracts -/
/-- the end of a run of a function: structs' cells and the value put into form, the heap into order -/
def endK (P : Program) (C : List (Nat × Nat × VM)) (m : VM) (h0 : AH) (roots : List AV) (v : AV) (h : AH) (K : AV → AH → Prop) : Prop := normC C h fun h => normK m v h fun v h => gcK P h0 roots v h K
theorem local_ok_n {T : Tys} {G : Rules} (hS : Sound P T G) {g : FuncId} {R : CallT} {C : List (Nat × Nat × VM)} {m : VM} (hR : ∀ args h K, R args h K → ∃ n roots, callA P T G n g args h fun v h' => endK P C m h roots v h' K) : LocalOK P g R := by
  intro args h K hf own w vs H hv
  obtain ⟨n, roots, hc⟩ := hR args h K hf
  refine (callA_sound hS hc H hv).mono fun e w' hq => ?_
  obtain ⟨v, own', h', av, rfl, H', hE, hvr, hk⟩ := hq
  obtain ⟨own1, h1, hk, H1, E1⟩ := normC_ok hk H'
  obtain ⟨own3, h3, av3, hk, H3, E3, hv3⟩ := normK_ok hk H1 (E1.vr hvr)
  obtain ⟨own2, h2, a2, g1, g2, g3, g4, g5⟩ := gcK_ok hk H3 ((hE.trans E1).trans E3) H hv3
  exact ⟨v, own2, h2, a2, rfl, g1, g2, g3, g4, g5⟩
/-- arguments put into form ahead of a contract -/
def normA (ms : List VM) (R : CallT) : CallT := fun args h K => normsK ms args h fun args' h' => R args' h' K
theorem normA_ok {g : FuncId} {ms : List VM} {R : CallT} (hR : CallOK P g R) : CallOK P g (normA ms R) := by
  intro args h K hf own w vs H hv
  obtain ⟨own1, h1, l1, g1, g2, g3, g4⟩ := normsK_ok hf H hv
  exact (hR _ _ _ g1 own1 w vs g2 g4).mono fun e w' hq => hq.ext g3

/-! ### Loops -/
/-- the end of a round -/
def endF (P : Program) (C : List (Nat × Nat × VM)) (M : Msk) (ms : List (Nat × VM)) (h0 : AH) (f : List AV) (h : AH) (K : List AV → AH → Prop) : Prop := normC C h fun h => normF ms f h fun f h => gcF P M h0 f h K
theorem endF_ok {C : List (Nat × Nat × VM)} {ms : List (Nat × VM)} {h0 : AH} {own0 : Own} {w0 : World} {M : Msk} {f : List AV} {a : Act} {K : List AV → AH → Prop} (hf : endF P C M ms h0 f h K) (hR : Rel own h w f a) (hE : Ext own0 h0 w0 own h w) (H0 : HR own0 h0 w0) :
    ∃ own' h' f', Rel own' h' w f' a ∧ Ext0 own0 h0 w0 own' h' w ∧ Fix own0 h0 own' h' ∧ K f' h' := by
  unfold endF at hf
  obtain ⟨own1, h1, hk, H1, E1⟩ := normC_ok hf hR.hr
  obtain ⟨own2, h2, f2, hk, H2, E2, hv2⟩ := normF_ok hk H1 (E1.vrs hR.fr)
  exact gcF_ok hk ⟨hv2, hR.df, H2⟩ ((hE.trans E1).trans E2) H0
theorem rounds_ok_n {T : Tys} {G : Rules} (hS : Sound P T G) {F : FuncId} {b : Code} (hb : b ∈ loopsOf (bodyOf P F)) {C : AExit → List (Nat × Nat × VM)} {M : AExit → Msk} {ms : AExit → List (Nat × VM)} (R : Nat → LoopT) (h0 : ∀ f h Q, ¬ R 0 f h Q)
    (hR : ∀ n f h Q, R (n + 1) f h Q → ∃ m, wpA P T G m F b (fun e f' h' => endF P (C e) (M e) (ms e) h f' h' fun f2 h2 => match e with
      | .normal => R n f2 h2 Q
      | e => Q e f2 h2) f h) : ∀ n, LocalRounds P b n (R n)
  | 0, f, h, Q, hf, own, w, a, hRel => (h0 f h Q hf).elim
  | n + 1, f, h, Q, hf, own, w, a, hRel => by
    obtain ⟨m, hw⟩ := hR n f h Q hf
    rw [rounds_succ]
    refine Code.wp_mono (fun e a' w' hq => ?_) (wpA_sound hS m F b _ f h hw (inBody_loop hb) own w a hRel).1
    obtain ⟨e', rfl, own', h', f', hRel', hE, hQ⟩ := hq
    obtain ⟨own2, h2, f2, g1, g2, g3, g4⟩ := endF_ok hQ hRel' hE hRel.hr
    cases e' with
    | normal => exact rounds_mono (fun e a w hq => hq.ext g2 g3) n a' w' (rounds_ok_n hS hb R h0 hR n f2 h2 Q g4 own2 w' a' g1)
    | exit id => exact ⟨.exit id, rfl, own2, h2, f2, g1, g2, g3, g4⟩
    | ret => exact ⟨.ret, rfl, own2, h2, f2, g1, g2, g3, g4⟩
/-- the place of a loop: its frame and structs put into form and order -/
def headF (P : Program) (C : List (Nat × Nat × VM)) (M : Msk) (ms : List (Nat × VM)) (R : LoopT) : LoopT := frameL P M fun f h Q => endF P C M ms h f h fun f' h' => R f' h' Q
theorem loop_ok_n {T : Tys} {G : Rules} (hS : Sound P T G) {F : FuncId} {b : Code} (hb : b ∈ loopsOf (bodyOf P F)) {C : AExit → List (Nat × Nat × VM)} {M : AExit → Msk} {ms : AExit → List (Nat × VM)} {C0 : List (Nat × Nat × VM)} {M0 : Msk} {ms0 : List (Nat × VM)} (R : Nat → LoopT) (h0 : ∀ f h Q, ¬ R 0 f h Q)
    (hR : ∀ n f h Q, R (n + 1) f h Q → ∃ m, wpA P T G m F b (fun e f' h' => endF P (C e) (M e) (ms e) h f' h' fun f2 h2 => match e with
      | .normal => R n f2 h2 Q
      | e => Q e f2 h2) f h) (R' : LoopT) (hR' : ∀ f h Q, R' f h Q → ∃ n, R n f h Q) : LoopOK P b (headF P C0 M0 ms0 R') :=
  frameL_ok fun f h Q hf own w a hRel => by
    obtain ⟨own2, h2, f2, g1, g2, g3, g4⟩ := endF_ok hf hRel (Ext.refl own h w) hRel.hr
    obtain ⟨n, hn⟩ := hR' f2 h2 Q g4
    exact Code.wp_mono (fun e a w hq => hq.ext g2 g3) (wp_loop_rounds n (rounds_ok_n hS hb R h0 hR n f2 h2 Q hn own2 w a g1))
/-- A PIECE OF CODE, once. -/
theorem piece_ok_n {T : Tys} {G : Rules} (hS : Sound P T G) {F : FuncId} {c : Code} (hb : InBody P F c) {C : AExit → List (Nat × Nat × VM)} {M : AExit → Msk} {ms : AExit → List (Nat × VM)} {C0 : List (Nat × Nat × VM)} {M0 : Msk} {ms0 : List (Nat × VM)} (R : LoopT)
    (hR : ∀ f h Q, R f h Q → ∃ m, wpA P T G m F c (fun e f' h' => endF P (C e) (M e) (ms e) h f' h' fun f2 h2 => Q e f2 h2) f h) : RegOK P c (headF P C0 M0 ms0 R) :=
  frameC_ok fun f h Q hf own w a hRel => by
    obtain ⟨own2, h2, f2, g1, g2, g3, g4⟩ := endF_ok hf hRel (Ext.refl own h w) hRel.hr
    obtain ⟨m, hw⟩ := hR f2 h2 Q g4
    refine Code.wp_mono (fun e a w hq => CQL.ext g2 g3 hq) (Code.wp_mono (fun e a' w' hq => ?_) (wpA_sound hS m F c _ f2 h2 hw hb own2 w a g1).1)
    obtain ⟨e', rfl, own', h', f', hRel', hE, hQ⟩ := hq
    obtain ⟨own3, h3, f3, k1, k2, k3, k4⟩ := endF_ok hQ hRel' hE g1.hr
    exact ⟨e', rfl, own3, h3, f3, k1, k2, k3, k4⟩
end
end AM
end Go
