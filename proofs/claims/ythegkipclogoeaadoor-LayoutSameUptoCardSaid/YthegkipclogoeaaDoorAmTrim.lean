/- A slice that a struct holds is cut down to what it shows: the rest of its row is given up. -/
import Derived.Test.YthegkipclogoeaaDoorAmLp
set_option linter.unusedVariables false
set_option linter.unusedSimpArgs false
namespace Go
namespace AM
open LMem LTxt
def dcut (xs : List Dat) (off len : Nat) : List Dat := (xs.drop off).take len
/-- places (block, cell) whose slices are cut down -/
def trimK : List (Nat × Nat) → AH → (AH → Prop) → Prop
  | [], h, K => K h
  | (id, c) :: l, h, K => match h.get id with
    | .cells T cs => match cs[c]? with
      | some (.sl j off len) => match h.get j with
        | .seq E s xs => req (decide (off + len ≤ xs.length)) (trimK l (((h.put j .dead).new (.seq E s (dcut xs off len))).put id (.cells T (cs.set c (.sl h.next 0 (dcut xs off len).length)))) K)
        | _ => False
      | some (.c (.slice none 0 0)) => trimK l h K
      | _ => False
    | _ => False
section
variable {P : Program} {own own' : Own} {h h' : AH} {w w' : World}
theorem trim_one (H : HR own h w) {j off len : Nat} {E : TypeId} {s : Sh} {xs : List Dat} {v : Value} (hv : VR own (Cw own h w) (.sl j off len) v) (hb : h.get j = .seq E s xs) (hle : off + len ≤ xs.length) :
    ∃ own', HR own' ((h.put j .dead).new (.seq E s (dcut xs off len))) w ∧ Ext own h w own' ((h.put j .dead).new (.seq E s (dcut xs off len))) w ∧
      VR own' (Cw own' ((h.put j .dead).new (.seq E s (dcut xs off len))) w) (.sl h.next 0 (dcut xs off len).length) v := by
  have hcl : (dcut xs off len).length = len := cut_length xs off len hle
  have hlv : isLive (h.get j) := by rw [hb]; trivial
  have hnl : ¬ isLock (h.get j) := by rw [hb]; exact fun h => h
  have hnx : (h.put j .dead).next = h.next := next_put
  rcases H.live j hlv with ⟨pl, ho, hB⟩ | ⟨ho, E', s', hB⟩
  · rw [hb] at hB
    obtain ⟨cs, T', fr, h1, h2, h3, h4, h5, h6⟩ := hB
    have key : ∀ pl' : Pl, pl'.g = pl.g → pl'.N = pl.N → pl'.sz = pl.sz → (len ≠ 0 → pl'.d = pl.d + off * pl.sz) → (len = 0 → pl'.d ≤ pl.N) → HR (own.upd h.next (some pl')) ((h.put j .dead).new (.seq E s (dcut xs off len))) w ∧
        Ext own h w (own.upd h.next (some pl')) ((h.put j .dead).new (.seq E s (dcut xs off len))) w := fun pl' e1 e2 e3 e4 e5 => by
      refine H.adopt (b := .seq E s (dcut xs off len)) hnl hlv ho e1 trivial (But.refl pl.g w) fun C hC => ?_
      refine ⟨cs, T', fr, by rw [e1]; exact h1, h2, by rw [e2]; exact h3, by rw [e3]; exact h4, ?_, ?_⟩
      · rw [hcl, e2]
        by_cases hl0 : len = 0
        · have := e5 hl0
          subst hl0
          omega
        · have hm : off * s.size + len * s.size ≤ xs.length * s.size := by rw [← Nat.add_mul]; exact Nat.mul_le_mul_right _ hle
          rw [e4 hl0, h4]
          omega
      · intro i d hi
        by_cases hl0 : len = 0
        · subst hl0
          simp [dcut] at hi
        · unfold dcut at hi
          rw [List.getElem?_take] at hi
          split at hi
          · rw [List.getElem?_drop] at hi
            obtain ⟨vs, g1, g2, g3⟩ := h6 (off + i) d hi
            refine ⟨vs, g1, DR.mono hC g2, fun k u hk => ?_⟩
            have := g3 k u hk
            rw [e4 hl0, h4]
            rw [Nat.add_mul] at this
            rw [show pl.d + off * s.size + i * s.size + k = pl.d + (off * s.size + i * s.size) + k by omega]
            exact this
          · cases hi
    simp only [VR] at hv
    rcases hv with ⟨hl0, rfl, _⟩ | ⟨pl2, o, cap, ho2, rfl, hlc, hcap⟩
    · obtain ⟨H', E2⟩ := key ⟨pl.g, pl.d, pl.N, pl.sz⟩ rfl rfl rfl (fun h => absurd hl0 h) (fun _ => by simp only; omega)
      refine ⟨_, H', E2, ?_⟩
      simp only [VR]
      exact .inl ⟨by rw [hcl]; exact hl0, trivial, _, upd_self⟩
    · rw [ho] at ho2
      cases ho2
      obtain ⟨H', E2⟩ := key ⟨pl.g, if cap = 0 then 0 else o, pl.N, pl.sz⟩ rfl rfl rfl (fun hl0 => by
        have hc : cap ≠ 0 := by omega
        simp only [if_neg hc]
        exact (hcap hc).1) (fun _ => by
        simp only
        split
        · omega
        · rename_i hc
          have := (hcap hc).2
          omega)
      refine ⟨_, H', E2, ?_⟩
      simp only [VR]
      refine .inr ⟨_, o, cap, upd_self, by rw [hcl], by rw [hcl]; exact hlc, fun hc => ?_⟩
      simp only [if_neg hc, Nat.zero_mul, Nat.add_zero, true_and]
      exact (hcap hc).2
  · rw [hb] at hB
    cases hB
    have hoff : len = 0 := by simp at hle; omega
    have hd : dcut [] off len = [] := by simp [dcut]
    simp only [VR] at hv
    rcases hv with ⟨hl0, rfl, _⟩ | ⟨pl2, o, cap, ho2, _⟩
    · obtain ⟨H1, E1⟩ := (H.kill j hnl).newNone E s
      rw [hd]
      rw [hnx] at H1 E1
      refine ⟨_, H1, (Ext.kill H j hnl).trans E1, ?_⟩
      simp only [VR]
      exact .inl ⟨rfl, trivial, _, upd_self⟩
    · rw [ho] at ho2; cases ho2
theorem trimK_ok : ∀ {l : List (Nat × Nat)} {h : AH} {own : Own} {K : AH → Prop}, trimK l h K → HR own h w → ∃ own' h', K h' ∧ HR own' h' w ∧ Ext own h w own' h' w
  | [], h, own, K, hf, H => ⟨own, h, hf, H, .refl _ _ _⟩
  | (id, c) :: l, h, own, K, hf, H => by
    unfold trimK at hf
    split at hf
    · rename_i T cs hb
      split at hf
      · rename_i j off len hc
        split at hf
        · rename_i E s xs hbj
          obtain ⟨hq, hf⟩ := req_iff.1 hf
          rw [decide_eq_true_eq] at hq
          have hl : isLive (h.get id) := by rw [hb]; trivial
          rcases H.live id hl with ⟨pl, ho, hB⟩ | ⟨_, E', s', hB⟩
          · rw [hb] at hB
            obtain ⟨cc, T', fr, us, h1, h2, h3, h4, h5, h6⟩ := hB
            obtain ⟨v, hv1, hv2⟩ := h4.get hc
            obtain ⟨own1, H1, E1, hv3⟩ := trim_one H hv2 hbj hq
            have hne : id ≠ j := by rintro rfl; rw [hb] at hbj; cases hbj
            have hlt := get_lt hl
            have hg : ((h.put j .dead).new (.seq E s (dcut xs off len))).get id = .cells T cs := by
              rw [get_new, next_put, if_neg (by omega), get_put_ne hne, hb]
            have hl1 : isLive (((h.put j .dead).new (.seq E s (dcut xs off len))).get id) := by rw [hg]; trivial
            have hnl1 : ¬ isLock (((h.put j .dead).new (.seq E s (dcut xs off len))).get id) := by rw [hg]; exact fun h => h
            have ho1 := E1.ow _ _ ho
            have hset : us.set c v = us := by
              apply List.ext_getElem?
              intro i
              rw [List.getElem?_set]
              split
              · rename_i hi
                subst hi
                rw [if_pos (List.getElem?_eq_some_iff.1 hv1).1, hv1]
              · rfl
            have h4' := ((E1.vrs h4).set c hv3)
            rw [hset] at h4'
            have hones : ones (cs.set c (.sl h.next 0 (dcut xs off len).length)) = true := by
              rw [ones_mem] at h5 ⊢
              intro a ha
              rcases List.mem_or_eq_of_mem_set ha with h7 | h7
              · exact h5 a h7
              · subst h7; rfl
            have E2 := Ext.put (b := .cells T (cs.set c (.sl h.next 0 (dcut xs off len).length))) H1 hnl1 hl1 ho1 trivial (But.refl pl.g w)
            have H2 := H1.put hnl1 hl1 ho1 (b := .cells T (cs.set c (.sl h.next 0 (dcut xs off len).length))) trivial (But.refl pl.g w) ⟨cc, T', fr, us, h1, ⟨h2.fr, h2.ty, h2.d0, by rw [h2.len, List.length_set], h2.one⟩, h3, h4'.mono (fun _ _ h => h) E2.cells, hones, h6⟩
            obtain ⟨own3, h3', g1, g2, g3⟩ := trimK_ok hf H2
            exact ⟨own3, h3', g1, g2, (E1.trans E2).trans g3⟩
          · rw [hb] at hB; cases hB
        · exact hf.elim
      · exact trimK_ok hf H
      · exact hf.elim
    · exact hf.elim
/-- a contract's run, its structs' slices cut down at the end -/
theorem local_ok_trim {T : Tys} {G : Rules} (hS : Sound P T G) {g : FuncId} {R : CallT} {tr : List (Nat × Nat)} (hR : ∀ args h K, R args h K → ∃ n roots, callA P T G n g args h fun v h' => trimK tr h' fun h' => gcK P h roots v h' K) : LocalOK P g R := by
  intro args h K hf own w vs H hv
  obtain ⟨n, roots, hc⟩ := hR args h K hf
  refine (callA_sound hS hc H hv).mono fun e w' hq => ?_
  obtain ⟨v, own', h', av, rfl, H', hE, hvr, hk⟩ := hq
  obtain ⟨own1, h1, hk, H1, E1⟩ := trimK_ok hk H'
  obtain ⟨own2, h2, a2, g1, g2, g3, g4, g5⟩ := gcK_ok hk H1 (hE.trans E1) H (E1.vr hvr)
  exact ⟨v, own2, h2, a2, rfl, g1, g2, g3, g4, g5⟩
theorem rounds_ok_trim {T : Tys} {G : Rules} (hS : Sound P T G) {F : FuncId} {b : Code} (hb : b ∈ loopsOf (bodyOf P F)) {M : Msk} {tr : List (Nat × Nat)} (R : Nat → LoopT) (h0 : ∀ f h Q, ¬ R 0 f h Q)
    (hR : ∀ n f h Q, R (n + 1) f h Q → ∃ m, wpA P T G m F b (fun e f' h' => trimK tr h' fun h' => gcF P M h f' h' fun f2 h2 => match e with
      | .normal => R n f2 h2 Q
      | e => Q e f2 h2) f h) : ∀ n, LocalRounds P b n (R n)
  | 0, f, h, Q, hf, own, w, a, hRel => (h0 f h Q hf).elim
  | n + 1, f, h, Q, hf, own, w, a, hRel => by
    obtain ⟨m, hw⟩ := hR n f h Q hf
    rw [rounds_succ]
    refine Code.wp_mono (fun e a' w' hq => ?_) (wpA_sound hS m F b _ f h hw (inBody_loop hb) own w a hRel).1
    obtain ⟨e', rfl, own', h', f', hRel', hE, hQ⟩ := hq
    obtain ⟨own1, h1, hQ, H1, E1⟩ := trimK_ok hQ hRel'.hr
    obtain ⟨own2, h2, f2, g1, g2, g3, g4⟩ := gcF_ok hQ ⟨E1.vrs hRel'.fr, hRel'.df, H1⟩ (hE.trans E1) hRel.hr
    cases e' with
    | normal => exact rounds_mono (fun e a w hq => hq.ext g2 g3) n a' w' (rounds_ok_trim hS hb R h0 hR n f2 h2 Q g4 own2 w' a' g1)
    | exit id => exact ⟨.exit id, rfl, own2, h2, f2, g1, g2, g3, g4⟩
    | ret => exact ⟨.ret, rfl, own2, h2, f2, g1, g2, g3, g4⟩
theorem loop_ok_trim {T : Tys} {G : Rules} (hS : Sound P T G) {F : FuncId} {b : Code} (hb : b ∈ loopsOf (bodyOf P F)) {M : Msk} {tr : List (Nat × Nat)} (R : Nat → LoopT) (h0 : ∀ f h Q, ¬ R 0 f h Q)
    (hR : ∀ n f h Q, R (n + 1) f h Q → ∃ m, wpA P T G m F b (fun e f' h' => trimK tr h' fun h' => gcF P M h f' h' fun f2 h2 => match e with
      | .normal => R n f2 h2 Q
      | e => Q e f2 h2) f h) (R' : LoopT) (hR' : ∀ f h Q, R' f h Q → ∃ n, R n f h Q) : LoopOK P b (frameL P M R') :=
  frameL_ok fun f h Q hf own w a hRel =>
    let ⟨n, hn⟩ := hR' f h Q hf
    wp_loop_rounds n (rounds_ok_trim hS hb R h0 hR n f h Q hn own w a hRel)
end
end AM
end Go
