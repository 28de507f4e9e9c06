/- Code: what the abstract machine says of it holds. -/
import Derived.Test.YthegkipclogoeaaDoorAmOpC
import Derived.LoopN
import Derived.Scope
import Derived.Laws.Externs
import Derived.Lib.Builder
set_option linter.unusedVariables false
set_option linter.unusedSimpArgs false
namespace Go
namespace AM
open LMem LTxt
/-- all loops in a piece of code -/
def loopsOf : Code → List Code
  | .seq a b => loopsOf a ++ loopsOf b
  | .cond _ a b => loopsOf a ++ loopsOf b
  | .block _ b => loopsOf b
  | .loop b => b :: loopsOf b
  | .scope b => loopsOf b
  | _ => []
/-- all regions in a piece of code -/
def regsOf : Code → List Code
  | .seq a b => regsOf a ++ regsOf b
  | .cond _ a b => regsOf a ++ regsOf b
  | .block _ b => regsOf b
  | .loop b => regsOf b
  | .scope b => regsOf b
  | .region id ops d => [.region id ops d]
  | _ => []
def bodyOf (P : Program) (F : FuncId) : Code := match P.funcs[F]? with
  | some fn => match fn.body with
    | some c => c
    | none => .skip
  | none => .skip
/-- a frame and a heap that stand for an activation and a world -/
structure Rel (own : Own) (h : AH) (w : World) (f : List AV) (a : Act) : Prop where
  fr : VRs own (Cw own h w) f a.tmps.toList
  df : a.defers = []
  hr : HR own h w
def CK (K : List AV → AH → Prop) (own : Own) (h : AH) (w : World) (a' : Act) (w' : World) : Prop :=
  ∃ own' h' f', Rel own' h' w' f' a' ∧ Ext own h w own' h' w' ∧ K f' h'
def exitOf : AExit → Exit
  | .normal => .normal
  | .exit id => .exit id
  | .ret => .ret
def CQ (Q : AExit → List AV → AH → Prop) (own : Own) (h : AH) (w : World) (e : Exit) (a' : Act) (w' : World) : Prop := ∃ e', e = exitOf e' ∧ CK (Q e') own h w a' w'
def CR (K : AV → AH → Prop) (own : Own) (h : AH) (w : World) (e : Ending) (w' : World) : Prop :=
  ∃ v own' h' av, e = .returned v ∧ HR own' h' w' ∧ Ext own h w own' h' w' ∧ VR own' (Cw own' h' w') av v ∧ K av h'
/-- a contract of a function holds -/
def CallOK (P : Program) (g : FuncId) (R : CallT) : Prop := ∀ args h K, R args h K → ∀ (own : Own) w (vs : List Value), HR own h w → VRs own (Cw own h w) args vs → Calls P g vs.toArray w (CR K own h w)
def LoopOK (P : Program) (b : Code) (R : LoopT) : Prop := ∀ f h Q, R f h Q → ∀ (own : Own) w a, Rel own h w f a → (Code.loop b).wp P (CQ Q own h w) a w
def RegOK (P : Program) (c : Code) (R : LoopT) : Prop := ∀ f h Q, R f h Q → ∀ (own : Own) w a, Rel own h w f a → c.wp P (CQ Q own h w) a w
/-- functions of the runtime: which are none of these; which give back their argument -/
structure NamesOK (P : Program) : Prop where
  ng : ∀ (f : FuncId) (fn : Func), P.funcs[f]? = some fn → (fn.name == "runtime.NumGoroutine") = false
  same : ∀ (f : FuncId) (fn : Func), sameF f = true → P.funcs[f]? = some fn → Extern.findNext fn = none ∧ Extern.find fn = some Extern.AbiNoEscape.same
structure Sound (P : Program) (T : Tys) (G : Rules) : Prop where
  mixed : P.follows .mixedOrders = true
  tys : T.ok P = true
  eqs : ∀ t ∈ G.eqs, eqOK P t = true
  names : NamesOK P
  call : ∀ g R, G.call g = some R → CallOK P g R
  loop : ∀ F id R b, G.loop F id = some R → b ∈ loopsOf (bodyOf P F) → firstId b = some id → LoopOK P b R
  reg : ∀ F id R ops d, G.reg F id = some R → Code.region id ops d ∈ regsOf (bodyOf P F) → RegOK P (.region id ops d) R
/-- a piece of a function's code -/
structure InBody (P : Program) (F : FuncId) (c : Code) : Prop where
  lp : ∀ b ∈ loopsOf c, b ∈ loopsOf (bodyOf P F)
  rg : ∀ r ∈ regsOf c, r ∈ regsOf (bodyOf P F)
theorem InBody.seq1 {P : Program} {F : FuncId} {x y : Code} (h : InBody P F (.seq x y)) : InBody P F x := ⟨fun b hb => h.lp b (by simp [loopsOf, hb]), fun b hb => h.rg b (by simp [regsOf, hb])⟩
theorem InBody.seq2 {P : Program} {F : FuncId} {x y : Code} (h : InBody P F (.seq x y)) : InBody P F y := ⟨fun b hb => h.lp b (by simp [loopsOf, hb]), fun b hb => h.rg b (by simp [regsOf, hb])⟩
theorem InBody.cond1 {P : Program} {F : FuncId} {c : Operand} {x y : Code} (h : InBody P F (.cond c x y)) : InBody P F x := ⟨fun b hb => h.lp b (by simp [loopsOf, hb]), fun b hb => h.rg b (by simp [regsOf, hb])⟩
theorem InBody.cond2 {P : Program} {F : FuncId} {c : Operand} {x y : Code} (h : InBody P F (.cond c x y)) : InBody P F y := ⟨fun b hb => h.lp b (by simp [loopsOf, hb]), fun b hb => h.rg b (by simp [regsOf, hb])⟩
theorem InBody.block1 {P : Program} {F : FuncId} {i : Nat} {x : Code} (h : InBody P F (.block i x)) : InBody P F x := ⟨fun b hb => h.lp b (by simpa [loopsOf] using hb), fun b hb => h.rg b (by simpa [regsOf] using hb)⟩
theorem InBody.scope1 {P : Program} {F : FuncId} {x : Code} (h : InBody P F (.scope x)) : InBody P F x := ⟨fun b hb => h.lp b (by simpa [loopsOf] using hb), fun b hb => h.rg b (by simpa [regsOf] using hb)⟩
theorem InBody.loop1 {P : Program} {F : FuncId} {x : Code} (h : InBody P F (.loop x)) : InBody P F x := ⟨fun b hb => h.lp b (by simp [loopsOf, hb]), fun b hb => h.rg b (by simpa [regsOf] using hb)⟩
theorem InBody.self {P : Program} {F : FuncId} {fn : Func} {c : Code} (hfn : P.funcs[F]? = some fn) (hb : fn.body = some c) : InBody P F c := by
  have e : bodyOf P F = c := by unfold bodyOf; simp only [hfn, hb]
  exact ⟨fun b h => by rw [e]; exact h, fun b h => by rw [e]; exact h⟩
section
variable {P : Program} {T : Tys} {G : Rules} {own own' : Own} {h h' : AH} {w w' : World}
theorem CQ.ext {Q : AExit → List AV → AH → Prop} (hE : Ext own h w own' h' w') {e : Exit} {a : Act} {w2 : World} (hq : CQ Q own' h' w' e a w2) : CQ Q own h w e a w2 := by
  obtain ⟨e', h1, own2, h2, f2, h3, h4, h5⟩ := hq
  exact ⟨e', h1, own2, h2, f2, h3, hE.trans h4, h5⟩
theorem CR.ext {K : AV → AH → Prop} (hE : Ext own h w own' h' w') {e : Ending} {w2 : World} (hq : CR K own' h' w' e w2) : CR K own h w e w2 := by
  obtain ⟨v, own2, h2, av, h1, h3, h4, h5, h6⟩ := hq
  exact ⟨v, own2, h2, av, h1, h3, hE.trans h4, h5, h6⟩
theorem Rel.clear {f : List AV} {a : Act} (hR : Rel own h w f a) : Rel own h.clear w f a := by
  have hE : Ext own h w own h.clear w := Ext.same rfl rfl rfl rfl rfl
  exact ⟨hE.vrs hR.fr, hR.df, hR.hr.same rfl rfl⟩
theorem ext_clear : Ext own h w own h.clear w := Ext.same rfl rfl rfl rfl rfl
theorem ext_unclear : Ext own h.clear w own h w := Ext.same rfl rfl rfl rfl rfl
theorem Rel.put {f : List AV} {a : Act} {d : Option Tmp} {av : AV} {v : Value} (hf : VRs own (Cw own h w) f a.tmps.toList) (hd : a.defers = []) (H : HR own h w) (hv : VR own (Cw own h w) av v) : Rel own h w (setA f d av) (a.put d v) := by
  cases d with
  | none => exact ⟨hf, hd, H⟩
  | some d =>
    refine ⟨?_, hd, H⟩
    simp only [setA, Act.put, Array.toList_setIfInBounds]
    exact hf.set d hv
theorem VR_au {own : Own} {C : CellsP} : VR own C au undef := VR.c_iff.2 rfl
/-- one operation -/
theorem one_wp (hS : Sound P T G) {enter : FuncId → List AV → AH → (AV → AH → Prop) → Prop}
    (hen : ∀ g args h K, enter g args h K → ∀ own w (vs : List Value), HR own h w → VRs own (Cw own h w) args vs → Calls P g vs.toArray w (CR K own h w))
    {o : Oper} {f : List AV} {a : Act} {K : AV → AH → Prop} {next : Act → World → Prop} {Q : Exit → Act → World → Prop} (hR : Rel own h w f a) (hf : oneK P G enter o.op f h K)
    (hn : ∀ own' h' w' av a', Rel own' h' w' (setA f o.dst av) a' → Ext own h w own' h' w' → K av h' → next a' w') : o.wp P a w next Q := by
  have hr := ev_VR hR.fr
  unfold oneK at hf
  split at hf
  · rename_i g args hg
    unfold goCall at hg
    split at hg
    · rename_i c hc
      split at hg
      · rename_i fo hfo
        cases hg
        unfold callK at hf
        split at hf
        · rename_i g caps hgv
          have hfv := hr fo
          rw [hgv] at hfv
          simp only [VR] at hfv
          obtain ⟨cs, hfv, hcs⟩ := hfv
          split at hf
          · rename_i fn hfn
            have hargs : VRs own (Cw own h w) (c.args.toList.map (evA f) ++ caps) (c.args.toList.map a.eval ++ cs.toList) := by
              refine VRs.append (VRs.of_get (by simp) fun i x v h1 h2 => ?_) hcs
              rw [List.getElem?_map] at h1 h2
              cases hc : c.args.toList[i]? with
              | none => rw [hc] at h1; cases h1
              | some x => rw [hc] at h1 h2; cases h1; cases h2; exact hr x
            split at hf
            · rename_i body hbody
              have hcall : Calls P g (c.args.toList.map a.eval ++ cs.toList).toArray w (CR K own h w) := by
                split at hf
                · rename_i R hR'
                  exact hS.call g R hR' _ _ _ hf own w _ hR.hr hargs
                · exact hen g _ _ _ hf own w _ hR.hr hargs
              have hex : (execOp a.eval o).run P w = .ok (.enter g (c.args.toList.map a.eval ++ cs.toList).toArray) w := by
                have harr : #[] ++ c.args.map a.eval ++ cs = (c.args.toList.map a.eval ++ cs.toList).toArray := by apply Array.ext'; simp
                simp only [execOp, hc, resolve, hfo, hfv, Deferred.ofValue, Sem.run_bind, Sem.run_pure, Result.andThen_ok, invoke, callFunc, run_program, hfn, hS.names.ng g fn hfn, hbody, harr]
                simp
              unfold Oper.wp
              rw [hex]
              simp only [Oper.upon]
              refine hcall.mono fun e w' he => ?_
              obtain ⟨v, own', h', av, rfl, H', E', hv, hK⟩ := he
              exact hn own' h' w' av _ (Rel.put (E'.vrs hR.fr) hR.df H' hv) E' hK
            · rename_i hbody
              split at hf
              · rename_i a1 hsf ha1
                obtain ⟨g1, g2⟩ := hS.names.same g fn hsf hfn
                rw [ha1] at hargs
                obtain ⟨v, r, hv, h3, h4⟩ := VRs.cons_iff.1 hargs
                rw [VRs.nil_iff] at h4
                subst h4
                have harr : #[] ++ c.args.map a.eval ++ cs = #[v] := by apply Array.ext'; simpa using hv
                have hex : (execOp a.eval o).run P w = .ok (.value v) w := by
                  simp only [execOp, hc, resolve, hfo, hfv, Deferred.ofValue, Sem.run_bind, Sem.run_pure, Result.andThen_ok, invoke, harr]
                  rw [run_callFunc_extern hfn (hS.names.ng g fn hfn) (by simp [hbody]) g1 g2]
                  rw [Lib.run_noEscape]
                  rfl
                unfold Oper.wp
                rw [hex]
                exact hn own h w a1 _ (Rel.put hR.fr hR.df hR.hr h3) (.refl _ _ _) hf
              · exact hf.elim
          · exact hf.elim
        · exact hf.elim
      · cases hg
    · cases hg
  · obtain ⟨nx, w', own', h', av, h1, H', E', hK, hv⟩ := opK_done hS.eqs hr hR.hr hf
    unfold Oper.wp
    rw [h1]
    rcases hv with ⟨v, rfl, hv⟩ | ⟨rfl, rfl⟩
    · exact hn own' h' w' av _ (Rel.put (E'.vrs hR.fr) hR.df H' hv) E' hK
    · exact hn own' h' w' au _ (Rel.put (E'.vrs hR.fr) hR.df H' VR_au) E' hK
/-- what a guard's operation has given -/
theorem yield_spec {ops : Array Oper} {f : List AV} {a : Act} {j : Nat} {r : Option Bool} {C : CellsP} (hf : VRs own C f a.tmps.toList) (hy : yieldA ops f j = some r) : yielded ops a.tmps j = r := by
  unfold yieldA at hy
  unfold yielded
  cases hd : (ops[j]?).bind (·.dst) with
  | none => rw [hd] at hy; cases hy; rfl
  | some d =>
    rw [hd] at hy
    simp only [Option.bind_some] at hy ⊢
    split at hy
    · rename_i b hb
      cases hy
      obtain ⟨u, hu, hvu⟩ := hf.get hb
      rw [VR.c_iff] at hvu; subst hvu
      rw [← Array.getElem?_toList, hu]
    · rename_i v hnb hv
      cases hy
      obtain ⟨u, hu, hvu⟩ := hf.get hv
      rw [VR.c_iff] at hvu; subst hvu
      rw [← Array.getElem?_toList, hu]
      cases u <;> first | rfl | exact absurd rfl (hnb _)
    · cases hy
    · rename_i hv
      cases hy
      have : a.tmps.toList[d]? = none := by
        rw [List.getElem?_eq_none_iff] at hv ⊢
        rw [hf.length]; exact hv
      rw [← Array.getElem?_toList, this]
theorem refA_eq {ops : Array Oper} {f : List AV} {j : Nat} {b : Bool} (hy : yieldA ops f j = some (some b)) : refA ops f j b = f := by
  unfold yieldA at hy
  unfold refA
  cases hd : (ops[j]?).bind (·.dst) with
  | none => rfl
  | some d =>
    rw [hd] at hy
    simp only at hy ⊢
    split at hy
    · rename_i b' hb
      cases hy
      apply List.ext_getElem?
      intro i
      rw [List.getElem?_set]
      split
      · rename_i hi
        subst hi
        rw [if_pos (List.getElem?_eq_some_iff.1 hb).1, hb]
      · rfl
    · cases hy
    · cases hy
    · cases hy
theorem guard_spec {ops : Array Oper} {o : Oper} {f : List AV} {a : Act} {run skip : List AV → Prop} {C : CellsP} (hf : VRs own C f a.tmps.toList) (hg : guardK ops o f run skip) :
    (Region.wanted o (yielded ops a.tmps) = true ∧ run f) ∨ (Region.wanted o (yielded ops a.tmps) = false ∧ skip f) := by
  unfold guardK at hg
  unfold Region.wanted
  split at hg
  · rename_i h1; rw [h1]; exact .inl ⟨rfl, hg⟩
  · rename_i j want h1
    rw [h1]
    simp only
    split at hg
    · rename_i b hy
      rw [yield_spec hf hy]
      have he := refA_eq hy
      cases want <;> cases b <;> simp only [br] at hg <;> rw [he] at hg
      · exact .inl ⟨rfl, hg⟩
      · exact .inr ⟨rfl, hg⟩
      · exact .inr ⟨rfl, hg⟩
      · exact .inl ⟨rfl, hg⟩
    · rename_i hy
      rw [yield_spec hf hy]
      exact .inr ⟨by cases want <;> rfl, hg⟩
    · exact hg.elim
/-- a region whose order is the text's -/
theorem plain_wp (hS : Sound P T G) {enter : FuncId → List AV → AH → (AV → AH → Prop) → Prop}
    (hen : ∀ g args h K, enter g args h K → ∀ own w (vs : List Value), HR own h w → VRs own (Cw own h w) args vs → Calls P g vs.toArray w (CR K own h w))
    {ops : Array Oper} {K : List AV → AH → Prop} {Q : Exit → Act → World → Prop} {own0 : Own} {g0 : AH} {w0 : World} (hQ : ∀ a w, CK K own0 g0 w0 a w → Q .normal a w) :
    ∀ (l : List Oper) (f : List AV) (own : Own) (h : AH) (w : World) (a : Act), opsK P T G enter .plain ops l K f h → Rel own h w f a → Ext own0 g0 w0 own h w → wpList P ops Q l a w
  | [], f, own, h, w, a, hf, hR, hE => hQ a w ⟨own, _, f, hR.clear, hE.trans ext_clear, hf⟩
  | o :: rest, f, own, h, w, a, hf, hR, hE => by
    unfold opsK at hf
    simp only [forceS_eq] at hf
    unfold wpList
    rcases guard_spec hR.fr hf with ⟨hw, hf⟩ | ⟨hw, hf⟩ <;> (try dsimp only at hf)
    · rw [if_pos hw]
      left
      simp only [runK] at hf
      exact one_wp hS hen hR.clear hf fun own' h' w' av a' hR' hE' hK => plain_wp hS hen hQ rest _ own' h' w' a' hK hR' ((hE.trans ext_clear).trans hE')
    · rw [if_neg (by simp [hw])]
      exact plain_wp hS hen hQ rest _ own h w _ hf (Rel.put hR.fr hR.df hR.hr VR_au) hE
theorem scalA_spec {C : CellsP} {a : AV} {v : Value} (hv : VR own C a v) (h : scalA a = true) : scalarV v = true := by
  unfold scalA at h
  split at h
  · rw [VR.c_iff] at hv; subst hv; exact h
  · cases h
theorem nilVA_spec {C : CellsP} {a : AV} {v : Value} (hv : VR own C a v) (h : nilVA a = true) : nilV v = true := by
  unfold nilVA at h
  split at h
  · rw [VR.c_iff] at hv; subst hv; exact h
  · cases h
theorem plainA_spec {C : CellsP} {ra : Operand → AV} {rc : Operand → Value} (hr : ∀ x, VR own C (ra x) (rc x)) {o : Oper} (h : plainA ra o = true) : plainArgs rc o = true := by
  obtain ⟨dst, op, type, pos, after, guard⟩ := o
  cases op <;> simp only [plainA, plainArgs] at h ⊢
  case binOp bo t x y yt =>
    unfold okPair
    simp only [Bool.or_eq_true, Bool.and_eq_true] at h ⊢
    rcases h with ⟨h1, h2⟩ | ⟨h1, h2⟩
    · exact .inl ⟨scalA_spec (hr x) h1, scalA_spec (hr y) h2⟩
    · exact .inr ⟨h1, h2.imp (nilVA_spec (hr x)) (nilVA_spec (hr y))⟩
  case convert s d x => exact scalA_spec (hr x) h
  case call c =>
    obtain ⟨callee, args, argTypes⟩ := c
    cases callee with
    | value f => rfl
    | invoke r m => rfl
    | builtin b =>
      cases b <;> simp only at h ⊢
      case min => exact List.all_eq_true.2 fun x hx => scalA_spec (hr x) (List.all_eq_true.1 h x hx)
      case max => exact List.all_eq_true.2 fun x hx => scalA_spec (hr x) (List.all_eq_true.1 h x hx)
/-- a region that draws, by the text -/
theorem text_wp (hS : Sound P T G) {enter : FuncId → List AV → AH → (AV → AH → Prop) → Prop}
    (hen : ∀ g args h K, enter g args h K → ∀ own w (vs : List Value), HR own h w → VRs own (Cw own h w) args vs → Calls P g vs.toArray w (CR K own h w))
    {ops : Array Oper} {K : List AV → AH → Prop} {N : Act → World → Prop} {own0 : Own} {g0 : AH} {w0 : World} (hQ : ∀ a w, CK K own0 g0 w0 a w → N a w) :
    ∀ (l : List Oper) (f : List AV) (own : Own) (h : AH) (w : World) (a : Act), opsK P T G enter .text ops l K f h → Rel own h w f a → Ext own0 g0 w0 own h w → wpTxt P T ops N l a w
  | [], f, own, h, w, a, hf, hR, hE => hQ a w ⟨own, _, f, hR.clear, hE.trans ext_clear, hf⟩
  | o :: rest, f, own, h, w, a, hf, hR, hE => by
    unfold opsK at hf
    simp only [forceS_eq] at hf
    unfold wpTxt
    rcases guard_spec hR.fr hf with ⟨hw, hf⟩ | ⟨hw, hf⟩ <;> (try dsimp only at hf)
    · rw [if_pos hw]
      simp only [runK] at hf
      have hboth : (yB T o = true → plainArgs a.eval o = true) ∧ oneK P G enter o.op f h.clear (fun v h' => opsK P T G enter .text ops rest K (setA f o.dst v) h') := by
        split at hf
        · split at hf
          · exact ⟨fun _ => plainA_spec (ev_VR hR.fr) ‹_›, hf⟩
          · exact hf.elim
        · rename_i hy
          exact ⟨fun h => (by rw [hy] at h; cases h), hf⟩
      exact ⟨hboth.1, one_wp hS hen hR.clear hboth.2 fun own' h' w' av a' hR' hE' hK => text_wp hS hen hQ rest _ own' h' w' a' hK hR' ((hE.trans ext_clear).trans hE')⟩
    · rw [if_neg (by simp [hw])]
      exact text_wp hS hen hQ rest _ own h w _ hf (Rel.put hR.fr hR.df hR.hr VR_au) hE
/-- a region that draws, by a tree of orders -/
theorem oneN (hS : Sound P T G) {enter : FuncId → List AV → AH → (AV → AH → Prop) → Prop}
    (hen : ∀ g args h K, enter g args h K → ∀ own w (vs : List Value), HR own h w → VRs own (Cw own h w) args vs → Calls P g vs.toArray w (CR K own h w))
    {ops : Array Oper} {o : Oper} {N : Act → World → Prop} {next : List AV → AH → Prop} {M : Act → World → Prop} {own0 : Own} {g0 : AH} {w0 : World}
    (hn : ∀ (f : List AV) (own : Own) (h : AH) (w : World) (a : Act), next f h → Rel own h w f a → Ext own0 g0 w0 own h w → M a w)
    {f : List AV} {own : Own} {h : AH} {w : World} {a : Act} (hf : guardK ops o f
        (fun f => runK P T .text o f h (fun h K => oneK P G enter o.op f h K) fun v h' => next (setA f o.dst v) h') (fun f => next (setA f o.dst au) h)) (hR : Rel own h w f a) (hE : Ext own0 g0 w0 own h w) : wpNo P T ops N o M a w := by
  unfold wpNo
  rcases guard_spec hR.fr hf with ⟨hw, hf⟩ | ⟨hw, hf⟩ <;> (try dsimp only at hf)
  · rw [if_pos hw]
    simp only [runK] at hf
    have hboth : (yB T o = true → plainArgs a.eval o = true) ∧ oneK P G enter o.op f h.clear (fun v h' => next (setA f o.dst v) h') := by
      split at hf
      · split at hf
        · exact ⟨fun _ => plainA_spec (ev_VR hR.fr) ‹_›, hf⟩
        · exact hf.elim
      · rename_i hy
        exact ⟨fun h => (by rw [hy] at h; cases h), hf⟩
    exact ⟨hboth.1, one_wp hS hen hR.clear hboth.2 fun own' h' w' av a' hR' hE' hK => hn _ own' h' w' a' hK hR' ((hE.trans ext_clear).trans hE')⟩
  · rw [if_neg (by simp [hw])]
    exact hn _ own h w _ hf (Rel.put hR.fr hR.df hR.hr VR_au) hE
mutual
theorem treeN_wp (hS : Sound P T G) {enter : FuncId → List AV → AH → (AV → AH → Prop) → Prop}
    (hen : ∀ g args h K, enter g args h K → ∀ own w (vs : List Value), HR own h w → VRs own (Cw own h w) args vs → Calls P g vs.toArray w (CR K own h w))
    {ops : Array Oper} {K : List AV → AH → Prop} {N : Act → World → Prop} {own0 : Own} {g0 : AH} {w0 : World} (hQ : ∀ a w, CK K own0 g0 w0 a w → N a w) :
    ∀ (t : Tree) (f : List AV) (own : Own) (h : AH) (w : World) (a : Act), opsN P T G enter ops t false K f h → Rel own h w f a → Ext own0 g0 w0 own h w → t.wpN P T ops N a w
  | .done, f, own, h, w, a, hf, hR, hE => hQ a w ⟨own, _, f, hR.clear, hE.trans ext_clear, hf⟩
  | .take k t, f, own, h, w, a, hf, hR, hE => by
    simp only [opsN, forceS_eq] at hf
    split at hf
    · rename_i o ho
      exact ⟨o, ho, oneN hS hen (fun f own h w a hn hR hE => treeN_wp hS hen hQ t f own h w a hn hR hE) hf hR hE⟩
    · exact hf.elim
  | .branch k t r, f, own, h, w, a, hf, hR, hE => by
    simp only [opsN, forceS_eq] at hf
    split at hf
    · rename_i o ho
      exact ⟨⟨o, ho, oneN hS hen (fun f own h w a hn hR hE => treeN_wp hS hen hQ t f own h w a hn hR hE) hf.1 hR hE⟩, treeN_rest hS hen hQ r f own h w a hf.2 hR hE⟩
    · exact hf.elim
theorem treeN_rest (hS : Sound P T G) {enter : FuncId → List AV → AH → (AV → AH → Prop) → Prop}
    (hen : ∀ g args h K, enter g args h K → ∀ own w (vs : List Value), HR own h w → VRs own (Cw own h w) args vs → Calls P g vs.toArray w (CR K own h w))
    {ops : Array Oper} {K : List AV → AH → Prop} {N : Act → World → Prop} {own0 : Own} {g0 : AH} {w0 : World} (hQ : ∀ a w, CK K own0 g0 w0 a w → N a w) :
    ∀ (t : Tree) (f : List AV) (own : Own) (h : AH) (w : World) (a : Act), opsN P T G enter ops t true K f h → Rel own h w f a → Ext own0 g0 w0 own h w → Tree.wpN.wpRestN P T ops N t a w
  | .done, f, own, h, w, a, hf, hR, hE => trivial
  | .take k t, f, own, h, w, a, hf, hR, hE => trivial
  | .branch k t r, f, own, h, w, a, hf, hR, hE => by
    simp only [opsN, forceS_eq] at hf
    split at hf
    · rename_i o ho
      exact ⟨⟨o, ho, oneN hS hen (fun f own h w a hn hR hE => treeN_wp hS hen hQ t f own h w a hn hR hE) hf.1 hR hE⟩, treeN_rest hS hen hQ r f own h w a hf.2 hR hE⟩
    · exact hf.elim
end
/-! ### A region that draws, its loads held -/
theorem get_lockAll {id : Nat} : (lockAll h).get id = lockB (h.get id) := by
  unfold AH.get lockAll
  simp only [List.getD_eq_getElem?_getD, List.getElem?_map]
  cases h.bl[id]? <;> rfl
theorem get_unlockL : ∀ (l0 l : List AB) (i : Nat), (unlockL l0 l).getD i .dead = (match l0.getD i .dead, l.getD i .dead with | .cells _ _, .lock T x => .cells T x | _, b => b)
  | [], l, i => by
    have : unlockL [] l = l := by cases l <;> rfl
    rw [this]
    rfl
  | a :: l0, [], i => by
    have : unlockL (a :: l0) [] = [] := by cases a <;> rfl
    rw [this]
    simp only [List.getD_nil]
    cases (a :: l0).getD i .dead <;> rfl
  | a :: l0, b :: l, i => by
    cases i with
    | zero => cases a <;> cases b <;> rfl
    | succ i =>
      have : (unlockL (a :: l0) (b :: l)).getD (i + 1) .dead = (unlockL l0 l).getD i .dead := by cases a <;> cases b <;> rfl
      rw [this, get_unlockL l0 l i]
      rfl
theorem get_unlock {h0 : AH} {id : Nat} : (unlock h0 h).get id = (match h0.get id, h.get id with | .cells _ _, .lock T x => .cells T x | _, b => b) := get_unlockL _ _ _
theorem unlockL_length : ∀ (l0 l : List AB), (unlockL l0 l).length = l.length
  | [], l => by cases l <;> rfl
  | a :: l0, [] => by cases a <;> rfl
  | a :: l0, b :: l => by
    have : (unlockL (a :: l0) (b :: l)).length = (unlockL l0 l).length + 1 := by cases a <;> cases b <;> rfl
    rw [this, unlockL_length l0 l]
    rfl
/-- the same blocks, some locked, some not -/
theorem HR.relock {h2 : AH} (H : HR own h w) (hn : h2.next = h.next) (hg : ∀ id, h2.get id = h.get id ∨ (∃ T l, h.get id = .cells T l ∧ h2.get id = .lock T l) ∨ (∃ T l, h.get id = .lock T l ∧ h2.get id = .cells T l)) :
    HR own h2 w ∧ ∀ g, Live own h2 g ↔ Live own h g := by
  have hlive : ∀ id, isLive (h2.get id) ↔ isLive (h.get id) := fun id => by
    rcases hg id with h1 | ⟨T, l, h1, h2⟩ | ⟨T, l, h1, h2⟩
    · rw [h1]
    · rw [h1, h2]; exact ⟨fun _ => trivial, fun _ => trivial⟩
    · rw [h1, h2]; exact ⟨fun _ => trivial, fun _ => trivial⟩
  have hL : ∀ g, Live own h2 g ↔ Live own h g := fun g => by
    unfold Live
    simp only [hlive]
  have hC : ∀ g o u, Cw own h w g o u → Cw own h2 w g o u := fun g o u ⟨h1, h3⟩ => ⟨⟨fun h4 => h1.1 ((hL g).1 h4), h1.2⟩, h3⟩
  refine ⟨⟨fun id hl => ?_, fun id id' pl pl' h1 h3 => H.inj id id' pl pl' ((hlive id).1 h1) ((hlive id').1 h3), fun id hi => H.dom id (by rw [← hn]; exact hi), ⟨fun g hg => ⟨(H.st.rest g hg).1, fun h4 => (H.st.rest g hg).2 ((hL g).1 h4)⟩, fun g o u hg => hC g o u (H.st.tab g o u hg), H.st.blk⟩⟩, hL⟩
  rcases hg id with h1 | ⟨T, l, h1, h3⟩ | ⟨T, l, h1, h3⟩
  · rw [h1]
    rcases H.live id ((hlive id).1 hl) with ⟨pl, h4, h5⟩ | h4
    · exact .inl ⟨pl, h4, h5.mono (fun _ _ h => h) hC rfl⟩
    · exact .inr h4
  · rcases H.live id ((hlive id).1 hl) with ⟨pl, h4, h5⟩ | ⟨_, E, s, h5⟩
    · rw [h1] at h5
      rw [h3]
      exact .inl ⟨pl, h4, BR.mono (w := w) (w' := w) (own := own) (own' := own) (b := .lock T l) (fun _ _ h => h) hC rfl h5⟩
    · rw [h1] at h5; cases h5
  · rcases H.live id ((hlive id).1 hl) with ⟨pl, h4, h5⟩ | ⟨_, E, s, h5⟩
    · rw [h1] at h5
      rw [h3]
      exact .inl ⟨pl, h4, BR.mono (w := w) (w' := w) (own := own) (own' := own) (b := .cells T l) (fun _ _ h => h) hC rfl h5⟩
    · rw [h1] at h5; cases h5
theorem lock_get (id : Nat) : (lockAll h).get id = h.get id ∨ (∃ T l, h.get id = .cells T l ∧ (lockAll h).get id = .lock T l) ∨ (∃ T l, h.get id = .lock T l ∧ (lockAll h).get id = .cells T l) := by
  rw [get_lockAll]
  cases hb : h.get id <;> first | exact .inl rfl | exact .inr (.inl ⟨_, _, rfl, rfl⟩)
theorem lock_rel {f : List AV} {a : Act} (hR : Rel own h w f a) : Rel own (lockAll h) w f a ∧ Ext own h w own (lockAll h) w := by
  obtain ⟨H', hL⟩ := hR.hr.relock (h2 := lockAll h) (by simp [AH.next, lockAll]) lock_get
  have hE : Ext own h w own (lockAll h) w := ⟨fun _ _ h => h, Nat.le_refl _, rfl, rfl, rfl, fun g _ hg => ⟨fun h1 => hg ((hL g).1 h1), rfl⟩, fun id T l hl => ⟨by rw [get_lockAll, hl]; rfl, fun _ _ => rfl⟩, rfl⟩
  exact ⟨⟨hE.vrs hR.fr, hR.df, H'⟩, hE⟩
theorem unlock_get {h0 : AH} (id : Nat) : (unlock h0 h).get id = h.get id ∨ (∃ T l, h.get id = .cells T l ∧ (unlock h0 h).get id = .lock T l) ∨ (∃ T l, h.get id = .lock T l ∧ (unlock h0 h).get id = .cells T l) := by
  rw [get_unlock]
  cases h0.get id <;> cases h.get id <;> first | exact .inl rfl | exact .inr (.inr ⟨_, _, rfl, rfl⟩)
theorem unlock_rel {own0 : Own} {h0 : AH} {w0 : World} {f : List AV} {a : Act} (hR : Rel own h w f a) (hE : Ext own0 (lockAll h0) w0 own h w) (hL0 : ∀ g, Live own0 (lockAll h0) g ↔ Live own0 h0 g) :
    Rel own (unlock h0 h) w f a ∧ Ext own0 h0 w0 own (unlock h0 h) w := by
  obtain ⟨H', hL⟩ := hR.hr.relock (h2 := unlock h0 h) (by unfold AH.next unlock; exact unlockL_length _ _) unlock_get
  have hC : ∀ g o u, Cw own h w g o u → Cw own (unlock h0 h) w g o u := fun g o u ⟨h1, h3⟩ => ⟨⟨fun h4 => h1.1 ((hL g).1 h4), h1.2⟩, h3⟩
  refine ⟨⟨hR.fr.mono (fun _ _ h => h) hC, hR.df, H'⟩, ⟨hE.ow, hE.size, hE.os, hE.tape, hE.output, fun g hg hl => ?_, fun id T l hl => ?_, hE.xe⟩⟩
  · obtain ⟨h1, h2⟩ := hE.fz g hg (fun h3 => hl ((hL0 g).1 h3))
    exact ⟨fun h3 => h1 ((hL g).1 h3), h2⟩
  · obtain ⟨h1, h2⟩ := hE.lk id T l (by rw [get_lockAll, hl]; rfl)
    exact ⟨by rw [get_unlock, hl, h1], h2⟩
/-- what a held region's loads look at -/
def Held (own0 : Own) (hL : AH) (w0 : World) (w' : World) : Prop := ∀ id T l pl, hL.get id = .lock T l → own0 id = some (some pl) → w'.heap[pl.g]? = w0.heap[pl.g]?
theorem wanted_load {o : Oper} {t : TypeId} {x : Operand} (ho : o.op = .load t x) : calmB o = true := by unfold calmB; rw [ho]
theorem closed_wp (hS : Sound P T G) {enter : FuncId → List AV → AH → (AV → AH → Prop) → Prop}
    (hen : ∀ g args h K, enter g args h K → ∀ own w (vs : List Value), HR own h w → VRs own (Cw own h w) args vs → Calls P g vs.toArray w (CR K own h w))
    {ops : Array Oper} {K : List AV → AH → Prop} {N : Act → World → Prop} {own0 : Own} {g0 : AH} {w0 : World} {S : World → Prop} (hQ : ∀ a w, CK K own0 g0 w0 a w → N a w) :
    ∀ (l : List Oper) (i : Nat) (f : List AV) (own : Own) (h : AH) (w : World) (a : Act), opsC P T G enter ops l i K f h → (∀ j, l[j]? = ops[i + j]?) → Rel own h w f a → Ext own0 g0 w0 own h w → (chain l.length i).wp P T S ops N a w
  | [], i, f, own, h, w, a, hf, hl, hR, hE => hQ a w ⟨own, _, f, hR.clear, hE.trans ext_clear, hf⟩
  | o :: rest, i, f, own, h, w, a, hf, hl, hR, hE => by
    have h0 : ops[i]? = some o := by simpa using (hl 0).symm
    have hl' : ∀ j, rest[j]? = ops[i + 1 + j]? := fun j => by have := hl (j + 1); simpa [Nat.add_assoc, Nat.add_comm 1 j] using this
    unfold opsC at hf
    simp only [forceS_eq] at hf
    refine ⟨o, h0, ?_⟩
    unfold wpOne
    rcases guard_spec hR.fr hf with ⟨hw, hf⟩ | ⟨hw, hf⟩ <;> (try dsimp only at hf)
    · rw [if_pos hw]
      split at hf
      · exact hf.elim
      · rename_i hc
        rw [if_neg (by simp [hc])]
        split at hf
        · rename_i hy
          rw [if_pos hy]
          split at hf
          · exact ⟨plainA_spec (ev_VR hR.fr) ‹_›, one_wp hS hen hR hf fun own' h' w' av a' hR' hE' hK => closed_wp hS hen hQ rest (i + 1) _ own' h' w' a' hK hl' hR' (hE.trans hE')⟩
          · exact hf.elim
        · rename_i hy
          rw [if_neg (by simp [hy])]
          split at hf
          · exact hf.elim
          · rename_i hnd
            exact one_wp hS hen hR hf fun own' h' w' av a' hR' hE' hK => ⟨fun h => (by rw [hnd] at h; cases h), closed_wp hS hen hQ rest (i + 1) _ own' h' w' a' hK hl' hR' (hE.trans hE')⟩
    · rw [if_neg (by simp [hw])]
      exact closed_wp hS hen hQ rest (i + 1) _ own h w _ hf hl' (Rel.put hR.fr hR.df hR.hr VR_au) hE
theorem held_wp (hS : Sound P T G) {enter : FuncId → List AV → AH → (AV → AH → Prop) → Prop}
    (hen : ∀ g args h K, enter g args h K → ∀ own w (vs : List Value), HR own h w → VRs own (Cw own h w) args vs → Calls P g vs.toArray w (CR K own h w))
    {ops : Array Oper} {K : List AV → AH → Prop} {N : Act → World → Prop} {own0 : Own} {g0 : AH} {w0 : World} (hQ : ∀ a w, CK K own0 g0 w0 a w → N a w) (hL0 : ∀ g, Live own0 (lockAll g0) g ↔ Live own0 g0 g) (H0 : HR own0 g0 w0) :
    ∀ (l : List Oper) (i : Nat) (f : List AV) (own : Own) (h : AH) (w : World) (a : Act), opsH P T G enter g0 ops l i K f h → (∀ j, l[j]? = ops[i + j]?) → Rel own h w f a → Ext own0 (lockAll g0) w0 own h w →
      (chain l.length i).wp P T (Held own0 (lockAll g0) w0) ops N a w
  | [], i, f, own, h, w, a, hf, hl, hR, hE => by
    obtain ⟨hR', hE'⟩ := unlock_rel hR hE hL0
    exact hQ a w ⟨own, _, f, hR'.clear, hE'.trans ext_clear, hf⟩
  | o :: rest, i, f, own, h, w, a, hf, hl, hR, hE => by
    have h0 : ops[i]? = some o := by simpa using (hl 0).symm
    have hl' : ∀ j, rest[j]? = ops[i + 1 + j]? := fun j => by have := hl (j + 1); simpa [Nat.add_assoc, Nat.add_comm 1 j] using this
    have hheld : ∀ {own' h' w'}, Ext own h w own' h' w' → Held own0 (lockAll g0) w0 w' := fun hE' id T l pl h1 h2 => ((hE.trans hE').lk id T l h1).2 pl h2
    unfold opsH at hf
    simp only [forceS_eq] at hf
    refine ⟨o, h0, ?_⟩
    unfold wpOne
    rcases guard_spec hR.fr hf with ⟨hw, hf⟩ | ⟨hw, hf⟩ <;> (try dsimp only at hf)
    · rw [if_pos hw]
      split at hf
      · rename_i hc
        rw [if_pos hc]
        split at hf
        · rename_i t x hop
          split at hf
          · rename_i id off hx
            split at hf
            · rename_i T0 l0 T1 l1 hb0 hb1
              have hxv := ev_VR hR.fr x
              rw [hx] at hxv
              simp only [VR] at hxv
              obtain ⟨pl, ho, hxv⟩ := hxv
              have hbl : (lockAll g0).get id = .lock T0 l0 := by rw [get_lockAll, hb0]; rfl
              obtain ⟨hk1, hk2⟩ := hE.lk id T0 l0 hbl
              rw [hb1] at hk1
              cases hk1
              have ho0 : own0 id = some (some pl) := by
                rcases H0.live id (by rw [hb0]; trivial) with ⟨pl0, h1, _⟩ | ⟨h1, _⟩
                · rw [hE.ow _ _ h1] at ho; rw [h1]; exact ho
                · rw [hE.ow _ _ h1] at ho; cases ho
              have hB := hR.hr.block (id := id) (by rw [hb1]; trivial) ho
              rw [hb1] at hB
              obtain ⟨cs, T', fr, us, k1, k2, k3, k4, k5, k6⟩ := hB
              obtain ⟨v, av, hrun, hv, hK⟩ := load_partU (P := P) (g := pl.g) (o := pl.d) hf k4
              refine ⟨v, fun w' hw' => ?_, held_wp hS hen hQ hL0 H0 rest (i + 1) _ own h w _ hK hl' (Rel.put hR.fr hR.df hR.hr hv) hE⟩
              have hb' : w'.heap[pl.g]? = some (.cells cs T' fr) := by rw [hw' id _ _ pl hbl ho0, ← hk2 pl ho0]; exact k1
              have := hrun w' (fun j u hj => by rw [cell_of hb']; exact k6 j u hj)
              simp only [execOp, hop, hxv, Instr.loadAt, Instr.sureAddr, Sem.run_bind, Sem.run_pure, Result.andThen_ok, this]
            · rename_i T0 l0 T1 l1 hb0 hb1
              have hxv := ev_VR hR.fr x
              rw [hx] at hxv
              simp only [VR] at hxv
              obtain ⟨pl, ho, hxv⟩ := hxv
              have hbl : (lockAll g0).get id = .lock T0 l0 := by rw [get_lockAll, hb0]; rfl
              obtain ⟨hk1, hk2⟩ := hE.lk id T0 l0 hbl
              rw [hb1] at hk1
              cases hk1
              have ho0 : own0 id = some (some pl) := by
                rcases H0.live id (by rw [hb0]; trivial) with ⟨pl0, h1, _⟩ | ⟨h1, _⟩
                · rw [hE.ow _ _ h1] at ho; rw [h1]; exact ho
                · rw [hE.ow _ _ h1] at ho; cases ho
              have hB := hR.hr.block (id := id) (by rw [hb1]; trivial) ho
              rw [hb1] at hB
              obtain ⟨cs, T', fr, us, k1, k2, k3, k4, k5, k6⟩ := hB
              obtain ⟨v, av, hrun, hv, hK⟩ := load_partU (P := P) (g := pl.g) (o := pl.d) hf k4
              refine ⟨v, fun w' hw' => ?_, held_wp hS hen hQ hL0 H0 rest (i + 1) _ own h w _ hK hl' (Rel.put hR.fr hR.df hR.hr hv) hE⟩
              have hb' : w'.heap[pl.g]? = some (.cells cs T' fr) := by rw [hw' id _ _ pl hbl ho0, ← hk2 pl ho0]; exact k1
              have := hrun w' (fun j u hj => by rw [cell_of hb']; exact k6 j u hj)
              simp only [execOp, hop, hxv, Instr.loadAt, Instr.sureAddr, Sem.run_bind, Sem.run_pure, Result.andThen_ok, this]
            · exact hf.elim
          · exact hf.elim
        · exact hf.elim
      · rename_i hc
        rw [if_neg (by simp [hc])]
        split at hf
        · rename_i hy
          rw [if_pos hy]
          split at hf
          · exact ⟨plainA_spec (ev_VR hR.fr) ‹_›, one_wp hS hen hR hf fun own' h' w' av a' hR' hE' hK => held_wp hS hen hQ hL0 H0 rest (i + 1) _ own' h' w' a' hK hl' hR' (hE.trans hE')⟩
          · exact hf.elim
        · rename_i hy
          rw [if_neg (by simp [hy])]
          split at hf
          · exact one_wp hS hen hR hf fun own' h' w' av a' hR' hE' hK => ⟨fun _ => hheld hE', held_wp hS hen hQ hL0 H0 rest (i + 1) _ own' h' w' a' hK hl' hR' (hE.trans hE')⟩
          · rename_i hnd
            obtain ⟨hR2, hE2⟩ := unlock_rel hR hE hL0
            exact one_wp hS hen hR2 hf fun own' h' w' av a' hR' hE' hK => ⟨fun h => (by rw [hnd] at h; cases h), closed_wp hS hen hQ rest (i + 1) _ own' h' w' a' hK hl' hR' (hE2.trans hE')⟩
    · rw [if_neg (by simp [hw])]
      exact held_wp hS hen hQ hL0 H0 rest (i + 1) _ own h w _ hf hl' (Rel.put hR.fr hR.df hR.hr VR_au) hE
/-! ### All code -/
theorem asAddr_run {t : TypeId} {x v : Value} {w : World} (h : (Instr.loadAt t x).run P w = .ok v w) : (do loadVar t (← asAddr x) : Sem Value).run P w = .ok v w := by
  unfold Instr.loadAt Instr.sureAddr at h
  cases x <;> try (simp at h; done)
  rename_i a
  cases a with
  | none => simp at h
  | some a => simpa [asAddr] using h
/-- one result -/
def resOne (tmps : Array Value) : ResultVar → Sem Value
  | .tmp t => pure (tmps.getD t undef)
  | .cell x t => do loadVar t (← asAddr (tmps.getD x undef))
theorem results_eq (fn : Func) (tmps : Array Value) : results fn tmps = (do let vs ← fn.results.mapM (resOne tmps); pure (if h : vs.size = 1 then vs[0] else .tuple vs)) := by
  unfold results
  congr 1
theorem res_run : ∀ (rl : List ResultVar) {f : List AV} {a : Act} {acc : List AV} {accv : List Value} {K : List AV → Prop}, Rel own h w f a → VRs own (Cw own h w) acc accv → resK P f h rl acc K →
    ∃ vs avs, (rl.mapM (resOne a.tmps)).run P w = .ok vs w ∧ VRs own (Cw own h w) avs (accv ++ vs) ∧ K avs
  | [], f, a, acc, accv, K, hR, ha, hf => ⟨[], acc, by simp, by simpa using ha, hf⟩
  | .tmp t :: rl, f, a, acc, accv, K, hR, ha, hf => by
    unfold resK at hf
    have ht : VR own (Cw own h w) (f.getD t au) (a.tmps.getD t undef) := ev_VR hR.fr (.tmp t)
    obtain ⟨vs, avs, h1, h2, h3⟩ := res_run rl hR (ha.append (.one ht)) hf
    refine ⟨a.tmps.getD t undef :: vs, avs, ?_, by simpa using h2, h3⟩
    simp only [List.mapM_cons, resOne, Sem.run_bind, Sem.run_pure, Result.andThen_ok, h1]
  | .cell x t :: rl, f, a, acc, accv, K, hR, ha, hf => by
    unfold resK at hf
    obtain ⟨v, av, g1, g2, g3⟩ := loadK_run hR.hr (ev_VR hR.fr (.tmp x)) hf
    obtain ⟨vs, avs, h1, h2, h3⟩ := res_run rl hR (ha.append (.one g2)) g3
    refine ⟨v :: vs, avs, ?_, by simpa using h2, h3⟩
    have : (resOne a.tmps (.cell x t)).run P w = .ok v w := asAddr_run g1
    simp only [List.mapM_cons, Sem.run_bind, this, Result.andThen_ok, h1, Sem.run_pure]
theorem results_run {fn : Func} {f : List AV} {a : Act} {K : AV → Prop} (hR : Rel own h w f a) (hf : resK P f h fn.results.toList [] fun l => K (tupA l)) :
    ∃ v av, (results fn a.tmps).run P w = .ok v w ∧ VR own (Cw own h w) av v ∧ K av := by
  obtain ⟨vs, avs, h1, h2, h3⟩ := res_run fn.results.toList hR .nil hf
  rw [List.nil_append] at h2
  have hl := h2.length
  have hm : (fn.results.mapM (resOne a.tmps)).run P w = .ok vs.toArray w := by
    rw [Array.mapM_eq_mapM_toList]
    simp [h1]
  refine ⟨if hv : vs.toArray.size = 1 then vs.toArray[0] else .tuple vs.toArray, tupA avs, ?_, ?_, h3⟩
  · rw [results_eq]
    simp only [Sem.run_bind, hm, Result.andThen_ok, Sem.run_pure]
  · match avs, vs, hl with
    | [], [], _ => simp only [tupA, VR]; exact ⟨_, rfl, h2⟩
    | [x], [v], _ =>
      obtain ⟨v', r, e, h4, h5⟩ := VRs.cons_iff.1 h2
      cases e
      simpa [tupA] using h4
    | x :: y :: l, [v], hl => simp at hl
    | x :: y :: l, v :: u :: r, hl =>
      have : ¬ (v :: u :: r).toArray.size = 1 := by simp
      rw [dif_neg this]
      simp only [tupA, VR]
      exact ⟨_, rfl, h2⟩
/-- the frame of a call -/
theorem enter_rel {args : List AV} {vs : List Value} (H : HR own h w) (hv : VRs own (Cw own h w) args vs) (n : Nat) : Rel own h w (args ++ List.replicate (n - args.length) au) ⟨vs.toArray ++ Array.replicate (n - vs.toArray.size) undef, []⟩ := by
  refine ⟨?_, rfl, H⟩
  have hl := hv.length
  simp only [Array.toList_append, Array.toList_replicate, List.size_toArray, hl]
  refine hv.append (VRs.of_get (by simp) fun i a v h1 h2 => ?_)
  rw [List.getElem?_replicate] at h1 h2
  split at h1
  · rename_i hi
    rw [if_pos hi] at h2
    cases h1; cases h2
    exact VR_au
  · cases h1
theorem rounds_mono {c : Code} {Q Q' : Exit → Act → World → Prop} (hq : ∀ e a w, Q e a w → Q' e a w) : ∀ (n : Nat) (a : Act) (w : World), Code.rounds P c Q n a w → Code.rounds P c Q' n a w
  | 0, _, _, h => h
  | n + 1, a, w, h => Code.wp_mono (fun e a w q => by
      cases e <;> simp only [Exit.then] at q ⊢ <;> first | exact rounds_mono hq n _ _ q | exact hq _ _ _ q) h
/-- A CALL, FROM ITS BODY -/
theorem body_calls {g : FuncId} {fn : Func} {c : Code} {args : List AV} {vs : List Value} {K : AV → AH → Prop} (hfn : P.funcs[g]? = some fn) (hb : fn.body = some c) (H : HR own h w) (hv : VRs own (Cw own h w) args vs)
    (hwp : c.wp P (CQ (fun e f' h' => match e with
        | .exit _ => False
        | _ => resK P f' h' fn.results.toList [] fun l => K (tupA l) h') own h w) ⟨vs.toArray ++ Array.replicate (fn.ntmps - vs.toArray.size) undef, []⟩ w) : Calls P g vs.toArray w (CR K own h w) := by
  refine calls_of_wp hfn hb (Code.wp_mono (fun e a w' hq => ?_) hwp)
  obtain ⟨e', rfl, own', h', f', hR, hE, hQ⟩ := hq
  have fin : (resK P f' h' fn.results.toList [] fun l => K (tupA l) h') → ∃ v, (results fn a.tmps).run P w' = .ok v w' ∧ CR K own h w (.returned v) w' := fun hr => by
    obtain ⟨v, av, h1, h2, h3⟩ := results_run (K := fun x => K x h') hR hr
    exact ⟨v, h1, v, own', h', av, rfl, hR.hr, hE, h2, h3⟩
  cases e' with
  | normal => exact ⟨hR.df, fin hQ⟩
  | ret => exact ⟨hR.df, fin hQ⟩
  | exit id => exact hQ.elim
/-- WHAT THE ABSTRACT MACHINE SAYS OF CODE HOLDS. -/
theorem wpA_sound (hS : Sound P T G) : ∀ (n : Nat) (F : FuncId) (c : Code) (Q : AExit → List AV → AH → Prop) (f : List AV) (h : AH), wpA P T G n F c Q f h → InBody P F c →
    ∀ (own : Own) (w : World) (a : Act), Rel own h w f a →
      c.wp P (CQ Q own h w) a w ∧ ∀ b, c = .loop b → (firstId b).bind (G.loop F) = none → Code.rounds P b (CQ Q own h w) n a w
  | 0, F, c, Q, f, h, hf, hl, own, w, a, hR => hf.elim
  | n + 1, F, c, Q, f, h, hf, hl, own, w, a, hR => by
    have ih := wpA_sound hS n
    have hCK : ∀ {e : AExit}, Q e f h → CK (Q e) own h w a w := fun hq => ⟨own, h, f, hR, .refl _ _ _, hq⟩
    have hQnormal : Q .normal f h → CQ Q own h w .normal a w := fun hq => ⟨.normal, rfl, hCK hq⟩
    cases c <;> simp only [wpA] at hf <;> try (exact hf.elim)
    case skip => exact ⟨wp_skip (hQnormal hf), fun b hb => by cases hb⟩
    case label l => exact ⟨wp_label (hQnormal hf), fun b hb => by cases hb⟩
    case exit id => exact ⟨wp_exit ⟨.exit id, rfl, hCK hf⟩, fun b hb => by cases hb⟩
    case ret => exact ⟨wp_ret ⟨.ret, rfl, hCK hf⟩, fun b hb => by cases hb⟩
    case seq x y =>
      refine ⟨wp_seq (Code.wp_mono (fun e a' w' hq => ?_) (ih F x _ f h hf hl.seq1 own w a hR).1), fun b hb => by cases hb⟩
      obtain ⟨e', rfl, own', h', f', hR', hE, hQ⟩ := hq
      cases e' with
      | normal => exact Code.wp_mono (fun e a w hq => hq.ext hE) (ih F y Q f' h' hQ hl.seq2 own' w' a' hR').1
      | exit id => exact ⟨.exit id, rfl, own', h', f', hR', hE, hQ⟩
      | ret => exact ⟨.ret, rfl, own', h', f', hR', hE, hQ⟩
    case cond c x y =>
      have hc := ev_VR hR.fr c
      split at hf
      · rename_i b hb
        rw [hb, VR.c_iff] at hc
        rw [br_iff] at hf
        refine ⟨wp_cond_split hc (fun ht => ?_) (fun ht => ?_), fun b hb => by cases hb⟩
        · exact (ih F x Q f h (hf.1 ht) hl.cond1 own w a hR).1
        · exact (ih F y Q f h (hf.2 ht) hl.cond2 own w a hR).1
      · exact hf.elim
    case scope b =>
      refine ⟨wp_scope_straight (Code.wp_mono (fun e a' w' hq => ?_) (ih F b Q f h hf hl.scope1 own w a hR).1), fun b hb => by cases hb⟩
      obtain ⟨e', rfl, hQ⟩ := hq
      cases e' with
      | normal => exact ⟨.normal, rfl, hQ⟩
      | ret => exact ⟨.ret, rfl, hQ⟩
      | exit i => exact ⟨.exit i, rfl, hQ⟩
    case block id b =>
      refine ⟨wp_block (Code.wp_mono (fun e a' w' hq => ?_) (ih F b _ f h hf hl.block1 own w a hR).1), fun b hb => by cases hb⟩
      obtain ⟨e', rfl, own', h', f', hR', hE, hQ⟩ := hq
      cases e' with
      | normal => exact ⟨.normal, rfl, own', h', f', hR', hE, hQ⟩
      | ret => exact ⟨.ret, rfl, own', h', f', hR', hE, hQ⟩
      | exit i =>
        simp only [exitOf, Exit.inBlock]
        simp only at hQ
        split at hQ
        · rename_i hi
          rw [if_pos hi]
          exact ⟨.normal, rfl, own', h', f', hR', hE, hQ⟩
        · rename_i hi
          rw [if_neg hi]
          exact ⟨.exit i, rfl, own', h', f', hR', hE, hQ⟩
    case loop b =>
      split at hf
      · rename_i R hRule
        obtain ⟨id, hid, hG⟩ := Option.bind_eq_some_iff.1 hRule
        refine ⟨hS.loop F id R b hG (hl.lp b (by simp [loopsOf])) hid f h Q hf own w a hR, fun b' hb hn => ?_⟩
        cases hb
        rw [hRule] at hn
        cases hn
      · rename_i hRule
        have hr : Code.rounds P b (CQ Q own h w) (n + 1) a w := by
          rw [rounds_succ]
          refine Code.wp_mono (fun e a' w' hq => ?_) (ih F b _ f h hf hl.loop1 own w a hR).1
          obtain ⟨e', rfl, own', h', f', hR', hE, hQ⟩ := hq
          cases e' with
          | normal => exact rounds_mono (fun e a w hq => hq.ext hE) n a' w' ((ih F (.loop b) Q f' h' hQ hl own' w' a' hR').2 b rfl hRule)
          | exit id => exact ⟨.exit id, rfl, own', h', f', hR', hE, hQ⟩
          | ret => exact ⟨.ret, rfl, own', h', f', hR', hE, hQ⟩
        exact ⟨wp_loop_rounds (n + 1) hr, fun b' hb _ => by cases hb; exact hr⟩
    case region id ops draw =>
      refine ⟨?_, fun b hb => by cases hb⟩
      have hen : ∀ (g : FuncId) (args : List AV) (h : AH) (K : AV → AH → Prop), (match P.funcs[g]? with
          | some fn => match fn.body with
            | some c => wpA P T G n g c (fun e f' h' => match e with
                | .exit _ => False
                | _ => resK P f' h' fn.results.toList [] fun l => K (tupA l) h') (args ++ List.replicate (fn.ntmps - args.length) au) h
            | none => False
          | none => False) → ∀ own w (vs : List Value), HR own h w → VRs own (Cw own h w) args vs → Calls P g vs.toArray w (CR K own h w) := fun g args h K hg own w vs H hv => by
        split at hg
        · rename_i fn hfn
          split at hg
          · rename_i c hb
            refine body_calls hfn hb H hv (ih g c _ _ h hg (InBody.self hfn hb) own w _ (enter_rel H hv fn.ntmps)).1
          · exact hg.elim
        · exact hg.elim
      split at hf
      · rename_i R hR'
        exact hS.reg F id R ops draw hR' (hl.rg _ (by simp [regsOf])) f h Q hf own w a hR
      obtain ⟨ol⟩ := ops
      split at hf
      · exact wp_region_lit (plain_wp hS hen (Q := CQ Q own h w) (own0 := own) (g0 := h) (w0 := w) (fun a w hq => ⟨.normal, rfl, hq⟩) ol f own h w a hf hR (.refl _ _ _))
      · split at hf
        · rename_i how hhow
          unfold howOf at hhow
          split at hhow
          · rename_i hB
            have hRd : Rel own h w.drew f a := ⟨(Ext.drew (own := own) (h := h) (w := w)).vrs hR.fr, hR.df, hR.hr.drew⟩
            exact wp_region_text T hS.mixed hS.tys hB (text_wp hS hen (own0 := own) (g0 := h) (w0 := w) (fun a w hq => ⟨.normal, rfl, hq⟩) ol f own h w.drew a hf hRd Ext.drew)
          · split at hhow <;> first | (cases hhow; done) | (split at hhow <;> cases hhow)
        · rename_i how hhow
          unfold howOf at hhow
          split at hhow
          · cases hhow
          · split at hhow
            · rename_i hB
              have hRd : Rel own h w.drew f a := ⟨(Ext.drew (own := own) (h := h) (w := w)).vrs hR.fr, hR.df, hR.hr.drew⟩
              obtain ⟨hRl, hEl⟩ := lock_rel hRd
              have hL0 : ∀ g, Live own (lockAll h) g ↔ Live own h g := (hRd.hr.relock (h2 := lockAll h) (by simp [AH.next, lockAll]) lock_get).2
              refine wp_region_tree T (Held own (lockAll h) w.drew) (chain ol.length 0) hS.mixed hS.tys (by have := (Bool.and_eq_true _ _ ▸ hB).1; simpa using this) ?_ (fun _ _ _ _ _ _ => rfl)
                (held_wp hS hen (K := Q .normal) (own0 := own) (g0 := h) (w0 := w.drew) (fun a' w' hq => ?_) hL0 hRd.hr ol 0 f own (lockAll h) w.drew a hf (by simp) hRl (.refl _ _ _))
              · have : ∀ m k, (chain m k).depth = m := by
                  intro m
                  induction m with
                  | zero => intro k; rfl
                  | succ m ih => intro k; simp [chain, Tree.depth, ih]
                rw [this]
                exact Nat.ble_self_eq_true _
              · obtain ⟨own', h', f', hR', hE, hK⟩ := hq
                exact ⟨.normal, rfl, own', h', f', hR', Ext.drew.trans hE, hK⟩
            · split at hhow <;> cases hhow
        · rename_i t hhow
          unfold howOf at hhow
          split at hhow
          · cases hhow
          · split at hhow
            · cases hhow
            · split at hhow
              · rename_i hB
                cases hhow
                rw [Bool.and_eq_true] at hB
                have hRd : Rel own h w.drew f a := ⟨(Ext.drew (own := own) (h := h) (w := w)).vrs hR.fr, hR.df, hR.hr.drew⟩
                exact wp_region_treeN T _ hS.mixed hS.tys (by simpa using hB.1) (by simpa using hB.2) (treeN_wp hS hen (own0 := own) (g0 := h) (w0 := w) (fun a w hq => ⟨.normal, rfl, hq⟩) _ f own h w.drew a hf hRd Ext.drew)
              · cases hhow
        · exact hf.elim
/-- A CALL -/
theorem callA_sound (hS : Sound P T G) {n : Nat} {g : FuncId} {args : List AV} {K : AV → AH → Prop} (hf : callA P T G n g args h K) {vs : List Value} (H : HR own h w) (hv : VRs own (Cw own h w) args vs) : Calls P g vs.toArray w (CR K own h w) := by
  unfold callA at hf
  split at hf
  · rename_i fn hfn
    split at hf
    · rename_i c hb
      refine body_calls hfn hb H hv (wpA_sound hS n g c _ _ h hf (InBody.self hfn hb) own w _ (enter_rel H hv fn.ntmps)).1
    · exact hf.elim
  · exact hf.elim
end
end AM
end Go
