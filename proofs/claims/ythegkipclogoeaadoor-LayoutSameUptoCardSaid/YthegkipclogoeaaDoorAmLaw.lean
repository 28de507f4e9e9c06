/- A law's contract from a rule of its function. -/
import Derived.Test.YthegkipclogoeaaDoorAmLift
import Derived.Test.YthegkipclogoeaaDoorAmPat
set_option linter.unusedVariables false
namespace Go
namespace AM
open LMem LTxt Go.RowKit
section
variable {H : Type} {enc : TypeId × Value → H} {P : Program} {W : World}
theorem law_contractR {R : CallT} {f : FuncId} (hR : CallOK P f R) {fn : Func} {s : ChangeSpec} {apart fresh handsOn again : Bool} {args : Array Value} {ds gs : List (DataW H)} {before : List MemPlace} {tb : TypeId} {ss : List Sh} {r : Reach} {b0 : Nat}
    (hT : (∀ g o u, T0 g o u → W.cell? ⟨g, o, none⟩ = some u) ∧ ∀ g, R1 g → T1 g W.heap[g]?)
    (hval : ∀ (j : Nat) t v, fn.params[j]? = some t → args[j]? = some v → Value.okWide P W r b0 t v)
    (hW : DataW.Whole enc P fn.params.toList s.vars apart W args.toList ds gs before)
    (hv : s.vars = []) (hr : fn.resultTypes = #[tb]) (hb : P.underlying tb = some .bool) (hfn : ds.length = ss.length → s.fn H (ds ++ gs) = { results := [.lit (.bool true)], args := ds })
    (hl : laidOutB P = true) (hts : fn.params.toList.all (fun t => P.readableRec t && decide (t < P.types.size) && layOK P 12 t) = true) (hss : fn.params.toList.map (shT P) = ss.map some)
    (hA : (∀ x ∈ ss.zip ds, Fits x.1 (toDat x.1 x.2)) → ∃ l, ((fn.params.toList.zip (ss.zip ds)).map fun x => argA P x.1 x.2.1 (toDat x.2.1 x.2.2)) = l ∧ R l h0 isTrue) :
    Calls P f args W fun e W' => ∃ v, e = .returned v ∧ s.post enc P fn apart fresh handsOn again W args v W' := by
  have hts' : ∀ t ∈ fn.params.toList, P.readableRec t = true ∧ t < P.types.size ∧ layOK P 12 t = true := fun t ht => by
    have := List.all_eq_true.1 hts t ht
    simp only [Bool.and_eq_true, decide_eq_true_eq] at this
    exact ⟨this.1.1, this.1.2, this.2⟩
  obtain ⟨p, q, hA0, hV, rfl, hz, hn⟩ := id hW
  obtain ⟨h1, h2, h3⟩ := args_vr (r := r) (b0 := b0) hss (fun t ht => (hts' t ht).2.2) (fun j t v h h' => hval j t v (by simpa using h) (by simpa using h')) hA0
  obtain ⟨l, hl1, hA⟩ := hA h2
  rw [hl1] at h1
  have hc := hR _ _ _ hA own0 W _ (HR0 hT) h1
  rw [Array.toArray_toList] at hc
  refine hc.mono fun e W' he => ?_
  obtain ⟨v, own', h', av, rfl, hR', hE, hvr, hk⟩ := he
  rw [isTrue_of hk] at hvr
  simp only [VR] at hvr
  subst hvr
  exact ⟨_, rfl, post_true hW hv hr hb (hfn h3) hl (fun t ht => ⟨(hts' t ht).1, (hts' t ht).2.1⟩) (ext_below hE)⟩
end
/-- it answers true -/
def tb (b : Bool) : Prop := isTrue (.c (.bool b)) h0
end AM
end Go
