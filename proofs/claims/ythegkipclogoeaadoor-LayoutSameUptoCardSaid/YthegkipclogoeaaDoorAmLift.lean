/- What the arguments of a statement are as data, and what a true answer of the machine gives for a row. -/
import Derived.Test.YthegkipclogoeaaDoorAmCode
import Derived.Below
import Derived.Carry
import Derived.ChangeSame
import Derived.ChangeArms
import Derived.RowKit
set_option linter.unusedVariables false
namespace Go
namespace AM
open LMem LTxt Go.WideShapes Go.ChangeShapes Go.RowKit
/-- all that a world holds -/
def C0 (w : World) : CellsP := fun g o u => w.cell? ⟨g, o, none⟩ = some u
section
variable {H : Type}
def toDat : Sh → DataW H → Dat
  | .int _, .lit (.int _ n) => .int n
  | .bool, .lit (.bool b) => .bool b
  | .str, .lit (.string l) => .str ⟨l.toArray⟩
  | .slice s, .slice elems _ => .list (elems.map (toDat s))
  | .slice _, _ => .list []
  | .pair a b, .agg (x :: r) => .pair (toDat a x) (toDat b (.agg r))
  | _, _ => .int 0
end
/-- what data keep to -/
def Fits : Sh → Dat → Prop
  | .int k, d => k.min ≤ d.toInt ∧ d.toInt ≤ k.max
  | .bool, _ => True
  | .str, d => d.toStr.size ≤ 9223372036854775807
  | .slice s, d => d.toList.length ≤ 9223372036854775807 ∧ ∀ x ∈ d.toList, Fits s x
  | .pair a b, d => Fits a d.fst ∧ Fits b d.snd
  | .unit, _ => True
def conseq (P : Program) : List Field → Nat → Bool
  | [], _ => true
  | f :: r, off => f.offset == off && conseq P r (off + P.cellsOf f.type)
/-- the fields stand one behind the other; elements have cells -/
def layOK (P : Program) : Nat → TypeId → Bool
  | 0, _ => false
  | n + 1, t => match P.underlying t with
    | some (.slice e) => layOK P n e && decide (0 < P.cellsOf e)
    | some (.struct fs) => conseq P fs.toList 0 && fs.toList.all (fun f => layOK P n f.type)
    | some (.int _) => true
    | some .bool => true
    | some .string => true
    | _ => false
section
variable {H : Type} {enc : TypeId × Value → H} {P : Program} {w : World} {base : Nat} {spare : Nat → Bool} {held : Bool}
theorem shOf_cells {n : Nat} {t : TypeId} {s : Sh} (h : shOf P n t = some s) : s.size = P.cellsOf t := by
  cases n with
  | zero => cases h
  | succ n =>
    unfold shOf at h
    split at h
    · rename_i i d hi hd
      simp only at h
      split at h
      · split at h
        · rename_i hs
          cases h
          rw [hs]
          unfold Program.cellsOf
          rw [hi]
          rfl
        · cases h
      · cases h
    · cases h
def fieldsSh (f : TypeId → Option Sh) (l : List Field) : Option Sh := l.foldr (fun x acc => match f x.type, acc with | some a, some b => some (.pair a b) | _, _ => none) (some .unit)
theorem fieldsSh_cons {f : TypeId → Option Sh} {x : Field} {r : List Field} {s : Sh} (h : fieldsSh f (x :: r) = some s) : ∃ a b, f x.type = some a ∧ fieldsSh f r = some b ∧ s = .pair a b := by
  unfold fieldsSh at h ⊢
  simp only [List.foldr_cons] at h
  split at h
  · rename_i a b h1 h2
    cases h
    exact ⟨a, b, h1, h2, rfl⟩
  · cases h
theorem shOf_cases {n : Nat} {t : TypeId} {s : Sh} (h : shOf P (n + 1) t = some s) :
    (∃ k, P.underlying t = some (.int k) ∧ s = .int k) ∨ (P.underlying t = some .bool ∧ s = .bool) ∨ (P.underlying t = some .string ∧ s = .str) ∨
    (∃ e s', P.underlying t = some (.slice e) ∧ shOf P n e = some s' ∧ s = .slice s') ∨ (∃ fs, P.underlying t = some (.struct fs) ∧ fieldsSh (shOf P n) fs.toList = some s) := by
  unfold shOf at h
  split at h
  · rename_i i d hi hd
    simp only at h
    split at h
    · rename_i s0 hs0
      split at h
      · cases h
        rw [hd]
        split at hs0
        · cases hs0; exact .inl ⟨_, rfl, rfl⟩
        · cases hs0; exact .inr (.inl ⟨rfl, rfl⟩)
        · cases hs0; exact .inr (.inr (.inl ⟨rfl, rfl⟩))
        · rename_i e
          rw [Option.map_eq_some_iff] at hs0
          obtain ⟨s', h1, h2⟩ := hs0
          exact .inr (.inr (.inr (.inl ⟨e, s', rfl, h1, h2.symm⟩)))
        · rename_i fs
          exact .inr (.inr (.inr (.inr ⟨fs, rfl, hs0⟩)))
        · cases hs0
      · cases h
    · cases h
  · cases h
theorem trod_fields {n : Nat} {fuel : Nat} (ih : ∀ (t : TypeId) (s : Sh), shOf P n t = some s → layOK P n t = true → ∀ (cs : List Value) (x : DataW H × List MemPlace), DataW.trod enc P w base spare held fuel t cs = some x → DR (C0 w) s (toDat s x.1) cs ∧ Fits s (toDat s x.1)) :
    ∀ (l : List Field) (off : Nat) (s : Sh) (cs : List Value) (xs : List (DataW H × List MemPlace)), conseq P l off = true → l.all (fun f => layOK P n f.type) = true → fieldsSh (shOf P n) l = some s → cs.length = off + s.size → xs.length = l.length →
      (∀ (i : Nat) (f : Field), l[i]? = some f → DataW.trod enc P w base spare held fuel f.type ((cs.drop f.offset).take (P.cellsOf f.type)) = xs[i]?) →
      DR (C0 w) s (toDat s (.agg (xs.map (·.1)))) (cs.drop off) ∧ Fits s (toDat s (.agg (xs.map (·.1))))
  | [], off, s, cs, xs, _, _, hs, hl, hx, _ => by
    cases hs
    simp only [DR, Fits]
    exact ⟨by simp [Sh.size] at hl; simp [hl], trivial⟩
  | f :: l, off, s, cs, xs, hc, ha, hs, hl, hx, h => by
    obtain ⟨a, b, h1, h2, rfl⟩ := fieldsSh_cons hs
    simp only [conseq, Bool.and_eq_true, beq_iff_eq] at hc
    simp only [List.all_cons, Bool.and_eq_true] at ha
    obtain ⟨x, xs, rfl⟩ : ∃ y ys, xs = y :: ys := by cases xs with | nil => simp at hx | cons y ys => exact ⟨y, ys, rfl⟩
    have h0 := h 0 f rfl
    rw [hc.1] at h0
    have hsz := shOf_cells h1
    obtain ⟨r1, r2⟩ := ih _ _ h1 ha.1 _ x h0
    have hl' : cs.length = (off + P.cellsOf f.type) + b.size := by rw [hl]; simp only [Sh.size]; omega
    obtain ⟨r3, r4⟩ := trod_fields ih l (off + P.cellsOf f.type) b cs xs hc.2 ha.2 h2 hl' (by simpa using hx) fun i g hg => by simpa using h (i + 1) g (by simpa using hg)
    simp only [List.map_cons, toDat, DR, Fits]
    refine ⟨⟨_, _, ?_, r1, r3⟩, r2, r4⟩
    rw [← List.drop_drop, List.take_append_drop]
/-- an argument's data -/
theorem trod_dr : ∀ (n : Nat) (t : TypeId) (s : Sh), shOf P n t = some s → layOK P n t = true → ∀ (fuel : Nat) (cs : List Value) (x : DataW H × List MemPlace), DataW.trod enc P w base spare held fuel t cs = some x → DR (C0 w) s (toDat s x.1) cs ∧ Fits s (toDat s x.1)
  | 0, _, _, h, _, _, _, _, _ => by cases h
  | n + 1, t, s, h, hlay, fuel, cs, x, hx => by
    rcases shOf_cases h with ⟨k, hu, rfl⟩ | ⟨hu, rfl⟩ | ⟨hu, rfl⟩ | ⟨e, s', hu, hs', rfl⟩ | ⟨fs, hu, hs'⟩
    · obtain ⟨m, rfl, rfl, hw⟩ := DataW.trod_int hu hx
      refine ⟨rfl, ?_⟩
      simpa [Lit.wf, Fits, toDat, Dat.toInt] using hw
    · obtain ⟨b, rfl, rfl⟩ := DataW.trod_bool hu hx
      exact ⟨rfl, trivial⟩
    · obtain ⟨b, rfl, rfl, hw⟩ := DataW.trod_string hu hx
      exact ⟨rfl, hw⟩
    · unfold layOK at hlay
      rw [hu] at hlay
      simp only [Bool.and_eq_true, decide_eq_true_eq] at hlay
      have hsz := shOf_cells hs'
      rcases DataW.trod_slice hu hx with ⟨rfl, rfl⟩ | ⟨a, len, cap, elems, rest, m, rfl, rfl, rfl, hb, hlc, hcm, hel, hat, _, _⟩
      · simp only [DR, toDat, Dat.toList, Fits]
        exact ⟨⟨_, rfl, none, 0, rfl, Nat.le_refl _, fun hn => absurd rfl hn⟩, Nat.zero_le _, fun x hx => by cases hx⟩
      · simp only [DR, toDat, Dat.toList, Fits]
        have each : ∀ (i : Nat) (y : DataW H × List MemPlace), elems[i]? = some y → ∃ cs', w.cells? base (a.add (i * P.cellsOf e)) (P.cellsOf e) = some cs' ∧ DR (C0 w) s' (toDat s' y.1) cs' ∧ Fits s' (toDat s' y.1) := by
          intro i y hy
          have hlt : i < len := by rw [← hel]; exact (List.getElem?_eq_some_iff.1 hy).1
          have h1 := hat i hlt
          rw [hy, Option.bind_eq_some_iff] at h1
          obtain ⟨cs', h2, h3⟩ := h1
          exact ⟨cs', h2, trod_dr n e s' hs' hlay.1 m cs' y h3⟩
        refine ⟨⟨_, rfl, some a, cap, by simp [hel], by simp [hel, hlc], fun hn => ?_⟩, by simp [hel]; exact Nat.le_trans hlc hcm, fun x hx => ?_⟩
        · obtain ⟨b, off, spot⟩ := a
          have hne : elems ≠ [] := by intro e; subst e; simp at hn
          obtain ⟨y, ys, rfl⟩ : ∃ y ys, elems = y :: ys := by cases elems with | nil => exact absurd rfl hne | cons y ys => exact ⟨y, ys, rfl⟩
          obtain ⟨cs', h1, _, _⟩ := each 0 y rfl
          obtain ⟨_, hl1, hc1⟩ := World.cells?_some h1
          have g0 := hc1 0 hlay.2
          have hc0 : ∃ c0, cs'[0]? = some c0 := by
            cases cs' with
            | nil => simp at hl1; omega
            | cons c _ => exact ⟨c, rfl⟩
          obtain ⟨c0, hc0⟩ := hc0
          rw [hc0] at g0
          have hspot : spot = none := by simpa [Addr.add] using World.cell?_spot g0
          subst hspot
          refine ⟨b, off, rfl, fun i d hd => ?_⟩
          rw [List.map_map, List.getElem?_map, Option.map_eq_some_iff] at hd
          obtain ⟨y', hy', rfl⟩ := hd
          obtain ⟨cs2, h2, h3, _⟩ := each i y' hy'
          obtain ⟨_, hl2, hc2⟩ := World.cells?_some h2
          refine ⟨cs2, by rw [hl2, hsz], h3, fun j u hu2 => ?_⟩
          have hj : j < P.cellsOf e := by rw [← hl2]; exact (List.getElem?_eq_some_iff.1 hu2).1
          have h4 := hc2 j hj
          rw [add_plain, add_plain] at h4
          rw [hsz]
          exact h4.trans hu2
        · rw [List.map_map, List.mem_map] at hx
          obtain ⟨y', hy', rfl⟩ := hx
          obtain ⟨i, hi⟩ := List.getElem?_of_mem hy'
          obtain ⟨_, _, _, h3⟩ := each i y' hi
          exact h3
    · unfold layOK at hlay
      rw [hu] at hlay
      simp only [Bool.and_eq_true] at hlay
      obtain ⟨xs, m, rfl, rfl, hl, hn, hat⟩ := DataW.trod_struct hu hx
      have hsz := shOf_cells h
      have := trod_fields (fun t s h1 h2 cs x h3 => trod_dr n t s h1 h2 m cs x h3) fs.toList 0 s cs xs hlay.1 hlay.2 hs' (by omega) (by simpa using hn) fun i f hf => hat i f (by simpa using hf)
      simpa using this
end
/-! ### Arguments as the machine's values -/
def argA (P : Program) (t : TypeId) (s : Sh) (x : Dat) : AV := match isAgA P t with
  | some true => .agg (enc s x)
  | _ => (enc s x).headD au
def own0 : Own := ⟨fun _ => none, fun _ => False⟩
def h0 : AH := ⟨[], []⟩
section
variable {H : Type} {enc : TypeId × Value → H} {P : Program} {W : World} {base : Nat} {spare : Nat → Bool} {held : Bool}
theorem not_live0 (g : Nat) : ¬ Live own0 h0 g := fun ⟨id, pl, h1, h2, _⟩ => (by cases h2)
theorem Cw0 {g o : Nat} {u : Value} (h : C0 W g o u) : Cw own0 h0 W g o u := ⟨⟨not_live0 g, fun h => h⟩, h⟩
theorem HR0 (hT : (∀ g o u, T0 g o u → W.cell? ⟨g, o, none⟩ = some u) ∧ ∀ g, R1 g → T1 g W.heap[g]?) : HR own0 h0 W :=
  ⟨fun id hl => (by unfold AH.get h0 at hl; simp at hl; exact hl.elim), fun _ _ _ _ _ _ h3 => (by cases h3), fun _ _ => rfl, ⟨fun g hg => hg.elim, fun g o u hg => Cw0 (hT.1 g o u hg), hT.2⟩⟩
theorem arg_vr {t : TypeId} {s : Sh} {r : Reach} {b0 : Nat} {v : Value} {d : DataW H} {ps : List MemPlace} (hs : shT P t = some s) (hlay : layOK P 12 t = true) (hval : Value.okWide P W r b0 t v)
    (hd : DataW.Trod enc P W base spare held t v d ps) : VR own0 (Cw own0 h0 W) (argA P t s (toDat s d)) v ∧ Fits s (toDat s d) := by
  obtain ⟨fuel, hd⟩ := hd
  obtain ⟨h1, h2⟩ := trod_dr 12 t s hs hlay fuel _ _ hd
  refine ⟨?_, h2⟩
  have h3 : VRs own0 (Cw own0 h0 W) (AM.enc s (toDat s d)) v.cells.toList := (DR.enc.1 h1).mono (fun _ _ h => h) fun g o u h => Cw0 h
  have one : v.cells = #[v] → isAgA P t = some false → VR own0 (Cw own0 h0 W) (argA P t s (toDat s d)) v := fun hc ha => by
    unfold argA
    rw [ha]
    rw [hc] at h3
    simp only
    revert h3
    generalize AM.enc s (toDat s d) = l
    intro h3
    cases l with
    | nil => have := VRs.nil_iff.1 h3; cases this
    | cons a l =>
      obtain ⟨v', r, h4, h5, _⟩ := VRs.cons_iff.1 h3
      cases h4
      exact h5
  rcases shOf_cases hs with ⟨k, hu, rfl⟩ | ⟨hu, rfl⟩ | ⟨hu, rfl⟩ | ⟨e, s', hu, hs', rfl⟩ | ⟨fs, hu, hs'⟩
  · obtain ⟨n, rfl⟩ := okWide_int hu hval
    exact one rfl (by unfold isAgA; rw [hu])
  · obtain ⟨n, rfl⟩ := okWide_bool hu hval
    exact one rfl (by unfold isAgA; rw [hu])
  · obtain ⟨n, rfl⟩ := okWide_string hu hval
    exact one rfl (by unfold isAgA; rw [hu])
  · obtain ⟨a, n, c, rfl⟩ := okWide_slice hu hval
    exact one rfl (by unfold isAgA; rw [hu])
  · obtain ⟨cs, rfl, _⟩ := okWide_struct hu hval
    unfold argA
    have ha : isAgA P t = some true := by unfold isAgA; rw [hu]
    rw [ha]
    simp only [VR]
    exact ⟨cs, rfl, h3⟩
/-- what a row asks of a law that has answered true -/
theorem post_true {f : Func} {s : ChangeSpec} {apart fresh handsOn again : Bool} {W' : World} {args : Array Value} {ds gs : List (DataW H)} {before : List MemPlace} {tb : TypeId} (hW : DataW.Whole enc P f.params.toList s.vars apart W args.toList ds gs before)
    (hv : s.vars = []) (hr : f.resultTypes = #[tb]) (hb : P.underlying tb = some .bool) (hfn : s.fn H (ds ++ gs) = { results := [.lit (.bool true)], args := ds })
    (hl : laidOutB P = true) (hts : ∀ t ∈ f.params.toList, P.readableRec t = true ∧ t < P.types.size) (hB : Below W.heap.size W W') : s.post enc P f apart fresh handsOn again W args (.bool true) W' := by
  have hlt : ∀ p ∈ before, p.block < W.heap.size := fun p hp => hW.lt p hp
  obtain ⟨p, q, hA, hV, rfl, hz, hn⟩ := id hW
  rw [hv] at hV
  obtain ⟨rfl, rfl⟩ := trodVars_none hV
  simp only [List.append_nil] at *
  have hA' : ∀ sp : Nat → Bool, (∀ x ∈ p, sp x.block = true) → ∀ {ts : List TypeId} {vs : List Value} {es : List (DataW H)} {qs : List MemPlace}, (∀ t ∈ ts, P.readableRec t = true ∧ t < P.types.size) → (∀ x ∈ qs, x ∈ p) →
      DataW.TrodAll enc P W 0 (fun _ => true) true ts vs es qs → DataW.TrodAll enc P W' 0 sp true ts vs es qs := by
    intro sp hsp ts
    induction ts with
    | nil =>
      intro vs es qs _ _ h
      cases vs <;> cases es <;> first | exact h | exact h.elim
    | cons t ts ih =>
      intro vs es qs h1 h2 h
      obtain ⟨v, vs1, d, ds1, a, b, rfl, rfl, rfl, h3, h4⟩ := trodAll_cons h
      have ht := h1 t (by simp)
      exact ⟨a, b, WideElems.Trod_stays hl ht.1 ht.2 h3 (fun x hx => hB.same (hlt x (h2 x (by simp [hx])))) (fun x hx => hsp x (h2 x (by simp [hx]))), ih (fun t' h' => h1 t' (by simp [h'])) (fun x hx => h2 x (by simp [hx])) h4, rfl⟩
  have hres : ∀ (b : Nat) (sp : Nat → Bool) (hd : Bool), DataW.TrodAll enc P W' b sp hd f.resultTypes.toList ((Value.bool true).resultList f.resultTypes.size) [.lit (.bool true)] [] := fun b sp hd => by
    rw [hr]
    exact trodAll_mk1 ⟨1, by unfold DataW.trod; rw [hb]; rfl⟩
  have hvs : ∀ sp : Nat → Bool, DataW.TrodVars enc P W' sp s.vars ([] : List (DataW H)) [] := fun sp => by rw [hv]; rfl
  refine ⟨ds, [], p, [], p, [], by simpa using hW, ?_, ?_, ?_, World.keptBut_mono (fun x hx => ⟨hx, .inr (.inl hx)⟩) (hB.frame (· ∈ p)), fun _ => ?_⟩
  · rw [List.append_nil, hfn]; exact hres _ _ _
  · rw [List.append_nil, hfn]; exact hA' _ (fun x hx => by simpa using hlt x hx) hts (fun _ h => h) hA
  · rw [List.append_nil, hfn]; exact hvs _
  · refine ⟨?_, [.lit (.bool true)] ++ ds, [], p, ⟨[] ++ p, [], trodAll_append (hA' _ (fun _ _ => rfl) hts (fun _ h => h) hA) (hres _ _ _), hvs _, by simp, ?_, ?_⟩, fun _ hx _ => hx⟩
    · intro j t r h1 h2
      rw [hr] at h1 h2
      match j, h1, h2 with
      | 0, h1, h2 =>
        simp [Value.resultList] at h1 h2
        subst h1; subst h2
        exact okWide_bool_mk hb true
      | j + 1, h1, _ => simp at h1
    · intro b off hp
      rw [hB.frozen (hlt _ hp)]
      exact hz b off hp
    · intro ha
      exact hn ha
theorem ext_below {own' : Own} {h' : AH} {W' : World} (hE : Ext own0 h0 W own' h' W') : Below W.heap.size W W' := ⟨hE.os, hE.tape, hE.output, hE.size, fun k hk => (hE.fz k hk (not_live0 k)).2⟩
def isTrue : AV → AH → Prop := fun v _ => match v with
  | .c (.bool true) => True
  | _ => False
theorem isTrue_of {av : AV} {h : AH} (hk : isTrue av h) : av = .c (.bool true) := by
  unfold isTrue at hk
  split at hk
  · rfl
  · exact hk.elim
/-- the arguments, one behind the other -/
theorem args_vr : ∀ {ts : List TypeId} {ss : List Sh} {vs : List Value} {ds : List (DataW H)} {ps : List MemPlace} {r : Reach} {b0 : Nat}, ts.map (shT P) = ss.map some → (∀ t ∈ ts, layOK P 12 t = true) →
    (∀ (j : Nat) t v, ts[j]? = some t → vs[j]? = some v → Value.okWide P W r b0 t v) → DataW.TrodAll enc P W base spare held ts vs ds ps →
    VRs own0 (Cw own0 h0 W) ((ts.zip (ss.zip ds)).map fun x => argA P x.1 x.2.1 (toDat x.2.1 x.2.2)) vs ∧ (∀ x ∈ ss.zip ds, Fits x.1 (toDat x.1 x.2)) ∧ ds.length = ss.length
  | [], ss, vs, ds, ps, r, b0, hss, _, _, h => by
    obtain ⟨rfl, rfl, rfl⟩ := trodAll_nil h
    have : ss = [] := by simpa using hss.symm
    subst this
    exact ⟨.nil, by simp, rfl⟩
  | t :: ts, ss, vs, ds, ps, r, b0, hss, hl, hv, h => by
    obtain ⟨v, vs1, d, ds1, a, b, rfl, rfl, rfl, h3, h4⟩ := trodAll_cons h
    obtain ⟨s, ss, rfl⟩ : ∃ s r, ss = s :: r := by cases ss with | nil => simp at hss | cons s r => exact ⟨s, r, rfl⟩
    simp only [List.map_cons, List.cons.injEq] at hss
    obtain ⟨h5, h6⟩ := arg_vr hss.1 (hl t (by simp)) (hv 0 t v rfl rfl) h3
    obtain ⟨h7, h8, h9⟩ := args_vr hss.2 (fun t' h' => hl t' (by simp [h'])) (fun j t' v' h' h'' => hv (j + 1) t' v' (by simpa using h') (by simpa using h'')) h4
    exact ⟨.cons h5 h7, fun x hx => (by
      rw [List.zip_cons_cons, List.mem_cons] at hx
      rcases hx with rfl | hx
      · exact h6
      · exact h8 x hx), by simp [h9]⟩
/-- A LAW's CONTRACT, FROM WHAT THE MACHINE SAYS. -/
theorem law_contract {T : Tys} {G : Rules} (hS : Sound P T G) {f : FuncId} {fn : Func} {s : ChangeSpec} {apart fresh handsOn again : Bool} {args : Array Value} {ds gs : List (DataW H)} {before : List MemPlace} {tb : TypeId} {ss : List Sh} {r : Reach} {b0 n : Nat}
    (hT : (∀ g o u, T0 g o u → W.cell? ⟨g, o, none⟩ = some u) ∧ ∀ g, R1 g → T1 g W.heap[g]?)
    (hval : ∀ (j : Nat) t v, fn.params[j]? = some t → args[j]? = some v → Value.okWide P W r b0 t v)
    (hW : DataW.Whole enc P fn.params.toList s.vars apart W args.toList ds gs before)
    (hv : s.vars = []) (hr : fn.resultTypes = #[tb]) (hb : P.underlying tb = some .bool) (hfn : ds.length = ss.length → s.fn H (ds ++ gs) = { results := [.lit (.bool true)], args := ds })
    (hl : laidOutB P = true) (hts : fn.params.toList.all (fun t => P.readableRec t && decide (t < P.types.size) && layOK P 12 t) = true) (hss : fn.params.toList.map (shT P) = ss.map some)
    (hA : (∀ x ∈ ss.zip ds, Fits x.1 (toDat x.1 x.2)) → ∃ l, ((fn.params.toList.zip (ss.zip ds)).map fun x => argA P x.1 x.2.1 (toDat x.2.1 x.2.2)) = l ∧ callA P T G n f l h0 isTrue = True) :
    Calls P f args W fun e W' => ∃ v, e = .returned v ∧ s.post enc P fn apart fresh handsOn again W args v W' := by
  have hts' : ∀ t ∈ fn.params.toList, P.readableRec t = true ∧ t < P.types.size ∧ layOK P 12 t = true := fun t ht => by
    have := List.all_eq_true.1 hts t ht
    simp only [Bool.and_eq_true, decide_eq_true_eq] at this
    exact ⟨this.1.1, this.1.2, this.2⟩
  obtain ⟨p, q, hA0, hV, rfl, hz, hn⟩ := id hW
  obtain ⟨h1, h2, h3⟩ := args_vr (r := r) (b0 := b0) hss (fun t ht => (hts' t ht).2.2) (fun j t v h h' => hval j t v (by simpa using h) (by simpa using h')) hA0
  obtain ⟨l, hl1, hA⟩ := hA h2
  rw [hl1] at h1
  refine (callA_sound hS (of_eq_true hA) (HR0 hT) h1).mono fun e W' he => ?_
  obtain ⟨v, own', h', av, rfl, hR, hE, hvr, hk⟩ := he
  rw [isTrue_of hk] at hvr
  simp only [VR] at hvr
  subst hvr
  exact ⟨_, rfl, post_true hW hv hr hb (hfn h3) hl (fun t ht => ⟨(hts' t ht).1, (hts' t ht).2.1⟩) (ext_below hE)⟩
end
end AM
end Go
