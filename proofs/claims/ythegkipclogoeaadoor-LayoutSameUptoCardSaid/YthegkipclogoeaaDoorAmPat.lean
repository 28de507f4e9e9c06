/- Forms of frames and heaps, with their data left open: whether a frame and a heap have the form, which data they bear; contracts and loops' rules by them. -/
import Derived.Test.YthegkipclogoeaaDoorAmNm
import Derived.Test.YthegkipclogoeaaDoorAmTbl
set_option linter.unusedVariables false
set_option linter.unusedSimpArgs false
namespace Go
namespace AM
open LMem LTxt
inductive PA where
  | any
  | int (k : IntKind)
  | bool
  | str
  | nilP
  | nilS
  | nilF
  | p (id off : Nat)
  | sl (id : Nat)
  | ro (s : Sh)
  | agg (l : List PA)
  | tup (l : List PA)
  | fn (f : FuncId) (l : List PA)
inductive PB where
  | cells (T : TypeId) (l : List PA)
  | seq (E : TypeId) (s : Sh)
  | iter
  | mix (E : TypeId) (s : Sh) (a : PA)
abbrev MR := Option (List Dat × List (Nat × Nat))
mutual
def PA.nv : PA → Nat
  | .int _ => 1
  | .bool => 1
  | .str => 1
  | .ro _ => 1
  | .agg l => nvs l
  | .tup l => nvs l
  | .fn _ l => nvs l
  | _ => 0
def nvs : List PA → Nat
  | [] => 0
  | a :: l => a.nv + nvs l
end
def PB.nv : PB → Nat
  | .cells _ l => nvs l
  | .seq _ _ => 1
  | .iter => 2
  | .mix _ _ a => 1 + a.nv
def nvb : List PB → Nat
  | [] => 0
  | a :: l => a.nv + nvb l
mutual
def mV : PA → AV → MR
  | .any, a => match a with | .any => some ([], []) | _ => none
  | .int k, a => match a with | .c (.int k' n) => (if k = k' then some ([.int n], []) else none) | _ => none
  | .bool, a => match a with | .c (.bool b) => some ([.bool b], []) | _ => none
  | .str, a => match a with | .c (.string s) => some ([.str s], []) | _ => none
  | .nilP, a => match a with | .c (.pointer none) => some ([], []) | _ => none
  | .nilS, a => match a with | .c (.slice none 0 0) => some ([], []) | _ => none
  | .nilF, a => match a with | .c .nilFunc => some ([], []) | _ => none
  | .p id off, a => match a with | .p i o => (match Nat.beq id i && Nat.beq off o with | true => some ([], []) | false => none) | _ => none
  | .sl id, a => match a with | .sl i o n => (match Nat.beq id i && Nat.beq 0 o with | true => some ([], [(id, n)]) | false => none) | _ => none
  | .ro s, a => match a with | .ro s' xs => (if s = s' then some ([.list xs], []) else none) | _ => none
  | .agg m, a => match a with | .agg l => mVs m l | _ => none
  | .tup m, a => match a with | .tup l => mVs m l | _ => none
  | .fn f m, a => match a with | .fn g l => (match Nat.beq f g with | true => mVs m l | false => none) | _ => none
def mVs : List PA → List AV → MR
  | m :: ms, l => match l with
    | a :: l => match mV m a with
      | some (d, e) => match mVs ms l with
        | some (d2, e2) => some (d ++ d2, e ++ e2)
        | none => none
      | none => none
    | [] => none
  | [], l => match l with | [] => some ([], []) | _ => none
end
def mB : PB → AB → MR
  | .cells T m, b => match b with | .cells T' l => (match Nat.beq T T' with | true => mVs m l | false => none) | _ => none
  | .seq E s, b => match b with | .seq E' s' xs => (match Nat.beq E E' with | true => (if s = s' then some ([.list xs], []) else none) | false => none) | _ => none
  | .iter, b => match b with | .iter s pos => some ([.str s, .int pos], []) | _ => none
  | .mix E s m, b => match b with | .mix E' s' xs a => (match Nat.beq E E' with | true => (if s = s' then (match mV m a with | some (d, e) => some (.list xs :: d, e) | none => none) else none) | false => none) | _ => none
def mBs : List PB → List AB → MR
  | m :: ms, l => match l with
    | a :: l => match mB m a with
      | some (d, e) => match mBs ms l with
        | some (d2, e2) => some (d ++ d2, e ++ e2)
        | none => none
      | none => none
    | [] => none
  | [], l => match l with | [] => some ([], []) | _ => none
/-- the datum of a number -/
def dat (ds : List Dat) (i : Nat) : Dat := ds.getD i default
mutual
def instV (ln : Nat → Nat) (ds : List Dat) : Nat → PA → AV
  | i, .any => .any
  | i, .int k => .c (.int k (dat ds i).toInt)
  | i, .bool => .c (.bool (dat ds i).toBool)
  | i, .str => .c (.string (dat ds i).toStr)
  | i, .nilP => .c (.pointer none)
  | i, .nilS => .c (.slice none 0 0)
  | i, .nilF => .c .nilFunc
  | i, .p id off => .p id off
  | i, .sl id => .sl id 0 (ln id)
  | i, .ro s => .ro s (dat ds i).toList
  | i, .agg l => .agg (instVs ln ds i l)
  | i, .tup l => .tup (instVs ln ds i l)
  | i, .fn f l => .fn f (instVs ln ds i l)
def instVs (ln : Nat → Nat) (ds : List Dat) : Nat → List PA → List AV
  | i, [] => []
  | i, a :: l => instV ln ds i a :: instVs ln ds (i + a.nv) l
end
def instB (ln : Nat → Nat) (ds : List Dat) (i : Nat) : PB → AB
  | .cells T l => .cells T (instVs ln ds i l)
  | .seq E s => .seq E s (dat ds i).toList
  | .iter => .iter (dat ds i).toStr (dat ds (i + 1)).toInt.toNat
  | .mix E s m => .mix E s (dat ds i).toList (instV ln ds (i + 1) m)
def instBs (ln : Nat → Nat) (ds : List Dat) : Nat → List PB → List AB
  | i, [] => []
  | i, a :: l => instB ln ds i a :: instBs ln ds (i + a.nv) l
/-- the number of a block's datum -/
def slotOf : List PB → Nat → Nat → Nat
  | [], i, _ => i
  | b :: l, i, 0 => i
  | b :: l, i, k + 1 => slotOf l (i + b.nv) k
/-- is the block a row whose last element is written? -/
def isMix : List PB → Nat → Bool
  | [], _ => false
  | b :: l, 0 => match b with | .mix .. => true | _ => false
  | b :: l, k + 1 => isMix l k
def lens (ph : List PB) (base : Nat) (ds : List Dat) (id : Nat) : Nat := match isMix ph id with
  | true => (dat ds (slotOf ph base id)).toList.length + 1
  | false => (dat ds (slotOf ph base id)).toList.length
def eqsP (ln : Nat → Nat) : List (Nat × Nat) → Prop → Prop
  | [], K => K
  | (id, n) :: l, K => (n = ln id) ∧ eqsP ln l K
theorem eqsP_iff {ln : Nat → Nat} {K : Prop} : ∀ {l : List (Nat × Nat)}, eqsP ln l K ↔ (∀ x ∈ l, x.2 = ln x.1) ∧ K
  | [] => by simp [eqsP]
  | (id, n) :: l => by
    simp only [eqsP, eqsP_iff (l := l), List.mem_cons, forall_eq_or_imp]
    exact and_assoc.symm
theorem dat_mid {pre d post : List Dat} {i : Nat} (hi : i < d.length) : dat (pre ++ d ++ post) (pre.length + i) = dat d i := by
  unfold dat
  simp only [List.getD_eq_getElem?_getD]
  rw [List.append_assoc, List.getElem?_append_right (by omega), Nat.add_sub_cancel_left, List.getElem?_append_left hi]
mutual
theorem mV_spec : ∀ {m : PA} {a : AV} {d : List Dat} {e : List (Nat × Nat)}, mV m a = some (d, e) → d.length = m.nv ∧ ∀ (ln : Nat → Nat) (pre post : List Dat), (∀ x ∈ e, x.2 = ln x.1) → a = instV ln (pre ++ d ++ post) pre.length m
  | .any, a, d, e, h => by
    simp only [mV] at h
    split at h <;> first | (cases h; done) | skip
    cases h; exact ⟨rfl, fun _ _ _ _ => rfl⟩
  | .int k, a, d, e, h => by
    simp only [mV] at h
    split at h <;> first | (cases h; done) | skip
    rename_i k' n
    split at h <;> first | (cases h; done) | skip
    rename_i hk
    subst hk
    cases h
    refine ⟨rfl, fun ln pre post _ => ?_⟩
    have := dat_mid (pre := pre) (post := post) (d := [Dat.int n]) (i := 0) (by simp)
    simp only [Nat.add_zero] at this
    simp only [instV, this]
    rfl
  | .bool, a, d, e, h => by
    simp only [mV] at h
    split at h <;> first | (cases h; done) | skip
    rename_i b
    cases h
    refine ⟨rfl, fun ln pre post _ => ?_⟩
    have := dat_mid (pre := pre) (post := post) (d := [Dat.bool b]) (i := 0) (by simp)
    simp only [Nat.add_zero] at this
    simp only [instV, this]
    rfl
  | .str, a, d, e, h => by
    simp only [mV] at h
    split at h <;> first | (cases h; done) | skip
    rename_i b
    cases h
    refine ⟨rfl, fun ln pre post _ => ?_⟩
    have := dat_mid (pre := pre) (post := post) (d := [Dat.str b]) (i := 0) (by simp)
    simp only [Nat.add_zero] at this
    simp only [instV, this]
    rfl
  | .nilP, a, d, e, h => by
    simp only [mV] at h
    split at h <;> first | (cases h; done) | skip
    cases h; exact ⟨rfl, fun _ _ _ _ => rfl⟩
  | .nilS, a, d, e, h => by
    simp only [mV] at h
    split at h <;> first | (cases h; done) | skip
    cases h; exact ⟨rfl, fun _ _ _ _ => rfl⟩
  | .nilF, a, d, e, h => by
    simp only [mV] at h
    split at h <;> first | (cases h; done) | skip
    cases h; exact ⟨rfl, fun _ _ _ _ => rfl⟩
  | .p id off, a, d, e, h => by
    simp only [mV] at h
    split at h <;> first | (cases h; done) | skip
    rename_i i o
    split at h <;> first | (cases h; done) | skip
    rename_i hb
    simp only [Bool.and_eq_true] at hb
    have h1 := Nat.eq_of_beq_eq_true hb.1
    have h2 := Nat.eq_of_beq_eq_true hb.2
    subst h1 h2
    cases h; exact ⟨rfl, fun _ _ _ _ => rfl⟩
  | .sl id, a, d, e, h => by
    simp only [mV] at h
    split at h <;> first | (cases h; done) | skip
    rename_i i o n
    split at h <;> first | (cases h; done) | skip
    rename_i hb
    simp only [Bool.and_eq_true] at hb
    have h1 := Nat.eq_of_beq_eq_true hb.1
    have h2 := Nat.eq_of_beq_eq_true hb.2
    subst h1 h2
    cases h
    refine ⟨rfl, fun ln pre post he => ?_⟩
    simp only [instV]
    rw [← he (id, n) (by simp)]
  | .ro s, a, d, e, h => by
    simp only [mV] at h
    split at h <;> first | (cases h; done) | skip
    split at h <;> first | (cases h; done) | skip
    rename_i s' xs hk
    subst hk
    cases h
    refine ⟨rfl, fun ln pre post _ => ?_⟩
    have := dat_mid (pre := pre) (post := post) (d := [Dat.list xs]) (i := 0) (by simp)
    simp only [Nat.add_zero] at this
    simp only [instV, this]
    rfl
  | .agg m, a, d, e, h => by
    simp only [mV] at h
    split at h <;> first | (cases h; done) | skip
    obtain ⟨h1, h2⟩ := mVs_spec h
    exact ⟨h1, fun ln pre post he => by simp only [instV]; rw [← h2 ln pre post he]⟩
  | .tup m, a, d, e, h => by
    simp only [mV] at h
    split at h <;> first | (cases h; done) | skip
    obtain ⟨h1, h2⟩ := mVs_spec h
    exact ⟨h1, fun ln pre post he => by simp only [instV]; rw [← h2 ln pre post he]⟩
  | .fn f m, a, d, e, h => by
    simp only [mV] at h
    split at h <;> first | (cases h; done) | skip
    rename_i g l
    split at h <;> first | (cases h; done) | skip
    rename_i hb
    have := Nat.eq_of_beq_eq_true hb
    subst this
    obtain ⟨h1, h2⟩ := mVs_spec h
    exact ⟨h1, fun ln pre post he => by simp only [instV]; rw [← h2 ln pre post he]⟩
theorem mVs_spec : ∀ {m : List PA} {a : List AV} {d : List Dat} {e : List (Nat × Nat)}, mVs m a = some (d, e) → d.length = nvs m ∧ ∀ (ln : Nat → Nat) (pre post : List Dat), (∀ x ∈ e, x.2 = ln x.1) → a = instVs ln (pre ++ d ++ post) pre.length m
  | [], a, d, e, h => by
    simp only [mVs] at h
    split at h <;> first | (cases h; done) | skip
    cases h; exact ⟨rfl, fun _ _ _ _ => rfl⟩
  | m :: ms, a, d, e, h => by
    simp only [mVs] at h
    split at h <;> first | (cases h; done) | skip
    split at h <;> first | (cases h; done) | skip
    rename_i d1 e1 hm1
    split at h <;> first | (cases h; done) | skip
    rename_i d2 e2 hm2
    cases h
    obtain ⟨h1, h2⟩ := mV_spec hm1
    obtain ⟨h3, h4⟩ := mVs_spec hm2
    refine ⟨by simp only [List.length_append, nvs]; omega, fun ln pre post he => ?_⟩
    simp only [instVs]
    have e1' := h2 ln pre (d2 ++ post) (fun x hx => he x (List.mem_append_left _ hx))
    have e2' := h4 ln (pre ++ d1) post (fun x hx => he x (List.mem_append_right _ hx))
    rw [show pre ++ d1 ++ (d2 ++ post) = pre ++ (d1 ++ d2) ++ post by simp] at e1'
    rw [show pre ++ d1 ++ d2 ++ post = pre ++ (d1 ++ d2) ++ post by simp, List.length_append, h1] at e2'
    rw [← e1', ← e2']
end
theorem mB_spec : ∀ {m : PB} {a : AB} {d : List Dat} {e : List (Nat × Nat)}, mB m a = some (d, e) → d.length = m.nv ∧ ∀ (ln : Nat → Nat) (pre post : List Dat), (∀ x ∈ e, x.2 = ln x.1) → a = instB ln (pre ++ d ++ post) pre.length m
  | .cells T m, a, d, e, h => by
    simp only [mB] at h
    split at h <;> first | (cases h; done) | skip
    rename_i T' l
    split at h <;> first | (cases h; done) | skip
    rename_i hb
    have := Nat.eq_of_beq_eq_true hb
    subst this
    obtain ⟨h1, h2⟩ := mVs_spec h
    exact ⟨h1, fun ln pre post he => by simp only [instB]; rw [← h2 ln pre post he]⟩
  | .seq E s, a, d, e, h => by
    simp only [mB] at h
    split at h <;> first | (cases h; done) | skip
    rename_i E' s' xs
    split at h <;> first | (cases h; done) | skip
    rename_i hb
    have := Nat.eq_of_beq_eq_true hb
    subst this
    split at h <;> first | (cases h; done) | skip
    rename_i hk
    subst hk
    cases h
    refine ⟨rfl, fun ln pre post _ => ?_⟩
    have := dat_mid (pre := pre) (post := post) (d := [Dat.list xs]) (i := 0) (by simp)
    simp only [Nat.add_zero] at this
    simp only [instB, this]
    rfl
  | .iter, a, d, e, h => by
    simp only [mB] at h
    split at h <;> first | (cases h; done) | skip
    rename_i s pos
    cases h
    refine ⟨rfl, fun ln pre post _ => ?_⟩
    have h1 := dat_mid (pre := pre) (post := post) (d := [Dat.str s, Dat.int pos]) (i := 0) (by simp)
    have h2 := dat_mid (pre := pre) (post := post) (d := [Dat.str s, Dat.int pos]) (i := 1) (by simp)
    simp only [Nat.add_zero] at h1
    simp only [instB, h1, h2]
    simp [dat, Dat.toStr, Dat.toInt]
  | .mix E s m, a, d, e, h => by
    simp only [mB] at h
    split at h <;> first | (cases h; done) | skip
    rename_i E' s' xs b
    split at h <;> first | (cases h; done) | skip
    rename_i hb
    have := Nat.eq_of_beq_eq_true hb
    subst this
    split at h <;> first | (cases h; done) | skip
    rename_i hk
    subst hk
    split at h <;> first | (cases h; done) | skip
    rename_i d1 e1 hm
    cases h
    obtain ⟨h1, h2⟩ := mV_spec hm
    refine ⟨by simp only [List.length_cons, PB.nv]; omega, fun ln pre post he => ?_⟩
    have h3 := dat_mid (pre := pre) (post := post) (d := Dat.list xs :: d1) (i := 0) (by simp)
    have h4 := h2 ln (pre ++ [Dat.list xs]) post he
    simp only [Nat.add_zero] at h3
    simp only [instB, h3]
    rw [show pre ++ [Dat.list xs] ++ d1 ++ post = pre ++ (Dat.list xs :: d1) ++ post by simp, List.length_append, List.length_singleton] at h4
    rw [← h4]
    rfl
theorem mBs_spec : ∀ {m : List PB} {a : List AB} {d : List Dat} {e : List (Nat × Nat)}, mBs m a = some (d, e) → d.length = nvb m ∧ ∀ (ln : Nat → Nat) (pre post : List Dat), (∀ x ∈ e, x.2 = ln x.1) → a = instBs ln (pre ++ d ++ post) pre.length m
  | [], a, d, e, h => by
    simp only [mBs] at h
    split at h <;> first | (cases h; done) | skip
    cases h; exact ⟨rfl, fun _ _ _ _ => rfl⟩
  | m :: ms, a, d, e, h => by
    simp only [mBs] at h
    split at h <;> first | (cases h; done) | skip
    split at h <;> first | (cases h; done) | skip
    rename_i d1 e1 hm1
    split at h <;> first | (cases h; done) | skip
    rename_i d2 e2 hm2
    cases h
    obtain ⟨h1, h2⟩ := mB_spec hm1
    obtain ⟨h3, h4⟩ := mBs_spec hm2
    refine ⟨by simp only [List.length_append, nvb]; omega, fun ln pre post he => ?_⟩
    simp only [instBs]
    have e1' := h2 ln pre (d2 ++ post) (fun x hx => he x (List.mem_append_left _ hx))
    have e2' := h4 ln (pre ++ d1) post (fun x hx => he x (List.mem_append_right _ hx))
    rw [show pre ++ d1 ++ (d2 ++ post) = pre ++ (d1 ++ d2) ++ post by simp] at e1'
    rw [show pre ++ d1 ++ d2 ++ post = pre ++ (d1 ++ d2) ++ post by simp, List.length_append, h1] at e2'
    rw [← e1', ← e2']
/-- a frame and a heap of a form, by the data -/
structure Form where
  pf : List PA
  ph : List PB
def Form.ln (F : Form) (ds : List Dat) : Nat → Nat := lens F.ph (nvs F.pf) ds
def Form.fr (F : Form) (ds : List Dat) : List AV := instVs (F.ln ds) ds 0 F.pf
def Form.hp (F : Form) (ds : List Dat) : AH := ⟨instBs (F.ln ds) ds (nvs F.pf) F.ph, []⟩
/-- frame and heap have the form: go on with the data -/
def Form.at (F : Form) (f : List AV) (h : AH) (K : List Dat → Prop) : Prop := match mVs F.pf f with
  | some (d1, e1) => match h.log with
    | [] => match mBs F.ph h.bl with
      | some (d2, e2) => eqsP (F.ln (d1 ++ d2)) (e1 ++ e2) (K (d1 ++ d2))
      | none => False
    | _ => False
  | none => False
theorem Form.at_spec {F : Form} {f : List AV} {h : AH} {K : List Dat → Prop} (hr : F.at f h K) : ∃ ds, f = F.fr ds ∧ h = F.hp ds ∧ K ds := by
  unfold Form.at at hr
  split at hr
  · rename_i d1 e1 h1
    split at hr
    · rename_i hl
      split at hr
      · rename_i d2 e2 h2
        obtain ⟨g1, g2⟩ := eqsP_iff.1 hr
        refine ⟨d1 ++ d2, ?_, ?_, g2⟩
        · have := (mVs_spec h1).2 (F.ln (d1 ++ d2)) [] d2 (fun x hx => g1 x (List.mem_append_left _ hx))
          simpa [Form.fr] using this
        · have := (mBs_spec h2).2 (F.ln (d1 ++ d2)) d1 [] (fun x hx => g1 x (List.mem_append_right _ hx))
          rw [(mVs_spec h1).1] at this
          obtain ⟨bl, lg⟩ := h
          simp only at hl this
          subst hl
          unfold Form.hp
          rw [this]
          simp
      · exact hr.elim
    · exact hr.elim
  · exact hr.elim
/-- forms of a long frame -/
def mkF : Nat → List (Nat × PA) → List PA
  | 0, _ => []
  | n + 1, l => match l with
    | (0, a) :: r => a :: mkF n (r.map fun x => (x.1 - 1, x.2))
    | l => .any :: mkF n (l.map fun x => (x.1 - 1, x.2))
def mkAV : Nat → List (Nat × AV) → List AV
  | 0, _ => []
  | n + 1, l => match l with
    | (0, a) :: r => a :: mkAV n (r.map fun x => (x.1 - 1, x.2))
    | l => .any :: mkAV n (l.map fun x => (x.1 - 1, x.2))

/-! ### Contracts by forms -/
section
variable {P : Program} {own own' : Own} {h h' : AH} {w w' : World}
theorem CRL.ext0 {K : AV → AH → Prop} (hE : Ext0 own h w own' h' w') (hf : Fix own h own' h') {e : Ending} {w2 : World} (hq : CRL K own' h' w' e w2) : CRL K own h w e w2 := by
  obtain ⟨v, own2, h2, av, h3, h4, h5, h6, h7, h8⟩ := hq
  exact ⟨v, own2, h2, av, h3, h4, hE.trans h5, hf.trans h6, h7, h8⟩
/-- arguments and structs put into form and order -/
def headA (P : Program) (C : List (Nat × Nat × VM)) (R : CallT) : CallT := fun args h K => normC C h fun h1 => gcK P h [] (.tup args) h1 fun a h' => match a with
  | .tup l => R l h' K
  | _ => False
theorem headA_ok {g : FuncId} {C : List (Nat × Nat × VM)} {R : CallT} (hR : LocalOK P g R) : LocalOK P g (headA P C R) := by
  intro args h K hf own w vs H hv
  obtain ⟨own1, h1, hk, H1, E1⟩ := normC_ok hf H
  have ht : VR own1 (Cw own1 h1 w) (.tup args) (.tuple vs.toArray) := by
    simp only [VR]
    exact ⟨_, rfl, E1.vrs hv⟩
  obtain ⟨own2, h2, a2, g1, g2, g3, g4, g5⟩ := gcK_ok hk H1 E1 H ht
  split at g5
  · rename_i l
    simp only [VR] at g4
    obtain ⟨us, g6, g7⟩ := g4
    cases g6
    exact (hR _ _ _ g5 own2 w vs g1 g7).mono fun e w' hq => hq.ext0 g2 g3
  · exact g5.elim
/-- what a function does, by the data of its form -/
def locF (F : Form) (mm : List Dat → (AV → AH → Prop) → Prop) : CallT := fun args h K => F.at args h fun ds => mm ds K
def ruleF (P : Program) (ms : List VM) (C : List (Nat × Nat × VM)) (F : Form) (mm : List Dat → (AV → AH → Prop) → Prop) : CallT := normA ms (frameK P (headA P C (locF F mm)))
/-- A CONTRACT BY THE MACHINE. -/
theorem ruleF_ok {T : Tys} {G : Rules} (hS : Sound P T G) {g : FuncId} {ms : List VM} {C C' : List (Nat × Nat × VM)} {m : VM} {F : Form} {mm : List Dat → (AV → AH → Prop) → Prop}
    (hm : ∀ ds K, callA P T G 1000 g (F.fr ds) (F.hp ds) (fun v h' => endK P C' m (F.hp ds) (F.fr ds) v h' K) = mm ds K) : CallOK P g (ruleF P ms C F mm) :=
  normA_ok (frame_ok (headA_ok (local_ok_n hS (C := C') (m := m) fun args h K hr => by
    obtain ⟨ds, rfl, rfl, hk⟩ := Form.at_spec hr
    exact ⟨1000, F.fr ds, (hm ds K).mpr hk⟩)))
/-- .. where the machine is asked for less -/
theorem ruleF_ok1 {T : Tys} {G : Rules} (hS : Sound P T G) {g : FuncId} {ms : List VM} {C C' : List (Nat × Nat × VM)} {m : VM} {F : Form} {mm : List Dat → (AV → AH → Prop) → Prop}
    (hm : ∀ ds K, mm ds K → callA P T G 1000 g (F.fr ds) (F.hp ds) (fun v h' => endK P C' m (F.hp ds) (F.fr ds) v h' K)) : CallOK P g (ruleF P ms C F mm) :=
  normA_ok (frame_ok (headA_ok (local_ok_n hS (C := C') (m := m) fun args h K hr => by
    obtain ⟨ds, rfl, rfl, hk⟩ := Form.at_spec hr
    exact ⟨1000, F.fr ds, hm ds K hk⟩)))
/-- a loop's rule by the data of its form -/
def locL (F : Form) (mm : List Dat → (AExit → List AV → AH → Prop) → Prop) : LoopT := fun f h Q => F.at f h fun ds => mm ds Q
theorem ruleL_ok {T : Tys} {G : Rules} (hS : Sound P T G) {g : FuncId} {id : Nat} (ho : oneLoop P g id = true) {C : AExit → List (Nat × Nat × VM)} {M : AExit → Msk} {ms : AExit → List (Nat × VM)} {C0 : List (Nat × Nat × VM)} {M0 : Msk} {ms0 : List (Nat × VM)} {F : Form}
    (mm : Nat → List Dat → (AExit → List AV → AH → Prop) → Prop) (h0 : ∀ ds Q, mm 0 ds Q = False)
    (hm : ∀ n ds Q, wpA P T G 1000 g (theLoop P g id) (fun e f' h' => endF P (C e) (M e) (ms e) (F.hp ds) f' h' fun f2 h2 => match e with
      | .normal => locL F (mm n) f2 h2 Q
      | e => Q e f2 h2) (F.fr ds) (F.hp ds) = mm (n + 1) ds Q) :
    LoopOK P (theLoop P g id) (headF P C0 M0 ms0 fun f h Q => ∃ n, locL F (mm n) f h Q) := by
  refine loop_ok_n hS (theLoop_mem ho) (C := C) (M := M) (ms := ms) (fun n => locL F (mm n)) (fun f h Q hr => ?_) (fun n f h Q hr => ?_) _ (fun f h Q hr => hr)
  · obtain ⟨ds, _, _, hk⟩ := Form.at_spec hr
    rw [h0] at hk
    exact hk
  · obtain ⟨ds, rfl, rfl, hk⟩ := Form.at_spec hr
    exact ⟨1000, (hm n ds Q).mpr hk⟩
theorem inBody_reg {g : FuncId} {id : Nat} (ho : oneReg P g id = true) : InBody P g (theReg P g id) := by
  have h := theReg_mem ho
  unfold oneReg at ho
  split at ho
  · rename_i r hr
    have hm : r ∈ (regsOf (bodyOf P g)).filter (isReg id) := by rw [hr]; simp
    have hi := (List.mem_filter.1 hm).2
    have e : theReg P g id = r := by unfold theReg; rw [hr]
    rw [e] at h ⊢
    unfold isReg at hi
    split at hi
    · exact ⟨fun b hb => by simp [loopsOf] at hb, fun b hb => by simp only [regsOf, List.mem_singleton] at hb; subst hb; exact h⟩
    · cases hi
  · cases ho
/-- a region's rule by the data of its form -/
theorem ruleP_ok {T : Tys} {G : Rules} (hS : Sound P T G) {g : FuncId} {id : Nat} (ho : oneReg P g id = true) {C : AExit → List (Nat × Nat × VM)} {M : AExit → Msk} {ms : AExit → List (Nat × VM)} {C0 : List (Nat × Nat × VM)} {M0 : Msk} {ms0 : List (Nat × VM)} {F : Form}
    (mm : List Dat → (AExit → List AV → AH → Prop) → Prop)
    (hm : ∀ ds Q, wpA P T G 1000 g (theReg P g id) (fun e f' h' => endF P (C e) (M e) (ms e) (F.hp ds) f' h' fun f2 h2 => Q e f2 h2) (F.fr ds) (F.hp ds) = mm ds Q) :
    RegOK P (theReg P g id) (headF P C0 M0 ms0 (locL F mm)) :=
  piece_ok_n hS (inBody_reg ho) (C := C) (M := M) (ms := ms) _ fun f h Q hr => by
    obtain ⟨ds, rfl, rfl, hk⟩ := Form.at_spec hr
    exact ⟨1000, (hm ds Q).mpr hk⟩
end
end AM
end Go
