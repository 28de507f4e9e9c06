/- How the abstract machine's heap stands to a world; what lasts. -/
import Derived.Test.YthegkipclogoeaaDoorAmDef
import Derived.Test.YthegkipclogoeaaDoorAmTab
set_option linter.unusedVariables false
set_option linter.unusedSimpArgs false
namespace Go
namespace AM
open LMem LTxt
/-- the place of a block: which, from which cell on, how many cells it has, an element's size -/
structure Pl where
  g : Nat
  d : Nat
  N : Nat
  sz : Nat
/-- which block a number is; blocks that are others' own -/
structure Own where
  f : Nat → Option (Option Pl)
  X : Nat → Prop
instance : CoeFun Own (fun _ => Nat → Option (Option Pl)) := ⟨Own.f⟩
/-- elements in a row -/
def Rows (C : CellsP) (R : Dat → List Value → Prop) (size : Nat) (xs : List Dat) (g o : Nat) : Prop :=
  ∀ i d, xs[i]? = some d → ∃ vs, vs.length = size ∧ R d vs ∧ ∀ j u, vs[j]? = some u → C g (o + i * size + j) u
/-- a slice that is read -/
def RoS (C : CellsP) (R : Dat → List Value → Prop) (size : Nat) (xs : List Dat) (v : Value) : Prop :=
  ∃ a cap, v = .slice a xs.length cap ∧ xs.length ≤ cap ∧ (xs.length ≠ 0 → ∃ g o, a = some ⟨g, o, none⟩ ∧ Rows C R size xs g o)
def DR (C : CellsP) : Sh → Dat → List Value → Prop
  | .int k, d, vs => vs = [.int k d.toInt]
  | .bool, d, vs => vs = [.bool d.toBool]
  | .str, d, vs => vs = [.string d.toStr]
  | .slice s, d, vs => ∃ v, vs = [v] ∧ RoS C (DR C s) s.size d.toList v
  | .pair a b, d, vs => ∃ va vb, vs = va ++ vb ∧ DR C a d.fst va ∧ DR C b d.snd vb
  | .unit, _, vs => vs = []
mutual
def VR (own : Own) (C : CellsP) : AV → Value → Prop
  | .any, _ => True
  | .c x, v => v = x
  | .p id off, v => ∃ pl, own id = some (some pl) ∧ v = .pointer (some ⟨pl.g, pl.d + off, none⟩)
  | .sl id off len, v => (len = 0 ∧ v = .slice none 0 0 ∧ ∃ x, own id = some x) ∨
      ∃ pl o cap, own id = some (some pl) ∧ v = .slice (some ⟨pl.g, o, none⟩) len cap ∧ len ≤ cap ∧ (cap ≠ 0 → o = pl.d + off * pl.sz ∧ o + cap * pl.sz ≤ pl.N)
  | .ro s xs, v => RoS C (DR C s) s.size xs v
  | .ep id i off, v => ∃ pl, own id = some (some pl) ∧ v = .pointer (some ⟨pl.g, pl.d + i * pl.sz + off, none⟩)
  | .rp s xs i off, v => ∃ g o, v = .pointer (some ⟨g, o + i * s.size + off, none⟩) ∧ Rows C (DR C s) s.size xs g o
  | .agg l, v => ∃ vs, v = .agg vs ∧ VRs own C l vs.toList
  | .tup l, v => ∃ vs, v = .tuple vs ∧ VRs own C l vs.toList
  | .fn f caps, v => ∃ cs, v = .func (.func f) #[] cs ∧ VRs own C caps cs.toList
def VRs (own : Own) (C : CellsP) : List AV → List Value → Prop
  | [], vs => vs = []
  | a :: l, vs => ∃ v r, vs = v :: r ∧ VR own C a v ∧ VRs own C l r
end

/-! ### What lasts -/
section
variable {own own' : Own} {C C' : CellsP}
theorem Rows.mono {R R' : Dat → List Value → Prop} {size : Nat} {xs : List Dat} {g o : Nat} (hC : ∀ o u, C g o u → C' g o u) (hR : ∀ d vs, R d vs → R' d vs) (h : Rows C R size xs g o) : Rows C' R' size xs g o := fun i d hi =>
  let ⟨vs, h1, h2, h3⟩ := h i d hi
  ⟨vs, h1, hR _ _ h2, fun j u hj => hC _ _ (h3 j u hj)⟩
theorem RoS.mono {R R' : Dat → List Value → Prop} {size : Nat} {xs : List Dat} {v : Value} (hC : ∀ g o u, C g o u → C' g o u) (hR : ∀ d vs, R d vs → R' d vs) (h : RoS C R size xs v) : RoS C' R' size xs v :=
  let ⟨a, cap, h1, h2, h3⟩ := h
  ⟨a, cap, h1, h2, fun hn => let ⟨g, o, h4, h5⟩ := h3 hn; ⟨g, o, h4, h5.mono (hC g) hR⟩⟩
theorem DR.mono (hC : ∀ g o u, C g o u → C' g o u) : ∀ {s : Sh} {d : Dat} {vs : List Value}, DR C s d vs → DR C' s d vs
  | .int _, _, _, h => h
  | .bool, _, _, h => h
  | .str, _, _, h => h
  | .slice s, d, vs, h => by
    obtain ⟨v, h1, h2⟩ := h
    exact ⟨v, h1, h2.mono hC fun _ _ => DR.mono hC⟩
  | .pair a b, d, vs, h => by
    obtain ⟨va, vb, h1, h2, h3⟩ := h
    exact ⟨va, vb, h1, DR.mono hC h2, DR.mono hC h3⟩
  | .unit, _, _, h => h
mutual
theorem VR.mono (hO : ∀ id x, own id = some x → own' id = some x) (hC : ∀ g o u, C g o u → C' g o u) : ∀ {a : AV} {v : Value}, VR own C a v → VR own' C' a v
  | .any, _, _ => by simp only [VR]
  | .c x, v, h => by simpa only [VR] using h
  | .p id off, v, h => by
    simp only [VR] at h ⊢
    obtain ⟨pl, h1, h2⟩ := h
    exact ⟨pl, hO _ _ h1, h2⟩
  | .sl id off len, v, h => by
    simp only [VR] at h ⊢
    rcases h with ⟨h1, h2, x, h3⟩ | ⟨pl, o, cap, h1, h2⟩
    · exact .inl ⟨h1, h2, x, hO _ _ h3⟩
    · exact .inr ⟨pl, o, cap, hO _ _ h1, h2⟩
  | .ro s xs, v, h => by
    simp only [VR] at h ⊢
    exact h.mono hC fun _ _ => DR.mono hC
  | .ep id i off, v, h => by
    simp only [VR] at h ⊢
    obtain ⟨pl, h1, h2⟩ := h
    exact ⟨pl, hO _ _ h1, h2⟩
  | .rp s xs i off, v, h => by
    simp only [VR] at h ⊢
    obtain ⟨g, o, h1, h2⟩ := h
    exact ⟨g, o, h1, h2.mono (hC g) fun _ _ => DR.mono hC⟩
  | .agg l, v, h => by
    simp only [VR] at h ⊢
    obtain ⟨vs, h1, h2⟩ := h
    exact ⟨vs, h1, VRs.mono hO hC h2⟩
  | .tup l, v, h => by
    simp only [VR] at h ⊢
    obtain ⟨vs, h1, h2⟩ := h
    exact ⟨vs, h1, VRs.mono hO hC h2⟩
  | .fn f l, v, h => by
    simp only [VR] at h ⊢
    obtain ⟨vs, h1, h2⟩ := h
    exact ⟨vs, h1, VRs.mono hO hC h2⟩
theorem VRs.mono (hO : ∀ id x, own id = some x → own' id = some x) (hC : ∀ g o u, C g o u → C' g o u) : ∀ {l : List AV} {vs : List Value}, VRs own C l vs → VRs own' C' l vs
  | [], _, h => by simpa only [VRs] using h
  | a :: l, vs, h => by
    simp only [VRs] at h ⊢
    obtain ⟨v, r, h1, h2, h3⟩ := h
    exact ⟨v, r, h1, VR.mono hO hC h2, VRs.mono hO hC h3⟩
end
theorem VRs.nil_iff {vs : List Value} : VRs own C [] vs ↔ vs = [] := by simp only [VRs]
theorem VRs.cons_iff {a : AV} {l : List AV} {vs : List Value} : VRs own C (a :: l) vs ↔ ∃ v r, vs = v :: r ∧ VR own C a v ∧ VRs own C l r := by simp only [VRs]
theorem VRs.cons {a : AV} {l : List AV} {v : Value} {r : List Value} (h : VR own C a v) (h2 : VRs own C l r) : VRs own C (a :: l) (v :: r) := VRs.cons_iff.2 ⟨v, r, rfl, h, h2⟩
theorem VRs.nil : VRs own C [] [] := VRs.nil_iff.2 rfl
theorem VRs.one {a : AV} {v : Value} (h : VR own C a v) : VRs own C [a] [v] := .cons h .nil
theorem VRs.length : ∀ {l : List AV} {vs : List Value}, VRs own C l vs → vs.length = l.length
  | [], _, h => by rw [VRs.nil_iff.1 h]; rfl
  | a :: l, vs, h => by
    obtain ⟨v, r, rfl, _, h2⟩ := VRs.cons_iff.1 h
    simp [VRs.length h2]
theorem VRs.append : ∀ {l m : List AV} {vs us : List Value}, VRs own C l vs → VRs own C m us → VRs own C (l ++ m) (vs ++ us)
  | [], _, _, _, h, h2 => by rw [VRs.nil_iff.1 h]; exact h2
  | a :: l, m, vs, us, h, h2 => by
    obtain ⟨v, r, rfl, h3, h4⟩ := VRs.cons_iff.1 h
    exact .cons h3 (VRs.append h4 h2)
theorem VRs.split : ∀ {l m : List AV} {vs : List Value}, VRs own C (l ++ m) vs → ∃ va vb, vs = va ++ vb ∧ VRs own C l va ∧ VRs own C m vb
  | [], m, vs, h => ⟨[], vs, rfl, .nil, h⟩
  | a :: l, m, vs, h => by
    obtain ⟨v, r, rfl, h3, h4⟩ := VRs.cons_iff.1 h
    obtain ⟨va, vb, rfl, h5, h6⟩ := VRs.split h4
    exact ⟨v :: va, vb, rfl, .cons h3 h5, h6⟩
theorem VRs.get : ∀ {l : List AV} {vs : List Value} {i : Nat} {a : AV}, VRs own C l vs → l[i]? = some a → ∃ v, vs[i]? = some v ∧ VR own C a v
  | [], _, i, a, _, hi => by simp at hi
  | b :: l, vs, i, a, h, hi => by
    obtain ⟨v, r, rfl, h3, h4⟩ := VRs.cons_iff.1 h
    cases i with
    | zero => simp at hi; subst hi; exact ⟨v, rfl, h3⟩
    | succ i => simpa using VRs.get h4 (by simpa using hi)
theorem VRs.of_get : ∀ {l : List AV} {vs : List Value}, vs.length = l.length → (∀ (i : Nat) (a : AV) (v : Value), l[i]? = some a → vs[i]? = some v → VR own C a v) → VRs own C l vs
  | [], vs, hl, _ => VRs.nil_iff.2 (by simpa using hl)
  | a :: l, [], hl, _ => by simp at hl
  | a :: l, v :: vs, hl, h => .cons (h 0 a v rfl rfl) (VRs.of_get (by simpa using hl) fun i a v h1 h2 => h (i + 1) a v (by simpa using h1) (by simpa using h2))
theorem VRs.take {l : List AV} {vs : List Value} (h : VRs own C l vs) (n : Nat) : VRs own C (l.take n) (vs.take n) := by
  refine VRs.of_get (by simp [VRs.length h]) fun i a v h1 h2 => ?_
  rw [List.getElem?_take] at h1 h2
  split at h1
  · obtain ⟨u, h3, h4⟩ := h.get h1
    simp_all
  · cases h1
theorem VRs.drop {l : List AV} {vs : List Value} (h : VRs own C l vs) (n : Nat) : VRs own C (l.drop n) (vs.drop n) := by
  refine VRs.of_get (by simp [VRs.length h]) fun i a v h1 h2 => ?_
  rw [List.getElem?_drop] at h1 h2
  obtain ⟨u, h3, h4⟩ := h.get h1
  simp_all
theorem VRs.set {l : List AV} {vs : List Value} (h : VRs own C l vs) (i : Nat) {a : AV} {v : Value} (ha : VR own C a v) : VRs own C (l.set i a) (vs.set i v) := by
  refine VRs.of_get (by simp [VRs.length h]) fun j b u h1 h2 => ?_
  rw [List.getElem?_set] at h1 h2
  have hl := VRs.length h
  split at h1
  · subst_vars
    rw [if_pos rfl] at h2
    split at h1
    · rename_i hlt
      rw [if_pos (by omega)] at h2
      simp_all
    · cases h1
  · rename_i hne
    rw [if_neg hne] at h2
    obtain ⟨u', h3, h4⟩ := h.get h1
    simp_all
theorem VRs.consts (l : List Value) : VRs own C (l.map .c) l := by
  refine VRs.of_get (by simp) fun i a v h1 h2 => ?_
  rw [List.getElem?_map, h2] at h1
  simp at h1
  subst h1
  simp only [VR]
/-- the cells of an element -/
theorem DR.enc : ∀ {s : Sh} {d : Dat} {vs : List Value}, DR C s d vs ↔ VRs own C (enc s d) vs
  | .int k, d, vs => by simp only [DR, AM.enc, VRs, VR]; exact ⟨fun h => ⟨_, _, h, rfl, rfl⟩, fun ⟨v, r, h1, h2, h3⟩ => by rw [h1, h2, h3]⟩
  | .bool, d, vs => by simp only [DR, AM.enc, VRs, VR]; exact ⟨fun h => ⟨_, _, h, rfl, rfl⟩, fun ⟨v, r, h1, h2, h3⟩ => by rw [h1, h2, h3]⟩
  | .str, d, vs => by simp only [DR, AM.enc, VRs, VR]; exact ⟨fun h => ⟨_, _, h, rfl, rfl⟩, fun ⟨v, r, h1, h2, h3⟩ => by rw [h1, h2, h3]⟩
  | .slice s, d, vs => by simp only [DR, AM.enc, VRs, VR]; exact ⟨fun ⟨v, h, h2⟩ => ⟨v, [], h, h2, rfl⟩, fun ⟨v, r, h1, h2, h3⟩ => ⟨v, by rw [h1, h3], h2⟩⟩
  | .pair a b, d, vs => by
    simp only [DR, AM.enc]
    exact ⟨fun ⟨va, vb, h1, h2, h3⟩ => h1 ▸ (DR.enc.1 h2).append (DR.enc.1 h3), fun h => let ⟨va, vb, h1, h2, h3⟩ := VRs.split h; ⟨va, vb, h1, DR.enc.2 h2, DR.enc.2 h3⟩⟩
  | .unit, d, vs => by simp only [DR, AM.enc, VRs]
theorem enc_len : ∀ (s : Sh) (d : Dat), (enc s d).length = s.size
  | .int _, _ => rfl
  | .bool, _ => rfl
  | .str, _ => rfl
  | .slice _, _ => rfl
  | .pair a b, d => by simp [enc, Sh.size, enc_len]
  | .unit, _ => rfl
theorem enc_ones_aux {l m : List AV} (h : ones l = true) (h2 : ones m = true) : ones (l ++ m) = true := by
  induction l with
  | nil => exact h2
  | cons a l ih =>
    simp only [List.cons_append, ones] at h ⊢
    split at h
    · exact ih h
    · cases h
theorem enc_ones : ∀ (s : Sh) (d : Dat), ones (enc s d) = true
  | .int _, _ => rfl
  | .bool, _ => rfl
  | .str, _ => rfl
  | .slice _, _ => rfl
  | .pair a b, d => by simp only [enc]; exact enc_ones_aux (enc_ones a _) (enc_ones b _)
  | .unit, _ => rfl
theorem ones_mem : ∀ {l : List AV}, ones l = true ↔ ∀ a ∈ l, a.one = true
  | [] => by simp [ones]
  | a :: l => by
    simp only [ones, List.mem_cons, forall_eq_or_imp]
    split
    · rename_i h; simp [h, ones_mem]
    · rename_i h; simp [h]
theorem VR.one {a : AV} {v : Value} (h : VR own C a v) (h1 : a.one = true) : v.oneCell' = true := by
  cases a <;> simp only [VR, AV.one] at h h1 <;> try (cases h1; done)
  case c x => subst h; exact h1
  case p => obtain ⟨_, _, rfl⟩ := h; rfl
  case sl => rcases h with ⟨_, rfl, _⟩ | ⟨_, _, _, _, rfl, _⟩ <;> rfl
  case ro => obtain ⟨_, _, rfl, _⟩ := h; rfl
  case ep => obtain ⟨_, _, rfl⟩ := h; rfl
  case rp => obtain ⟨_, _, rfl, _⟩ := h; rfl
  case fn => obtain ⟨_, rfl, _⟩ := h; rfl
theorem VRs.ones {l : List AV} {vs : List Value} (h : VRs own C l vs) (h1 : ones l = true) : ∀ u ∈ vs, u.oneCell' = true := by
  intro u hu
  obtain ⟨i, hi⟩ := List.getElem?_of_mem hu
  have hl := VRs.length h
  have hlt : i < l.length := by rw [← hl]; exact (List.getElem?_eq_some_iff.1 hi).1
  obtain ⟨v, h2, h3⟩ := h.get (List.getElem?_eq_getElem hlt)
  rw [h2] at hi
  cases hi
  exact h3.one (ones_mem.1 h1 _ (List.getElem_mem hlt))
end

/-! ### Blocks -/
def frOK (fr : Nat × Nat) (n : Nat) : Prop := n ≤ fr.1 ∨ fr.1 = fr.2
/-- the block has the type that it is said to have -/
structure FrT (T T' : TypeId) (fr : Nat × Nat) (n : Nat) : Prop where
  fr : frOK fr n
  ty : T' = T
instance {T T' : TypeId} {fr : Nat × Nat} {n : Nat} : CoeHead (FrT T T' fr n) (frOK fr n) := ⟨FrT.fr⟩
/-- .. and is all of its block -/
structure FrC (T T' : TypeId) (fr : Nat × Nat) (n d l sz : Nat) : Prop where
  fr : frOK fr n
  ty : T' = T
  d0 : d = 0
  len : n = l
  one : sz = 1
instance {T T' : TypeId} {fr : Nat × Nat} {n d l sz : Nat} : CoeHead (FrC T T' fr n d l sz) (frOK fr n) := ⟨FrC.fr⟩
def BR (own : Own) (C : CellsP) (w : World) : AB → Pl → Prop
  | .dead, _ => False
  | .lock T l, pl => ∃ cs T' fr us, w.heap[pl.g]? = some (.cells cs T' fr) ∧ FrC T T' fr cs.size pl.d l.length pl.sz ∧ pl.N = cs.size ∧ VRs own C l us ∧ ones l = true ∧ ∀ i u, us[i]? = some u → cs[pl.d + i]? = some u
  | .cells T l, pl => ∃ cs T' fr us, w.heap[pl.g]? = some (.cells cs T' fr) ∧ FrC T T' fr cs.size pl.d l.length pl.sz ∧ pl.N = cs.size ∧ VRs own C l us ∧ ones l = true ∧ ∀ i u, us[i]? = some u → cs[pl.d + i]? = some u
  | .seq E s xs, pl => ∃ cs T' fr, w.heap[pl.g]? = some (.cells cs T' fr) ∧ FrT E T' fr cs.size ∧ pl.N = cs.size ∧ pl.sz = s.size ∧ pl.d + xs.length * s.size ≤ pl.N ∧ Rows (fun _ o u => cs[o]? = some u) (DR C s) s.size xs pl.g pl.d
  | .iter s pos, pl => pl.d = 0 ∧ w.heap[pl.g]? = some (.stringIter s pos)
  | .mix E s xs a, pl => ∃ cs T' fr u, w.heap[pl.g]? = some (.cells cs T' fr) ∧ FrT E T' fr cs.size ∧ pl.N = cs.size ∧ pl.sz = 1 ∧ pl.d + (xs.length + 1) ≤ pl.N ∧ Rows (fun _ o u => cs[o]? = some u) (DR C (.slice s)) 1 xs pl.g pl.d ∧ VR own C a u ∧ a.one = true ∧ cs[pl.d + xs.length]? = some u
def isLive : AB → Prop
  | .dead => False
  | _ => True
def Live (own : Own) (h : AH) (g : Nat) : Prop := ∃ id pl, isLive (h.get id) ∧ own id = some (some pl) ∧ pl.g = g
/-- cells that nobody writes any more -/
def Gone (own : Own) (h : AH) (g : Nat) : Prop := ¬ Live own h g ∧ ¬ own.X g
def Cw (own : Own) (h : AH) (w : World) : CellsP := fun g o u => Gone own h g ∧ w.cell? ⟨g, o, none⟩ = some u
structure Stat (own : Own) (h : AH) (w : World) : Prop where
  rest : ∀ g, own.X g → g < w.heap.size ∧ ¬ Live own h g
  tab : ∀ g o u, T0 g o u → Cw own h w g o u
  blk : ∀ g, R1 g → T1 g w.heap[g]?
structure HR (own : Own) (h : AH) (w : World) : Prop where
  live : ∀ id, isLive (h.get id) → (∃ pl, own id = some (some pl) ∧ BR own (Cw own h w) w (h.get id) pl) ∨ (own id = some none ∧ ∃ E s, h.get id = .seq E s [])
  inj : ∀ id id' pl pl', isLive (h.get id) → isLive (h.get id') → own id = some (some pl) → own id' = some (some pl') → pl.g = pl'.g → id = id'
  dom : ∀ id, h.next ≤ id → own id = none
  st : Stat own h w
structure Ext (own : Own) (h : AH) (w : World) (own' : Own) (h' : AH) (w' : World) : Prop where
  ow : ∀ id x, own id = some x → own' id = some x
  size : w.heap.size ≤ w'.heap.size
  os : w'.os = w.os
  tape : w'.tape = w.tape
  output : w'.output = w.output
  fz : ∀ g, g < w.heap.size → ¬ Live own h g → ¬ Live own' h' g ∧ w'.heap[g]? = w.heap[g]?
  lk : ∀ id T l, h.get id = .lock T l → h'.get id = .lock T l ∧ ∀ pl, own id = some (some pl) → w'.heap[pl.g]? = w.heap[pl.g]?
  xe : own'.X = own.X
def isLock : AB → Prop
  | .lock _ _ => True
  | _ => False
section
variable {own own' own'' : Own} {h h' h'' : AH} {w w' w'' : World}
theorem Ext.refl (own : Own) (h : AH) (w : World) : Ext own h w own h w := ⟨fun _ _ h => h, Nat.le_refl _, rfl, rfl, rfl, fun _ _ h => ⟨h, rfl⟩, fun _ _ _ h => ⟨h, fun _ _ => rfl⟩, rfl⟩
theorem Ext.trans (h1 : Ext own h w own' h' w') (h2 : Ext own' h' w' own'' h'' w'') : Ext own h w own'' h'' w'' :=
  ⟨fun id x hx => h2.ow _ _ (h1.ow _ _ hx), Nat.le_trans h1.size h2.size, h2.os.trans h1.os, h2.tape.trans h1.tape, h2.output.trans h1.output, fun g hg hl =>
    let ⟨h3, h4⟩ := h1.fz g hg hl
    let ⟨h5, h6⟩ := h2.fz g (Nat.lt_of_lt_of_le hg h1.size) h3
    ⟨h5, h6.trans h4⟩, fun id T l hl =>
    let ⟨h3, h4⟩ := h1.lk id T l hl
    let ⟨h5, h6⟩ := h2.lk id T l h3
    ⟨h5, fun pl hp => (h6 pl (h1.ow _ _ hp)).trans (h4 pl hp)⟩, h2.xe.trans h1.xe⟩
theorem Ext.cells (h1 : Ext own h w own' h' w') : ∀ g o u, Cw own h w g o u → Cw own' h' w' g o u := fun g o u ⟨h2, h3⟩ =>
  let ⟨h4, h5⟩ := h1.fz g (World.block_lt_of_cell? w _ h3) h2.1
  ⟨⟨h4, by rw [h1.xe]; exact h2.2⟩, (World.cell?_of_block (a := ⟨g, o, none⟩) h5).trans h3⟩
theorem Stat.ext (h1 : Ext own h w own' h' w') (h2 : Stat own h w) : Stat own' h' w' :=
  ⟨fun g hg => by
    rw [h1.xe] at hg
    obtain ⟨h3, h4⟩ := h2.rest g hg
    exact ⟨Nat.lt_of_lt_of_le h3 h1.size, (h1.fz g h3 h4).1⟩, fun g o u hg => h1.cells g o u (h2.tab g o u hg), fun g hg => by
    obtain ⟨o, u, h0⟩ := R1_T0 hg
    obtain ⟨h3, h4⟩ := h2.tab g o u h0
    rw [(h1.fz g (World.block_lt_of_cell? w _ h4) h3.1).2]
    exact h2.blk g hg⟩
theorem Ext.vr (h1 : Ext own h w own' h' w') {a : AV} {v : Value} (hv : VR own (Cw own h w) a v) : VR own' (Cw own' h' w') a v := hv.mono h1.ow h1.cells
theorem Ext.vrs (h1 : Ext own h w own' h' w') {l : List AV} {vs : List Value} (hv : VRs own (Cw own h w) l vs) : VRs own' (Cw own' h' w') l vs := hv.mono h1.ow h1.cells
theorem BR.mono (hO : ∀ id x, own id = some x → own' id = some x) {C C' : CellsP} (hC : ∀ g o u, C g o u → C' g o u) {b : AB} {pl : Pl} (hw : w'.heap[pl.g]? = w.heap[pl.g]?) (hb : BR own C w b pl) : BR own' C' w' b pl := by
  cases b with
  | dead => exact hb
  | cells T l =>
    obtain ⟨cs, T', fr, us, h1, h2, h3, h4, h5⟩ := hb
    exact ⟨cs, T', fr, us, hw.trans h1, h2, h3, h4.mono hO hC, h5⟩
  | lock T l =>
    obtain ⟨cs, T', fr, us, h1, h2, h3, h4, h5⟩ := hb
    exact ⟨cs, T', fr, us, hw.trans h1, h2, h3, h4.mono hO hC, h5⟩
  | seq E s xs =>
    obtain ⟨cs, T', fr, h1, h2, h3, h4, h5, h6⟩ := hb
    exact ⟨cs, T', fr, hw.trans h1, h2, h3, h4, h5, h6.mono (fun _ _ h => h) fun _ _ => DR.mono hC⟩
  | iter s pos => exact ⟨hb.1, hw.trans hb.2⟩
  | mix E s xs a =>
    obtain ⟨cs, T', fr, u, h1, h2, h3, h4, h5, h6, h7, h8, h9⟩ := hb
    exact ⟨cs, T', fr, u, hw.trans h1, h2, h3, h4, h5, h6.mono (fun _ _ h => h) fun _ _ => DR.mono hC, h7.mono hO hC, h8, h9⟩
theorem BR.lt {C : CellsP} {b : AB} {pl : Pl} (hb : BR own C w b pl) : pl.g < w.heap.size := by
  cases b with
  | dead => exact hb.elim
  | cells T l => obtain ⟨cs, T', fr, us, h1, _⟩ := hb; exact lt_of_heap h1
  | lock T l => obtain ⟨cs, T', fr, us, h1, _⟩ := hb; exact lt_of_heap h1
  | seq E s xs => obtain ⟨cs, T', fr, h1, _⟩ := hb; exact lt_of_heap h1
  | iter s pos => exact lt_of_heap (o := .stringIter s pos) hb.2
  | mix E s xs a => obtain ⟨cs, T', fr, u, h1, _⟩ := hb; exact lt_of_heap h1
theorem HR.lt (H : HR own h w) {id : Nat} {pl : Pl} (hl : isLive (h.get id)) (ho : own id = some (some pl)) : pl.g < w.heap.size := by
  rcases H.live id hl with ⟨pl', h1, h2⟩ | ⟨h1, _⟩
  · rw [ho] at h1; cases h1; exact h2.lt
  · rw [ho] at h1; cases h1
theorem HR.block (H : HR own h w) {id : Nat} {pl : Pl} (hl : isLive (h.get id)) (ho : own id = some (some pl)) : BR own (Cw own h w) w (h.get id) pl := by
  rcases H.live id hl with ⟨pl', h1, h2⟩ | ⟨h1, _⟩
  · rw [ho] at h1; cases h1; exact h2
  · rw [ho] at h1; cases h1
theorem Live.lt (H : HR own h w) {g : Nat} (hl : Live own h g) : g < w.heap.size := by
  obtain ⟨id, pl, h1, h2, rfl⟩ := hl
  exact H.lt h1 h2
theorem get_lt {id : Nat} (hl : isLive (h.get id)) : id < h.next := by
  unfold AH.get at hl
  unfold AH.next
  rw [List.getD_eq_getElem?_getD] at hl
  rcases Nat.lt_or_ge id h.bl.length with h1 | h1
  · exact h1
  · rw [List.getElem?_eq_none h1] at hl; exact hl.elim
theorem get_put {id i : Nat} {b : AB} : (h.put id b).get i = if i = id then (if id < h.next then b else .dead) else h.get i := by
  unfold AH.get AH.put AH.next
  simp only [List.getD_eq_getElem?_getD, List.getElem?_set]
  by_cases h1 : id = i
  · subst h1
    simp
    split <;> rfl
  · rw [if_neg h1, if_neg (fun e => h1 e.symm)]
theorem get_put_self {id : Nat} {b : AB} (h1 : id < h.next) : (h.put id b).get id = b := by rw [get_put, if_pos rfl, if_pos h1]
theorem get_put_ne {id i : Nat} {b : AB} (h1 : i ≠ id) : (h.put id b).get i = h.get i := by rw [get_put, if_neg h1]
theorem get_new {i : Nat} {b : AB} : (h.new b).get i = if i = h.next then b else h.get i := by
  unfold AH.get AH.new AH.next
  simp only [List.getD_eq_getElem?_getD]
  by_cases h1 : i = h.bl.length
  · subst h1; simp
  · rw [if_neg h1]
    rcases Nat.lt_or_ge i h.bl.length with h2 | h2
    · rw [List.getElem?_append_left h2]
    · rw [List.getElem?_eq_none h2, List.getElem?_eq_none (by simp; omega)]
theorem next_new {b : AB} : (h.new b).next = h.next + 1 := by simp [AH.new, AH.next]
theorem next_put {id : Nat} {b : AB} : (h.put id b).next = h.next := by simp [AH.put, AH.next]
def Own.upd (own : Own) (n : Nat) (x : Option Pl) : Own := ⟨fun i => if i = n then some x else own i, own.X⟩
theorem upd_self {n : Nat} {x : Option Pl} : (Own.upd own n x) n = some x := by simp [Own.upd]
theorem upd_ne {n i : Nat} {x : Option Pl} (hn : i ≠ n) : (Own.upd own n x) i = own i := by simp [Own.upd, hn]
theorem upd_ext {n : Nat} {x : Option Pl} (hn : own n = none) : ∀ id y, own id = some y → (Own.upd own n x) id = some y := fun id y hy => by
  rw [upd_ne (by rintro rfl; rw [hn] at hy; cases hy)]; exact hy

/-! ### What turns -/
/-- the world draws -/
theorem live_same {h2 : AH} (hb : h2.bl = h.bl) {g : Nat} : Live own h2 g ↔ Live own h g := by
  unfold Live AH.get
  rw [hb]
theorem HR.same (H : HR own h w) {h2 : AH} {w2 : World} (hb : h2.bl = h.bl) (hw : w2.heap = w.heap) : HR own h2 w2 := by
  have hg : ∀ i, h2.get i = h.get i := fun i => by unfold AH.get; rw [hb]
  have hC : ∀ g o u, Cw own h w g o u → Cw own h2 w2 g o u := fun g o u ⟨h1, h3⟩ => ⟨⟨fun h4 => h1.1 ((live_same hb).1 h4), h1.2⟩, by rw [← h3]; exact World.cell?_of_block (by rw [hw])⟩
  refine ⟨fun id hl => ?_, fun id id' pl pl' h1 h2' => ?_, fun id hi => H.dom id (by unfold AH.next at hi ⊢; rw [← hb]; exact hi), ⟨fun g hg => ⟨by rw [hw]; exact (H.st.rest g hg).1, fun h4 => (H.st.rest g hg).2 ((live_same hb).1 h4)⟩, fun g o u hg => hC g o u (H.st.tab g o u hg), fun g hg => by rw [hw]; exact H.st.blk g hg⟩⟩
  · rw [hg] at hl ⊢
    rcases H.live id hl with ⟨pl, h1, h3⟩ | h1
    · exact .inl ⟨pl, h1, h3.mono (fun _ _ h => h) hC (by rw [hw])⟩
    · exact .inr h1
  · rw [hg] at h1 h2'
    exact H.inj id id' pl pl' h1 h2'
theorem Ext.same {h2 : AH} {w2 : World} (hb : h2.bl = h.bl) (hw : w2.heap = w.heap) (h1 : w2.os = w.os) (h3 : w2.tape = w.tape) (h4 : w2.output = w.output) : Ext own h w own h2 w2 :=
  ⟨fun _ _ h => h, by rw [hw]; exact Nat.le_refl _, h1, h3, h4, fun g _ hl => ⟨fun h5 => hl ((live_same hb).1 h5), by rw [hw]⟩, fun id T l hl => ⟨by unfold AH.get at hl ⊢; rw [hb]; exact hl, fun _ _ => by rw [hw]⟩, rfl⟩
theorem Ext.drew : Ext own h w own h w.drew := Ext.same rfl rfl rfl rfl rfl
theorem HR.drew (H : HR own h w) : HR own h w.drew := H.same rfl rfl
/-- a new block -/
theorem live_new {b : AB} {pl : Pl} (H : HR own h w) (hp : isLive b) {g : Nat} : Live (own.upd h.next (some pl)) (h.new b) g ↔ Live own h g ∨ g = pl.g := by
  have hn := H.dom h.next (Nat.le_refl _)
  constructor
  · rintro ⟨id, pl', h1, h2, rfl⟩
    rw [get_new] at h1
    by_cases he : id = h.next
    · subst he; rw [upd_self] at h2; cases h2; exact .inr rfl
    · rw [if_neg he] at h1; rw [upd_ne he] at h2; exact .inl ⟨id, pl', h1, h2, rfl⟩
  · rintro (⟨id, pl', h1, h2, rfl⟩ | rfl)
    · have he : id ≠ h.next := by rintro rfl; rw [hn] at h2; cases h2
      exact ⟨id, pl', by rw [get_new, if_neg he]; exact h1, by rw [upd_ne he]; exact h2, rfl⟩
    · exact ⟨h.next, pl, by rw [get_new, if_pos rfl]; exact hp, upd_self, rfl⟩
theorem Ext.new {o : Obj} {b : AB} {pl : Pl} (H : HR own h w) (hp : isLive b) (hg : pl.g = w.heap.size) : Ext own h w (own.upd h.next (some pl)) (h.new b) (w.alloc o) :=
  ⟨upd_ext (H.dom _ (Nat.le_refl _)), by simp, rfl, rfl, rfl, fun g hlt hl => ⟨fun h1 => by
    rcases (live_new H hp).1 h1 with h2 | h2
    · exact hl h2
    · omega, Go.RowKit.Below.heap_alloc w o g hlt⟩, fun id T l hl => by
    have hlv : isLive (h.get id) := by rw [hl]; trivial
    have hlt := get_lt hlv
    exact ⟨by rw [get_new, if_neg (by omega)]; exact hl, fun pl hp => Go.RowKit.Below.heap_alloc w o _ (H.lt hlv hp)⟩, rfl⟩
theorem HR.new {o : Obj} {b : AB} {pl : Pl} (H : HR own h w) (hp : isLive b) (hg : pl.g = w.heap.size)
    (hb : BR (own.upd h.next (some pl)) (Cw (own.upd h.next (some pl)) (h.new b) (w.alloc o)) (w.alloc o) b pl) : HR (own.upd h.next (some pl)) (h.new b) (w.alloc o) := by
  have hE : Ext own h w (own.upd h.next (some pl)) (h.new b) (w.alloc o) := .new H hp hg
  have hn := H.dom h.next (Nat.le_refl _)
  refine ⟨fun id hl => ?_, fun id id' pl1 pl2 h1 h2 h3 h4 h5 => ?_, fun id hi => ?_, H.st.ext hE⟩
  · rw [get_new] at hl ⊢
    by_cases he : id = h.next
    · subst he; rw [if_pos rfl]; exact .inl ⟨pl, upd_self, hb⟩
    · rw [if_neg he] at hl ⊢
      rcases H.live id hl with ⟨pl', h1, h2⟩ | h1
      · exact .inl ⟨pl', hE.ow _ _ h1, h2.mono hE.ow hE.cells (Go.RowKit.Below.heap_alloc w o _ h2.lt)⟩
      · exact .inr ⟨hE.ow _ _ h1.1, h1.2⟩
  · rw [get_new] at h1 h2
    by_cases he : id = h.next
    · subst he
      rw [upd_self] at h3
      cases h3
      by_cases he' : id' = h.next
      · exact he'.symm
      · rw [if_neg he'] at h2
        rw [upd_ne he'] at h4
        have := H.lt h2 h4
        omega
    · rw [if_neg he] at h1
      rw [upd_ne he] at h3
      by_cases he' : id' = h.next
      · subst he'
        rw [upd_self] at h4
        cases h4
        have := H.lt h1 h3
        omega
      · rw [if_neg he'] at h2
        rw [upd_ne he'] at h4
        exact H.inj id id' pl1 pl2 h1 h2 h3 h4 h5
  · rw [next_new] at hi
    rw [upd_ne (by omega)]
    exact H.dom id (by omega)
/-- a new number without a block: an empty row -/
theorem HR.newNone (H : HR own h w) (E : TypeId) (s : Sh) : HR (own.upd h.next none) (h.new (.seq E s [])) w ∧ Ext own h w (own.upd h.next none) (h.new (.seq E s [])) w := by
  have hn := H.dom h.next (Nat.le_refl _)
  have hlv : ∀ g, Live (own.upd h.next none) (h.new (.seq E s [])) g → Live own h g := by
    rintro g ⟨id, pl', h1, h2, rfl⟩
    rw [get_new] at h1
    by_cases he : id = h.next
    · subst he; rw [upd_self] at h2; cases h2
    · rw [if_neg he] at h1; rw [upd_ne he] at h2; exact ⟨id, pl', h1, h2, rfl⟩
  have hE : Ext own h w (own.upd h.next none) (h.new (.seq E s [])) w := ⟨upd_ext hn, Nat.le_refl _, rfl, rfl, rfl, fun g _ hl => ⟨fun h1 => hl (hlv g h1), rfl⟩, fun id T l hl => by
    have hlt := get_lt (h := h) (id := id) (by rw [hl]; trivial)
    exact ⟨by rw [get_new, if_neg (by omega)]; exact hl, fun _ _ => rfl⟩, rfl⟩
  refine ⟨⟨fun id hl => ?_, fun id id' pl1 pl2 h1 h2 h3 h4 h5 => ?_, fun id hi => ?_, H.st.ext hE⟩, hE⟩
  · rw [get_new] at hl ⊢
    by_cases he : id = h.next
    · subst he; rw [if_pos rfl]; exact .inr ⟨upd_self, E, s, rfl⟩
    · rw [if_neg he] at hl ⊢
      rcases H.live id hl with ⟨pl', h1, h2⟩ | h1
      · exact .inl ⟨pl', hE.ow _ _ h1, h2.mono hE.ow hE.cells rfl⟩
      · exact .inr ⟨hE.ow _ _ h1.1, h1.2⟩
  · rw [get_new] at h1 h2
    have he : id ≠ h.next := by rintro rfl; rw [upd_self] at h3; cases h3
    have he' : id' ≠ h.next := by rintro rfl; rw [upd_self] at h4; cases h4
    rw [if_neg he] at h1; rw [if_neg he'] at h2
    rw [upd_ne he] at h3; rw [upd_ne he'] at h4
    exact H.inj id id' pl1 pl2 h1 h2 h3 h4 h5
  · rw [next_new] at hi
    rw [upd_ne (by omega)]
    exact H.dom id (by omega)
/-- a block is written -/
theorem live_put {id : Nat} {b : AB} (hl : isLive (h.get id)) (hb : isLive b) {g : Nat} : Live own (h.put id b) g ↔ Live own h g := by
  have hlt := get_lt hl
  constructor
  · rintro ⟨i, pl, h1, h2, rfl⟩
    by_cases he : i = id
    · subst he; exact ⟨i, pl, hl, h2, rfl⟩
    · rw [get_put_ne he] at h1; exact ⟨i, pl, h1, h2, rfl⟩
  · rintro ⟨i, pl, h1, h2, rfl⟩
    by_cases he : i = id
    · subst he; exact ⟨i, pl, by rw [get_put_self hlt]; exact hb, h2, rfl⟩
    · exact ⟨i, pl, by rw [get_put_ne he]; exact h1, h2, rfl⟩
/-- the world w' is w but for the block g -/
structure But (g : Nat) (w w' : World) : Prop where
  size : w'.heap.size = w.heap.size
  os : w'.os = w.os
  tape : w'.tape = w.tape
  output : w'.output = w.output
  keep : ∀ i, i ≠ g → w'.heap[i]? = w.heap[i]?
theorem But.refl (g : Nat) (w : World) : But g w w := ⟨rfl, rfl, rfl, rfl, fun _ _ => rfl⟩
theorem But.trans {g : Nat} (h1 : But g w w') (h2 : But g w' w'') : But g w w'' := ⟨h2.size.trans h1.size, h2.os.trans h1.os, h2.tape.trans h1.tape, h2.output.trans h1.output, fun i hi => (h2.keep i hi).trans (h1.keep i hi)⟩
theorem But.setCell (w : World) (a : Addr) (v : Value) : But a.block w (w.setCell a v) := ⟨by simp, rfl, rfl, rfl, fun i hi => Go.RowKit.Below.heap_setCell w a v i hi⟩
theorem But.setCells (g : Nat) : ∀ (vs : List Value) (o : Nat) (w : World), But g w (w.setCells g o vs)
  | [], _, w => But.refl g w
  | v :: r, o, w => (But.setCell w ⟨g, o, none⟩ v).trans (But.setCells g r (o + 1) _)
theorem Ext.put {id : Nat} {b : AB} {pl : Pl} (H : HR own h w) (hnl : ¬ isLock (h.get id)) (hl : isLive (h.get id)) (ho : own id = some (some pl)) (hb : isLive b) (hw : But pl.g w w') : Ext own h w own (h.put id b) w' :=
  ⟨fun _ _ h => h, by rw [hw.size]; exact Nat.le_refl _, hw.os, hw.tape, hw.output, fun g _ hg => ⟨fun h1 => hg ((live_put hl hb).1 h1), hw.keep g (by rintro rfl; exact hg ⟨id, pl, hl, ho, rfl⟩)⟩, fun i T l hi => by
    have hne : i ≠ id := by rintro rfl; rw [hi] at hnl; exact hnl trivial
    exact ⟨by rw [get_put_ne hne]; exact hi, fun pl' hp => hw.keep _ fun e => hne (H.inj i id pl' pl (by rw [hi]; trivial) hl hp ho e)⟩, rfl⟩
theorem HR.put {id : Nat} {b : AB} {pl : Pl} (H : HR own h w) (hnl : ¬ isLock (h.get id)) (hl : isLive (h.get id)) (ho : own id = some (some pl)) (hb : isLive b) (hw : But pl.g w w')
    (hB : BR own (Cw own (h.put id b) w') w' b pl) : HR own (h.put id b) w' := by
  have hE : Ext own h w own (h.put id b) w' := .put H hnl hl ho hb hw
  have hlt := get_lt hl
  refine ⟨fun i hi => ?_, fun i i' pl1 pl2 h1 h2 h3 h4 h5 => ?_, fun i hi => H.dom i (by rw [next_put] at hi; exact hi), H.st.ext hE⟩
  · by_cases he : i = id
    · subst he; rw [get_put_self hlt]; exact .inl ⟨pl, ho, hB⟩
    · rw [get_put_ne he] at hi ⊢
      rcases H.live i hi with ⟨pl', h1, h2⟩ | h1
      · exact .inl ⟨pl', h1, h2.mono hE.ow hE.cells (hw.keep _ fun e => he (H.inj i id pl' pl hi hl h1 ho e))⟩
      · exact .inr h1
  · have g1 : isLive (h.get i) := by
      by_cases he : i = id
      · subst he; exact hl
      · rw [get_put_ne he] at h1; exact h1
    have g2 : isLive (h.get i') := by
      by_cases he : i' = id
      · subst he; exact hl
      · rw [get_put_ne he] at h2; exact h2
    exact H.inj i i' pl1 pl2 g1 g2 h3 h4 h5
/-- a block is let go: it is read from now on -/
theorem live_kill {id : Nat} (H : HR own h w) {g : Nat} : Live own (h.put id .dead) g → Live own h g := by
  rintro ⟨i, pl, h1, h2, rfl⟩
  by_cases he : i = id
  · subst he
    rw [get_put, if_pos rfl] at h1
    split at h1 <;> exact h1.elim
  · rw [get_put_ne he] at h1; exact ⟨i, pl, h1, h2, rfl⟩
theorem not_live_kill {id : Nat} {pl : Pl} (H : HR own h w) (hl : isLive (h.get id)) (ho : own id = some (some pl)) : ¬ Live own (h.put id .dead) pl.g := by
  rintro ⟨i, pl', h1, h2, h3⟩
  by_cases he : i = id
  · subst he
    rw [get_put, if_pos rfl] at h1
    split at h1 <;> exact h1.elim
  · rw [get_put_ne he] at h1
    exact he (H.inj i id pl' pl h1 hl h2 ho h3)
theorem gone_kill {id : Nat} {pl : Pl} (H : HR own h w) (hl : isLive (h.get id)) (ho : own id = some (some pl)) : Gone own (h.put id .dead) pl.g := ⟨not_live_kill H hl ho, fun hx => (H.st.rest _ hx).2 ⟨id, pl, hl, ho, rfl⟩⟩
theorem Ext.kill (H : HR own h w) (id : Nat) (hnl : ¬ isLock (h.get id)) : Ext own h w own (h.put id .dead) w := ⟨fun _ _ h => h, Nat.le_refl _, rfl, rfl, rfl, fun g _ hg => ⟨fun h1 => hg (live_kill H h1), rfl⟩, fun i T l hi => by
    have hne : i ≠ id := by rintro rfl; rw [hi] at hnl; exact hnl trivial
    exact ⟨by rw [get_put_ne hne]; exact hi, fun _ _ => rfl⟩, rfl⟩
theorem HR.kill (H : HR own h w) (id : Nat) (hnl : ¬ isLock (h.get id)) : HR own (h.put id .dead) w := by
  have hE : Ext own h w own (h.put id .dead) w := .kill H id hnl
  have hg : ∀ i, isLive ((h.put id .dead).get i) → i ≠ id ∧ isLive (h.get i) := fun i hi => by
    by_cases he : i = id
    · subst he
      rw [get_put, if_pos rfl] at hi
      split at hi <;> exact hi.elim
    · rw [get_put_ne he] at hi; exact ⟨he, hi⟩
  refine ⟨fun i hi => ?_, fun i i' pl1 pl2 h1 h2 h3 h4 h5 => H.inj i i' pl1 pl2 (hg i h1).2 (hg i' h2).2 h3 h4 h5, fun i hi => H.dom i (by rw [next_put] at hi; exact hi), H.st.ext hE⟩
  obtain ⟨he, hi'⟩ := hg i hi
  rw [get_put_ne he]
  rcases H.live i hi' with ⟨pl', h1, h2⟩ | h1
  · exact .inl ⟨pl', h1, h2.mono hE.ow hE.cells rfl⟩
  · exact .inr h1
/-- a block passes over to a new number -/
theorem HR.adopt {id : Nat} {b : AB} {pl pl' : Pl} (H : HR own h w) (hnl : ¬ isLock (h.get id)) (hl : isLive (h.get id)) (ho : own id = some (some pl)) (hg : pl'.g = pl.g) (hb : isLive b) (hw : But pl.g w w')
    (hB : ∀ C : CellsP, (∀ g o u, Cw own h w g o u → C g o u) → BR (own.upd h.next (some pl')) C w' b pl') :
    HR (own.upd h.next (some pl')) ((h.put id .dead).new b) w' ∧ Ext own h w (own.upd h.next (some pl')) ((h.put id .dead).new b) w' := by
  have hn := H.dom h.next (Nat.le_refl _)
  have hlt := get_lt hl
  have hnx : (h.put id .dead).next = h.next := next_put
  have hlv : ∀ g, Live (own.upd h.next (some pl')) ((h.put id .dead).new b) g → Live own h g := by
    rintro g ⟨i, pl1, h1, h2, rfl⟩
    rw [get_new, hnx] at h1
    by_cases he : i = h.next
    · subst he; rw [upd_self] at h2; cases h2; exact ⟨id, pl, hl, ho, hg.symm⟩
    · rw [if_neg he] at h1; rw [upd_ne he] at h2; exact live_kill H ⟨i, pl1, h1, h2, rfl⟩
  have hE : Ext own h w (own.upd h.next (some pl')) ((h.put id .dead).new b) w' :=
    ⟨upd_ext hn, by rw [hw.size]; exact Nat.le_refl _, hw.os, hw.tape, hw.output, fun g _ hg' => ⟨fun h1 => hg' (hlv g h1), hw.keep g (by rintro rfl; exact hg' ⟨id, pl, hl, ho, rfl⟩)⟩, fun i T l hi => by
      have hne : i ≠ id := by rintro rfl; rw [hi] at hnl; exact hnl trivial
      have hlt' := get_lt (h := h) (id := i) (by rw [hi]; trivial)
      exact ⟨by rw [get_new, hnx, if_neg (by omega), get_put_ne hne]; exact hi, fun pl1 hp => hw.keep _ fun e => hne (H.inj i id pl1 pl (by rw [hi]; trivial) hl hp ho e)⟩, rfl⟩
  have hold : ∀ i, i ≠ h.next → isLive (((h.put id .dead).new b).get i) → i ≠ id ∧ isLive (h.get i) := fun i he hi => by
    rw [get_new, hnx, if_neg he] at hi
    by_cases he' : i = id
    · subst he'
      rw [get_put, if_pos rfl] at hi
      split at hi <;> exact hi.elim
    · rw [get_put_ne he'] at hi; exact ⟨he', hi⟩
  refine ⟨⟨fun i hi => ?_, fun i i' pl1 pl2 h1 h2 h3 h4 h5 => ?_, fun i hi => ?_, H.st.ext hE⟩, hE⟩
  · by_cases he : i = h.next
    · subst he
      rw [get_new, hnx, if_pos rfl]
      exact .inl ⟨pl', upd_self, hB _ hE.cells⟩
    · obtain ⟨h1, h2⟩ := hold i he hi
      rw [get_new, hnx, if_neg he, get_put_ne h1]
      rcases H.live i h2 with ⟨pl1, h3, h4⟩ | h3
      · exact .inl ⟨pl1, hE.ow _ _ h3, h4.mono hE.ow hE.cells (hw.keep _ fun e => h1 (H.inj i id pl1 pl h2 hl h3 ho e))⟩
      · exact .inr ⟨hE.ow _ _ h3.1, h3.2⟩
  · by_cases he : i = h.next
    · by_cases he' : i' = h.next
      · rw [he, he']
      · obtain ⟨h6, h7⟩ := hold i' he' h2
        subst he
        rw [upd_self] at h3
        cases h3
        rw [upd_ne he'] at h4
        exact absurd (H.inj i' id pl2 pl h7 hl h4 ho (h5.symm.trans hg)) h6
    · obtain ⟨h6, h7⟩ := hold i he h1
      rw [upd_ne he] at h3
      by_cases he' : i' = h.next
      · subst he'
        rw [upd_self] at h4
        cases h4
        exact absurd (H.inj i id pl1 pl h7 hl h3 ho (h5.trans hg)) h6
      · obtain ⟨h8, h9⟩ := hold i' he' h2
        rw [upd_ne he'] at h4
        exact H.inj i i' pl1 pl2 h7 h9 h3 h4 h5
  · rw [next_new, hnx] at hi
    rw [upd_ne (by omega)]
    exact H.dom i (by omega)
end
end AM
end Go
