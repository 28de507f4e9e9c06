/- A part of the heap by itself: numbers are given anew, what is not reached is left alone; and back. -/
import Derived.Test.YthegkipclogoeaaDoorAmCode
set_option linter.unusedVariables false
set_option linter.unusedSimpArgs false
namespace Go
namespace AM
open LMem LTxt
mutual
def AV.ren (r : Nat → Option Nat) : AV → Option AV
  | .p id off => match r id with
    | some i => some (.p i off)
    | none => none
  | .sl id off len => match r id with
    | some i => some (.sl i off len)
    | none => none
  | .ep id k off => match r id with
    | some i => some (.ep i k off)
    | none => none
  | .agg l => match rens r l with
    | some l' => some (.agg l')
    | none => none
  | .tup l => match rens r l with
    | some l' => some (.tup l')
    | none => none
  | .fn f l => match rens r l with
    | some l' => some (.fn f l')
    | none => none
  | .any => some .any
  | .c v => some (.c v)
  | .ro s xs => some (.ro s xs)
  | .rp s xs i off => some (.rp s xs i off)
def rens (r : Nat → Option Nat) : List AV → Option (List AV)
  | [] => some []
  | a :: l => match a.ren r with
    | some a' => match rens r l with
      | some l' => some (a' :: l')
      | none => none
    | none => none
end
def AB.ren (r : Nat → Option Nat) : AB → Option AB
  | .cells T l => match rens r l with
    | some l' => some (.cells T l')
    | none => none
  | .lock _ _ => none
  | .mix E s xs a => match a.ren r with
    | some a' => some (.mix E s xs a')
    | none => none
  | b => some b
def idx : List Nat → Nat → Option Nat
  | [], _ => none
  | j :: l, i => match Nat.beq j i with
    | true => some 0
    | false => match idx l i with
      | some k => some (k + 1)
      | none => none
def nodupB : List Nat → Bool
  | [] => true
  | i :: l => match idx l i with
    | some _ => false
    | none => nodupB l
def subs (r : Nat → Option Nat) (h : AH) : List Nat → Option (List AB)
  | [] => some []
  | id :: l => match (h.get id).ren r with
    | some b => match subs r h l with
      | some bl => some (b :: bl)
      | none => none
    | none => none
mutual
def AV.ids : AV → List Nat
  | .p id _ => [id]
  | .sl id _ _ => [id]
  | .ep id _ _ => [id]
  | .agg l => idsOf l
  | .tup l => idsOf l
  | .fn _ l => idsOf l
  | _ => []
def idsOf : List AV → List Nat
  | [] => []
  | a :: l => a.ids ++ idsOf l
end
def AB.ids : AB → List Nat
  | .cells _ l => idsOf l
  | .mix _ _ _ a => a.ids
  | _ => []
/-- all numbers that are reached, in the order of the walk -/
def reach (h : AH) : Nat → List Nat → List Nat → List Nat
  | 0, _, acc => acc
  | n + 1, l, acc => match l with
    | [] => acc
    | id :: l => match idx acc id with
      | some _ => reach h n l acc
      | none => reach h n ((h.get id).ids ++ l) (acc ++ [id])
/-- a struct or a variable: it stays where it is -/
def AB.isC : AB → Bool
  | .cells _ _ => true
  | _ => false
def Own.loc (own : Own) (ids : List Nat) (X : Nat → Prop) : Own := ⟨fun i => match ids[i]? with
  | some id => own id
  | none => none, X⟩
/-- what a call may turn, weakly: numbers may stand for other blocks behind it -/
structure Ext0 (own : Own) (h : AH) (w : World) (own' : Own) (h' : AH) (w' : World) : Prop where
  size : w.heap.size ≤ w'.heap.size
  os : w'.os = w.os
  tape : w'.tape = w.tape
  output : w'.output = w.output
  fz : ∀ g, g < w.heap.size → ¬ Live own h g → ¬ Live own' h' g ∧ w'.heap[g]? = w.heap[g]?
  xe : own'.X = own.X
section
variable {own own' own1 own2 : Own} {h h' h1 h2 : AH} {w w' : World} {C C' : CellsP}
theorem Ext.weak (hE : Ext own h w own' h' w') : Ext0 own h w own' h' w' := ⟨hE.size, hE.os, hE.tape, hE.output, hE.fz, hE.xe⟩
theorem Ext0.cells (h1 : Ext0 own h w own' h' w') : ∀ g o u, Cw own h w g o u → Cw own' h' w' g o u := fun g o u ⟨h2, h3⟩ =>
  let ⟨h4, h5⟩ := h1.fz g (World.block_lt_of_cell? w _ h3) h2.1
  ⟨⟨h4, by rw [h1.xe]; exact h2.2⟩, (World.cell?_of_block (a := ⟨g, o, none⟩) h5).trans h3⟩
theorem Ext0.trans {own'' : Own} {h'' : AH} {w'' : World} (h1 : Ext0 own h w own' h' w') (h2 : Ext0 own' h' w' own'' h'' w'') : Ext0 own h w own'' h'' w'' :=
  ⟨Nat.le_trans h1.size h2.size, h2.os.trans h1.os, h2.tape.trans h1.tape, h2.output.trans h1.output, fun g hg hl =>
    let ⟨h3, h4⟩ := h1.fz g hg hl
    let ⟨h5, h6⟩ := h2.fz g (Nat.lt_of_lt_of_le hg h1.size) h3
    ⟨h5, h6.trans h4⟩, h2.xe.trans h1.xe⟩

/-! ### Numbers given anew -/
mutual
theorem VR.ren {r : Nat → Option Nat} (hr : ∀ id i x, r id = some i → own id = some x → own' i = some x) (hC : ∀ g o u, C g o u → C' g o u) : ∀ {a a' : AV} {v : Value}, a.ren r = some a' → VR own C a v → VR own' C' a' v
  | .any, a', v, he, _ => by simp only [AV.ren, Option.some.injEq] at he; subst he; simp only [VR]
  | .c x, a', v, he, hv => by simp only [AV.ren, Option.some.injEq] at he; subst he; simpa only [VR] using hv
  | .p id off, a', v, he, hv => by
    simp only [AV.ren] at he
    split at he
    · rename_i i hi
      cases he
      simp only [VR] at hv ⊢
      obtain ⟨pl, h1, h2⟩ := hv
      exact ⟨pl, hr _ _ _ hi h1, h2⟩
    · cases he
  | .sl id off len, a', v, he, hv => by
    simp only [AV.ren] at he
    split at he
    · rename_i i hi
      cases he
      simp only [VR] at hv ⊢
      rcases hv with ⟨h1, h2, x, h3⟩ | ⟨pl, o, cap, h1, h2⟩
      · exact .inl ⟨h1, h2, x, hr _ _ _ hi h3⟩
      · exact .inr ⟨pl, o, cap, hr _ _ _ hi h1, h2⟩
    · cases he
  | .ro s xs, a', v, he, hv => by
    simp only [AV.ren, Option.some.injEq] at he
    subst he
    simp only [VR] at hv ⊢
    exact hv.mono hC fun _ _ => DR.mono hC
  | .ep id k off, a', v, he, hv => by
    simp only [AV.ren] at he
    split at he
    · rename_i i hi
      cases he
      simp only [VR] at hv ⊢
      obtain ⟨pl, h1, h2⟩ := hv
      exact ⟨pl, hr _ _ _ hi h1, h2⟩
    · cases he
  | .rp s xs i off, a', v, he, hv => by
    simp only [AV.ren, Option.some.injEq] at he
    subst he
    simp only [VR] at hv ⊢
    obtain ⟨g, o, h1, h2⟩ := hv
    exact ⟨g, o, h1, h2.mono (hC g) fun _ _ => DR.mono hC⟩
  | .agg l, a', v, he, hv => by
    simp only [AV.ren] at he
    split at he
    · rename_i l' hl
      cases he
      simp only [VR] at hv ⊢
      obtain ⟨vs, h1, h2⟩ := hv
      exact ⟨vs, h1, VRs.ren hr hC hl h2⟩
    · cases he
  | .tup l, a', v, he, hv => by
    simp only [AV.ren] at he
    split at he
    · rename_i l' hl
      cases he
      simp only [VR] at hv ⊢
      obtain ⟨vs, h1, h2⟩ := hv
      exact ⟨vs, h1, VRs.ren hr hC hl h2⟩
    · cases he
  | .fn f l, a', v, he, hv => by
    simp only [AV.ren] at he
    split at he
    · rename_i l' hl
      cases he
      simp only [VR] at hv ⊢
      obtain ⟨vs, h1, h2⟩ := hv
      exact ⟨vs, h1, VRs.ren hr hC hl h2⟩
    · cases he
theorem VRs.ren {r : Nat → Option Nat} (hr : ∀ id i x, r id = some i → own id = some x → own' i = some x) (hC : ∀ g o u, C g o u → C' g o u) : ∀ {l l' : List AV} {vs : List Value}, rens r l = some l' → VRs own C l vs → VRs own' C' l' vs
  | [], l', vs, he, hv => by simp only [rens, Option.some.injEq] at he; subst he; simpa only [VRs] using hv
  | a :: l, l', vs, he, hv => by
    simp only [rens] at he
    split at he
    · rename_i a' ha
      split at he
      · rename_i l2 hl
        cases he
        simp only [VRs] at hv ⊢
        obtain ⟨v, q, h1, h2, h3⟩ := hv
        exact ⟨v, q, h1, VR.ren hr hC ha h2, VRs.ren hr hC hl h3⟩
      · cases he
    · cases he
end
theorem ren_one {r : Nat → Option Nat} {a a' : AV} (he : a.ren r = some a') (h1 : a.one = true) : a'.one = true := by
  cases a <;> simp only [AV.ren, AV.one] at he h1 <;> first
    | (cases h1; done)
    | (split at he <;> first | (cases he; rfl) | cases he)
    | (cases he; exact h1)
    | (cases he; rfl)
theorem rens_ones {r : Nat → Option Nat} : ∀ {l l' : List AV}, rens r l = some l' → ones l = true → ones l' = true
  | [], l', he, _ => by simp only [rens, Option.some.injEq] at he; subst he; rfl
  | a :: l, l', he, h1 => by
    simp only [rens] at he
    split at he
    · rename_i a' ha
      split at he
      · rename_i l2 hl
        cases he
        simp only [ones] at h1 ⊢
        split at h1
        · rename_i ho
          rw [ren_one ha ho]
          exact rens_ones hl h1
        · cases h1
      · cases he
    · cases he
theorem BR.ren {r : Nat → Option Nat} (hr : ∀ id i x, r id = some i → own id = some x → own' i = some x) (hC : ∀ g o u, C g o u → C' g o u) {b b' : AB} {pl : Pl} (he : b.ren r = some b') (hw : w'.heap[pl.g]? = w.heap[pl.g]?) (hb : BR own C w b pl) : BR own' C' w' b' pl := by
  cases b with
  | dead => exact hb.elim
  | lock T l => simp only [AB.ren] at he; cases he
  | cells T l =>
    simp only [AB.ren] at he
    split at he
    · rename_i l' hl
      cases he
      obtain ⟨cs, T', fr, us, h1, h2, h3, h4, h5, h6⟩ := hb
      exact ⟨cs, T', fr, us, hw.trans h1, ⟨h2.fr, h2.ty, h2.d0, by rw [h2.len, ← h4.length, (h4.ren (own' := own') (C' := C') hr hC hl).length], h2.one⟩, h3, h4.ren hr hC hl, rens_ones hl h5, h6⟩
    · cases he
  | seq E s xs =>
    simp only [AB.ren, Option.some.injEq] at he
    subst he
    exact BR.mono (own := ⟨fun _ => none, fun _ => False⟩) (fun _ _ h => (by cases h)) hC hw hb
  | iter s pos =>
    simp only [AB.ren, Option.some.injEq] at he
    subst he
    exact ⟨hb.1, hw.trans hb.2⟩
  | mix E s xs a =>
    simp only [AB.ren] at he
    split at he
    · rename_i a' ha
      cases he
      obtain ⟨cs, T', fr, u, h1, h2, h3, h4, h5, h6, h7, h8, h9⟩ := hb
      exact ⟨cs, T', fr, u, hw.trans h1, h2, h3, h4, h5, h6.mono (fun _ _ h => h) fun _ _ => DR.mono hC, h7.ren hr hC ha, ren_one ha h8, h9⟩
    · cases he
theorem ren_live {r : Nat → Option Nat} {b b' : AB} (he : b.ren r = some b') : isLive b' ↔ isLive b := by
  cases b <;> simp only [AB.ren] at he <;> first
    | (cases he; exact Iff.rfl)
    | (split at he <;> first | (cases he; exact Iff.rfl) | cases he)
    | cases he
theorem idx_some : ∀ {l : List Nat} {id i : Nat}, idx l id = some i → l[i]? = some id
  | [], _, _, h => by cases h
  | j :: l, id, i, h => by
    simp only [idx] at h
    split at h
    · rename_i hb
      cases h
      rw [Nat.eq_of_beq_eq_true hb]
      rfl
    · split at h
      · rename_i k hk
        cases h
        simpa using idx_some hk
      · cases h
theorem idx_none : ∀ {l : List Nat} {id : Nat}, idx l id = none → id ∉ l
  | [], _, _ => by simp
  | j :: l, id, h => by
    simp only [idx] at h
    split at h
    · cases h
    · rename_i hb
      split at h
      · cases h
      · rename_i hk
        intro hm
        rcases List.mem_cons.1 hm with rfl | hm
        · simp at hb
        · exact idx_none hk hm
theorem idx_self {l : List Nat} {id : Nat} (h : id ∈ l) : ∃ i, idx l id = some i := by
  cases hi : idx l id with
  | some i => exact ⟨i, rfl⟩
  | none => exact absurd h (idx_none hi)
theorem nodup_inj : ∀ {l : List Nat}, nodupB l = true → ∀ {i j id : Nat}, l[i]? = some id → l[j]? = some id → i = j
  | [], _, i, j, id, h1, _ => by simp at h1
  | k :: l, hn, i, j, id, h1, h2 => by
    simp only [nodupB] at hn
    split at hn
    · cases hn
    · rename_i hk
      have := idx_none hk
      cases i with
      | zero =>
        simp at h1
        subst h1
        cases j with
        | zero => rfl
        | succ j => exact absurd (List.mem_of_getElem? (by simpa using h2)) this
      | succ i =>
        cases j with
        | zero =>
          simp at h2
          subst h2
          exact absurd (List.mem_of_getElem? (by simpa using h1)) this
        | succ j => exact congrArg (· + 1) (nodup_inj hn (id := id) (by simpa using h1) (by simpa using h2))
theorem subs_get {r : Nat → Option Nat} : ∀ {l : List Nat} {bl : List AB}, subs r h l = some bl → bl.length = l.length ∧ ∀ (i id : Nat), l[i]? = some id → ∃ b, bl[i]? = some b ∧ (h.get id).ren r = some b
  | [], bl, he => by simp only [subs, Option.some.injEq] at he; subst he; exact ⟨rfl, fun i id hi => by simp at hi⟩
  | k :: l, bl, he => by
    simp only [subs] at he
    split at he
    · rename_i b hb
      split at he
      · rename_i bl' hbl
        cases he
        obtain ⟨h1, h2⟩ := subs_get hbl
        refine ⟨by simp [h1], fun i id hi => ?_⟩
        cases i with
        | zero => simp at hi; subst hi; exact ⟨b, rfl, hb⟩
        | succ i => simpa using h2 i id (by simpa using hi)
      · cases he
    · cases he
theorem get_lit {bl : List AB} {lg : List Nat} {i : Nat} : (AH.mk bl lg).get i = bl.getD i .dead := rfl
/-- the live blocks of a part are some of the whole's -/
theorem loc_live {ids : List Nat} {bl : List AB} {X : Nat → Prop} (hs : subs (idx ids) h ids = some bl) {g : Nat} (hl : Live (own.loc ids X) ⟨bl, []⟩ g) : Live own h g ∧ ∃ (i id : Nat) (pl : Pl), ids[i]? = some id ∧ isLive (h.get id) ∧ own id = some (some pl) ∧ pl.g = g := by
  obtain ⟨i, pl, h1, h2, rfl⟩ := hl
  simp only [Own.loc] at h2
  split at h2
  · rename_i id hi
    obtain ⟨b, h3, h4⟩ := (subs_get hs).2 i id hi
    rw [get_lit, List.getD_eq_getElem?_getD, h3] at h1
    have h5 := (ren_live h4).1 h1
    exact ⟨⟨id, pl, h5, h2, rfl⟩, i, id, pl, hi, h5, h2, rfl⟩
  · cases h2
/-- A PART OF THE HEAP. -/
theorem HR.loc (H : HR own h w) {ids : List Nat} (hn : nodupB ids = true) {bl : List AB} (hs : subs (idx ids) h ids = some bl) {X : Nat → Prop} (hX : ∀ g, own.X g → X g) (hX2 : ∀ g, X g → own.X g ∨ Live own h g) (hX3 : ∀ g, X g → ¬ Live (own.loc ids X) ⟨bl, []⟩ g) :
    HR (own.loc ids X) ⟨bl, []⟩ w ∧ (∀ g o u, Cw own h w g o u → Cw (own.loc ids X) ⟨bl, []⟩ w g o u) ∧ (∀ id i x, idx ids id = some i → own id = some x → (own.loc ids X) i = some x) := by
  obtain ⟨hlen, hget⟩ := subs_get hs
  have hC : ∀ g o u, Cw own h w g o u → Cw (own.loc ids X) ⟨bl, []⟩ w g o u := fun g o u ⟨h1, h2⟩ => ⟨⟨fun h3 => h1.1 (loc_live hs h3).1, fun h3 => by
    rcases hX2 g h3 with h4 | h4
    · exact h1.2 h4
    · exact h1.1 h4⟩, h2⟩
  have hr : ∀ id i x, idx ids id = some i → own id = some x → (own.loc ids X) i = some x := fun id i x hi ho => by
    simp only [Own.loc, idx_some hi]
    exact ho
  have hat : ∀ i, isLive ((AH.mk bl []).get i) → ∃ id b, ids[i]? = some id ∧ bl[i]? = some b ∧ (h.get id).ren (idx ids) = some b ∧ (AH.mk bl []).get i = b ∧ isLive (h.get id) ∧ (own.loc ids X) i = own id := fun i hi => by
    rw [get_lit, List.getD_eq_getElem?_getD] at hi
    rcases Nat.lt_or_ge i ids.length with h1 | h1
    · obtain ⟨b, h3, h4⟩ := hget i _ (List.getElem?_eq_getElem h1)
      rw [h3] at hi
      exact ⟨_, b, List.getElem?_eq_getElem h1, h3, h4, by rw [get_lit, List.getD_eq_getElem?_getD, h3]; rfl, (ren_live h4).1 hi, by simp only [Own.loc, List.getElem?_eq_getElem h1]⟩
    · rw [List.getElem?_eq_none (by omega)] at hi; exact hi.elim
  refine ⟨⟨fun i hi => ?_, fun i j pl pl' hi hj ho ho' hg => ?_, fun i hi => ?_, ⟨fun g hg => ⟨?_, hX3 g hg⟩, fun g o u hg => hC g o u (H.st.tab g o u hg), H.st.blk⟩⟩, hC, hr⟩
  · obtain ⟨id, b, h1, h2, h3, h4, h5, h6⟩ := hat i hi
    rw [h4, h6]
    rcases H.live id h5 with ⟨pl, h7, h8⟩ | ⟨h7, E, s, h8⟩
    · exact .inl ⟨pl, h7, h8.ren hr hC h3 rfl⟩
    · rw [h8] at h3
      simp only [AB.ren, Option.some.injEq] at h3
      exact .inr ⟨h7, E, s, h3.symm⟩
  · obtain ⟨id, b, h1, h2, h3, h4, h5, h6⟩ := hat i hi
    obtain ⟨id', b', h1', h2', h3', h4', h5', h6'⟩ := hat j hj
    rw [h6] at ho
    rw [h6'] at ho'
    have := H.inj id id' pl pl' h5 h5' ho ho' hg
    subst this
    exact nodup_inj hn h1 h1'
  · simp only [Own.loc]
    rw [List.getElem?_eq_none (by unfold AH.next at hi; simp only at hi; omega)]
  · rcases hX2 g hg with h1 | h1
    · exact (H.st.rest g h1).1
    · exact h1.lt H

/-! ### Back -/
/-- which numbers keep their block -/
def keepB (bl : List AB) (i : Nat) : Bool := (bl.getD i .dead).isC
/-- the part's numbers in the whole -/
def backR (n : Nat) (ids : List Nat) (bl : List AB) (i : Nat) : Option Nat := match keepB bl i with
  | true => some (ids.getD i 0)
  | false => some (n + i)
def AB.renD (r : Nat → Option Nat) (b : AB) : AB := match b.ren r with
  | some b' => b'
  | none => .dead
def backAt (h : AH) (ids : List Nat) (bl : List AB) (h2 : AH) (id : Nat) : AB := match Nat.blt id h.next with
  | true => match idx ids id with
    | some i => match keepB bl i with
      | true => (h2.get i).renD (backR h.next ids bl)
      | false => .dead
    | none => h.get id
  | false => match keepB bl (id - h.next) with
    | true => .dead
    | false => (h2.get (id - h.next)).renD (backR h.next ids bl)
/-- the whole behind the call -/
def back (h : AH) (ids : List Nat) (bl : List AB) (h2 : AH) : AH := ⟨(List.range (h.next + h2.next)).map (backAt h ids bl h2), []⟩
theorem back_get {ids : List Nat} {bl : List AB} {id : Nat} : (back h ids bl h2).get id = if id < h.next + h2.next then backAt h ids bl h2 id else .dead := by
  unfold back
  rw [get_lit, List.getD_eq_getElem?_getD, List.getElem?_map]
  split
  · rename_i hlt
    rw [List.getElem?_range hlt]
    rfl
  · rename_i hlt
    rw [List.getElem?_eq_none (by simp; omega)]
    rfl
theorem blt_true {a b : Nat} : Nat.blt a b = true ↔ a < b := by
  unfold Nat.blt
  simp [Nat.ble_eq]; omega
theorem renD_live {r : Nat → Option Nat} {b : AB} (hl : isLive (b.renD r)) : b.ren r = some (b.renD r) ∧ isLive b := by
  unfold AB.renD at hl ⊢
  split at hl
  · rename_i b' hb
    rw [hb]
    exact ⟨rfl, (ren_live hb).1 hl⟩
  · exact hl.elim
/-- who is left alone -/
def Rest (own : Own) (h : AH) (ids : List Nat) (bl : List AB) (g : Nat) : Prop := own.X g ∨ (Live own h g ∧ ¬ Live (own.loc ids fun _ => False) ⟨bl, []⟩ g)
def Own.back (own : Own) (n : Nat) (own1 : Own) : Own := ⟨fun id => if id < n then own id else own1 (id - n), own.X⟩
theorem live_X {ids : List Nat} {X X' : Nat → Prop} {g : Nat} : Live (own.loc ids X) h g ↔ Live (own.loc ids X') h g := Iff.rfl
theorem keep_spec {ids : List Nat} {bl : List AB} (hs : subs (idx ids) h ids = some bl) {i : Nat} (hk : keepB bl i = true) : ∃ id, ids[i]? = some id ∧ isLive (h.get id) ∧ id < h.next := by
  unfold keepB at hk
  rw [List.getD_eq_getElem?_getD] at hk
  obtain ⟨hlen, hget⟩ := subs_get hs
  rcases Nat.lt_or_ge i ids.length with h1 | h1
  · obtain ⟨b, h3, h4⟩ := hget i _ (List.getElem?_eq_getElem h1)
    rw [h3] at hk
    have hl : isLive b := by
      cases b <;> simp [AB.isC] at hk
      trivial
    have h5 := (ren_live h4).1 hl
    exact ⟨_, List.getElem?_eq_getElem h1, h5, get_lt h5⟩
  · rw [List.getElem?_eq_none (by omega)] at hk
    simp [AB.isC] at hk
/-- the frame of the part: what it is to begin with -/
theorem HR.part (H : HR own h w) {ids : List Nat} (hn : nodupB ids = true) {bl : List AB} (hs : subs (idx ids) h ids = some bl) :
    HR (own.loc ids (Rest own h ids bl)) ⟨bl, []⟩ w ∧ (∀ g o u, Cw own h w g o u → Cw (own.loc ids (Rest own h ids bl)) ⟨bl, []⟩ w g o u) ∧ (∀ id i x, idx ids id = some i → own id = some x → (own.loc ids (Rest own h ids bl)) i = some x) :=
  H.loc hn hs (fun g hg => .inl hg) (fun g hg => hg.imp id (·.1)) (fun g hg hl => by
    rcases hg with h1 | h1
    · exact (H.st.rest g h1).2 (loc_live hs hl).1
    · exact h1.2 (live_X.1 hl))
theorem backAt_live {ids : List Nat} {bl : List AB} (hs : subs (idx ids) h ids = some bl) (hfix : ∀ i, keepB bl i = true → own1 i = (own.loc ids (Rest own h ids bl)) i) {id : Nat} (hl : isLive ((AM.back h ids bl h2).get id)) :
    (∃ i, isLive (h2.get i) ∧ (h2.get i).ren (backR h.next ids bl) = some ((AM.back h ids bl h2).get id) ∧ (own.back h.next own1) id = own1 i ∧ ((keepB bl i = true ∧ ids[i]? = some id) ∨ (keepB bl i = false ∧ id = h.next + i))) ∨
    (id < h.next ∧ idx ids id = none ∧ (AM.back h ids bl h2).get id = h.get id ∧ isLive (h.get id) ∧ (own.back h.next own1) id = own id) := by
  rw [back_get] at hl ⊢
  split at hl
  · rename_i hlt
    rw [if_pos hlt]
    unfold backAt at hl ⊢
    split at hl
    · rename_i hb
      have hb' := blt_true.1 hb
      have ho : (own.back h.next own1) id = own id := by simp only [Own.back]; rw [if_pos hb']
      try simp only [hb]
      split at hl
      · rename_i i hi
        split at hl
        · rename_i hk
          try simp only [hi, hk]
          obtain ⟨h1, h3⟩ := renD_live hl
          refine .inl ⟨i, h3, h1, ?_, .inl ⟨hk, idx_some hi⟩⟩
          rw [ho, hfix i hk]
          simp only [Own.loc, idx_some hi]
        · exact hl.elim
      · rename_i hi
        exact .inr ⟨hb', hi, by first | rfl | trivial, hl, ho⟩
    · rename_i hb
      have hb' : ¬ id < h.next := fun hlt' => by rw [blt_true.2 hlt'] at hb; cases hb
      have ho : (own.back h.next own1) id = own1 (id - h.next) := by simp only [Own.back]; rw [if_neg hb']
      try simp only [hb]
      split at hl
      · exact hl.elim
      · rename_i hk
        try simp only [hk]
        obtain ⟨h1, h3⟩ := renD_live hl
        exact .inl ⟨id - h.next, h3, h1, ho, .inr ⟨hk, by omega⟩⟩
  · exact hl.elim
theorem foreign {ids : List Nat} {bl : List AB} (H : HR own h w) (hs : subs (idx ids) h ids = some bl) {id : Nat} {pl : Pl} (hi : idx ids id = none) (hl : isLive (h.get id)) (ho : own id = some (some pl)) : Rest own h ids bl pl.g :=
  .inr ⟨⟨id, pl, hl, ho, rfl⟩, fun h1 => by
    obtain ⟨_, i, id2, pl2, h3, h4, h5, h6⟩ := loc_live hs h1
    have := H.inj id2 id pl2 pl h4 hl h5 ho h6
    subst this
    exact idx_none hi (List.mem_of_getElem? h3)⟩
/-- THE WHOLE BEHIND THE CALL. -/
theorem HR.back (H : HR own h w) {ids : List Nat} {bl : List AB} (hs : subs (idx ids) h ids = some bl) (H1 : HR own1 h2 w') (hE : Ext0 (own.loc ids (Rest own h ids bl)) ⟨bl, []⟩ w own1 h2 w')
    (hfix : ∀ i, keepB bl i = true → own1 i = (own.loc ids (Rest own h ids bl)) i) (hC0 : ∀ g o u, Cw own h w g o u → Cw (own.loc ids (Rest own h ids bl)) ⟨bl, []⟩ w g o u) :
    HR (own.back h.next own1) (AM.back h ids bl h2) w' ∧ Ext own h w (own.back h.next own1) (AM.back h ids bl h2) w' ∧ (∀ g o u, Cw own1 h2 w' g o u → Cw (own.back h.next own1) (AM.back h ids bl h2) w' g o u) ∧
      (∀ i k x, backR h.next ids bl i = some k → own1 i = some x → (own.back h.next own1) k = some x) := by
  have hX1 : own1.X = Rest own h ids bl := hE.xe
  have hat := fun id hl => backAt_live (own := own) (own1 := own1) (h2 := h2) hs hfix (id := id) hl
  have hlive : ∀ g, Live (own.back h.next own1) (AM.back h ids bl h2) g → Live own1 h2 g ∨ (Live own h g ∧ Rest own h ids bl g) := by
    rintro g ⟨id, pl, h1, h3, rfl⟩
    rcases hat id h1 with ⟨i, h4, h5, h6, _⟩ | ⟨h4, h5, h6, h7, h8⟩
    · exact .inl ⟨i, pl, h4, by rw [← h6]; exact h3, rfl⟩
    · rw [h8] at h3
      exact .inr ⟨⟨id, pl, h7, h3, rfl⟩, foreign H hs h5 h7 h3⟩
  have hC : ∀ g o u, Cw own1 h2 w' g o u → Cw (own.back h.next own1) (AM.back h ids bl h2) w' g o u := fun g o u ⟨h1, h3⟩ => ⟨⟨fun h4 => by
    rcases hlive g h4 with h5 | h5
    · exact h1.1 h5
    · exact h1.2 (by rw [hX1]; exact h5.2), fun h4 => h1.2 (by rw [hX1]; exact .inl h4)⟩, h3⟩
  have hCall : ∀ g o u, Cw own h w g o u → Cw (own.back h.next own1) (AM.back h ids bl h2) w' g o u := fun g o u h1 => hC g o u (hE.cells g o u (hC0 g o u h1))
  have hr : ∀ i k x, backR h.next ids bl i = some k → own1 i = some x → (own.back h.next own1) k = some x := fun i k x hk ho => by
    unfold backR at hk
    split at hk
    · rename_i hkeep
      cases hk
      obtain ⟨id, h1, h3, h4⟩ := keep_spec hs hkeep
      rw [List.getD_eq_getElem?_getD, h1]
      simp only [Option.getD_some, Own.back]
      rw [if_pos h4]
      have := hfix i hkeep
      rw [ho] at this
      simp only [Own.loc, h1] at this
      exact this.symm
    · cases hk
      simp only [Own.back]
      rw [if_neg (by omega), Nat.add_sub_cancel_left]
      exact ho
  have how : ∀ id x, own id = some x → (own.back h.next own1) id = some x := fun id x hx => by
    have : id < h.next := by
      rcases Nat.lt_or_ge id h.next with h1 | h1
      · exact h1
      · rw [H.dom id h1] at hx; cases hx
    simp only [Own.back]
    rw [if_pos this]
    exact hx
  have hsame : ∀ (id : Nat) (pl : Pl), idx ids id = none → isLive (h.get id) → own id = some (some pl) → w'.heap[pl.g]? = w.heap[pl.g]? := fun id pl hi hl ho =>
    (hE.fz pl.g (H.lt hl ho) (fun h1 => by
      rcases foreign H hs hi hl ho with h3 | h3
      · exact (H.st.rest _ h3).2 ⟨id, pl, hl, ho, rfl⟩
      · exact h3.2 (live_X.1 h1))).2
  refine ⟨⟨fun id hl => ?_, fun id id' pl pl' hl hl' ho ho' hg => ?_, fun id hi => ?_, ⟨fun g hg => ⟨?_, fun hl => ?_⟩, fun g o u hg => hCall g o u (H.st.tab g o u hg), fun g hg => by
    obtain ⟨o, u, h0⟩ := R1_T0 hg
    obtain ⟨h3, h4⟩ := hC0 g o u (H.st.tab g o u h0)
    rw [(hE.fz g (World.block_lt_of_cell? w _ h4) h3.1).2]
    exact H.st.blk g hg⟩⟩, ⟨how, hE.size, hE.os, hE.tape, hE.output, fun g hg hl => ?_, fun id T l hi => ?_, rfl⟩, hC, hr⟩
  · rcases hat id hl with ⟨i, h4, h5, h6, _⟩ | ⟨h4, h5, h6, h7, h8⟩
    · rw [h6]
      rcases H1.live i h4 with ⟨pl, h7, h8⟩ | ⟨h7, E, s, h8⟩
      · exact .inl ⟨pl, h7, h8.ren hr hC h5 rfl⟩
      · rw [h8] at h5
        simp only [AB.ren, Option.some.injEq] at h5
        exact .inr ⟨h7, E, s, h5.symm⟩
    · rw [h6, h8]
      rcases H.live id h7 with ⟨pl, h9, h10⟩ | h9
      · exact .inl ⟨pl, h9, h10.mono how hCall (hsame id pl h5 h7 h9)⟩
      · exact .inr h9
  · rcases hat id hl with ⟨i, h4, h5, h6, h7⟩ | ⟨h4, h5, h6, h7, h8⟩
    · rcases hat id' hl' with ⟨j, g4, g5, g6, g7⟩ | ⟨g4, g5, g6, g7, g8⟩
      · rw [h6] at ho
        rw [g6] at ho'
        have hij := H1.inj i j pl pl' h4 g4 ho ho' hg
        subst hij
        rcases h7 with ⟨h8, h9⟩ | ⟨h8, h9⟩ <;> rcases g7 with ⟨g8, g9⟩ | ⟨g8, g9⟩
        · rw [h9] at g9; cases g9; rfl
        · rw [h8] at g8; cases g8
        · rw [h8] at g8; cases g8
        · rw [h9, g9]
      · rw [h6] at ho
        rw [g8] at ho'
        exact absurd ⟨i, pl, h4, ho, hg⟩ (H1.st.rest pl'.g (by rw [hX1]; exact foreign H hs g5 g7 ho')).2
    · rw [h8] at ho
      rcases hat id' hl' with ⟨j, g4, g5, g6, g7⟩ | ⟨g4, g5, g6, g7, g8⟩
      · rw [g6] at ho'
        exact absurd ⟨j, pl', g4, ho', hg.symm⟩ (H1.st.rest pl.g (by rw [hX1]; exact foreign H hs h5 h7 ho)).2
      · rw [g8] at ho'
        exact H.inj id id' pl pl' h7 g7 ho ho' hg
  · have hi' : h.next + h2.next ≤ id := by simpa [AM.back, AH.next] using hi
    simp only [Own.back]
    rw [if_neg (by omega)]
    exact H1.dom _ (by omega)
  · exact Nat.lt_of_lt_of_le (H.st.rest g hg).1 hE.size
  · rcases hlive g hl with h1 | h1
    · exact (H1.st.rest g (by rw [hX1]; exact .inl hg)).2 h1
    · exact (H.st.rest g hg).2 h1.1
  · have h1 : ¬ Live (own.loc ids (Rest own h ids bl)) ⟨bl, []⟩ g := fun h1 => hl (loc_live hs h1).1
    obtain ⟨h3, h4⟩ := hE.fz g hg h1
    exact ⟨fun h5 => by
      rcases hlive g h5 with h6 | h6
      · exact h3 h6
      · exact hl h6.1, h4⟩
  · have hlv : isLive (h.get id) := by rw [hi]; trivial
    have hlt := get_lt hlv
    have hnone : idx ids id = none := by
      cases hx : idx ids id with
      | none => rfl
      | some i =>
        obtain ⟨b, _, h4⟩ := (subs_get hs).2 i id (idx_some hx)
        rw [hi] at h4
        simp only [AB.ren] at h4
        cases h4
    refine ⟨?_, fun pl hp => hsame id pl hnone hlv hp⟩
    rw [back_get, if_pos (by omega)]
    unfold backAt
    rw [blt_true.2 hlt]
    simp only [hnone]
    exact hi
end
end AM
end Go
