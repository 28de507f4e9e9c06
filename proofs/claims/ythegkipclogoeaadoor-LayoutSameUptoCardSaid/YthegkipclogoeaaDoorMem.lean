/- Memory: which blocks may turn (Fr), slices that own their cells (Sl), slices that are read (Rd), append for both. -/
import Derived.WalkKit
import Derived.Deep.AppendSrc
import Derived.KernelRfl
import Derived.Deep.Draws
set_option linter.unusedVariables false
set_option linter.unusedSimpArgs false
namespace Go
namespace LMem

/-! ### Frames -/
/-- Blocks of the list `F` and new blocks alone may turn. -/
structure Fr (F : List Nat) (w w' : World) : Prop where
  os : w'.os = w.os
  tape : w'.tape = w.tape
  output : w'.output = w.output
  size : w.heap.size ≤ w'.heap.size
  keep : ∀ i, i < w.heap.size → i ∉ F → w'.heap[i]? = w.heap[i]?
section
variable {F F2 : List Nat} {w w1 w2 : World}
theorem Fr.refl (F : List Nat) (w : World) : Fr F w w := ⟨rfl, rfl, rfl, Nat.le_refl _, fun _ _ _ => rfl⟩
theorem Fr.call (h : Fr F w w1) (h2 : Fr F2 w1 w2) (hs : ∀ i ∈ F2, i ∈ F ∨ w.heap.size ≤ i) : Fr F w w2 :=
  ⟨h2.os.trans h.os, h2.tape.trans h.tape, h2.output.trans h.output, Nat.le_trans h.size h2.size, fun i hi hn =>
    (h2.keep i (Nat.lt_of_lt_of_le hi h.size) (fun hm => (hs i hm).elim hn (fun hle => by omega))).trans (h.keep i hi hn)⟩
theorem Fr.trans (h : Fr F w w1) (h2 : Fr F w1 w2) : Fr F w w2 := h.call h2 fun _ hi => .inl hi
theorem Fr.mono (h : Fr F w w1) (hs : ∀ i ∈ F, i ∈ F2 ∨ w.heap.size ≤ i) : Fr F2 w w1 :=
  ⟨h.os, h.tape, h.output, h.size, fun i hi hn => h.keep i hi fun hm => (hs i hm).elim hn (fun hle => by omega)⟩
theorem Fr.nil (h : Fr [] w w1) : Fr F w w1 := h.mono fun _ hi => by cases hi
theorem Fr.drew (h : Fr F w w1) : Fr F w w1.drew := ⟨h.os, h.tape, h.output, h.size, h.keep⟩
theorem Fr.drewN (h : Fr F w w1) (n : Nat) : Fr F w (w1.drewN n) := ⟨h.os, h.tape, h.output, h.size, h.keep⟩
theorem Fr.alloc (h : Fr F w w1) (o : Obj) : Fr F w (w1.alloc o) :=
  ⟨h.os, h.tape, h.output, Nat.le_trans h.size (by simp), fun i hi hn => (Go.RowKit.Below.heap_alloc w1 o i (Nat.lt_of_lt_of_le hi h.size)).trans (h.keep i hi hn)⟩
theorem Fr.setCell (h : Fr F w w1) {a : Addr} (ha : a.block ∈ F ∨ w.heap.size ≤ a.block) (v : Value) : Fr F w (w1.setCell a v) :=
  ⟨h.os, h.tape, h.output, by simpa using h.size, fun i hi hn =>
    (Go.RowKit.Below.heap_setCell w1 a v i (fun e => ha.elim (fun hm => hn (e ▸ hm)) (fun hle => by omega))).trans (h.keep i hi hn)⟩
theorem Fr.lt (h : Fr F w w1) {i : Nat} (hi : i < w.heap.size) : i < w1.heap.size := Nat.lt_of_lt_of_le hi h.size
theorem Fr.heap (h : Fr F w w1) {i : Nat} {o : Obj} (hi : w.heap[i]? = some o) (hn : i ∉ F) : w1.heap[i]? = some o :=
  (h.keep i (Array.getElem?_eq_some_iff.1 hi).1 hn).trans hi
theorem Fr.cell (h : Fr F w w1) {a : Addr} {v : Value} (hc : w.cell? a = some v) (hn : a.block ∉ F) : w1.cell? a = some v :=
  (World.cell?_of_block (h.keep a.block (World.block_lt_of_cell? w a hc) hn)).trans hc
theorem Fr.below (h : Fr F w w1) (hF : ∀ i ∈ F, w.heap.size ≤ i) : Go.RowKit.Below w.heap.size w w1 :=
  ⟨h.os, h.tape, h.output, h.size, fun i hi => h.keep i hi fun hm => by have := hF i hm; omega⟩
theorem Fr.of_below (h : Go.RowKit.Below w.heap.size w w1) : Fr F w w1 := ⟨h.os, h.tape, h.output, h.size, fun i hi _ => h.block i hi⟩
theorem Fr.of_drawn {n : Nat} : Fr F w (w.drewN n) := (Fr.refl F w).drewN n
end

/-! ### One block -/
section
variable {w : World} {b : Nat} {cs : Array Value} {T : TypeId} {f : Nat × Nat}
theorem lt_of_heap {o : Obj} (h : w.heap[b]? = some o) : b < w.heap.size := (Array.getElem?_eq_some_iff.1 h).1
theorem cell_at (h : w.heap[b]? = some (.cells cs T f)) (i : Nat) : w.cell? ⟨b, i, none⟩ = cs[i]? := by simp [World.cell?, h]
theorem free_at (h : w.heap[b]? = some (.cells cs T (0, 0))) (i : Nat) : w.frozen? ⟨b, i, none⟩ = false := by simp [World.frozen?, h]
theorem heap_set (h : w.heap[b]? = some (.cells cs T f)) (i : Nat) (v : Value) : (w.setCell ⟨b, i, none⟩ v).heap[b]? = some (.cells (cs.setIfInBounds i v) T f) := by
  simp [World.setCell, Array.getElem?_modify, h]
theorem heap_set_ne {a : Addr} {i : Nat} (hne : i ≠ a.block) (v : Value) : (w.setCell a v).heap[i]? = w.heap[i]? := Go.RowKit.Below.heap_setCell w a v i hne
theorem heap_new (o : Obj) : (w.alloc o).heap[w.heap.size]? = some o := by
  change (w.heap.push o)[w.heap.size]? = some o
  simp
theorem heap_old {i : Nat} {o' : Obj} (o : Obj) (h : w.heap[i]? = some o') : (w.alloc o).heap[i]? = some o' := by
  rw [Go.RowKit.Below.heap_alloc w o i (lt_of_heap h)]; exact h
theorem heap_drew (i : Nat) : w.drew.heap[i]? = w.heap[i]? := rfl
theorem heap_drewN (n i : Nat) : (w.drewN n).heap[i]? = w.heap[i]? := rfl
/-- the cells of a block, one fact each -/
theorem cells_of {l : List Value} (h : w.heap[b]? = some (.cells l.toArray T f)) : ∀ i v, l[i]? = some v → w.cell? ⟨b, i, none⟩ = some v := fun i v hv => by rw [cell_at h]; simpa using hv
end

/-! ### Slices -/
def blk : Value → List Nat
  | .slice (some a) _ _ => [a.block]
  | .pointer (some a) => [a.block]
  | _ => []
/-- a slice that is the call's own: nil, or cells of a block that is not frozen -/
def Sl (w : World) (e : TypeId) (size : Nat) (v : Value) (n : Nat) (xs : List Value) : Prop :=
  xs.length = n * size ∧ (∀ u ∈ xs, u.oneCell' = true) ∧
  ((v = .slice none 0 0 ∧ n = 0) ∨
   ∃ g off cap cs, v = .slice (some ⟨g, off, none⟩) n cap ∧ w.heap[g]? = some (.cells cs e (0, 0)) ∧ n ≤ cap ∧ off + cap * size ≤ cs.size ∧ ∀ j, j < n * size → cs[off + j]? = xs[j]?)
/-- a slice that reads as `xs` -/
def Rd (w : World) (size : Nat) (v : Value) (n : Nat) (xs : List Value) : Prop :=
  xs.length = n * size ∧ (∀ u ∈ xs, u.oneCell' = true) ∧ ∃ a c, v = .slice a n c ∧ (0 < n → ∃ g off, a = some ⟨g, off, none⟩ ∧ ∀ j u, xs[j]? = some u → w.cell? ⟨g, off + j, none⟩ = some u)
section
variable {w w1 : World} {e : TypeId} {size n : Nat} {v : Value} {xs : List Value} {F : List Nat}
theorem Sl.nil (w : World) (e : TypeId) (size : Nat) : Sl w e size (.slice none 0 0) 0 [] := ⟨by simp, by simp, .inl ⟨rfl, rfl⟩⟩
theorem Sl.new (w : World) (cs : Array Value) (n : Nat) (hs : cs.size = n * size) (h1 : ∀ u ∈ cs.toList, u.oneCell' = true) :
    Sl (w.alloc (.cells cs e)) e size (.slice (some ⟨w.heap.size, 0, none⟩) n n) n cs.toList :=
  ⟨by simpa using hs, h1, .inr ⟨_, 0, n, cs, rfl, heap_new _, Nat.le_refl _, by omega, fun j _ => by simp⟩⟩
theorem Sl.frame (h : Sl w e size v n xs) (hf : Fr F w w1) (hd : ∀ i ∈ blk v, i ∉ F) : Sl w1 e size v n xs := by
  obtain ⟨h1, h2, h3⟩ := h
  refine ⟨h1, h2, ?_⟩
  rcases h3 with h3 | ⟨g, off, cap, cs, rfl, hg, hr⟩
  · exact .inl h3
  · exact .inr ⟨g, off, cap, cs, rfl, hf.heap hg (hd g (by simp [blk])), hr⟩
theorem Sl.lt (h : Sl w e size v n xs) : ∀ i ∈ blk v, i < w.heap.size := by
  obtain ⟨_, _, h3⟩ := h
  rcases h3 with ⟨rfl, _⟩ | ⟨g, off, cap, cs, rfl, hg, _⟩
  · simp [blk]
  · simp only [blk, List.mem_singleton]; rintro _ rfl; exact lt_of_heap hg
theorem Sl.len (h : Sl w e size v n xs) : ∃ a c, v = .slice a n c := by
  rcases h.2.2 with ⟨rfl, rfl⟩ | ⟨g, off, cap, cs, rfl, _⟩
  · exact ⟨_, _, rfl⟩
  · exact ⟨_, _, rfl⟩
theorem Sl.rd (h : Sl w e size v n xs) : Rd w size v n xs := by
  obtain ⟨h1, h2, h3⟩ := h
  refine ⟨h1, h2, ?_⟩
  rcases h3 with ⟨rfl, rfl⟩ | ⟨g, off, cap, cs, rfl, hg, _, _, hc⟩
  · exact ⟨none, 0, rfl, fun h => by omega⟩
  · refine ⟨_, _, rfl, fun _ => ⟨_, _, rfl, fun j u hu => ?_⟩⟩
    have hj : j < n * size := by rw [← h1]; exact (List.getElem?_eq_some_iff.1 hu).1
    rw [cell_at hg, hc j hj]; exact hu
theorem Rd.frame (h : Rd w size v n xs) (hf : Fr F w w1) (hd : ∀ i ∈ blk v, i ∉ F) : Rd w1 size v n xs := by
  obtain ⟨h1, h2, a, c, rfl, h3⟩ := h
  refine ⟨h1, h2, a, c, rfl, fun hn => ?_⟩
  obtain ⟨g, off, rfl, hc⟩ := h3 hn
  exact ⟨g, off, rfl, fun j u hu => hf.cell (hc j u hu) (hd _ (by simp [blk]))⟩
theorem Rd.of_block {g off cap : Nat} {cs : Array Value} {T : TypeId} {f : Nat × Nat} (hg : w.heap[g]? = some (.cells cs T f)) (h1 : xs.length = n * size) (h2 : ∀ u ∈ xs, u.oneCell' = true)
    (hc : ∀ j, j < n * size → cs[off + j]? = xs[j]?) : Rd w size (.slice (some ⟨g, off, none⟩) n cap) n xs :=
  ⟨h1, h2, _, _, rfl, fun _ => ⟨_, _, rfl, fun j u hu => by
    have hj : j < n * size := by rw [← h1]; exact (List.getElem?_eq_some_iff.1 hu).1
    rw [cell_at hg, hc j hj]; exact hu⟩⟩
theorem Rd.at_ (h : Rd w size v n xs) (hn : 0 < n) : ∃ g off c, v = .slice (some ⟨g, off, none⟩) n c ∧ ∀ j u, xs[j]? = some u → w.cell? ⟨g, off + j, none⟩ = some u := by
  obtain ⟨h1, h2, a, c, rfl, h3⟩ := h
  obtain ⟨g, off, rfl, hc⟩ := h3 hn
  exact ⟨g, off, c, rfl, hc⟩
theorem Rd.len (h : Rd w size v n xs) : ∃ a c, v = .slice a n c := by
  obtain ⟨h1, h2, a, c, rfl, h3⟩ := h
  exact ⟨a, c, rfl⟩
/-- a slice whose cells are known one by one, at whatever address -/
theorem Rd.of_cells {ad : Addr} {c : Nat} (hs : 0 < size) (h1 : xs.length = n * size) (h2 : ∀ u ∈ xs, u.oneCell' = true) (hc : ∀ j u, xs[j]? = some u → w.cell? (ad.add j) = some u) :
    Rd w size (.slice (some ad) n c) n xs := by
  refine ⟨h1, h2, _, _, rfl, fun hn => ?_⟩
  obtain ⟨g, off, spot⟩ := ad
  have hl : 0 < xs.length := by rw [h1]; exact Nat.mul_pos hn hs
  have h0 := hc 0 xs[0] (by simp [hl])
  have hsp : spot = none := by
    cases spot with
    | none => rfl
    | some k =>
      simp only [Addr.add, if_true] at h0
      unfold World.cell? at h0
      split at h0 <;> simp at h0
  subst hsp
  exact ⟨g, off, rfl, fun j u hu => by have := hc j u hu; rwa [Addr.add_lit] at this⟩
theorem Rd.src {P : Program} {tx e' : TypeId} (hk : P.underlying tx = some (.slice e')) (h : Rd w size v n xs) : Src P size tx v n xs w := by
  obtain ⟨h1, h2, a, c, rfl, h3⟩ := h
  rcases Nat.eq_zero_or_pos n with h0 | h0
  · subst h0
    have hx : xs = [] := by simpa using h1
    subst hx
    cases a with
    | none => exact Src.ofNil w hk c
    | some ad => exact Src.ofSlice w hk ad 0 c [] (by simp) (by simp) (by simp)
  · obtain ⟨g, off, rfl, hc⟩ := h3 h0
    exact Src.ofSlice w hk ⟨g, off, none⟩ n c xs h1 (fun j u hu => by rw [Addr.add_lit]; exact hc j u hu) h2
end
theorem setCells_heap (b : Nat) : ∀ (vs : List Value) (o : Nat) (w : World) (cs : Array Value) (T : TypeId) (f : Nat × Nat), w.heap[b]? = some (.cells cs T f) →
    ∃ cs', (w.setCells b o vs).heap[b]? = some (.cells cs' T f) ∧ cs'.size = cs.size ∧ (∀ j, (j < o ∨ o + vs.length ≤ j) → cs'[j]? = cs[j]?) ∧ (∀ j, o + j < cs.size → j < vs.length → cs'[o + j]? = vs[j]?)
  | [], o, w, cs, T, f, h => ⟨cs, h, rfl, fun _ _ => rfl, fun j _ hj => by simp at hj⟩
  | v :: r, o, w, cs, T, f, h => by
    obtain ⟨cs', h1, h2, h3, h4⟩ := setCells_heap b r (o + 1) (w.setCell ⟨b, o, none⟩ v) _ T f (heap_set h o v)
    refine ⟨cs', h1, by simpa using h2, fun j hj => ?_, fun j hj hv => ?_⟩
    · rw [h3 j (by simp at hj; omega), Array.getElem?_setIfInBounds_ne (by simp at hj; omega)]
    · cases j with
      | zero =>
        rw [h3 (o + 0) (by omega)]
        simp at hj
        simp [hj]
      | succ j =>
        have := h4 j (by simp; omega) (by simp at hv; omega)
        rw [show o + (j + 1) = o + 1 + j by omega, this]
        simp
theorem Fr.setCells {F : List Nat} {w : World} {b : Nat} : ∀ (vs : List Value) (o : Nat) (w1 : World), Fr F w w1 → (b ∈ F ∨ w.heap.size ≤ b) → Fr F w (w1.setCells b o vs)
  | [], _, _, h, _ => h
  | v :: r, o, w1, h, hb => Fr.setCells r (o + 1) _ (h.setCell (a := ⟨b, o, none⟩) hb v) hb

/-! ### slicing -/
theorem Sl.drop {w : World} {e : TypeId} {size n : Nat} {xs : List Value} {g off cap : Nat} (h : Sl w e size (.slice (some ⟨g, off, none⟩) n cap) n xs) (l : Nat) (hl : l ≤ n) :
    Sl w e size (.slice (some (if cap = l then ⟨g, off, none⟩ else (⟨g, off, none⟩ : Addr).add (l * size))) (n - l) (cap - l)) (n - l) (xs.drop (l * size)) := by
  obtain ⟨h1, h2, h3⟩ := h
  refine ⟨by rw [List.length_drop, h1, Nat.sub_mul], fun u hu => h2 u (List.mem_of_mem_drop hu), .inr ?_⟩
  rcases h3 with ⟨h3, _⟩ | ⟨g', off', cap', cs, h3, hg, hc, hcs, hx⟩
  · cases h3
  · cases h3
    by_cases hcl : cap = l
    · subst hcl
      have : n = cap := by omega
      subst this
      exact ⟨g, off, 0, cs, by simp, hg, by omega, by omega, fun j hj => by simp at hj⟩
    · refine ⟨g, off + l * size, cap - l, cs, by rw [if_neg hcl, Addr.add_lit], hg, by omega, ?_, fun j hj => ?_⟩
      · rw [Nat.sub_mul]
        have := Nat.mul_le_mul_right size (show l ≤ cap by omega)
        omega
      · rw [Nat.sub_mul] at hj
        have := Nat.mul_le_mul_right size hl
        rw [Nat.add_assoc, hx _ (by omega), List.getElem?_drop]
theorem Rd.take {w : World} {size n : Nat} {xs : List Value} {a : Option Addr} {c : Nat} (h : Rd w size (.slice a n c) n xs) (l : Nat) (hl : l ≤ n) (c' : Nat) : Rd w size (.slice a l c') l (xs.take (l * size)) := by
  obtain ⟨h1, h2, a', c'', h3, h4⟩ := h
  cases h3
  refine ⟨by rw [List.length_take, h1]; exact Nat.min_eq_left (Nat.mul_le_mul_right _ hl), fun u hu => h2 u (List.mem_of_mem_take hu), a, c', rfl, fun h0 => ?_⟩
  obtain ⟨g, off, rfl, hc⟩ := h4 (by omega)
  refine ⟨g, off, rfl, fun j u hu => hc j u ?_⟩
  rw [List.getElem?_take] at hu
  split at hu
  · exact hu
  · cases hu
theorem Rd.drop {w : World} {size n : Nat} {xs : List Value} {g off cap : Nat} (h : Rd w size (.slice (some ⟨g, off, none⟩) n cap) n xs) (l : Nat) (hl : l ≤ n) (hcap : n ≤ cap) :
    Rd w size (.slice (some (if cap = l then ⟨g, off, none⟩ else (⟨g, off, none⟩ : Addr).add (l * size))) (n - l) (cap - l)) (n - l) (xs.drop (l * size)) := by
  obtain ⟨h1, h2, a', c'', h3, h4⟩ := h
  cases h3
  refine ⟨by rw [List.length_drop, h1, Nat.sub_mul], fun u hu => h2 u (List.mem_of_mem_drop hu), _, _, rfl, fun h0 => ?_⟩
  obtain ⟨g', off', h5, hc⟩ := h4 (by omega)
  cases h5
  rw [if_neg (by omega)]
  refine ⟨g, off + l * size, by rw [Addr.add_lit], fun j u hu => ?_⟩
  rw [List.getElem?_drop] at hu
  rw [Nat.add_assoc]
  exact hc _ u hu

/-! ### append -/
/-- what append gives: the slice that has all, at its own block or in a new one -/
structure Appended (e : TypeId) (size : Nat) (v : Value) (n : Nat) (xs : List Value) (w : World) (v' : Value) (w' : World) : Prop where
  sl : Sl w' e size v' n xs
  fr : Fr (blk v) w w'
  own : ∀ i ∈ blk v', i ∈ blk v ∨ (w.heap.size ≤ i ∧ i < w'.heap.size)
theorem run_app {P : Program} (w : World) (t tx ty e : TypeId) (i : TypeInfo) (z : Value) (ht : P.underlying t = some (.slice e)) (hi : P.info? e = some i) (hz : i.zero = some z) (hzs : z.cells.size = i.size)
    (hz1 : ∀ u ∈ z.cells.toList, u.oneCell' = true)
    (v : Value) (n : Nat) (xs : List Value) (hv : Sl w e i.size v n xs) (x : Value) (m : Nat) (news : List Value) (hx : Src P i.size tx x m news w)
    (hm : n + m ≤ maxLen) (hb : (n + m) * i.bytes ≤ 140737488355328) :
    ∃ v' w', (Builtin.append_ #[t, tx] ty #[v, x]).run P w = .ok v' w' ∧ Appended e i.size v (n + m) (xs ++ news) w v' w' := by
  obtain ⟨h1, h2, h3⟩ := hv
  have hall : ∀ u ∈ xs ++ news, u.oneCell' = true := fun u hu => (List.mem_append.1 hu).elim (h2 u) (hx.one u)
  have hlen : (xs ++ news).length = (n + m) * i.size := by rw [List.length_append, h1, hx.newsLen, Nat.add_mul]
  have h63 : ((n + m : Nat) : Int) ≤ 9223372036854775807 := by unfold maxLen at hm; omega
  have fresh : ∀ (cap : Nat), n + m ≤ cap → ∀ (w2 : World), w2.heap.size = w.heap.size → Sl (w2.alloc (.cells ((xs ++ news).toArray ++ Builtin.zeroCells z.cells (cap - (n + m))) e)) e i.size (.slice (some ⟨w.heap.size, 0, none⟩) (n + m) cap) (n + m) (xs ++ news) := fun cap hc w2 hw2 => by
    refine ⟨hlen, hall, .inr ⟨w.heap.size, 0, cap, (xs ++ news).toArray ++ Builtin.zeroCells z.cells (cap - (n + m)), rfl, ?_, hc, ?_, fun j hj => ?_⟩⟩
    · have := heap_new (w := w2) (.cells ((xs ++ news).toArray ++ Builtin.zeroCells z.cells (cap - (n + m))) e)
      rw [hw2] at this
      exact this
    · rw [Array.size_append, size_zeroCells, hzs, List.size_toArray, hlen, ← Nat.add_mul]
      have : n + m + (cap - (n + m)) = cap := by omega
      rw [this]; omega
    · have hj' : j < (xs ++ news).length := by rw [hlen]; exact hj
      rw [Nat.zero_add, Array.getElem?_append_left (by simpa using hj')]
      simp
  rcases h3 with ⟨rfl, rfl⟩ | ⟨g, off, cap, cs, rfl, hg, hnc, hcs, hc⟩
  · have hxs : xs = [] := by simpa using h1
    subst hxs
    rcases Nat.eq_zero_or_pos m with h0 | h0
    · subst h0
      have hnews : news = [] := by simpa using hx.newsLen
      subst hnews
      have hrun : (Builtin.append_ #[t, tx] ty #[.slice none 0 0, x]).run P w = .ok (.slice none 0 0) w := by
        rcases hx.kind with ⟨e', hk⟩ | hk <;> simp [Builtin.append_, run_underlying ht, run_underlying hk, sizeOf, typeInfo, hi, hx.len, hx.cells]
      exact ⟨_, _, hrun, ⟨⟨by simp, by simp, .inl ⟨rfl, rfl⟩⟩, Fr.refl _ _, fun i hi => by simp [blk] at hi⟩⟩
    · have hrun := run_append_grow_src (P := P) w t tx ty e i z ht hi hz none 0 0 [] (by simp [Builtin.firstCells]) x m news hx (by omega) (by simpa using h63)
        (by rw [Nat.zero_add, nextslicecap_zero h0]; rw [Nat.zero_add] at hb; omega)
      refine ⟨_, _, hrun, ⟨?_, ((Fr.refl _ _).drew).alloc _, fun i hi => ?_⟩⟩
      · exact fresh _ (grownCap_ge w (0 + m) 0 e) w.drew rfl
      · simp [blk] at hi; subst hi; exact .inr ⟨Nat.le_refl _, by simp⟩
  · by_cases hroom : n + m ≤ cap
    · have hfit : off + n * i.size + news.length ≤ cs.size := by
        have := Nat.mul_le_mul_right i.size hroom
        rw [Nat.add_mul] at this
        rw [hx.newsLen]; omega
      have hrun := run_append_room_src (P := P) w t tx ty e i ht hi g off n cap x m news hx hroom
        (fun j hj => by rw [cell_at hg]; rw [Array.getElem?_eq_getElem (by omega)]; rfl) (fun j hj => free_at hg _)
      obtain ⟨cs', k1, k2, k3, k4⟩ := setCells_heap g news (off + n * i.size) w cs e (0, 0) hg
      refine ⟨_, _, hrun, ⟨⟨hlen, hall, .inr ⟨g, off, cap, cs', rfl, k1, hroom, by rw [k2]; exact hcs, fun j hj => ?_⟩⟩, ?_, fun i hi => .inl hi⟩⟩
      · by_cases hjn : j < n * i.size
        · rw [k3 _ (.inl (by omega)), hc j hjn, List.getElem?_append_left (by omega)]
        · have e1 : off + j = off + n * i.size + (j - n * i.size) := by omega
          have hjl : j - n * i.size < news.length := by rw [hx.newsLen]; rw [Nat.add_mul] at hj; omega
          rw [e1, k4 _ (by omega) hjl, List.getElem?_append_right (by omega), h1]
      · exact Fr.setCells _ _ _ (Fr.refl _ _) (.inl (by simp [blk]))
    · have hold : (Builtin.firstCells i.size n (.slice (some ⟨g, off, none⟩) n cap)).run P w.drew = .ok xs.toArray w.drew :=
        run_firstCells_some (P := P) w.drew i.size n ⟨g, off, none⟩ n cap xs h1 (fun j u hu => by
          have hj : j < n * i.size := by rw [← h1]; exact (List.getElem?_eq_some_iff.1 hu).1
          rw [Addr.add_lit]
          have := cell_at hg (off + j)
          simp only [World.cell?_drew]
          rw [this, hc j hj]; exact hu)
      have hrun := run_append_grow_src (P := P) w t tx ty e i z ht hi hz (some ⟨g, off, none⟩) n cap xs hold x m news hx (by omega) h63 (growslice_fits (by omega) hb)
      refine ⟨_, _, hrun, ⟨?_, ((Fr.refl _ _).drew).alloc _, fun i hi => ?_⟩⟩
      · exact fresh _ (grownCap_ge w (n + m) cap e) w.drew rfl
      · simp [blk] at hi; subst hi; exact .inr ⟨Nat.le_refl _, by simp⟩
/-- at an operation of a walk -/
theorem wp_app {P : Program} {w : World} {o : Oper} {a : Act} {K : Act → World → Prop} {Q : Exit → Act → World → Prop} (s x : Operand) (t tx e : TypeId)
    (ho : o.op = .call { callee := .builtin .append, args := #[s, x], argTypes := #[t, tx] }) (i : TypeInfo) (z : Value)
    (ht : P.underlying t = some (.slice e)) (hi : P.info? e = some i) (hz : i.zero = some z) (hzs : z.cells.size = i.size) (hz1 : ∀ u ∈ z.cells.toList, u.oneCell' = true)
    (n : Nat) (xs : List Value) (hv : Sl w e i.size (a.eval s) n xs) (m : Nat) (news : List Value) (hx : Src P i.size tx (a.eval x) m news w)
    (hm : n + m ≤ maxLen) (hb : (n + m) * i.bytes ≤ 140737488355328)
    (h : ∀ v' w', Appended e i.size (a.eval s) (n + m) (xs ++ news) w v' w' → K (a.put o.dst v') w') : o.wp P a w K Q := by
  obtain ⟨v', w', hrun, hA⟩ := run_app (P := P) w t tx o.type e i z ht hi hz hzs hz1 (a.eval s) n xs hv (a.eval x) m news hx hm hb
  have he : (execOp a.eval o).run P w = .ok (.value v') w' := by
    unfold execOp
    rw [ho]
    simp [resolve, invoke, Go.builtin, hrun]
  unfold Oper.wp
  rw [he]
  exact h v' w' hA
end LMem
end Go
