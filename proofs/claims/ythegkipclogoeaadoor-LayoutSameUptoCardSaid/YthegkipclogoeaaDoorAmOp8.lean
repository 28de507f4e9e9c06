/- Fields, elements, parts of slices and strings, lengths, texts gone through. -/
import Derived.Test.YthegkipclogoeaaDoorAmOp7
set_option linter.unusedVariables false
set_option linter.unusedSimpArgs false
namespace Go
namespace AM
open LMem LTxt
section
variable {P : Program} {own : Own} {h : AH} {w : World}
theorem fieldAddr_run {s : TypeId} {a : AV} {x : Value} {f : Nat} {K : AV → Prop} {C : CellsP} (hx : VR own C a x) (hf : fieldAddrK P s a f K) : ∃ v av, (∀ w, (Instr.fieldAt s x f).run P w = .ok v w) ∧ VR own C av v ∧ K av := by
  unfold fieldAddrK at hf
  split at hf
  · rename_i fs hu
    split at hf
    · rename_i y hy
      split at hf
      · rename_i j hj
        split at hf
        · exact hf.elim
        · rename_i hj0
          have hrun : ∀ (g o : Nat) (w : World), (Instr.fieldAt s (.pointer (some ⟨g, o, none⟩)) f).run P w = .ok (.pointer (some ⟨g, o + y.offset, none⟩)) w := fun g o w => by
            unfold Instr.fieldAt Instr.sureAddr fieldPlace
            simp [run_underlying hu, hy, info_run hj, hj0, Addr.add_lit]
          split at hf
          · simp only [VR] at hx
            obtain ⟨pl, ho, rfl⟩ := hx
            exact ⟨_, _, hrun _ _, by simp only [VR]; exact ⟨pl, ho, by rw [Nat.add_assoc]⟩, hf⟩
          · simp only [VR] at hx
            obtain ⟨pl, ho, rfl⟩ := hx
            exact ⟨_, _, hrun _ _, by simp only [VR]; exact ⟨pl, ho, by rw [Nat.add_assoc]⟩, hf⟩
          · simp only [VR] at hx
            obtain ⟨g, o, rfl, hr⟩ := hx
            exact ⟨_, _, hrun _ _, by simp only [VR]; exact ⟨g, o, by rw [Nat.add_assoc], hr⟩, hf⟩
          · exact hf.elim
      · exact hf.elim
    · exact hf.elim
  · exact hf.elim
theorem field_run {t : TypeId} {a : AV} {x : Value} {f : Nat} {K : AV → Prop} {C : CellsP} (hx : VR own C a x) (hf : fieldK P t a f K) (w : World) : ∃ v av, (∀ w, (Instr.field t x f).run P w = .ok v w) ∧ VR own C av v ∧ K av := by
  unfold fieldK at hf
  split at hf
  · rename_i fs hu
    split at hf
    · rename_i y hy
      split at hf
      · simp only [VR] at hx
        obtain ⟨vs, rfl, hv⟩ := hx
        obtain ⟨v, av, h1, h2, h3⟩ := part_run hf hv w
        refine ⟨v, av, fun w => ?_, h2, h3⟩
        unfold Instr.field asAgg
        simp [run_underlying hu, hy, h1]
      · exact hf.elim
    · exact hf.elim
  · exact hf.elim
theorem indexAddr_run {t : TypeId} {a b : AV} {x y : Value} {K : AV → Prop} (H : HR own h w) (hx : VR own (Cw own h w) a x) (hy : VR own (Cw own h w) b y) (hf : indexAddrK P t a b h K) : ∃ v av, (∀ w', (Instr.indexAt t x y).run P w' = .ok v w') ∧ VR own (Cw own h w) av v ∧ K av := by
  unfold indexAddrK at hf
  split at hf
  · rename_i e id off len k n hu
    rw [VR.c_iff] at hy; subst hy
    split at hf
    · rename_i E s xs j hb hj
      split at hf
      · rename_i hsz
        obtain ⟨hn, hf⟩ := req_iff.1 hf
        simp only [Bool.and_eq_true, decide_eq_true_eq] at hn
        simp only [VR] at hx
        rcases hx with ⟨h1, _⟩ | ⟨pl, o, cap, ho, rfl, hlc, hcap⟩
        · omega
        · obtain ⟨ho2, hN⟩ := hcap (by omega)
          obtain ⟨cs, T', fr, us, _, _, _, h4, _⟩ := H.seq ho hb
          refine ⟨.pointer (some ⟨pl.g, o + n.toNat * j.size, none⟩), _, fun w' => ?_, ?_, hf⟩
          · unfold Instr.indexAt
            simp [asIntOf, run_underlying hu, hn, info_run hj, Addr.add_lit]
          · simp only [VR]
            exact ⟨pl, ho, by rw [ho2, ← hsz, h4, Nat.add_mul]; simp [Nat.add_assoc]⟩
      · exact hf.elim
    · rename_i T l j hb hj
      split at hf
      · rename_i hsz
        obtain ⟨hn, hf⟩ := req_iff.1 hf
        simp only [Bool.and_eq_true, decide_eq_true_eq] at hn
        simp only [VR] at hx
        rcases hx with ⟨h1, _⟩ | ⟨pl, o, cap, ho, rfl, hlc, hcap⟩
        · omega
        · obtain ⟨ho2, hN⟩ := hcap (by omega)
          obtain ⟨cs, T', fr, us, _, h2, _⟩ := H.cells ho hb
          refine ⟨.pointer (some ⟨pl.g, o + n.toNat * j.size, none⟩), _, fun w' => ?_, ?_, hf⟩
          · unfold Instr.indexAt
            simp [asIntOf, run_underlying hu, hn, info_run hj, Addr.add_lit]
          · simp only [VR]
            exact ⟨pl, ho, by rw [ho2, hsz, h2.one]; simp [Nat.add_assoc]⟩
      · exact hf.elim
    · rename_i E s xs a j hb hj
      split at hf
      · rename_i hsz
        obtain ⟨hn, hf⟩ := req_iff.1 hf
        simp only [Bool.and_eq_true, decide_eq_true_eq] at hn
        simp only [VR] at hx
        rcases hx with ⟨h1, _⟩ | ⟨pl, o, cap, ho, rfl, hlc, hcap⟩
        · omega
        · obtain ⟨ho2, hN⟩ := hcap (by omega)
          obtain ⟨cs, T', fr, us, u, _, _, _, h4, _⟩ := H.mix ho hb
          refine ⟨.pointer (some ⟨pl.g, o + n.toNat * j.size, none⟩), _, fun w' => ?_, ?_, hf⟩
          · unfold Instr.indexAt
            simp [asIntOf, run_underlying hu, hn, info_run hj, Addr.add_lit]
          · simp only [VR]
            exact ⟨pl, ho, by rw [ho2, hsz, h4]; simp [Nat.add_assoc]⟩
      · exact hf.elim
    · exact hf.elim
  · rename_i e s xs k n hu
    rw [VR.c_iff] at hy; subst hy
    split at hf
    · rename_i j hj
      split at hf
      · rename_i hsz
        obtain ⟨hn, hf⟩ := req_iff.1 hf
        simp only [Bool.and_eq_true, decide_eq_true_eq] at hn
        simp only [VR] at hx
        obtain ⟨ad, cap, rfl, hlc, hr0⟩ := hx
        obtain ⟨g, o, had, hr⟩ := hr0 (by omega)
        subst had
        refine ⟨.pointer (some ⟨g, o + n.toNat * j.size, none⟩), _, fun w' => ?_, ?_, hf⟩
        · unfold Instr.indexAt
          simp [asIntOf, run_underlying hu, hn, info_run hj, Addr.add_lit]
        · simp only [VR]
          exact ⟨g, o, by rw [hsz]; rfl, hr⟩
      · exact hf.elim
    · exact hf.elim
  · rename_i len e id off k n hu
    rw [VR.c_iff] at hy; subst hy
    split at hf
    · rename_i j hj
      split at hf
      · rename_i hlen
        obtain ⟨hn, hf⟩ := req_iff.1 hf
        simp only [Bool.and_eq_true, decide_eq_true_eq] at hn
        simp only [VR] at hx
        obtain ⟨pl, ho, rfl⟩ := hx
        refine ⟨.pointer (some ⟨pl.g, pl.d + off + n.toNat * j.size, none⟩), _, fun w' => ?_, ?_, hf⟩
        · unfold Instr.indexAt Instr.sureAddr
          simp [asIntOf, run_underlying hu, hn, info_run hj, Addr.add_lit]
        · simp only [VR]
          exact ⟨pl, ho, by rw [Nat.add_assoc]⟩
      · exact hf.elim
    · exact hf.elim
  · exact hf.elim
theorem byte_get {s : ByteArray} {i : Nat} (hi : i < s.size) : s[i]? = some (s.data.toList.getD i 0) := by
  have hi' : i < s.data.size := hi
  rw [getElem?_pos s i hi]
  congr 1
  rw [List.getD_eq_getElem?_getD, Array.getElem?_toList, Array.getElem?_eq_getElem hi']
  rfl
theorem index_run {t : TypeId} {a b : AV} {x y : Value} {K : AV → Prop} {C : CellsP} (hx : VR own C a x) (hy : VR own C b y) (hf : indexK P t a b K) (w : World) : ∃ v av, (∀ w, (Instr.index t x y).run P w = .ok v w) ∧ VR own C av v ∧ K av := by
  unfold indexK at hf
  split at hf
  · rename_i s k n hu
    rw [VR.c_iff] at hx hy; subst hx hy
    obtain ⟨hn, hf⟩ := req_iff.1 hf
    simp only [Bool.and_eq_true, decide_eq_true_eq] at hn
    refine ⟨_, _, fun w => ?_, VR.c_iff.2 rfl, hf⟩
    unfold Instr.index
    simp only [asIntOf, Sem.run_bind, Sem.run_pure, Result.andThen_ok, run_underlying hu, hn.1, if_true, byte_get (s := s) (i := n.toNat) (by omega)]
  · rename_i len e l k n hu
    split at hf
    · rename_i j hj
      rw [VR.c_iff] at hy; subst hy
      obtain ⟨hn, hf⟩ := req_iff.1 hf
      simp only [Bool.and_eq_true, decide_eq_true_eq] at hn
      simp only [VR] at hx
      obtain ⟨vs, rfl, hv⟩ := hx
      obtain ⟨v, av, h1, h2, h3⟩ := part_run hf hv w
      refine ⟨v, av, fun w => ?_, h2, h3⟩
      unfold Instr.index
      simp only [asIntOf, Sem.run_bind, Sem.run_pure, Result.andThen_ok, run_underlying hu, hn, and_self, if_true, info_run hj, h1]
    · exact hf.elim
  · exact hf.elim
/-- an optional bound -/
theorem optInt_spec {C : CellsP} {o : Option Operand} {ra : Operand → AV} {rc : Operand → Value} (hr : ∀ x, VR own C (ra x) (rc x)) {r : Option Int} (h : optInt (o.map ra) = some r) :
    (o.map rc = none ∧ r = none) ∨ ∃ k n, o.map rc = some (.int k n) ∧ r = some n := by
  cases o with
  | none => simp [optInt] at h; exact .inl ⟨rfl, h.symm⟩
  | some x =>
    simp only [Option.map_some] at h ⊢
    unfold optInt at h
    split at h
    · rename_i h1; cases h1
    · rename_i k n h1
      cases h
      simp only [Option.some.injEq] at h1
      have := hr x
      rw [h1, VR.c_iff] at this
      exact .inr ⟨k, n, by rw [this], rfl⟩
    · cases h
theorem bound_run {k : IntKind} {n : Int} {y : Nat} {c : BoundsCode} (h0 : 0 ≤ n) (h1 : n ≤ y) (w : World) : (Instr.sliceBound (.int k n) y c).run P w = .ok n.toNat w := by
  unfold Instr.sliceBound
  simp [asIntOf, h0, h1]
theorem bounds_run {C : CellsP} {isS : Bool} {len cap : Nat} {lo hi mx : Option Operand} {ra : Operand → AV} {rc : Operand → Value} (hr : ∀ x, VR own C (ra x) (rc x)) (hlc : len ≤ cap) {K : Nat → Nat → Prop}
    (hf : boundsK len (lo.map ra) (hi.map ra) (mx.map ra) K) :
    ∃ l h m, (∀ w, (Instr.sliceBounds isS len cap (lo.map rc) (hi.map rc) (mx.map rc)).run P w = .ok (l, h, m) w) ∧ l ≤ h ∧ h ≤ len ∧ h ≤ m ∧ m ≤ cap ∧ (mx = none → m = cap) ∧ K l h := by
  unfold boundsK at hf
  split at hf
  · rename_i l h h1 h2 h3
    obtain ⟨hq, hf⟩ := req_iff.1 hf
    simp only [Bool.and_eq_true, decide_eq_true_eq] at hq
    obtain ⟨⟨q1, q2⟩, q3⟩ := hq
    rcases optInt_spec hr h3 with ⟨e3, -⟩ | ⟨k3, n3, e3, h3'⟩
    case inr => cases h3'
    refine ⟨_, _, cap, fun w => ?_, by omega, by omega, by omega, Nat.le_refl _, fun _ => rfl, hf⟩
    unfold Instr.sliceBounds
    rw [e3]
    rcases optInt_spec hr h2 with ⟨e2, rfl⟩ | ⟨k2, n2, e2, rfl⟩ <;> rcases optInt_spec hr h1 with ⟨e1, rfl⟩ | ⟨k1, n1, e1, rfl⟩ <;> rw [e2, e1] <;> simp only [Option.getD_some, Option.getD_none] at q1 q2 q3 ⊢
    · simp
    · simp only [Sem.run_bind, Sem.run_pure, Result.andThen_ok, bound_run q1 q2]; simp
    · simp only [Sem.run_bind, Sem.run_pure, Result.andThen_ok, bound_run q2 (show n2 ≤ (cap : Int) by omega)]; simp
    · simp only [Sem.run_bind, Sem.run_pure, Result.andThen_ok, bound_run (show 0 ≤ n2 by omega) (show n2 ≤ (cap : Int) by omega), bound_run q1 (show n1 ≤ (n2.toNat : Int) by omega)]
  · rename_i l hh m h1 h2 h3
    obtain ⟨hq, hf⟩ := req_iff.1 hf
    simp only [Bool.and_eq_true, decide_eq_true_eq] at hq
    obtain ⟨⟨⟨q1, q2⟩, q3⟩, q4⟩ := hq
    rcases optInt_spec hr h3 with ⟨e3, h3'⟩ | ⟨k3, n3, e3, h3'⟩
    case inl => cases h3'
    cases h3'
    rcases optInt_spec hr h2 with ⟨e2, h2'⟩ | ⟨k2, n2, e2, h2'⟩
    case inl => cases h2'
    cases h2'
    refine ⟨_, _, m.toNat, fun w => ?_, by omega, by omega, by omega, by omega, fun hm => (by subst hm; cases e3), hf⟩
    unfold Instr.sliceBounds
    rw [e3, e2]
    rcases optInt_spec hr h1 with ⟨e1, rfl⟩ | ⟨k1, n1, e1, rfl⟩ <;> rw [e1] <;> simp only [Option.getD_some, Option.getD_none] at q1 q2 ⊢
    · simp only [Sem.run_bind, Sem.run_pure, Result.andThen_ok, bound_run (show 0 ≤ m by omega) (show m ≤ (cap : Int) by omega), bound_run (show 0 ≤ hh by omega) (show hh ≤ (m.toNat : Int) by omega)]; simp
    · simp only [Sem.run_bind, Sem.run_pure, Result.andThen_ok, bound_run (show 0 ≤ m by omega) (show m ≤ (cap : Int) by omega), bound_run (show 0 ≤ hh by omega) (show hh ≤ (m.toNat : Int) by omega), bound_run q1 (show n1 ≤ (hh.toNat : Int) by omega)]
  · exact hf.elim
theorem sub_extract {s : ByteArray} {l h : Nat} : s.extract l h = subS s l h := by
  apply ByteArray.ext
  rw [ByteArray.data_extract]
  apply Array.ext'
  unfold subS
  rw [Array.toList_extract, List.extract_eq_take_drop]
theorem rows_cut {C : CellsP} {R : Dat → List Value → Prop} {size : Nat} {xs : List Dat} {g o l n : Nat} (h : Rows C R size xs g o) : Rows C R size ((xs.drop l).take n) g (o + l * size) := fun i d hi => by
  rw [List.getElem?_take] at hi
  split at hi
  · rw [List.getElem?_drop] at hi
    obtain ⟨vs, h1, h2, h3⟩ := h _ d hi
    refine ⟨vs, h1, h2, fun j u hj => ?_⟩
    have := h3 j u hj
    rw [Nat.add_mul] at this
    rw [show o + l * size + i * size + j = o + (l * size + i * size) + j by omega]
    exact this
  · cases hi
theorem kSh_size : ∀ (ks : List IntKind), (kSh ks).size = ks.length
  | [] => rfl
  | k :: l => by simp only [kSh, Sh.size, kSh_size l, List.length_cons]; omega
theorem kDR {C : CellsP} : ∀ {ks : List IntKind} {row : List Int}, row.length = ks.length → DR C (kSh ks) (kDat row) (ks.zipWith Value.int row)
  | [], [], _ => rfl
  | k :: l, n :: r, h => ⟨[.int k n], l.zipWith Value.int r, rfl, rfl, kDR (by simpa using h)⟩
theorem gOf_spec {a : AV} {g : Nat} (h : gOf a = some g) : a = .c (.pointer (some ⟨g, 0, none⟩)) := by
  unfold gOf at h
  split at h
  · split at h
    · rename_i hc
      cases h
      rw [← hc]
    · cases h
  · cases h
theorem tabK_run {n : Nat} {e t : TypeId} {a : AV} {x : Value} {K : AV → Prop} (H : HR own h w) (hx : VR own (Cw own h w) a x) (hu : P.underlying t = some (.array n e)) (hf : tabK P n e a K) :
    ∃ v av, (∀ w', (Instr.sliceAt t x none none none).run P w' = .ok v w') ∧ VR own (Cw own h w) av v ∧ K av := by
  unfold tabK at hf
  split at hf
  · rename_i g hg
    have := gOf_spec hg
    subst this
    rw [VR.c_iff] at hx
    subst hx
    split at hf
    · rename_i ks rows ht
      split at hf
      · rename_i j hj
        split at hf
        · rename_i hok
          unfold tabOK at hok
          simp only [Bool.and_eq_true, decide_eq_true_eq, List.all_eq_true] at hok
          obtain ⟨⟨h1, h2⟩, h3⟩ := hok
          refine ⟨.slice (some ⟨g, 0, none⟩) n n, _, fun w' => ?_, ?_, hf⟩
          · unfold Instr.sliceAt Instr.sureAddr Instr.sliceBounds
            simp [run_underlying hu, info_run hj, Addr.add_lit]
          · simp only [VR]
            refine ⟨some ⟨g, 0, none⟩, n, by rw [List.length_map, h2], by rw [List.length_map, h2]; exact Nat.le_refl _, fun _ => ⟨g, 0, rfl, fun i d hi => ?_⟩⟩
            rw [List.getElem?_map] at hi
            cases hr : rows[i]? with
            | none => rw [hr] at hi; cases hi
            | some row =>
              rw [hr] at hi
              cases hi
              have hl := h3 row (List.mem_of_getElem? hr)
              refine ⟨ks.zipWith Value.int row, by rw [kSh_size, List.length_zipWith, hl]; omega, kDR hl, fun q u hq => ?_⟩
              rw [List.getElem?_zipWith] at hq
              cases hk : ks[q]? with
              | none => rw [hk] at hq; cases hq
              | some k =>
                cases hn : row[q]? with
                | none => rw [hk, hn] at hq; cases hq
                | some m =>
                  rw [hk, hn] at hq
                  cases hq
                  rw [kSh_size, Nat.zero_add]
                  exact H.st.tab _ _ _ (tabI_T0 ht hr hk hn)
        · exact hf.elim
      · exact hf.elim
    · exact hf.elim
  · exact hf.elim
theorem slice_run {t : TypeId} {a : AV} {x : Value} {lo hi mx : Option Operand} {ra : Operand → AV} {rc : Operand → Value} {K : AV → Prop} (H : HR own h w) (hr : ∀ x, VR own (Cw own h w) (ra x) (rc x)) (hx : VR own (Cw own h w) a x)
    (hf : sliceK P t a (lo.map ra) (hi.map ra) (mx.map ra) h K) : ∃ v av, (∀ w', (Instr.sliceAt t x (lo.map rc) (hi.map rc) (mx.map rc)).run P w' = .ok v w') ∧ VR own (Cw own h w) av v ∧ K av := by
  unfold sliceK at hf
  split at hf
  · rename_i s hu
    rw [VR.c_iff] at hx; subst hx
    split at hf
    · rename_i hmx
      have hmx' : mx = none := by cases mx <;> simp_all
      subst hmx'
      obtain ⟨l, hh, m, hrun, h1, h2, h3, h4, h5, hK⟩ := bounds_run (P := P) (isS := false) (mx := none) hr (Nat.le_refl s.size) hf
      refine ⟨_, _, fun w' => ?_, VR.c_iff.2 rfl, hK⟩
      unfold Instr.sliceAt Instr.slice
      simp only [Option.map_none] at hrun
      simp [run_underlying hu, hrun, sub_extract]
    · exact hf.elim
  · rename_i e id off len hu
    split at hf
    · rename_i E s xs j hb hj
      split at hf
      · rename_i hsz
        simp only [VR] at hx
        rcases hx with ⟨rfl, rfl, hx⟩ | ⟨pl, o, cap, ho, rfl, hlc, hcap⟩
        · obtain ⟨l, hh, m, hrun, h1, h2, h3, h4, h5, hK⟩ := bounds_run (P := P) (isS := true) hr (Nat.le_refl 0) hf
          have : hh = 0 := by omega
          subst this
          have : m = 0 := by omega
          subst this
          have : l = 0 := by omega
          subst this
          refine ⟨.slice none 0 0, _, fun w' => ?_, by simp only [VR]; exact .inl ⟨trivial, trivial, hx⟩, hK⟩
          unfold Instr.sliceAt Instr.slice
          simp [run_underlying hu, hrun, info_run hj]
        · obtain ⟨l, hh, m, hrun, h1, h2, h3, h4, h5, hK⟩ := bounds_run (P := P) (isS := true) hr hlc hf
          refine ⟨.slice (some ⟨pl.g, if m = l then o else o + l * j.size, none⟩) (hh - l) (m - l), _, fun w' => ?_, ?_, hK⟩
          · unfold Instr.sliceAt Instr.slice
            simp only [run_underlying hu, Sem.run_bind, Result.andThen_ok, hrun, info_run hj, Sem.run_pure]
            by_cases hml : m = l
            · simp [hml]
            · simp [hml, Addr.add_lit]
          · simp only [VR]
            refine .inr ⟨pl, _, m - l, ho, rfl, by omega, fun hc => ?_⟩
            rw [if_neg (by omega)]
            obtain ⟨g1, g2⟩ := hcap (by omega)
            obtain ⟨cs, T', fr, us, _, _, _, k4, _⟩ := H.seq ho hb
            have hjs : j.size = pl.sz := by rw [← hsz, k4]
            rw [hjs]
            refine ⟨by rw [g1, Nat.add_mul]; omega, ?_⟩
            have hm := Nat.mul_le_mul_right pl.sz h4
            have : l * pl.sz + (m - l) * pl.sz = m * pl.sz := by rw [← Nat.add_mul]; congr 1; omega
            omega
      · exact hf.elim
    · exact hf.elim
  · rename_i e s xs hu
    split at hf
    · rename_i j hj
      split at hf
      · rename_i hsz
        simp only [VR] at hx
        obtain ⟨ad, cap, rfl, hlc, hrows⟩ := hx
        obtain ⟨l, hh, m, hrun, h1, h2, h3, h4, h5, hK⟩ := bounds_run (P := P) (isS := true) hr hlc hf
        have hcl : ((xs.drop l).take (hh - l)).length = hh - l := cut_length _ _ _ (by omega)
        refine ⟨.slice (if m = l then ad else ad.map (·.add (l * j.size))) (hh - l) (m - l), _, fun w' => ?_, ?_, hK⟩
        · unfold Instr.sliceAt Instr.slice
          simp only [run_underlying hu, Sem.run_bind, Result.andThen_ok, hrun, info_run hj, Sem.run_pure]
        · simp only [VR]
          refine ⟨_, _, by rw [hcl], by rw [hcl]; omega, fun hn => ?_⟩
          rw [hcl] at hn
          rw [if_neg (by omega)]
          obtain ⟨g, o, rfl, hR⟩ := hrows (by omega)
          exact ⟨g, o + l * j.size, by simp [Addr.add_lit], by rw [← hsz]; exact rows_cut hR⟩
      · exact hf.elim
    · exact hf.elim
  · rename_i e hu
    rw [VR.c_iff] at hx; subst hx
    split at hf
    · rename_i j hj
      obtain ⟨l, hh, m, hrun, h1, h2, h3, h4, h5, hK⟩ := bounds_run (P := P) (isS := true) hr (Nat.le_refl 0) hf
      have e1 : hh = 0 := by omega
      have e2 : m = 0 := by omega
      have e3 : l = 0 := by omega
      refine ⟨.slice none 0 0, _, fun w' => ?_, VR.c_iff.2 rfl, hK⟩
      unfold Instr.sliceAt Instr.slice
      simp [run_underlying hu, hrun, info_run hj, e1, e2, e3]
    · exact hf.elim
  · rename_i n e hu
    split at hf
    · rename_i h1 h2 h3
      have e1 : lo = none := by cases lo <;> simp_all
      have e2 : hi = none := by cases hi <;> simp_all
      have e3 : mx = none := by cases mx <;> simp_all
      subst e1 e2 e3
      exact tabK_run H hx hu hf
    · exact hf.elim
  · exact hf.elim
theorem len_run {t ty : TypeId} {ts : List TypeId} {a : AV} {x : Value} {xs : List Value} {K : AV → Prop} {C : CellsP} (hx : VR own C a x) (hf : lenK P t a K) : ∃ v av, (∀ w, (Builtin.len_ (t :: ts).toArray ty (x :: xs).toArray).run P w = .ok v w) ∧ VR own C av v ∧ K av := by
  unfold lenK at hf
  split at hf
  · rename_i s hu
    rw [VR.c_iff] at hx; subst hx
    exact ⟨_, _, fun w => by simp [Builtin.len_, run_underlying hu, goInt], VR.c_iff.2 rfl, hf⟩
  · rename_i e ad n cap hu
    rw [VR.c_iff] at hx; subst hx
    exact ⟨_, _, fun w => by simp [Builtin.len_, run_underlying hu, goInt], VR.c_iff.2 rfl, hf⟩
  · rename_i e id off n hu
    simp only [VR] at hx
    rcases hx with ⟨rfl, rfl, _⟩ | ⟨pl, o, cap, ho, rfl, _⟩
    · exact ⟨_, _, fun w => by simp [Builtin.len_, run_underlying hu, goInt], VR.c_iff.2 rfl, hf⟩
    · exact ⟨_, _, fun w => by simp [Builtin.len_, run_underlying hu, goInt], VR.c_iff.2 rfl, hf⟩
  · rename_i e s l hu
    simp only [VR] at hx
    obtain ⟨ad, cap, rfl, _⟩ := hx
    exact ⟨_, _, fun w => by simp [Builtin.len_, run_underlying hu, goInt], VR.c_iff.2 rfl, hf⟩
  · rename_i n e hu
    exact ⟨.int .i64 n, _, fun w => by cases x <;> simp [Builtin.len_, run_underlying hu, goInt], VR.c_iff.2 rfl, hf⟩
  · rename_i k e hu
    rw [VR.c_iff] at hx; subst hx
    exact ⟨_, _, fun w => by simp [Builtin.len_, run_underlying hu, goInt], VR.c_iff.2 rfl, hf⟩
  · exact hf.elim
theorem min2_run {k : IntKind} {x y : Int} {k' : IntKind} (w : World) : (Builtin.min2 (.int k x) (.int k' y)).run P w = .ok (.int k (min x y)) w := by
  unfold Builtin.min2
  simp only [Sem.run_pure]
  congr 2
  omega
theorem max2_run {k : IntKind} {x y : Int} {k' : IntKind} (w : World) : (Builtin.max2 (.int k x) (.int k' y)).run P w = .ok (.int k (max x y)) w := by
  unfold Builtin.max2
  simp only [Sem.run_pure]
  congr 2
  omega
theorem mins_run {C : CellsP} {mx : Bool} {k : IntKind} {K : AV → Prop} {ra : Operand → AV} {rc : Operand → Value} (hr : ∀ x, VR own C (ra x) (rc x)) : ∀ {l : List Operand} {x : Int}, minsK mx k x (l.map ra) K →
    ∃ v av, (∀ w, ((l.map rc).foldlM (if mx = true then Builtin.max2 else Builtin.min2) (Value.int k x)).run P w = .ok v w) ∧ VR own C av v ∧ K av
  | [], x, hf => ⟨_, _, fun w => rfl, VR.c_iff.2 rfl, hf⟩
  | o :: l, x, hf => by
    simp only [List.map_cons] at hf
    unfold minsK at hf
    split at hf
    · rename_i h1; cases h1
    · rename_i k' y r h1
      simp only [List.cons.injEq] at h1
      obtain ⟨h1, rfl⟩ := h1
      have ho := hr o
      rw [h1, VR.c_iff] at ho
      obtain ⟨v, av, g1, g2, g3⟩ := mins_run hr hf
      refine ⟨v, av, fun w => ?_, g2, g3⟩
      simp only [List.map_cons, List.foldlM_cons, ho, Sem.run_bind]
      cases mx
      · simp only [Bool.false_eq_true, if_false, min2_run, Result.andThen_ok] at g1 ⊢; exact g1 w
      · simp only [if_true, max2_run, Result.andThen_ok] at g1 ⊢; exact g1 w
    · exact hf.elim
/-- a text is gone through -/
theorem range_good {t : TypeId} {a : AV} {x : Value} {K : AV → AH → Prop} (H : HR own h w) (hx : VR own (Cw own h w) a x) (hf : rangeK P t a h K) : Good P own h w K ((Instr.range t x).run P w) := by
  unfold rangeK at hf
  split at hf
  · rename_i s hu
    rw [VR.c_iff] at hx; subst hx
    have hE : Ext own h w (own.upd h.next (some ⟨w.heap.size, 0, 0, 0⟩)) (h.new (.iter s 0)) (w.alloc (.stringIter s 0)) := .new H trivial rfl
    refine ⟨.pointer (some ⟨w.heap.size, 0, none⟩), _, _, _, _, ?_, .new (b := .iter s 0) H trivial rfl ⟨rfl, heap_new _⟩, hE, ?_, hf⟩
    · simp [Instr.range, run_underlying hu]
    · simp only [VR]; exact ⟨_, upd_self, rfl⟩
  · exact hf.elim
theorem next_good {t : TypeId} {a : AV} {x : Value} {b : Bool} {K : AV → AH → Prop} (H : HR own h w) (hx : VR own (Cw own h w) a x) (hf : nextK a b h K) : Good P own h w K ((Instr.next x b t).run P w) := by
  unfold nextK at hf
  split at hf
  · rename_i id
    split at hf
    · rename_i s pos hb
      simp only [VR] at hx
      obtain ⟨pl, ho, rfl⟩ := hx
      have hlv : isLive (h.get id) := by rw [hb]; trivial
      have hB := H.block hlv ho
      rw [hb] at hB
      obtain ⟨hd0, hB'⟩ : pl.d = 0 ∧ w.heap[pl.g]? = some (.stringIter s pos) := hB
      have hlt := lt_of_heap hB'
      rw [br_iff] at hf
      by_cases hp : pos < s.size
      · have hf' := hf.1 (by simpa using hp)
        have hw : But pl.g w { w with heap := w.heap.setIfInBounds pl.g (.stringIter s (pos + (Utf8.decode s pos).2)) } := ⟨by simp, rfl, rfl, rfl, fun i hi => by simp [Array.getElem?_setIfInBounds, Ne.symm hi]⟩
        have hnew : ({ w with heap := w.heap.setIfInBounds pl.g (.stringIter s (pos + (Utf8.decode s pos).2)) } : World).heap[pl.g]? = some (.stringIter s (pos + (Utf8.decode s pos).2)) := by simp [hlt]
        refine ⟨.tuple #[.bool true, .int .i64 pos, .int .i32 (Utf8.decode s pos).1], _, own, _, _, ?_, HR.put (b := .iter s (pos + (Utf8.decode s pos).2)) H (by rw [hb]; exact fun h => h) hlv ho trivial hw ⟨hd0, hnew⟩, .put H (by rw [hb]; exact fun h => h) hlv ho trivial hw, ?_, hf'⟩
        · unfold Instr.next getObj setObj
          simp [hd0, hB', hp, Sem.run, goInt]
        · simp only [VR]
          exact ⟨_, rfl, .cons (VR.c_iff.2 rfl) (.cons (VR.c_iff.2 rfl) (.one (VR.c_iff.2 rfl)))⟩
      · have hf' := hf.2 (by simpa using hp)
        refine .pure H (v := .tuple #[.bool false]) ?_ (by simp only [VR]; exact ⟨_, rfl, .one (VR.c_iff.2 rfl)⟩) hf'
        unfold Instr.next getObj setObj
        simp [hd0, hB', hp, Sem.run, goInt]
    · exact hf.elim
  · exact hf.elim
end
end AM
end Go
