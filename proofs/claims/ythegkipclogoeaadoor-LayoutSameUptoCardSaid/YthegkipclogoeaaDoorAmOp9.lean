/- append, copy. -/
import Derived.Test.YthegkipclogoeaaDoorAmOp8
set_option linter.unusedVariables false
set_option linter.unusedSimpArgs false
namespace Go
namespace AM
open LMem LTxt
section
variable {P : Program} {own : Own} {h : AH} {w : World}
theorem DR.len {C : CellsP} {s : Sh} {d : Dat} {vs : List Value} (hd : DR C s d vs) : vs.length = s.size := by
  have := (DR.enc (own := ⟨fun _ => none, fun _ => False⟩).1 hd).length
  rw [this, enc_len]
theorem DR.ones {C : CellsP} {s : Sh} {d : Dat} {vs : List Value} (hd : DR C s d vs) : ∀ u ∈ vs, u.oneCell' = true := (DR.enc (own := ⟨fun _ => none, fun _ => False⟩).1 hd).ones (enc_ones _ _)
theorem Flat.ones {C : CellsP} {s : Sh} : ∀ {xs : List Dat} {us : List Value}, Flat (DR C s) s.size xs us → ∀ u ∈ us, u.oneCell' = true
  | [], us, h => by simp only [Flat] at h; subst h; simp
  | d :: xs, us, h => by
    obtain ⟨va, ub, rfl, _, h2, h3⟩ := h
    intro u hu
    rcases List.mem_append.1 hu with hu | hu
    · exact h2.ones u hu
    · exact h3.ones u hu
/-- what a source of elements yields -/
structure Feed (P : Program) (C : CellsP) (w : World) (s : Sh) (x : Value) (ys : List Dat) (us : List Value) : Prop where
  flat : Flat (DR C s) s.size ys us
  len : ∀ w' : World, (Builtin.lenOf x).run P w' = .ok ys.length w'
  first : ∀ w' : World, w'.heap = w.heap → ∀ n, n ≤ ys.length → (Builtin.firstCells s.size n x).run P w' = .ok (us.take (n * s.size)).toArray w'
theorem Feed.src {C : CellsP} {s : Sh} {x : Value} {ys : List Dat} {us : List Value} {tx : TypeId} (hk : (∃ e', P.underlying tx = some (.slice e')) ∨ P.underlying tx = some .string) (hF : Feed P C w s x ys us) : Src P s.size tx x ys.length us w := by
  have hl := hF.flat.length
  refine ⟨hk, hF.len, ?_, ?_, hl, hF.flat.ones⟩
  · have := hF.first w rfl ys.length (Nat.le_refl _)
    rwa [← hl, List.take_length] at this
  · have := hF.first w.drew rfl ys.length (Nat.le_refl _)
    rwa [← hl, List.take_length] at this
/-- the elements of a slice -/
theorem read_feed {C : CellsP} {s : Sh} {xs : List Dat} {us : List Value} {ad : Option Addr} {cap : Nat} (hf : Flat (DR C s) s.size xs us) (hc : xs.length ≠ 0 → ∃ g o, ad = some ⟨g, o, none⟩ ∧ ∀ j u, us[j]? = some u → w.cell? ⟨g, o + j, none⟩ = some u) :
    Feed P C w s (.slice ad xs.length cap) xs us := by
  have hl := hf.length
  refine ⟨hf, fun _ => rfl, fun w' hw n hn => ?_⟩
  cases ad with
  | none =>
    have h0 : xs.length = 0 := Classical.byContradiction fun h0 => by obtain ⟨_, _, h1, _⟩ := hc h0; cases h1
    have : n = 0 := by omega
    subst this
    simp [Builtin.firstCells]
  | some a =>
    rcases Nat.eq_zero_or_pos n with h0 | h0
    · subst h0
      simp [Builtin.firstCells, loadCells, loadCellsFrom]
    · obtain ⟨g, o, ha, hcell⟩ := hc (by omega)
      cases ha
      have hnl : n * s.size ≤ xs.length * s.size := Nat.mul_le_mul_right _ hn
      exact run_firstCells_some (P := P) w' s.size n ⟨g, o, none⟩ xs.length cap (us.take (n * s.size)) (by rw [List.length_take]; omega) (fun j u hj => by
        rw [Addr.add_lit]
        rw [List.getElem?_take] at hj
        split at hj
        · have := hcell j u hj
          rw [← this]
          exact World.cell?_of_block (by rw [hw])
        · cases hj)
theorem readK_feed {a : AV} {x : Value} {K : Sh → List Dat → Prop} (H : HR own h w) (hx : VR own (Cw own h w) a x) (hf : readK h a K) : ∃ s xs us, K s xs ∧ Feed P (Cw own h w) w s x xs us ∧
    ∃ ad cap, x = .slice ad xs.length cap ∧ (xs.length ≠ 0 → ∃ g o, ad = some ⟨g, o, none⟩ ∧ ∀ j u, us[j]? = some u → w.cell? ⟨g, o + j, none⟩ = some u) := by
  unfold readK at hf
  split at hf
  · rename_i s xs
    simp only [VR] at hx
    obtain ⟨ad, cap, rfl, hlc, hr⟩ := hx
    by_cases h0 : xs.length = 0
    · have hx0 : xs = [] := List.eq_nil_of_length_eq_zero h0
      subst hx0
      have hfl : Flat (DR (Cw own h w) s) s.size [] [] := rfl
      exact ⟨s, [], [], hf, read_feed hfl (fun h => absurd rfl h), ad, cap, rfl, fun h => absurd rfl h⟩
    · obtain ⟨g, o, rfl, hrows⟩ := hr h0
      obtain ⟨us, hfl, hc⟩ := rows_flat hrows
      have hcc : xs.length ≠ 0 → ∃ g' o', (some ⟨g, o, none⟩ : Option Addr) = some ⟨g', o', none⟩ ∧ ∀ j u, us[j]? = some u → w.cell? ⟨g', o' + j, none⟩ = some u := fun _ => ⟨g, o, rfl, fun j u hj => (hc j u hj).2⟩
      exact ⟨s, xs, us, hf, read_feed hfl hcc, _, cap, rfl, hcc⟩
  · rename_i id off len
    split at hf
    · rename_i E s xs hb
      obtain ⟨hle, hf⟩ := req_iff.1 hf
      rw [decide_eq_true_eq] at hle
      have hcl := cut_length xs off len hle
      simp only [VR] at hx
      rcases hx with ⟨rfl, rfl, _⟩ | ⟨pl, o, cap, ho, rfl, hlc, hcap⟩
      · have hx0 : (xs.drop off).take 0 = [] := by simp
        rw [hx0] at hf
        have hfl : Flat (DR (Cw own h w) s) s.size [] [] := rfl
        exact ⟨s, [], [], hf, read_feed hfl (fun h => absurd rfl h), none, 0, rfl, fun h => absurd rfl h⟩
      · obtain ⟨cs, T', fr, us, h1, h2, h3, h4, h5, h6, h7⟩ := H.seq ho hb
        have hfl := (h6.drop off (by omega)).take len (by rw [List.length_drop]; omega)
        have hcc : ((xs.drop off).take len).length ≠ 0 → ∃ g' o', (some ⟨pl.g, o, none⟩ : Option Addr) = some ⟨g', o', none⟩ ∧ ∀ j u, ((us.drop (off * s.size)).take (len * s.size))[j]? = some u → w.cell? ⟨g', o' + j, none⟩ = some u := fun hn => by
          rw [hcl] at hn
          obtain ⟨ho2, hN⟩ := hcap (by omega)
          refine ⟨pl.g, o, rfl, fun j u hj => ?_⟩
          rw [cell_of h1, ho2, h4, Nat.add_assoc]
          refine h7 _ _ ?_
          rw [List.getElem?_take] at hj
          split at hj
          · rw [List.getElem?_drop] at hj; exact hj
          · cases hj
        refine ⟨s, _, _, hf, ?_, some ⟨pl.g, o, none⟩, cap, by rw [hcl], hcc⟩
        have := read_feed (P := P) (w := w) (cap := cap) hfl hcc
        rw [hcl] at this
        exact this
    · exact hf.elim
  · exact hf.elim
theorem bytes_flat {C : CellsP} : ∀ (l : List UInt8), Flat (DR C (.int .u8)) 1 (l.map fun b => Dat.int b.toNat) (l.map fun b => Value.int .u8 b.toNat)
  | [] => rfl
  | b :: l => ⟨[_], _, rfl, rfl, rfl, bytes_flat l⟩
theorem newsK_feed {a : AV} {x : Value} {s : Sh} {K : List Dat → Prop} (H : HR own h w) (hx : VR own (Cw own h w) a x) (hf : newsK h s a K) : ∃ ys us, K ys ∧ Feed P (Cw own h w) w s x ys us := by
  unfold newsK at hf
  split at hf
  · rw [VR.c_iff] at hx; subst hx
    have hfl : Flat (DR (Cw own h w) s) s.size [] [] := rfl
    exact ⟨[], [], hf, read_feed hfl (fun h => absurd rfl h)⟩
  · rename_i t
    rw [VR.c_iff] at hx; subst hx
    split at hf
    · refine ⟨_, byteCells t, hf, bytes_flat _, fun w' => ?_, fun w' hw n hn => ?_⟩
      · simp [Builtin.lenOf, bytesD]
      · have hn' : n ≤ t.size := by simpa [bytesD] using hn
        simp only [Builtin.firstCells, Sem.run_pure, Sh.size, Nat.mul_one]
        congr 1
        apply Array.ext'
        rw [Array.toList_map, ByteArray.data_extract, Array.toList_extract, List.extract_eq_take_drop]
        simp [byteCells]
    · exact hf.elim
  · obtain ⟨s', xs, us, hK, hF, _⟩ := readK_feed (P := P) H hx hf
    split at hK
    · rename_i hs; subst hs
      exact ⟨xs, us, hK, hF⟩
    · exact hK.elim
theorem append_nil_good {e t tx ty : TypeId} {j : TypeInfo} {zv : Value} {s : Sh} {x : Value} {ys : List Dat} {us : List Value} {K : AV → AH → Prop} (hu : P.underlying t = some (.slice e)) (hj : P.info? e = some j) (hz : j.zero = some zv) (hzc : zv.cells.size = j.size) (hs : s.size = j.size)
    (hk : (∃ e', P.underlying tx = some (.slice e')) ∨ P.underlying tx = some .string) (hpos : 0 < j.bytes) (H : HR own h w) (hF : Feed P (Cw own h w) w s x ys us) (hb : ys.length * j.bytes ≤ 140737488351232)
    (hK : K (.sl h.next 0 ys.length) (h.new (.seq e s ys))) : Good P own h w K ((Builtin.append_ #[t, tx] ty #[.slice none 0 0, x]).run P w) := by
  have hsrc := hF.src hk
  rw [hs] at hsrc
  by_cases h0 : ys.length = 0
  · have hy : ys = [] := List.eq_nil_of_length_eq_zero h0
    subst hy
    obtain ⟨H', E'⟩ := H.newNone e s
    refine ⟨.slice none 0 0, w, _, _, _, ?_, H', E', ?_, hK⟩
    · have hx := hsrc.cells
      have hu0 : us = [] := by have := hF.flat.length; simpa using this
      subst hu0
      simp only [List.length_nil] at hx
      rcases hk with ⟨e', hk⟩ | hk <;> simp [Builtin.append_, run_underlying hu, run_underlying hk, sizeOf, typeInfo, hj, hsrc.len, hx]
    · simp only [VR]; exact .inl ⟨rfl, trivial, _, upd_self⟩
  · have hle : ys.length ≤ ys.length * j.bytes := Nat.le_mul_of_pos_right _ hpos
    have hrun := run_append_grow_src (P := P) w t tx ty e j zv hu hj hz none 0 0 [] (by simp [Builtin.firstCells]) x ys.length us hsrc (by omega) (by omega) (growslice_fits (by omega) (by rw [Nat.zero_add]; omega))
    have hFd : Flat (DR (Cw own h w.drew) s) s.size ys us := hF.flat
    obtain ⟨own', H2, E2, ho⟩ := new_seq (Builtin.zeroCells zv.cells (grownCap w (0 + ys.length) 0 e - (0 + ys.length))).toList e H.drew hFd
    have harr : (us ++ (Builtin.zeroCells zv.cells (grownCap w (0 + ys.length) 0 e - (0 + ys.length))).toList).toArray = ([] ++ us).toArray ++ Builtin.zeroCells zv.cells (grownCap w (0 + ys.length) 0 e - (0 + ys.length)) := by
      apply Array.ext'; simp
    rw [harr] at H2 E2
    refine ⟨_, _, own', _, _, hrun, H2, Ext.drew.trans E2, ?_, hK⟩
    simp only [VR]
    refine .inr ⟨_, 0, grownCap w (0 + ys.length) 0 e, ho, by simp, by have := grownCap_ge w (0 + ys.length) 0 e; omega, fun _ => ⟨by simp, ?_⟩⟩
    have hge := grownCap_ge w (0 + ys.length) 0 e
    simp only [Nat.zero_add, List.length_append, Array.length_toList, size_zeroCells, hzc, hF.flat.length, hs] at hge ⊢
    rw [← Nat.add_mul]
    exact Nat.mul_le_mul_right _ (by omega)
theorem append_good {t tx ty : TypeId} {a b : AV} {x y : Value} {K : AV → AH → Prop} (hk : (∃ e', P.underlying tx = some (.slice e')) ∨ P.underlying tx = some .string) (H : HR own h w) (hx : VR own (Cw own h w) a x) (hy : VR own (Cw own h w) b y)
    (hf : appendK P t a b h K) : Good P own h w K ((Builtin.append_ #[t, tx] ty #[x, y]).run P w) := by
  unfold appendK at hf
  split at hf
  · rename_i e hu
    split at hf
    · rename_i j s hj hs hz
      obtain ⟨z, hz⟩ := Option.isSome_iff_exists.1 hz
      obtain ⟨i, zv, hi, hzv, hzc, rfl, _⟩ := zeroA_spec hz
      rw [hj] at hi
      cases hi
      have hsz := shT_size hs hj
      split at hf
      · rename_i hc
        obtain ⟨hc1, hc2⟩ := hc
        obtain ⟨ys, us, hf, hF⟩ := newsK_feed (P := P) H hy hf
        split at hf
        · rw [VR.c_iff] at hx; subst hx
          obtain ⟨hb, hf⟩ := req_iff.1 hf
          rw [decide_eq_true_eq] at hb
          exact append_nil_good hu hj hzv hzc hsz hk hc2 H hF hb hf
        · rename_i id off len _
          split at hf
          · rename_i E s' xs hb
            split at hf
            · rename_i hss
              obtain ⟨hss, hee⟩ := hss
              subst hss
              rw [hee] at hb
              obtain ⟨hq, hf⟩ := req_iff.1 hf
              simp only [appOK, Bool.and_eq_true, decide_eq_true_eq] at hq
              obtain ⟨hle, hbytes⟩ := hq
              have hcl := cut_length xs off len hle
              rw [show dapp xs off len ys = (xs.drop off).take len ++ ys from rfl, List.length_append, hcl] at hf
              have hlv : isLive (h.get id) := by rw [hb]; trivial
              have hx0 := hx
              simp only [VR] at hx
              rcases hx with ⟨rfl, rfl, _⟩ | ⟨pl, o, cap, ho, rfl, hlc, hcap⟩
              · -- the slice is nil
                have hEk := Ext.kill H id (by rw [hb]; exact fun h => h)
                have hF' : Feed P (Cw own (h.put id .dead) w) w s y ys us := ⟨hF.flat.mono fun _ _ => DR.mono hEk.cells, hF.len, hF.first⟩
                have hn : (h.put id .dead).next = h.next := next_put
                obtain ⟨v, w', own', h', av, r1, r2, r3, r4, r5⟩ := append_nil_good (P := P) (K := K) (ty := ty) hu hj hzv hzc hsz hk hc2 (H.kill id (by rw [hb]; exact fun h => h)) hF' (by simpa using hbytes) (by rw [hn]; simpa using hf)
                exact ⟨v, w', own', h', av, r1, r2, hEk.trans r3, r4, r5⟩
              · obtain ⟨cs, T', fr, us0, h1, h2, h3, h4, h5, h6, h7⟩ := H.seq ho hb
                have hcut := (h6.drop off (by omega)).take len (by rw [List.length_drop]; omega)
                have hcutl := hcut.length
                rw [hcl] at hcutl
                have hsrc := hF.src hk
                rw [hsz] at hsrc
                have hFl := hF.flat.length
                have hcut7 : len ≠ 0 → o = pl.d + off * s.size ∧ ∀ j u, ((us0.drop (off * s.size)).take (len * s.size))[j]? = some u → cs[o + j]? = some u := fun hn => by
                  obtain ⟨ho2, hN⟩ := hcap (by omega)
                  rw [h4] at ho2
                  refine ⟨ho2, fun j u hj => ?_⟩
                  rw [ho2, Nat.add_assoc]
                  refine h7 _ _ ?_
                  rw [List.getElem?_take] at hj
                  split at hj
                  · rw [List.getElem?_drop] at hj; exact hj
                  · cases hj
                by_cases hroom : len + ys.length ≤ cap
                · -- in its place
                  have hfit : cap ≠ 0 → o + cap * s.size ≤ cs.size := fun hn => by
                    obtain ⟨ho2, hN⟩ := hcap hn
                    rw [h4, h3] at hN
                    exact hN
                  have hroomS : (len + ys.length) * s.size ≤ cap * s.size := Nat.mul_le_mul_right _ hroom
                  rw [Nat.add_mul] at hroomS
                  have hrun := run_append_room_src (P := P) w t tx ty e j hu hj pl.g o len cap y ys.length us hsrc hroom
                    (fun i hi => by
                      have hcn : cap ≠ 0 := by
                        rintro rfl
                        have : ys.length = 0 := by omega
                        rw [this] at hFl
                        omega
                      have := hfit hcn
                      rw [cell_of h1, ← hsz, Array.getElem?_eq_getElem (by omega)]
                      rfl)
                    (fun i hi => by
                      have hcn : cap ≠ 0 := by
                        rintro rfl
                        have : ys.length = 0 := by omega
                        rw [this] at hFl
                        omega
                      have := hfit hcn
                      rw [← hsz]
                      exact froz_of h1 h2 (by omega))
                  obtain ⟨cs', k1, k2, k3, k4⟩ := setCells_heap pl.g us (o + len * j.size) w cs T' fr h1
                  have hzero : cap = 0 → ((xs.drop off).take len ++ ys) = [] := fun hn => by
                    have e1 : len = 0 := by omega
                    have e2 : ys.length = 0 := by omega
                    rw [List.eq_nil_of_length_eq_zero e2, e1]
                    simp
                  obtain ⟨H', E'⟩ := H.adopt (b := .seq e s ((xs.drop off).take len ++ ys)) (pl' := ⟨pl.g, if cap = 0 then 0 else o, pl.N, s.size⟩) (by rw [hb]; exact fun h => h) hlv ho rfl trivial (But.setCells pl.g us (o + len * j.size) w) (fun C hC => by
                    have hfl : Flat (DR C s) s.size ((xs.drop off).take len ++ ys) (((us0.drop (off * s.size)).take (len * s.size)) ++ us) := (hcut.append hF.flat).mono fun _ _ => DR.mono hC
                    refine ⟨cs', T', fr, k1, by rw [k2]; exact h2, by rw [k2]; exact h3, rfl, ?_, ?_⟩
                    · by_cases hn : cap = 0
                      · rw [hzero hn, if_pos hn]; simp
                      · have := hfit hn
                        rw [if_neg hn, List.length_append, hcl, Nat.add_mul, h3]
                        show o + _ ≤ _
                        omega
                    · by_cases hn : cap = 0
                      · rw [hzero hn]
                        exact fun i d hi => by simp at hi
                      · simp only [if_neg hn]
                        refine flat_rows hfl fun i u hi => ?_
                        have := hfit hn
                        by_cases hil : i < len * s.size
                        · rw [List.getElem?_append_left (by omega)] at hi
                          have hln : len ≠ 0 := by rintro rfl; simp at hil
                          rw [k3 _ (.inl (by rw [← hsz]; omega))]
                          exact (hcut7 hln).2 i u hi
                        · rw [List.getElem?_append_right (by omega), hcutl] at hi
                          have hiu := (List.getElem?_eq_some_iff.1 hi).1
                          have := k4 (i - len * s.size) (by rw [← hsz]; omega) hiu
                          rw [← hsz] at this
                          rw [show o + i = o + len * s.size + (i - len * s.size) by omega, this]
                          exact hi)
                  have hfr : next_put (h := h) (id := id) (b := AB.dead) = next_put := rfl
                  refine ⟨_, _, _, _, _, hrun, H', E', ?_, hf⟩
                  simp only [VR]
                  refine .inr ⟨_, o, cap, upd_self, rfl, hroom, fun hn => ?_⟩
                  simp only [if_neg hn, Nat.zero_mul, Nat.add_zero, true_and]
                  have := hfit hn
                  rw [h3]
                  exact this
                · -- a new row
                  have hle1 : len + ys.length ≤ (len + ys.length) * j.bytes := Nat.le_mul_of_pos_right _ hc2
                  have hold : (Builtin.firstCells j.size len (.slice (some ⟨pl.g, o, none⟩) len cap)).run P w.drew = .ok ((us0.drop (off * s.size)).take (len * s.size)).toArray w.drew := by
                    rcases Nat.eq_zero_or_pos len with h0 | h0
                    · subst h0; simp [Builtin.firstCells, loadCells, loadCellsFrom]
                    · refine run_firstCells_some (P := P) w.drew j.size len ⟨pl.g, o, none⟩ len cap _ (by rw [← hsz]; exact hcutl) (fun i u hi => ?_)
                      rw [Addr.add_lit, World.cell?_drew, cell_of h1]
                      exact (hcut7 (by omega)).2 i u hi
                  have hrun := run_append_grow_src (P := P) w t tx ty e j zv hu hj hzv (some ⟨pl.g, o, none⟩) len cap _ hold y ys.length us hsrc (by omega) (by omega) (growslice_fits (by omega) (by omega))
                  have hEk := Ext.kill H id (by rw [hb]; exact fun h => h)
                  have hfl : Flat (DR (Cw own (h.put id .dead) w.drew) s) s.size ((xs.drop off).take len ++ ys) (((us0.drop (off * s.size)).take (len * s.size)) ++ us) := (hcut.append hF.flat).mono fun _ _ => DR.mono (hEk.trans Ext.drew).cells
                  obtain ⟨own', H2, E2, ho'⟩ := new_seq (Builtin.zeroCells zv.cells (grownCap w (len + ys.length) cap e - (len + ys.length))).toList e (H.kill id (by rw [hb]; exact fun h => h)).drew hfl
                  have harr : ((((us0.drop (off * s.size)).take (len * s.size)) ++ us) ++ (Builtin.zeroCells zv.cells (grownCap w (len + ys.length) cap e - (len + ys.length))).toList).toArray =
                      (((us0.drop (off * s.size)).take (len * s.size)) ++ us).toArray ++ Builtin.zeroCells zv.cells (grownCap w (len + ys.length) cap e - (len + ys.length)) := by
                    apply Array.ext'; simp
                  rw [harr] at H2 E2
                  have hn : (h.put id .dead).next = h.next := next_put
                  refine ⟨_, _, own', _, _, hrun, H2, (hEk.trans Ext.drew).trans E2, ?_, hf⟩
                  rw [hn] at ho'
                  simp only [VR]
                  have hge := grownCap_ge w (len + ys.length) cap e
                  refine .inr ⟨_, 0, grownCap w (len + ys.length) cap e, ho', rfl, hge, fun _ => ⟨by simp, ?_⟩⟩
                  rw [hsz] at hcutl
                  simp only [Nat.zero_add, List.length_append, Array.length_toList, size_zeroCells, hzc, hFl, hsz, hcutl]
                  rw [← Nat.add_mul, ← Nat.add_mul]
                  exact Nat.mul_le_mul_right _ (by omega)
            · exact hf.elim
          · exact hf.elim
        · exact hf.elim
      · exact hf.elim
    · exact hf.elim
  · exact hf.elim
theorem mixOf_spec {a : AV} {k : Nat} (hm : mixOf h a = some k) : ∃ off len E s xs c, a = .sl k off len ∧ h.get k = .mix E s xs c := by
  unfold mixOf at hm
  split at hm
  · split at hm
    · rename_i hb
      cases hm
      exact ⟨_, _, _, _, _, _, rfl, hb⟩
    · cases hm
  · cases hm
/-- a row whose last element is written, one behind the other -/
theorem appMix_good {t tx ty : TypeId} {a b : AV} {x y : Value} {K : AV → AH → Prop} (hk : (∃ e', P.underlying tx = some (.slice e')) ∨ P.underlying tx = some .string) (H : HR own h w) (hx : VR own (Cw own h w) a x) (hy : VR own (Cw own h w) b y)
    (hf : appMixK P t a b h K) : Good P own h w K ((Builtin.append_ #[t, tx] ty #[x, y]).run P w) := by
  unfold appMixK at hf
  split at hf
  · rename_i i k hmi hmk
    split at hf
    · rename_i i0 n E s xs a0 k0 E' s' c e hbi hbk hu
      obtain ⟨_, _, _, _, _, _, hai, _⟩ := mixOf_spec hmi
      obtain ⟨_, _, _, _, _, _, hak, _⟩ := mixOf_spec hmk
      cases hai
      cases hak
      split at hf
      · rename_i j z0 hj hz
        split at hf
        · rename_i hc
          obtain ⟨e1, e2, e3, hj1, hpos⟩ := hc
          subst e1 e3
          obtain ⟨hq, hf⟩ := req_iff.1 hf
          simp only [Bool.and_eq_true, decide_eq_true_eq] at hq
          obtain ⟨hn, hbytes⟩ := hq
          obtain ⟨h1, hf, H1, E1, n1, g1, E3, s3, xs3, a3, ys, hb3, hb4, hly⟩ := freeze_sound H hf
          rw [hbi] at hb3
          cases hb3
          split at hf
          · rename_i E4 s4 ys' E5 s5 c' hb5 hb6
            rw [hb4] at hb5
            cases hb5
            have hki : k ≠ i := by rintro rfl; rw [hb4] at hb6; cases hb6
            have hkk : h1.get k = h.get k := (g1 k hki).resolve_right fun hd => hd (by rw [hb6]; trivial)
            rw [hbk, hb6] at hkk
            cases hkk
            obtain ⟨i1, zv, hi1, hzv, hzc, hz1, _⟩ := zeroA_spec hz
            rw [hj] at hi1
            cases hi1
            have hx1 := E1.vr hx
            have hy1 := E1.vr hy
            obtain ⟨plk, hok⟩ := mix_own H1 hb6
            obtain ⟨csk, Tk, frk, usk, u, m1, m2, m3, m4, m5, m6, m7, m8, m9, m10⟩ := H1.mix hok hb6
            simp only [VR] at hx1 hy1
            rcases hy1 with ⟨q, _⟩ | ⟨plk', ok, capk, hok', rfl, hlck, hcapk⟩
            · omega
            rw [hok] at hok'
            cases hok'
            obtain ⟨ok2, _⟩ := hcapk (by omega)
            rw [Nat.zero_mul, Nat.add_zero] at ok2
            subst ok2
            rcases hx1 with ⟨q, _⟩ | ⟨pl, o, cap, ho, rfl, hlc, hcap⟩
            · omega
            obtain ⟨o2, hN⟩ := hcap (by omega)
            rw [Nat.zero_mul, Nat.add_zero] at o2
            subst o2
            obtain ⟨cs, T', fr, us0, b1, b2, b3, b4, b5, b6, b7⟩ := H1.seq ho hb4
            have hsz1 : (Sh.slice s).size = 1 := rfl
            rw [hsz1] at b4 b5 b6
            have hul := b6.length
            have hone := m7.one m8
            have hcellk : ∀ w' : World, w'.heap = w.heap → w'.cell? ⟨plk.g, plk.d, none⟩ = some u := fun w' hw => by
              have : w'.heap[plk.g]? = some (.cells csk Tk frk) := by rw [hw]; exact m1
              rw [cell_of this]
              simpa using m10
            have hfirst : ∀ w' : World, w'.heap = w.heap → (Builtin.firstCells 1 1 (.slice (some ⟨plk.g, plk.d, none⟩) 1 capk)).run P w' = .ok [u].toArray w' := fun w' hw =>
              run_firstCells_some (P := P) w' 1 1 ⟨plk.g, plk.d, none⟩ 1 capk [u] rfl (fun q v hq => by
                cases q with
                | zero => simp at hq; subst hq; rw [Addr.add_lit, Nat.add_zero]; exact hcellk w' hw
                | succ q => simp at hq)
            have hsrc : Src P j.size tx (.slice (some ⟨plk.g, plk.d, none⟩) 1 capk) 1 [u] w := by
              rw [hj1]
              exact ⟨hk, fun _ => rfl, hfirst w rfl, hfirst w.drew rfl, rfl, fun v hv => by simp at hv; subst hv; exact hone⟩
            have hlive1 : isLive (h1.get i) := by rw [hb4]; trivial
            have hnlk : ¬ isLock (h1.get k) := by rw [hb6]; exact fun h => h
            have H2 := H1.kill k hnlk
            have E2 := Ext.kill H1 k hnlk
            have hgi : (h1.put k .dead).get i = .seq E (.slice s) ys := by rw [get_put_ne (Ne.symm hki)]; exact hb4
            have hlv2 : isLive ((h1.put k .dead).get i) := by rw [hgi]; trivial
            have hnl2 : ¬ isLock ((h1.put k .dead).get i) := by rw [hgi]; exact fun h => h
            have hnx : (((h1.put k .dead).put i .dead)).next = h1.next := next_put.trans next_put
            have hnx2 : (h1.put k .dead).next = h1.next := next_put
            have hd6 : Flat (DR (Cw own (h1.put k .dead) w) (.slice s)) 1 ys us0 := b6.mono fun _ _ => DR.mono E2.cells
            have hv7 := E2.vr m7
            by_cases hroom : n + 1 ≤ cap
            · have hfit : pl.d + cap * 1 ≤ cs.size := by rw [← b4, ← b3]; exact hN
              rw [Nat.mul_one] at hfit
              have hrun := run_append_room_src (P := P) w t tx ty E j hu hj pl.g pl.d n cap _ 1 [u] hsrc hroom
                (fun q hq => by
                  rw [hj1]
                  simp only [List.length_singleton] at hq
                  rw [cell_of b1, Array.getElem?_eq_getElem (by omega)]
                  rfl)
                (fun q hq => by
                  rw [hj1]
                  simp only [List.length_singleton] at hq
                  exact froz_of b1 b2 (by omega))
              obtain ⟨cs', k1, k2, k3, k4⟩ := setCells_heap pl.g [u] (pl.d + n * j.size) w cs T' fr b1
              rw [hj1, Nat.mul_one] at k1 k3 k4 hrun
              obtain ⟨H', E'⟩ := H2.adopt (b := .mix E s ys c) (pl' := ⟨pl.g, pl.d, pl.N, 1⟩) hnl2 hlv2 ho rfl trivial (But.setCells pl.g [u] (pl.d + n) w) (fun C hC => by
                refine ⟨cs', T', fr, u, k1, ⟨by rw [k2]; exact b2.fr, b2.ty⟩, by rw [k2]; exact b3, rfl, ?_, flat_rows (hd6.mono fun _ _ => DR.mono hC) (fun q v hq => ?_), hv7.mono (upd_ext (H2.dom _ (Nat.le_refl _))) hC, m8, ?_⟩
                · show pl.d + (ys.length + 1) ≤ pl.N
                  omega
                · have hq1 := (List.getElem?_eq_some_iff.1 hq).1
                  show cs'[pl.d + q]? = some v
                  rw [k3 _ (.inl (by omega))]
                  exact b7 q v hq
                · have hq0 := k4 0 (by simp; omega) (by simp)
                  rw [Nat.add_zero] at hq0
                  show cs'[pl.d + ys.length]? = some u
                  rw [show pl.d + ys.length = pl.d + n by omega, hq0]
                  rfl)
              refine ⟨_, _, _, _, _, hrun, H', E1.trans (E2.trans E'), ?_, hf⟩
              simp only [VR]
              refine .inr ⟨_, pl.d, cap, by rw [hnx2]; exact upd_self, by rw [show ys.length + 1 = n + 1 by omega], by omega, fun _ => ⟨by simp, ?_⟩⟩
              show pl.d + cap * 1 ≤ pl.N
              omega
            · have hle1 : n + 1 ≤ (n + 1) * j.bytes := Nat.le_mul_of_pos_right _ hpos
              have hold : (Builtin.firstCells j.size n (.slice (some ⟨pl.g, pl.d, none⟩) n cap)).run P w.drew = .ok us0.toArray w.drew := by
                rw [hj1]
                refine run_firstCells_some (P := P) w.drew 1 n ⟨pl.g, pl.d, none⟩ n cap _ (by omega) (fun q v hq => ?_)
                rw [Addr.add_lit, World.cell?_drew, cell_of b1]
                exact b7 q v hq
              have hrun := run_append_grow_src (P := P) w t tx ty E j zv hu hj hzv (some ⟨pl.g, pl.d, none⟩) n cap us0 hold _ 1 [u] hsrc (by omega) (by omega) (growslice_fits (by omega) (by omega))
              have hEk := Ext.kill H2 i hnl2
              obtain ⟨own', H3, E3, ho'⟩ := new_mix (xs := ys) (us := us0) (s := s) (a := c) (u := u) (Builtin.zeroCells zv.cells (grownCap w (n + 1) cap E - (n + 1))).toList E (H2.kill i hnl2).drew (hd6.mono fun _ _ => DR.mono (hEk.trans Ext.drew).cells) ((hEk.trans Ext.drew).vr hv7) m8
              have harr : (us0 ++ u :: (Builtin.zeroCells zv.cells (grownCap w (n + 1) cap E - (n + 1))).toList).toArray = (us0 ++ [u]).toArray ++ Builtin.zeroCells zv.cells (grownCap w (n + 1) cap E - (n + 1)) := by
                apply Array.ext'; simp
              rw [harr] at H3 E3
              refine ⟨_, _, own', _, _, hrun, H3, E1.trans (E2.trans ((hEk.trans Ext.drew).trans E3)), ?_, hf⟩
              rw [hnx] at ho'
              simp only [VR]
              have hge := grownCap_ge w (n + 1) cap E
              refine .inr ⟨_, 0, grownCap w (n + 1) cap E, ho', by rw [show ys.length + 1 = n + 1 by omega]; rfl, by omega, fun _ => ⟨by simp, ?_⟩⟩
              simp only [Nat.zero_add, List.length_append, List.length_cons, Array.length_toList, size_zeroCells, hzc, hj1]
              omega
          · exact hf.elim
        · exact hf.elim
      · exact hf.elim
    · exact hf.elim
  · rename_i k hmi hmk
    obtain ⟨h1, hf, H1, E1, n1, g1, _⟩ := freeze_sound H hf
    obtain ⟨v, w', own', h', av, r1, r2, r3, r4, r5⟩ := append_good (ty := ty) hk H1 (E1.vr hx) (E1.vr hy) hf
    exact ⟨v, w', own', h', av, r1, r2, E1.trans r3, r4, r5⟩
  · rename_i i hmi hmk
    obtain ⟨h1, hf, H1, E1, n1, g1, _⟩ := freeze_sound H hf
    obtain ⟨v, w', own', h', av, r1, r2, r3, r4, r5⟩ := append_good (ty := ty) hk H1 (E1.vr hx) (E1.vr hy) hf
    exact ⟨v, w', own', h', av, r1, r2, E1.trans r3, r4, r5⟩
  · exact append_good hk H hx hy hf
end
end AM
end Go
