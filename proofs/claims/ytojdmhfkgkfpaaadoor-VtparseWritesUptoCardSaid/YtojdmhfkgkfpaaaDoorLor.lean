/- Layer 05, the reference: what its loops come to, as functions of lists. -/
import Derived.Test.YtojdmhfkgkfpaaaDoorLo
import Derived.Test.YtojdmhfkgkfpaaaDoorRx
set_option linter.unusedVariables false
set_option linter.unusedSimpArgs false
set_option maxRecDepth 100000
namespace Go.Proofs.YtojdmhfkgkfpaaaDoor
open Go.AM Go.LTxt Go.LMem Go.RowKit
def f47_2 (l b : List Dat) : List Dat := l ++ rD (toB b)
def s47_2 (l b : List Dat) : Prop := okB b ∧ b.length + l.length ≤ lim
theorem r47_2 : ∀ (n : Nat) (l b : List Dat) (E : List Dat → Prop), b.length < n → s47_2 l b → E (f47_2 l b) → l47_2 n l b E
  | 0, l, b, E, hn, hs, hE => by omega
  | n + 1, l, b, E, hn, ⟨hok, hlim⟩, hE => by
    unfold l47_2
    simp only [true_and, cut_tail, dapp_full, Nat.sub_zero]
    have hl : (toB b).length = b.length := toB_length b
    unfold lim at hlim
    refine br_mk (fun h1 => ⟨hok, ?_, ?_⟩) (fun h1 => ?_)
    · unfold big; omega
    · have h0 : 0 < b.length := by simpa using h1
      have hd := runes_step (toB b) (by omega)
      have bad : ¬ ((head (toB b)).1 = (head (toB b)).2 ∧ 0 < (head (toB b)).2) → req (appOK l 0 l.length 1 4) (req (decide ((0 : Int) ≤ (1 : Int)) && decide ((1 : Int) ≤ (↑(List.length b) : Int)) && decide ((↑(List.length b) : Int) ≤ (↑(List.length b) : Int)))
          (l47_2 n (l ++ [Dat.int 65533]) (b.drop 1) E)) := fun hb => by
        refine req_mk (app_ok (by omega)) (req_mk (by simp; omega) ?_)
        refine r47_2 n _ _ E (by simp; omega) ⟨okB_drop hok 1, by simp [lim]; omega⟩ ?_
        have e : dec (toB b) = (65533, 1) := by
          unfold dec
          rw [if_neg hb]
        unfold f47_2 at hE ⊢
        rw [toB_drop]
        simp only [rD, hd, e, List.map_cons] at hE ⊢
        simpa using hE
      refine br_mk (fun h2 => br_mk (fun h3 => req_mk ?_ ⟨?_, ⟨?_, ?_⟩, req_mk (app_ok (by omega)) (req_mk ?_ ?_)⟩) (fun h3 => bad ?_)) (fun h2 => bad ?_)
      · have e1 : (head (toB b)).1 = (head (toB b)).2 := by have := of_decide_eq_true h2; omega
        have := head_le (toB b)
        simp
        omega
      · exact okB_take hok _
      · have e2 : 0 < (head (toB b)).2 := by simpa using h3
        simp [toB_length]
        omega
      · have e1 : (head (toB b)).1 = (head (toB b)).2 := by have := of_decide_eq_true h2; omega
        have := head_le4 (toB b)
        simp [toB_length]
        omega
      · have e1 : (head (toB b)).1 = (head (toB b)).2 := by have := of_decide_eq_true h2; omega
        have := head_le (toB b)
        simp
        omega
      · have e1 : (head (toB b)).1 = (head (toB b)).2 := by have := of_decide_eq_true h2; omega
        have e2 : 0 < (head (toB b)).2 := by simpa using h3
        have e3 := head_le (toB b)
        rw [toB_take]
        refine r47_2 n _ _ E (by simp; omega) ⟨okB_drop hok _, by simp [lim]; omega⟩ ?_
        have e : dec (toB b) = (value ((toB b).take (head (toB b)).2), (head (toB b)).2) := by
          unfold dec
          rw [if_pos ⟨e1, e2⟩]
        unfold f47_2 at hE ⊢
        rw [toB_drop]
        simp only [rD, hd, e, List.map_cons] at hE ⊢
        simpa using hE
      · intro hc
        have : ¬ 0 < (head (toB b)).2 := by simpa using h3
        exact this hc.2
      · intro hc
        have : ¬ (head (toB b)).1 = (head (toB b)).2 := by have := of_decide_eq_false h2; omega
        exact this hc.1
    · have : b = [] := by simpa using h1
      subst this
      simpa [f47_2, rD, toB, runes_nil] using hE
theorem vl47_2 (l b : List Dat) (E : List Dat → Prop) (hs : s47_2 l b) (hE : E (f47_2 l b)) : ∃ n, l47_2 n l b E := ⟨b.length + 1, r47_2 _ l b E (by omega) hs hE⟩
def fin54 (x : RS) (l : List Dat) (r : List Int × List UInt8) (E0 R_ : RS → List Dat → Prop) : Prop := (r.2 = [] → E0 { x with db := bD r.2 } (l ++ iD r.1)) ∧ (r.2 ≠ [] → R_ { x with db := bD r.2 } (l ++ iD r.1))
theorem r54_3 : ∀ (n : Nat) (x : RS) (l : List Dat) (E0 R_ : RS → List Dat → Prop), x.db.length < n → okB x.db → x.db.length + l.length ≤ lim → fin54 x l (putD (toB x.db)) E0 R_ → l54_3 n x l E0 R_
  | 0, x, l, E0, R_, hn, _, _, _ => by omega
  | n + 1, x, l, E0, R_, hn, hok, hlim, hQ => by
    unfold l54_3
    have hl : (toB x.db).length = x.db.length := toB_length x.db
    have hle := head_le (toB x.db)
    have h4 := head_le4 (toB x.db)
    unfold lim at hlim
    simp only [true_and, List.take_length, Nat.zero_add, Nat.sub_zero, dapp_full, dcut_full, dcut_tail, cut_tail]
    generalize hH : head (toB x.db) = hh at hle h4
    refine br_mk (fun h1 => ?_) (fun h1 => ?_)
    · have h0 : 0 < x.db.length := by have := of_decide_eq_true h1; omega
      have hbig : big (toB x.db) := by unfold big; omega
      have hbad : ¬ (hh.1 = hh.2 ∧ 0 < hh.2) → ¬ (0 < hh.1 ∧ hh.1 = (toB x.db).length) → l54_3 n { x with db := x.db.drop 1 } (l ++ [.int 65533]) E0 R_ := fun g1 g2 => by
        have e : dec (toB x.db) = (65533, 1) := by
          unfold dec
          rw [hH, if_neg g1]
        have ew : whole (toB x.db) = true := by
          unfold whole
          rw [hH]
          simp
          by_cases g3 : 0 < hh.1
          · exact .inr (.inr fun g4 => g2 ⟨g3, g4⟩)
          · exact .inr (.inl (by omega))
        have hp := putD_step (toB x.db) (by omega) ew
        rw [e] at hp
        refine r54_3 n _ _ E0 R_ (by simp; omega) (okB_drop hok 1) (by simp [lim]; omega) ?_
        rw [hp] at hQ
        simp only [toB_drop]
        simpa [fin54, iD] using hQ
      have hgood : hh.1 = hh.2 → 0 < hh.2 → l54_3 n { x with db := x.db.drop hh.2 } (l ++ [.int (value (toB (x.db.take hh.2)))]) E0 R_ := fun g1 g2 => by
        have e : dec (toB x.db) = (value ((toB x.db).take hh.2), hh.2) := by
          unfold dec
          rw [hH, if_pos ⟨g1, g2⟩]
        have ew : whole (toB x.db) = true := by
          unfold whole
          rw [hH]
          simp [g1, g2]
        have hp := putD_step (toB x.db) (by omega) ew
        rw [e] at hp
        refine r54_3 n _ _ E0 R_ (by simp; omega) (okB_drop hok _) (by simp [lim]; omega) ?_
        rw [hp] at hQ
        simp only [toB_drop, toB_take]
        simpa [fin54, iD] using hQ
      have hhold : ¬ (hh.1 = hh.2 ∧ 0 < hh.2) → 0 < hh.1 → hh.1 = x.db.length → R_ x l := fun g1 g2 g3 => by
        have ew : whole (toB x.db) = false := by
          unfold whole
          rw [hH]
          simp
          omega
        rw [putD_hold (toB x.db) (by omega) ew] at hQ
        have hne : toB x.db ≠ [] := fun h => by rw [h] at hl; simp at hl; omega
        have := hQ.2 hne
        simp only [iD, List.map_nil, List.append_nil] at this
        have hb : bD (toB x.db) = x.db := hok.symm
        rw [hb] at this
        exact this
      refine req_mk (by simp) ⟨hok, hbig, br_mk (fun h2 => br_mk (fun h3 => ?_) (fun h3 => br_mk (fun h5 => br_mk (fun h6 => ?_) (fun h6 => ?_)) (fun h5 => ?_))) (fun h2 => br_mk (fun h5 => br_mk (fun h6 => ?_) (fun h6 => ?_)) (fun h5 => ?_))⟩
      · have e2 : 0 < hh.2 := by have := of_decide_eq_true h2; omega
        have e1 : hh.1 = hh.2 := by have := of_decide_eq_true h3; omega
        refine req_mk (by simp; omega) (req_mk (by simp; omega) ⟨okB_take hok _, ⟨by simp [toB_length]; omega, by simp [toB_length]; omega⟩, req_mk (app_ok (by omega)) (req_mk (by simp; omega) (req_mk (by simp; omega) ?_))⟩)
        exact hgood e1 e2
      · have e1 : ¬ hh.1 = hh.2 := by have := of_decide_eq_false h3; omega
        have e3 : 0 < hh.1 := by have := of_decide_eq_true h5; omega
        have e4 : hh.1 = x.db.length := by have := of_decide_eq_true h6; omega
        exact req_mk (by simp) (hhold (fun h => e1 h.1) e3 e4)
      · have e1 : ¬ hh.1 = hh.2 := by have := of_decide_eq_false h3; omega
        have e4 : ¬ hh.1 = x.db.length := by have := of_decide_eq_false h6; omega
        refine req_mk (app_ok (by omega)) (req_mk (by simp; omega) (req_mk (by simp; omega) ?_))
        exact hbad (fun h => e1 h.1) (fun h => e4 (by omega))
      · have e1 : ¬ hh.1 = hh.2 := by have := of_decide_eq_false h3; omega
        have e3 : ¬ 0 < hh.1 := by have := of_decide_eq_false h5; omega
        refine req_mk (app_ok (by omega)) (req_mk (by simp; omega) (req_mk (by simp; omega) ?_))
        exact hbad (fun h => e1 h.1) (fun h => e3 h.1)
      · have e2 : ¬ 0 < hh.2 := by have := of_decide_eq_false h2; omega
        have e3 : 0 < hh.1 := by have := of_decide_eq_true h5; omega
        have e4 : hh.1 = x.db.length := by have := of_decide_eq_true h6; omega
        exact req_mk (by simp) (hhold (fun h => e2 h.2) e3 e4)
      · have e2 : ¬ 0 < hh.2 := by have := of_decide_eq_false h2; omega
        have e4 : ¬ hh.1 = x.db.length := by have := of_decide_eq_false h6; omega
        refine req_mk (app_ok (by omega)) (req_mk (by simp; omega) (req_mk (by simp; omega) ?_))
        exact hbad (fun h => e2 h.2) (fun h => e4 (by omega))
      · have e2 : ¬ 0 < hh.2 := by have := of_decide_eq_false h2; omega
        have e3 : ¬ 0 < hh.1 := by have := of_decide_eq_false h5; omega
        refine req_mk (app_ok (by omega)) (req_mk (by simp; omega) (req_mk (by simp; omega) ?_))
        exact hbad (fun h => e2 h.2) (fun h => e3 h.1)
    · have h0 : x.db = [] := by have := of_decide_eq_false h1; exact List.eq_nil_of_length_eq_zero (by omega)
      rw [h0] at hQ
      have e : toB ([] : List Dat) = [] := rfl
      rw [e, putD_nil] at hQ
      refine req_mk (by simp) ?_
      have := hQ.1 rfl
      cases x; simp only at h0; subst h0; simpa [iD, bD] using this
noncomputable def f54 (r : RS) (b : List Dat) : RS × List Dat := ({ r with db := bD (putD (toB (r.db ++ b))).2 }, iD (putD (toB (r.db ++ b))).1)
def s54 (r : RS) (b : List Dat) : Prop := okB (r.db ++ b) ∧ r.db.length + b.length ≤ lim
theorem v54 (r : RS) (b : List Dat) (K : RS → List Dat → Prop) (h : s54 r b) (k : K (f54 r b).1 (f54 r b).2) : m54 r b K := by
  obtain ⟨hok, hlim⟩ := h
  unfold m54
  simp only [true_and, dapp_full, dcut_full]
  refine req_mk (app_ok (by unfold lim at hlim; omega)) (req_mk (by simp) ⟨(r.db ++ b).length + 1, r54_3 _ _ _ _ _ (by simp) hok (by simpa using hlim) ?_⟩)
  unfold fin54
  exact ⟨fun _ => by simpa [f54] using k, fun _ => by simpa [f54] using k⟩
def f31_1 (r : RS) (l : List Dat) (i : Int) : RS := { r with out := r.out ++ prD (l.drop i.toNat) }
def s31_1 (r : RS) (l : List Dat) (i : Int) : Prop := 0 ≤ i ∧ i ≤ l.length ∧ l.length ≤ lim ∧ r.out.length + (l.length - i.toNat) ≤ lim
theorem r31_1 (l : List Dat) : ∀ (n : Nat) (r : RS) (i : Int) (E : RS → Prop), l.length - i.toNat < n → s31_1 r l i → E (f31_1 r l i) → l31_1 n r l i E
  | 0, r, i, E, hn, hs, hE => by omega
  | n + 1, r, i, E, hn, ⟨h0, h1, hll, hlim⟩, hE => by
    obtain ⟨k, rfl⟩ : ∃ k : Nat, i = k := ⟨i.toNat, by omega⟩
    unfold lim at hlim hll
    unfold l31_1
    simp only [true_and, Int.toNat_natCast] at *
    refine br_mk (fun h2 => ?_) (fun h2 => ?_)
    · have hk : k < l.length := by simpa using h2
      have e := drop_cons hk
      have step : ∀ x : RS, x.out = r.out ++ prD [l.getD k default] → E (f31_1 x l ((k : Int) + 1)) → l31_1 n x l ((k : Int) + 1) E := fun x hx hE' => by
        refine r31_1 l n x _ E (by omega) ⟨by omega, by omega, hll, ?_⟩ hE'
        rw [hx, List.length_append]
        have := prD_length [l.getD k default]
        simp only [List.length_cons, List.length_nil] at this
        unfold lim
        omega
      have hin : inR .i64 ((k : Int) + 1) = true := by simp [inR, IntKind.min, IntKind.max, IntKind.bits, IntKind.signed]; omega
      have tells : l.getD k default ∈ l → (l.getD k default).toInt < 128 ∨ 159 < (l.getD k default).toInt → ∀ K : RS → Prop, K { r with out := r.out ++ prD [l.getD k default] } → m46 r 1 (l.getD k default).toInt 0 0 [] ⟨#[]⟩ ⟨#[]⟩ K := fun _ hp K hK => by
        unfold m46
        rw [dapp_full]
        refine req_mk (app_ok (by omega)) ?_
        rw [prD_cons, if_pos hp] at hK
        simpa [prD, act] using hK
      have hmem : l.getD k default ∈ l := by rw [List.getD_eq_getElem?_getD, List.getElem?_eq_getElem hk]; exact List.getElem_mem hk
      have f1 : ∀ x : RS, x = { r with out := r.out ++ prD [l.getD k default] } → f31_1 x l ((k : Int) + 1) = f31_1 r l k := fun x hx => by
        subst hx
        have e2 : ((k : Int) + 1).toNat = k + 1 := by omega
        simp only [f31_1, e2, Int.toNat_natCast]
        rw [e, prD_cons (l.getD k default) (l.drop (k + 1)), prD_cons (l.getD k default) []]
        simp [prD]
      have hb : ∀ T : Prop, T → req (decide ((0 : Int) ≤ ↑k) && decide ((↑k : Int) < ↑(List.length l))) T := fun T hT => req_mk (by simp; omega) hT
      have hb2 : ∀ T : Prop, T → req (decide (k < List.length l)) T := fun T hT => req_mk (by simpa using hk) hT
      refine hb _ (hb2 _ ?_)
      refine br_mk (fun h3 => ?_) (fun h3 => ?_)
      · refine hb _ (hb2 _ ?_)
        refine br_mk (fun h4 => ?_) (fun h4 => ?_)
        · rw [hin, req_t]
          have hp : ¬ ((l.getD k default).toInt < 128 ∨ 159 < (l.getD k default).toInt) := by
            have a := of_decide_eq_true h3
            have b := of_decide_eq_true h4
            omega
          have hnil : prD [l.getD k default] = [] := by rw [prD_cons, if_neg hp]; rfl
          refine step r (by rw [hnil, List.append_nil]) ?_
          rw [f1 r (by rw [hnil, List.append_nil])]
          exact hE
        · refine hb _ (hb2 _ ?_)
          refine tells hmem (.inr (by have := of_decide_eq_false h4; omega)) _ ?_
          rw [hin, req_t]
          refine step _ rfl ?_
          rw [f1 _ rfl]
          exact hE
      · refine hb _ (hb2 _ ?_)
        refine tells hmem (.inl (by have := of_decide_eq_false h3; omega)) _ ?_
        rw [hin, req_t]
        refine step _ rfl ?_
        rw [f1 _ rfl]
        exact hE
    · have hk : l.length ≤ k := by have := of_decide_eq_false h2; omega
      have : f31_1 r l k = r := by simp [f31_1, List.drop_of_length_le hk, prD]
      rw [this] at hE
      exact hE
theorem vl31_1 (r : RS) (l : List Dat) (i : Int) (E : RS → Prop) (hs : s31_1 r l i) (hE : E (f31_1 r l i)) : ∃ n, l31_1 n r l i E := ⟨l.length - i.toNat + 1, r31_1 l _ r i E (by omega) hs hE⟩
end Go.Proofs.YtojdmhfkgkfpaaaDoor
