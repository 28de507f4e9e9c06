/- Layer 05, the program: what its loops come to, as functions of lists. -/
import Derived.Test.YtojdmhfkgkfpaaaDoorLo
import Derived.Test.YtojdmhfkgkfpaaaDoorPx
set_option linter.unusedVariables false
set_option linter.unusedSimpArgs false
set_option maxRecDepth 100000
namespace Go.Proofs.YtojdmhfkgkfpaaaDoor
open Go.AM Go.LTxt Go.LMem Go.RowKit
def f45_2 (l b : List Dat) : List Dat := l ++ rD (toB b)
def s45_2 (l b : List Dat) : Prop := okB b ∧ b.length + l.length ≤ lim
theorem r45_2 : ∀ (n : Nat) (l b : List Dat) (E : List Dat → Prop), b.length < n → s45_2 l b → E (f45_2 l b) → l45_2 n l b E
  | 0, l, b, E, hn, hs, hE => by omega
  | n + 1, l, b, E, hn, ⟨hok, hlim⟩, hE => by
    unfold l45_2
    simp only [true_and, cut_tail, dapp_full, Nat.sub_zero]
    have hl : (toB b).length = b.length := toB_length b
    unfold lim at hlim
    refine br_mk (fun h1 => ⟨hok, ?_, ?_⟩) (fun h1 => ?_)
    · unfold big; omega
    · have h0 : 0 < b.length := by simpa using h1
      have hd := runes_step (toB b) (by omega)
      obtain ⟨e1, e2⟩ := decP_eq (toB b) (by omega)
      have e3 := dec_pos (toB b)
      have e4 := dec_le (toB b) (by omega)
      rw [e2, e1]
      refine req_mk (app_ok (by omega)) (req_mk (by simp; omega) ?_)
      refine r45_2 n _ _ E (by simp; omega) ⟨okB_drop hok _, by simp [lim]; omega⟩ ?_
      unfold f45_2 at hE ⊢
      rw [toB_drop]
      simp only [rD, hd, List.map_cons] at hE ⊢
      simpa using hE
    · have : b = [] := by simpa using h1
      subst this
      simpa [f45_2, rD, toB, runes_nil] using hE
theorem vl45_2 (l b : List Dat) (E : List Dat → Prop) (hs : s45_2 l b) (hE : E (f45_2 l b)) : ∃ n, l45_2 n l b E := ⟨b.length + 1, r45_2 _ l b E (by omega) hs hE⟩

noncomputable def f67 (d : DS) (b : List Dat) : DS × List Dat := ({ d with b := bD (putD (toB (d.b ++ b))).2 }, iD (putD (toB (d.b ++ b))).1)
def s67 (d : DS) (b : List Dat) : Prop := d.made = true ∧ okB (d.b ++ b) ∧ d.b.length + b.length ≤ lim
theorem r67_5 : ∀ (n : Nat) (d : DS) (l : List Dat) (E0 : DS → List Dat → Prop), d.b.length < n → okB d.b → d.b.length + l.length ≤ lim → E0 { d with b := bD (putD (toB d.b)).2 } (l ++ iD (putD (toB d.b)).1) → l67_5 n d l E0
  | 0, x, l, E0, hn, _, _, _ => by omega
  | n + 1, x, l, E0, hn, hok, hlim, hQ => by
    unfold l67_5
    have hl : (toB x.b).length = x.b.length := toB_length x.b
    unfold lim at hlim
    simp only [true_and, List.take_length, Nat.zero_add, Nat.sub_zero, dapp_full, dcut_full, dcut_tail, cut_tail]
    refine br_mk (fun h1 => ?_) (fun h1 => ?_)
    · have h0 : 0 < x.b.length := by have := of_decide_eq_true h1; omega
      have hbig : big (toB x.b) := by unfold big; omega
      rw [full_whole (toB x.b) (by omega)]
      refine req_mk (by simp) ⟨hok, hbig, br_mk (fun h2 => req_mk (by simp) ⟨hok, hbig, ?_⟩) (fun h2 => req_mk (by simp) ?_)⟩
      · obtain ⟨e1, e2⟩ := decP_eq (toB x.b) (by omega)
        have e3 := dec_pos (toB x.b)
        have e4 := dec_le (toB x.b) (by omega)
        rw [e1, e2]
        refine req_mk (app_ok (by omega)) (req_mk (by simp; omega) (req_mk (by simp; omega) ?_))
        have hp := putD_step (toB x.b) (by omega) h2
        refine r67_5 n _ _ E0 (by simp; omega) (okB_drop hok _) (by simp [lim]; omega) ?_
        rw [hp] at hQ
        simp only [toB_drop]
        simpa [iD] using hQ
      · rw [putD_hold (toB x.b) (by omega) h2] at hQ
        have hb : bD (toB x.b) = x.b := hok.symm
        rw [hb] at hQ
        simpa [iD] using hQ
    · have h0 : x.b = [] := by have := of_decide_eq_false h1; exact List.eq_nil_of_length_eq_zero (by omega)
      rw [h0] at hQ
      have e : toB ([] : List Dat) = [] := rfl
      rw [e, putD_nil] at hQ
      refine req_mk (by simp) ?_
      cases x; simp only at h0; subst h0; simpa [iD, bD] using hQ
theorem v67 (d : DS) (b : List Dat) (K : DS → List Dat → Prop) (h : s67 d b) (k : K (f67 d b).1 (f67 d b).2) : m67 d b K := by
  obtain ⟨hm, hok, hlim⟩ := h
  unfold m67
  simp only [true_and, dapp_full, dcut_full, hm, Bool.not_true, br_t, br_f]
  refine req_mk (app_ok (by unfold lim at hlim; omega)) (req_mk (by simp) ⟨(d.b ++ b).length + 1, r67_5 _ _ _ _ (by simp) hok (by simpa using hlim) ?_⟩)
  simpa [f67, hm] using k

def f29_1 (p : PS) (d : DS) (xs : List Dat) (n n2 : Int) : PS × DS := ({ p with out := p.out ++ prD (xs.drop n2.toNat) }, d)
def s29_1 (p : PS) (d : DS) (xs : List Dat) (n n2 : Int) : Prop := n = xs.length ∧ 0 ≤ n2 ∧ n2 ≤ xs.length ∧ xs.length ≤ lim ∧ p.out.length + (xs.length - n2.toNat) ≤ lim
theorem r29_1 (l : List Dat) (d : DS) : ∀ (n : Nat) (r : PS) (i : Int) (E : PS → DS → Prop), l.length - i.toNat < n → s29_1 r d l l.length i → E (f29_1 r d l l.length i).1 d → l29_1 n r d l l.length i E
  | 0, r, i, E, hn, hs, hE => by omega
  | n + 1, r, i, E, hn, ⟨_, h0, h1, hll, hlim⟩, hE => by
    obtain ⟨k, rfl⟩ : ∃ k : Nat, i = k := ⟨i.toNat, by omega⟩
    unfold lim at hlim hll
    unfold l29_1
    simp only [true_and, Int.toNat_natCast, dapp_full] at *
    refine br_mk (fun h2 => ?_) (fun h2 => ?_)
    · have hk : k < l.length := by simpa using h2
      have e := drop_cons hk
      have step : ∀ x : PS, x.out = r.out ++ prD [l.getD k default] → E (f29_1 x d l l.length ((k : Int) + 1)).1 d → l29_1 n x d l l.length ((k : Int) + 1) E := fun x hx hE' => by
        refine r29_1 l d n x _ E (by omega) ⟨rfl, by omega, by omega, hll, ?_⟩ hE'
        rw [hx, List.length_append]
        have := prD_length [l.getD k default]
        simp only [List.length_cons, List.length_nil] at this
        unfold lim
        omega
      have hin : inR .i64 ((k : Int) + 1) = true := by simp [inR, IntKind.min, IntKind.max, IntKind.bits, IntKind.signed]; omega
      have f1 : ∀ x : PS, x = { r with out := r.out ++ prD [l.getD k default] } → (f29_1 x d l l.length ((k : Int) + 1)).1 = (f29_1 r d l l.length k).1 := fun x hx => by
        subst hx
        have e2 : ((k : Int) + 1).toNat = k + 1 := by omega
        simp only [f29_1, e2, Int.toNat_natCast]
        rw [e, prD_cons (l.getD k default) (l.drop (k + 1)), prD_cons (l.getD k default) []]
        simp [prD]
      have hb : ∀ T : Prop, T → req (decide ((0 : Int) ≤ ↑k) && decide ((↑k : Int) < ↑(List.length l))) T := fun T hT => req_mk (by simp; omega) hT
      have hb2 : ∀ T : Prop, T → req (decide (k < List.length l)) T := fun T hT => req_mk (by simpa using hk) hT
      have told : (l.getD k default).toInt < 128 ∨ 159 < (l.getD k default).toInt → prD [l.getD k default] = [act 1 (l.getD k default).toInt 0 0 [] ⟨#[]⟩ ⟨#[]⟩] := fun hp => by
        rw [prD_cons, if_pos hp]
        rfl
      refine hb _ (hb2 _ ?_)
      refine br_mk (fun h3 => ?_) (fun h3 => ?_)
      · refine req_mk (app_ok (by omega)) ?_
        rw [hin, req_t]
        have hp := told (.inl (by have := of_decide_eq_true h3; omega))
        refine step _ (by rw [hp]; rfl) ?_
        rw [f1 _ (by rw [hp]; rfl)]
        exact hE
      · refine br_mk (fun h4 => ?_) (fun h4 => ?_)
        · refine req_mk (app_ok (by omega)) ?_
          rw [hin, req_t]
          have hp := told (.inr (by have := of_decide_eq_true h4; omega))
          refine step _ (by rw [hp]; rfl) ?_
          rw [f1 _ (by rw [hp]; rfl)]
          exact hE
        · rw [hin, req_t]
          have hp : ¬ ((l.getD k default).toInt < 128 ∨ 159 < (l.getD k default).toInt) := by
            have a := of_decide_eq_false h3
            have b := of_decide_eq_false h4
            omega
          have hnil : prD [l.getD k default] = [] := by rw [prD_cons, if_neg hp]; rfl
          refine step r (by rw [hnil, List.append_nil]) ?_
          rw [f1 r (by rw [hnil, List.append_nil])]
          exact hE
    · have hk : l.length ≤ k := by have := of_decide_eq_false h2; omega
      have : (f29_1 r d l l.length k).1 = r := by simp [f29_1, List.drop_of_length_le hk, prD]
      rw [this] at hE
      exact hE
theorem vl29_1 (p : PS) (d : DS) (xs : List Dat) (n n2 : Int) (E : PS → DS → Prop) (hs : s29_1 p d xs n n2) (hE : E (f29_1 p d xs n n2).1 (f29_1 p d xs n n2).2) : ∃ k, l29_1 k p d xs n n2 E := by
  obtain ⟨rfl, h1, h2, h3, h4⟩ := hs
  exact ⟨xs.length - n2.toNat + 1, r29_1 xs d _ p n2 E (by omega) ⟨rfl, h1, h2, h3, h4⟩ hE⟩
end Go.Proofs.YtojdmhfkgkfpaaaDoor
