/- Rules for functions that read bytes and give numbers: from contracts over a world. -/
import Derived.Test.YthegkipclogoeaaDoorAmLp
set_option linter.unusedVariables false
namespace Go
namespace AM
open LMem LTxt
/-- data as bytes -/
def toB (xs : List Dat) : List UInt8 := xs.map fun d => UInt8.ofNat d.toInt.toNat
def bD (l : List UInt8) : List Dat := l.map fun b => .int b.toNat
def okB (xs : List Dat) : Prop := xs = bD (toB xs)
theorem toB_bD (l : List UInt8) : toB (bD l) = l := by
  unfold toB bD
  rw [List.map_map]
  conv => rhs; rw [← List.map_id l]
  refine List.map_congr_left fun b _ => ?_
  simp [Dat.toInt]
theorem okB_bD (l : List UInt8) : okB (bD l) := by unfold okB; rw [toB_bD]
theorem bD_length (l : List UInt8) : (bD l).length = l.length := by simp [bD]
theorem bD_append (l m : List UInt8) : bD (l ++ m) = bD l ++ bD m := by simp [bD]
theorem bD_drop (l : List UInt8) (k : Nat) : bD (l.drop k) = (bD l).drop k := by simp [bD]
theorem bD_take (l : List UInt8) (k : Nat) : bD (l.take k) = (bD l).take k := by simp [bD]
theorem okB_int {xs : List Dat} (h : okB xs) : ∀ d ∈ xs, 0 ≤ d.toInt ∧ d.toInt ≤ 255 := fun d hd => by
  unfold okB at h
  rw [h] at hd
  unfold bD at hd
  rw [List.mem_map] at hd
  obtain ⟨b, _, rfl⟩ := hd
  have := UInt8.toNat_lt b
  simp only [Dat.toInt]
  omega
theorem toB_take (xs : List Dat) (k : Nat) : toB (xs.take k) = (toB xs).take k := by simp [toB]
theorem toB_drop (xs : List Dat) (k : Nat) : toB (xs.drop k) = (toB xs).drop k := by simp [toB]
theorem okB_take {xs : List Dat} (h : okB xs) (k : Nat) : okB (xs.take k) := by
  unfold okB at h ⊢
  rw [toB_take, bD_take, ← h]
theorem okB_drop {xs : List Dat} (h : okB xs) (k : Nat) : okB (xs.drop k) := by
  unfold okB at h ⊢
  rw [toB_drop, bD_drop, ← h]
theorem toB_length (xs : List Dat) : (toB xs).length = xs.length := by simp [toB]
theorem ofNat_toNat {n : Int} (h0 : 0 ≤ n) (h1 : n ≤ 255) : ((UInt8.ofNat n.toNat).toNat : Int) = n := by
  rw [UInt8.toNat_ofNat']
  omega
section
variable {P : Program} {own own' : Own} {h h' : AH} {w w' : World}
/-- nothing of what was there has turned -/
theorem HR.below (H : HR own h w) (hb : Go.RowKit.Below w.heap.size w w') : HR own h w' ∧ Ext own h w own h w' := by
  have hE : Ext own h w own h w' := ⟨fun _ _ h => h, hb.size, hb.os, hb.tape, hb.output, fun g hg hl => ⟨hl, hb.block g hg⟩, fun id T l hl => ⟨hl, fun pl hp => hb.block _ (H.lt (by rw [hl]; trivial) hp)⟩, rfl⟩
  refine ⟨⟨fun id hl => ?_, H.inj, H.dom, H.st.ext hE⟩, hE⟩
  rcases H.live id hl with ⟨pl, h1, h2⟩ | h1
  · exact .inl ⟨pl, h1, h2.mono hE.ow hE.cells (hb.block _ h2.lt)⟩
  · exact .inr h1
theorem fr_below (hf : Fr [] w w') : Go.RowKit.Below w.heap.size w w' := ⟨hf.os, hf.tape, hf.output, hf.size, fun k hk => hf.keep k hk (by simp)⟩
/-- bytes that are read -/
def readB (h : AH) (a : AV) (pre : List UInt8 → Prop) (K : List Dat → Prop) : Prop := readK h a fun s xs => s = .int .u8 ∧ okB xs ∧ pre (toB xs) ∧ K xs
theorem readB_rd (P : Program) (H : HR own h w) {a : AV} {v : Value} {pre : List UInt8 → Prop} {K : List Dat → Prop} (hv : VR own (Cw own h w) a v) (hf : readB h a pre K) :
    ∃ xs, okB xs ∧ pre (toB xs) ∧ K xs ∧ Rd w 1 v (toB xs).length ((toB xs).map fun b => .int .u8 b.toNat) := by
  obtain ⟨s, xs, us, ⟨rfl, h1, h2, h3⟩, hF, ad, cap, rfl, hc⟩ := readK_feed (P := P) H hv hf
  refine ⟨xs, h1, h2, h3, ?_⟩
  have hus := flat_ints hF.flat
  have hcell : ((toB xs).map fun b => Value.int .u8 b.toNat) = us := by
    rw [hus, toB, List.map_map]
    refine List.map_congr_left fun d hd => ?_
    simp only [Function.comp]
    rw [ofNat_toNat (okB_int h1 d hd).1 (okB_int h1 d hd).2]
  refine ⟨by simp, fun u hu => ?_, ad, cap, by rw [toB_length], fun hn => ?_⟩
  · rw [List.mem_map] at hu
    obtain ⟨b, _, rfl⟩ := hu
    rfl
  · rw [toB_length] at hn
    rw [hcell]
    exact hc (by omega)
/-- A READER's RULE. -/
def readR (pre : List UInt8 → Prop) (res : List UInt8 → AV) : CallT := fun args h K => match args with
  | [a] => readB h a pre fun xs => K (res (toB xs)) h
  | _ => False
theorem readR_ok {g : FuncId} {pre : List UInt8 → Prop} {res : List UInt8 → AV} {val : List UInt8 → Value} (hres : ∀ l (own : Own) (C : CellsP), VR own C (res l) (val l))
    (hc : ∀ (w : World) (v : Value) (l : List UInt8), Rd w 1 v l.length (l.map fun b => .int .u8 b.toNat) → (∀ g o u, T0 g o u → w.cell? ⟨g, o, none⟩ = some u) → pre l → Calls P g #[v] w fun e w' => e = .returned (val l) ∧ Fr [] w w') :
    CallOK P g (readR pre res) := by
  intro args h K hf own w vs H hv
  unfold readR at hf
  split at hf
  · rename_i a
    obtain ⟨v, r, rfl, h1, h2⟩ := VRs.cons_iff.1 hv
    rw [VRs.nil_iff] at h2
    subst h2
    obtain ⟨xs, g1, g2, g3, g4⟩ := readB_rd P H h1 hf
    refine (hc w v (toB xs) g4 (fun g o u hT => (H.st.tab g o u hT).2) g2).mono fun e w' ⟨he, hfr⟩ => ?_
    obtain ⟨H', hE⟩ := H.below (fr_below hfr)
    exact ⟨_, own, h, _, he, H', hE, hres _ _ _, g3⟩
  · exact hf.elim
/-! ### Slices that are read from now on -/
def roArgs : List (Option Sh) → List AV → AH → (List AV → AH → Prop) → Prop
  | some s :: ss, a :: l, h, K => decK (.slice s) [a] h fun d _ h' => roArgs ss l h' fun l' h2 => K (.ro s d.toList :: l') h2
  | none :: ss, a :: l, h, K => roArgs ss l h fun l' h' => K (a :: l') h'
  | [], [], h, K => K [] h
  | _, _, _, _ => False
def roRule (ss : List (Option Sh)) (R : CallT) : CallT := fun args h K => roArgs ss args h fun l h' => R l h' K
theorem roArgs_ok : ∀ {ss : List (Option Sh)} {l : List AV} {h : AH} {vs : List Value} {K : List AV → AH → Prop}, roArgs ss l h K → HR own h w → VRs own (Cw own h w) l vs →
    ∃ l' h', K l' h' ∧ HR own h' w ∧ Ext own h w own h' w ∧ VRs own (Cw own h' w) l' vs
  | [], [], h, vs, K, hf, H, hv => ⟨[], h, hf, H, .refl _ _ _, hv⟩
  | [], a :: l, h, vs, K, hf, H, hv => hf.elim
  | some s :: ss, [], h, vs, K, hf, H, hv => hf.elim
  | none :: ss, [], h, vs, K, hf, H, hv => hf.elim
  | none :: ss, a :: l, h, vs, K, hf, H, hv => by
    obtain ⟨v, r, rfl, h1, h2⟩ := VRs.cons_iff.1 hv
    obtain ⟨l', h', g1, g2, g3, g4⟩ := roArgs_ok (ss := ss) hf H h2
    exact ⟨_, h', g1, g2, g3, .cons (g3.vr h1) g4⟩
  | some s :: ss, a :: l, h, vs, K, hf, H, hv => by
    obtain ⟨v, r, rfl, h1, h2⟩ := VRs.cons_iff.1 hv
    obtain ⟨d, r', h', k1, k2, k3, k4, k5, ua, ub, k6, k7, k8, k9⟩ := decK_sound hf H (VRs.one h1)
    obtain ⟨l', h3, g1, g2, g3, g4⟩ := roArgs_ok (ss := ss) k1 k2 (k3.vrs h2)
    refine ⟨_, h3, g1, g2, k3.trans g3, .cons (g3.vr ?_) g4⟩
    simp only [DR] at k8
    obtain ⟨u, rfl, k10⟩ := k8
    simp only [List.cons_append, List.nil_append, List.cons.injEq] at k6
    rw [k6.1]
    simp only [VR]
    exact k10
theorem roRule_ok {g : FuncId} {ss : List (Option Sh)} {R : CallT} (hR : CallOK P g R) : CallOK P g (roRule ss R) := by
  intro args h K hf own w vs H hv
  obtain ⟨l', h', g1, g2, g3, g4⟩ := roArgs_ok hf H hv
  exact (hR _ _ _ g1 own w vs g2 g4).mono fun e w' hq => hq.ext g3
end
end AM
end Go
