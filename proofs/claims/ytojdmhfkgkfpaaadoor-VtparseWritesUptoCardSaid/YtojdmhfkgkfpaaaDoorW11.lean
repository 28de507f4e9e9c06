/- VtparseWrites answers true for every input of bulk at most 1048576; conditions: the second form's bound, the listed tables. -/
import Derived.Shelf.Strings.Builder1
import Derived.Shelf.Strings.Builder2
import Derived.Shelf.Strings.OnBuilder
import Derived.Shelf.Strconv.Itoa0
import Derived.Shelf.Strconv.Itoa1
import Derived.Shelf.LaysM
import Derived.Shelf.Strconv.Itoa2
import Derived.Shelf.Strconv.Itoa3
import Derived.Ground.Names2Prog
import Derived.Shelf.Slices.Clone
import Derived.Ground.SlgnProg
import Derived.Shelf.SlicesE.Clone
import Derived.Test.YtojdmhfkgkfpaaaDoorProg
import Derived.Test.YtojdmhfkgkfpaaaDoorRl
import Derived.Lib.LaidTab
import Derived.Test.YtojdmhfkgkfpaaaDoorAmPat
import Derived.Test.YtojdmhfkgkfpaaaDoorPz
import Derived.Lib.ItoaLen
import Derived.Test.YtojdmhfkgkfpaaaDoorLz
import Derived.Test.YtojdmhfkgkfpaaaDoorCards
import Derived.Test.YtojdmhfkgkfpaaaDoorTie
import Derived.WalkKit
import Derived.ProofKit
import Derived.OpenShut
import Derived.Deep.DeepHandedRow
namespace Go.Proofs
open Go.Shelf
def Tryd.lays156_ren : Go.Shelf.Ren := ⟨fun | 156 => 60 | 165 => 76 | 166 => 77 | 169 => 78 | 240 => 88 | 241 => 89 | 276 => 94 | 277 => 95 | n => n, fun | 31 => 76 | 9 => 9 | 3 => 3 | 4 => 4 | 0 => 0 | 20 => 20 | 72 => 91 | 76 => 94 | 70 => 89 | 37 => 22 | 75 => 93 | 127 => 100 | 164 => 112 | 5 => 5 | 80 => 96 | n => n, fun | n => n⟩
theorem Tryd.lays156 : Go.Proofs.Lays.n156 Tryd.prog Tryd.lays156_ren := {
  mixed := by kernel_rfl
  f156 := Tryd.func60.trans (congrArg some (by kernel_rfl))
  f165 := Tryd.func76.trans (congrArg some (by kernel_rfl))
  f166 := Tryd.func77.trans (congrArg some (by kernel_rfl))
  f169 := Tryd.func78.trans (congrArg some (by kernel_rfl))
  f240 := Tryd.func88.trans (congrArg some (by kernel_rfl))
  f241 := Tryd.func89.trans (congrArg some (by kernel_rfl))
  f276 := Tryd.func94.trans (congrArg some (by kernel_rfl))
  f277 := Tryd.func95.trans (congrArg some (by kernel_rfl))
  t0 := Tryd.underlying0
  a0 := Tryd.isAgg0
  z0 := Tryd.sizeOf0
  v0 := Tryd.zeroValue0
  t3 := Tryd.underlying3
  a3 := Tryd.isAgg3
  z3 := Tryd.sizeOf3
  v3 := Tryd.zeroValue3
  t4 := Tryd.underlying4
  a4 := Tryd.isAgg4
  z4 := Tryd.sizeOf4
  v4 := Tryd.zeroValue4
  t9 := Tryd.underlying9
  a9 := Tryd.isAgg9
  z9 := Tryd.sizeOf9
  v9 := Tryd.zeroValue9
  t20 := Tryd.underlying20
  a20 := Tryd.isAgg20
  z20 := Tryd.sizeOf20
  v20 := Tryd.zeroValue20
  t31 := Tryd.underlying76
  a31 := Tryd.isAgg76
  z31 := Tryd.sizeOf76
  v31 := Tryd.zeroValue76
  t37 := Tryd.underlying22
  a37 := Tryd.isAgg22
  z37 := Tryd.sizeOf22
  v37 := Tryd.zeroValue22
  t70 := Tryd.underlying89
  a70 := Tryd.isAgg89
  z70 := Tryd.sizeOf89
  v70 := Tryd.zeroValue89
  t72 := Tryd.underlying91
  a72 := Tryd.isAgg91
  z72 := Tryd.sizeOf91
  v72 := Tryd.zeroValue91
  t75 := Tryd.underlying93
  a75 := Tryd.isAgg93
  z75 := Tryd.sizeOf93
  v75 := Tryd.zeroValue93
  t76 := Tryd.underlying94
  a76 := Tryd.isAgg94
  z76 := Tryd.sizeOf94
  v76 := Tryd.zeroValue94
  t127 := Tryd.underlying100
  a127 := Tryd.isAgg100
  z127 := Tryd.sizeOf100
  v127 := Tryd.zeroValue100
  t164 := Tryd.underlying112
  a164 := Tryd.isAgg112
  z164 := Tryd.sizeOf112
  v164 := Tryd.zeroValue112 }
theorem Tryd.Builder_Extra_156 : Builder.Extra Tryd.prog Tryd.lays156_ren := {
  sizeBuilder := by kernel_rfl
  liesBuilder := by kernel_rfl
  t5 := Tryd.underlying5
  a5 := Tryd.isAgg5
  z5 := Tryd.sizeOf5
  v5 := Tryd.zeroValue5
  infoByte := by kernel_rfl
  cellsByte := by kernel_rfl
  sizeByte := by kernel_rfl
  neB5 := by decide }
open Go.RowKit in
theorem Tryd.strings_Join_none (a : Option Addr) (c : Nat) (sep : ByteArray) (w : World) :
    Calls Tryd.prog 60 #[.slice a 0 c, .string sep] w fun e w' => e = .returned (.string ⟨#[]⟩) ∧ w' = w := Any.strings_Join_none Tryd.lays156 Tryd.Builder_Extra_156 a c sep w
open Go.RowKit in
theorem Tryd.strings_Join (bk o c : Nat) (xs : List ByteArray) (sep : ByteArray) (w : World) (hcells : ∀ (j : Nat) x, xs[j]? = some x → w.cell? ⟨bk, o + j, none⟩ = some (.string x)) (hbk : bk < w.heap.size) (hN : xs.length ≤ 140737488355328) (hcap : xs.length ≤ c) (hlen : (Lib.join (xs.map (·.data.toList)) sep.data.toList).length ≤ 140737488355328) :
    Calls Tryd.prog 60 #[.slice (some ⟨bk, o, none⟩) xs.length c, .string sep] w fun e w' => e = .returned (.string ⟨(Lib.join (xs.map (·.data.toList)) sep.data.toList).toArray⟩) ∧ Below w.heap.size w w' := Any.strings_Join Tryd.lays156 Tryd.Builder_Extra_156 bk o c xs sep w hcells hbk hN hcap hlen
def Tryd.laysM171_ren : Go.Shelf.Ren := ⟨fun | 171 => 43 | 243 => 62 | 246 => 79 | 283 => 90 | 284 => 91 | 285 => 92 | 286 => 93 | 129 => 97 | 317 => 96 | 318 => 98 | 319 => 99 | 320 => 100 | 337 => 101 | 338 => 102 | n => n, fun | 3 => 3 | 9 => 9 | 2 => 2 | 4 => 4 | 171 => 101 | 0 => 0 | 53 => 102 | 37 => 22 | 5 => 5 | 173 => 105 | 212 => 117 | 51 => 118 | 20 => 20 | 213 => 119 | 46 => 79 | 232 => 123 | 233 => 124 | n => n, fun | 17 => 2 | 18 => 4 | 19 => 5 | n => n⟩
theorem Tryd.laysM171 : Go.Proofs.LaysM.n171 Tryd.prog Tryd.laysM171_ren := {
  mixed := by kernel_rfl
  f129 := Tryd.func97.trans (congrArg some (by kernel_rfl))
  f171 := Tryd.func43.trans (congrArg some (by kernel_rfl))
  f243 := Tryd.func62.trans (congrArg some (by kernel_rfl))
  f246 := Tryd.func79.trans (congrArg some (by kernel_rfl))
  f283 := Tryd.func90.trans (congrArg some (by kernel_rfl))
  f284 := Tryd.func91.trans (congrArg some (by kernel_rfl))
  f285 := Tryd.func92.trans (congrArg some (by kernel_rfl))
  f286 := Tryd.func93.trans (congrArg some (by kernel_rfl))
  f317 := Tryd.func96.trans (congrArg some (by kernel_rfl))
  f318 := Tryd.func98.trans (congrArg some (by kernel_rfl))
  f319 := Tryd.func99.trans (congrArg some (by kernel_rfl))
  f320 := Tryd.func100.trans (congrArg some (by kernel_rfl))
  f337 := Tryd.func101.trans (congrArg some (by kernel_rfl))
  f338 := Tryd.func102.trans (congrArg some (by kernel_rfl))
  t0 := Tryd.underlying0
  a0 := Tryd.isAgg0
  z0 := Tryd.sizeOf0
  v0 := Tryd.zeroValue0
  t2 := Tryd.underlying2
  a2 := Tryd.isAgg2
  z2 := Tryd.sizeOf2
  v2 := Tryd.zeroValue2
  t3 := Tryd.underlying3
  a3 := Tryd.isAgg3
  z3 := Tryd.sizeOf3
  v3 := Tryd.zeroValue3
  t4 := Tryd.underlying4
  a4 := Tryd.isAgg4
  z4 := Tryd.sizeOf4
  v4 := Tryd.zeroValue4
  t5 := Tryd.underlying5
  a5 := Tryd.isAgg5
  z5 := Tryd.sizeOf5
  v5 := Tryd.zeroValue5
  t9 := Tryd.underlying9
  a9 := Tryd.isAgg9
  z9 := Tryd.sizeOf9
  v9 := Tryd.zeroValue9
  t20 := Tryd.underlying20
  a20 := Tryd.isAgg20
  z20 := Tryd.sizeOf20
  v20 := Tryd.zeroValue20
  t37 := Tryd.underlying22
  a37 := Tryd.isAgg22
  z37 := Tryd.sizeOf22
  v37 := Tryd.zeroValue22
  t46 := Tryd.underlying79
  a46 := Tryd.isAgg79
  z46 := Tryd.sizeOf79
  v46 := Tryd.zeroValue79
  t51 := Tryd.underlying118
  a51 := Tryd.isAgg118
  z51 := Tryd.sizeOf118
  v51 := Tryd.zeroValue118
  t53 := Tryd.underlying102
  a53 := Tryd.isAgg102
  z53 := Tryd.sizeOf102
  v53 := Tryd.zeroValue102
  t171 := Tryd.underlying101
  a171 := Tryd.isAgg101
  z171 := Tryd.sizeOf101
  v171 := Tryd.zeroValue101
  t173 := Tryd.underlying105
  a173 := Tryd.isAgg105
  z173 := Tryd.sizeOf105
  v173 := Tryd.zeroValue105
  t212 := Tryd.underlying117
  a212 := Tryd.isAgg117
  z212 := Tryd.sizeOf117
  v212 := Tryd.zeroValue117
  t213 := Tryd.underlying119
  a213 := Tryd.isAgg119
  z213 := Tryd.sizeOf119
  t232 := Tryd.underlying123
  a232 := Tryd.isAgg123
  z232 := Tryd.sizeOf123
  v232 := Tryd.zeroValue123
  t233 := Tryd.underlying124
  a233 := Tryd.isAgg124
  z233 := Tryd.sizeOf124
  v233 := Tryd.zeroValue124
  g17 := by kernel_rfl
  g18 := by kernel_rfl
  g19 := by kernel_rfl
  i0 := by kernel_rfl
  i2 := by kernel_rfl
  i3 := by kernel_rfl
  i4 := by kernel_rfl
  i5 := by kernel_rfl
  i9 := by kernel_rfl
  i20 := by kernel_rfl
  i37 := by kernel_rfl
  i46 := by kernel_rfl
  i51 := by kernel_rfl
  i53 := by kernel_rfl
  i171 := by kernel_rfl
  i173 := by kernel_rfl
  i212 := by kernel_rfl
  i232 := by kernel_rfl
  i233 := by kernel_rfl
  m17 := by kernel_rfl
  m18 := by kernel_rfl
  m19 := by kernel_rfl }
open Go.RowKit Go.Sort Go.Lib in
theorem Tryd.strconv_Itoa (n : Int) (h0 : -9223372036854775808 ≤ n) (h1 : n ≤ 9223372036854775807) (w : World) (htab : Lib.TabIs Tryd.prog w "internal/strconv.uint64pow10" .u64 Lib.pow10Tab) :
    Calls Tryd.prog 43 #[.int .i64 n] w fun e w' => e = .returned (.string ⟨(Lib.itoa n).toArray⟩) ∧ ∃ k os, w' = grow (w.drewN k) os := Any.strconv_Itoa Tryd.laysM171 n h0 h1 w htab
end Go.Proofs

set_option linter.unusedVariables false
namespace Go.Proofs.YtojdmhfkgkfpaaaDoor
open Go.AM Go.LTxt Go.LMem Go.RowKit
def itoaS (n : Int) : ByteArray := ⟨(Lib.itoa n).toArray⟩
def strsOf (xs : List Dat) : List ByteArray := xs.map Dat.toStr
def joinL (xs : List Dat) (sep : ByteArray) : List UInt8 := Lib.join ((strsOf xs).map (·.data.toList)) sep.data.toList
def joinS (xs : List Dat) (sep : ByteArray) : ByteArray := ⟨(joinL xs sep).toArray⟩
theorem flat_strs {C : CellsP} : ∀ {xs : List Dat} {us : List Value}, Flat (DR C .str) 1 xs us → us = xs.map fun d => Value.string d.toStr
  | [], us, h => h
  | d :: xs, us, h => by
    obtain ⟨va, ub, rfl, _, h2, h3⟩ := h
    rw [show va = [.string d.toStr] from h2, flat_strs h3]
    rfl
section
variable {own : Own} {h : AH} {w : World}
theorem tab_is (H : HR own h w) : Lib.TabIs Tryd.prog w "internal/strconv.uint64pow10" .u64 Lib.pow10Tab := by
  obtain ⟨t, fr, hb⟩ := H.st.blk 2 rfl
  unfold Lib.TabIs World.var?
  rw [show Tryd.prog.globalNamed "internal/strconv.uint64pow10" = some 2 by kernel_rfl]
  simp only [Option.bind_some]
  rw [hb]
theorem rd_cap {C : CellsP} {a : AV} {ad : Option Addr} {n cap : Nat} {K : Sh → List Dat → Prop} (hx : VR own C a (.slice ad n cap)) (hf : readK h a K) : n ≤ cap := by
  unfold readK at hf
  split at hf
  · simp only [VR] at hx
    obtain ⟨a', c', e, hl, _⟩ := hx
    cases e
    exact hl
  · simp only [VR] at hx
    rcases hx with ⟨rfl, e, _⟩ | ⟨pl, o, c', _, e, hl, _⟩
    · cases e; exact Nat.le_refl _
    · cases e; exact hl
  · exact hf.elim
end
def R43 : CallT := fun args h K => match args with
  | [.c (.int .i64 n)] => req (inR .i64 n) (K (.c (.string (itoaS n))) h)
  | _ => False
theorem ok43 : CallOK Tryd.prog 43 R43 := by
  intro args h K hf own w vs H hv
  unfold R43 at hf
  split at hf
  · rename_i n
    obtain ⟨hr, hk⟩ := req_iff.1 hf
    obtain ⟨v, r, rfl, h1, h2⟩ := VRs.cons_iff.1 hv
    rw [VRs.nil_iff] at h2
    subst h2
    rw [VR.c_iff] at h1
    subst h1
    unfold inR at hr
    rw [Bool.and_eq_true, decide_eq_true_eq, decide_eq_true_eq] at hr
    refine (Tryd.strconv_Itoa n hr.1 hr.2 w (tab_is H)).mono fun e w' ⟨he, k, os, hw⟩ => ?_
    have hb : Below w.heap.size w w' := by
      rw [hw]
      exact ⟨rfl, rfl, rfl, by simp [Go.Sort.grow], fun k hk => by simp only [Go.Sort.grow]; exact Array.getElem?_append_left hk⟩
    obtain ⟨H', hE⟩ := H.below hb
    exact ⟨_, own, h, _, he, H', hE, VR.c_iff.2 rfl, hk⟩
  · exact hf.elim
/-- a list that may be joined -/
def joinOK (xs : List Dat) (sep : ByteArray) : Bool := decide (xs.length ≤ 140737488355328) && decide ((joinL xs sep).length ≤ 140737488355328)
def R60 : CallT := fun args h K => match args with
  | [a, .c (.string sep)] => match a.isNil0 with
    | true => K (.c (.string ⟨#[]⟩)) h
    | false => readK h a fun s xs => match s with
      | .str => req (joinOK xs sep) (K (.c (.string (joinS xs sep))) h)
      | _ => False
  | _ => False
theorem join_nil (sep : ByteArray) : joinS [] sep = ⟨#[]⟩ := rfl
theorem ok60 : CallOK Tryd.prog 60 R60 := by
  intro args h K hf own w vs H hv
  unfold R60 at hf
  split at hf
  · rename_i a sep
    obtain ⟨v, r, rfl, h1, h2⟩ := VRs.cons_iff.1 hv
    obtain ⟨v2, r2, rfl, h3, h4⟩ := VRs.cons_iff.1 h2
    rw [VRs.nil_iff] at h4
    subst h4
    rw [VR.c_iff] at h3
    subst h3
    have stay : ∀ {e w'}, Below w.heap.size w w' → ∀ (s : ByteArray), e = .returned (.string s) → K (.c (.string s)) h → CR K own h w e w' := fun {e w'} hb s he hk => by
      obtain ⟨H', hE⟩ := H.below hb
      exact ⟨_, own, h, _, he, H', hE, VR.c_iff.2 rfl, hk⟩
    split at hf
    · rename_i hn
      have := isNil0_eq hn
      subst this
      rw [VR.c_iff] at h1
      subst h1
      refine (Tryd.strings_Join_none none 0 sep w).mono fun e w' ⟨he, hw⟩ => ?_
      exact stay (by rw [hw]; exact Below.refl _ _) _ he hf
    · obtain ⟨s, xs, us, hK, hF, ad, cap, hx, hc⟩ := readK_feed (P := Tryd.prog) H h1 hf
      have hcap : xs.length ≤ cap := by rw [hx] at h1; exact rd_cap h1 hf
      split at hK
      · obtain ⟨hr, hk⟩ := req_iff.1 hK
        unfold joinOK at hr
        rw [Bool.and_eq_true, decide_eq_true_eq, decide_eq_true_eq] at hr
        have hus := flat_strs hF.flat
        rw [hx]
        by_cases h0 : xs = []
        · subst h0
          refine (Tryd.strings_Join_none ad cap sep w).mono fun e w' ⟨he, hw⟩ => ?_
          exact stay (by rw [hw]; exact Below.refl _ _) _ he (by rw [join_nil] at hk; exact hk)
        · obtain ⟨g, o, rfl, hcell⟩ := hc (fun e => h0 (List.eq_nil_of_length_eq_zero e))
          have hcells : ∀ (j : Nat) x, (strsOf xs)[j]? = some x → w.cell? ⟨g, o + j, none⟩ = some (.string x) := fun j x hj => by
            refine hcell j _ ?_
            rw [hus]
            unfold strsOf at hj
            rw [List.getElem?_map] at hj ⊢
            cases hd : xs[j]? with
            | none => rw [hd] at hj; cases hj
            | some d => rw [hd] at hj; cases hj; rfl
          have hlen : (strsOf xs).length = xs.length := by simp [strsOf]
          have hbk : g < w.heap.size := by
            have hp : 0 < (strsOf xs).length := by rw [hlen]; exact List.length_pos_iff.2 h0
            exact World.block_lt_of_cell? w _ (hcells 0 _ (List.getElem?_eq_getElem hp))
          have := Tryd.strings_Join g o cap (strsOf xs) sep w hcells hbk (by rw [hlen]; exact hr.1) (by rw [hlen]; exact hcap) hr.2
          rw [hlen] at this
          refine this.mono fun e w' ⟨he, hb⟩ => ?_
          exact stay hb _ he hk
      · exact hK.elim
  · exact hf.elim
end Go.Proofs.YtojdmhfkgkfpaaaDoor

set_option linter.unusedVariables false
set_option linter.unusedSimpArgs false
set_option maxRecDepth 100000
namespace Go.Proofs.YtojdmhfkgkfpaaaDoor
open Go.AM Go.LTxt Go.LMem Go.RowKit
set_option maxHeartbeats 0
theorem or192 {x : Int} (h0 : 0 ≤ x) (h1 : x < 32) : bitsV .or .u8 192 x = 192 + x := by
  have : ∀ c : Fin 32, bitsV .or .u8 192 (c.val : Int) = 192 + (c.val : Int) := by decide +kernel
  have := this ⟨x.toNat, by omega⟩
  rwa [show ((⟨x.toNat, by omega⟩ : Fin 32).val : Int) = x by simp; omega] at this
theorem or128 {x : Int} (h0 : 0 ≤ x) (h1 : x < 64) : bitsV .or .u8 128 x = 128 + x := by
  have : ∀ c : Fin 64, bitsV .or .u8 128 (c.val : Int) = 128 + (c.val : Int) := by decide +kernel
  have := this ⟨x.toNat, by omega⟩
  rwa [show ((⟨x.toNat, by omega⟩ : Fin 64).val : Int) = x by simp; omega] at this
theorem or224 {x : Int} (h0 : 0 ≤ x) (h1 : x < 16) : bitsV .or .u8 224 x = 224 + x := by
  have : ∀ c : Fin 16, bitsV .or .u8 224 (c.val : Int) = 224 + (c.val : Int) := by decide +kernel
  have := this ⟨x.toNat, by omega⟩
  rwa [show ((⟨x.toNat, by omega⟩ : Fin 16).val : Int) = x by simp; omega] at this
theorem or240 {x : Int} (h0 : 0 ≤ x) (h1 : x < 8) : bitsV .or .u8 240 x = 240 + x := by
  have : ∀ c : Fin 8, bitsV .or .u8 240 (c.val : Int) = 240 + (c.val : Int) := by decide +kernel
  have := this ⟨x.toNat, by omega⟩
  rwa [show ((⟨x.toNat, by omega⟩ : Fin 8).val : Int) = x by simp; omega] at this
theorem and63 {r : Nat} (h : r < 2147483648) : bitsV .and .i32 (r : Int) 63 = ((r % 64 : Nat) : Int) := by
  have e1 : BitVec.ofInt IntKind.i32.bits (r : Int) = BitVec.ofNat 32 r := by simp [IntKind.bits]
  have e2 : BitVec.ofInt IntKind.i32.bits (63 : Int) = BitVec.ofNat 32 63 := rfl
  have e3 : (BitVec.ofNat 32 r &&& BitVec.ofNat 32 63).toNat = r % 64 := by
    rw [BitVec.toNat_and, BitVec.toNat_ofNat, BitVec.toNat_ofNat, Nat.mod_eq_of_lt (by omega), Nat.mod_eq_of_lt (by decide)]
    exact Nat.and_two_pow_sub_one_eq_mod r 6
  have hm : r % 64 < 64 := Nat.mod_lt _ (by decide)
  unfold bitsV
  simp only
  rw [e1, e2]
  show IntKind.i32.wrap (((BitVec.ofNat 32 r &&& BitVec.ofNat 32 63).toNat : Nat) : Int) = _
  rw [e3]
  unfold IntKind.wrap
  have hb : IntKind.i32.bits = 32 := rfl
  have hs : IntKind.i32.signed = true := rfl
  simp only [hb, hs, Bool.true_and]
  have h1 : (((r % 64 : Nat) : Int) % (2 ^ 32 : Int)) = ((r % 64 : Nat) : Int) := by omega
  rw [h1, if_neg (by simp; omega)]
/-- a number that fits into a byte -/
theorem wrap8 {n : Int} (h0 : 0 ≤ n) (h1 : n < 256) : IntKind.u8.wrap n = n := by
  unfold IntKind.wrap
  have hb : IntKind.u8.bits = 8 := rfl
  have hs : IntKind.u8.signed = false := rfl
  simp only [hb, hs, Bool.false_and]
  rw [if_neg (by decide)]
  omega

theorem fd (n k : Nat) : Int.fdiv (n : Int) ((2 : Int) ^ k) = ((n / 2 ^ k : Nat) : Int) := by
  rw [show ((2 : Int) ^ k) = ((2 ^ k : Nat) : Int) by simp, ← Int.ofNat_fdiv]
theorem low {m : Nat} (h : m < 2147483648) : bitsV .or .u8 128 (IntKind.u8.wrap (bitsV .and .i32 (m : Int) 63)) = ((128 + m % 64 : Nat) : Int) := by
  have hm : m % 64 < 64 := Nat.mod_lt _ (by decide)
  rw [and63 h, wrap8 (by omega) (by omega), or128 (by omega) (by omega)]
  omega
theorem lead2 {m : Nat} (h : m < 32) : bitsV .or .u8 192 (IntKind.u8.wrap (m : Int)) = ((192 + m : Nat) : Int) := by
  rw [wrap8 (by omega) (by omega), or192 (by omega) (by omega)]
  omega
theorem lead3 {m : Nat} (h : m < 16) : bitsV .or .u8 224 (IntKind.u8.wrap (m : Int)) = ((224 + m : Nat) : Int) := by
  rw [wrap8 (by omega) (by omega), or224 (by omega) (by omega)]
  omega
theorem lead4 {m : Nat} (h : m < 8) : bitsV .or .u8 240 (IntKind.u8.wrap (m : Int)) = ((240 + m : Nat) : Int) := by
  rw [wrap8 (by omega) (by omega), or240 (by omega) (by omega)]
  omega
theorem u8n {m : Nat} (h : m < 256) : (((UInt8.ofNat m).toNat : Nat) : Int) = (m : Int) := by simp [Nat.mod_eq_of_lt h]
theorem form1 {n : Nat} (hv : Utf8.valid (n : Int) = true) (h : n < 128) : [Dat.int (IntKind.u8.wrap (n : Int))] = bytesD (Utf8.encode (n : Int)) := by
  unfold Utf8.encode
  rw [if_pos hv, Int.toNat_natCast]
  dsimp only
  rw [if_pos h]
  show _ = [Dat.int (((UInt8.ofNat n).toNat : Nat) : Int)]
  rw [u8n (by omega), wrap8 (by omega) (by omega)]
theorem form2 {n : Nat} (hv : Utf8.valid (n : Int) = true) (h0 : ¬ n < 128) (h : n < 2048) :
    [Dat.int (bitsV .or .u8 192 (IntKind.u8.wrap (Int.fdiv (n : Int) ((2 : Int) ^ 6)))), Dat.int (bitsV .or .u8 128 (IntKind.u8.wrap (bitsV .and .i32 (n : Int) 63)))] = bytesD (Utf8.encode (n : Int)) := by
  unfold Utf8.encode
  rw [if_pos hv, Int.toNat_natCast]
  dsimp only
  rw [if_neg h0, if_pos h]
  show _ = [Dat.int (((UInt8.ofNat (192 + n / 64)).toNat : Nat) : Int), Dat.int (((UInt8.ofNat (128 + n % 64)).toNat : Nat) : Int)]
  rw [fd, low (by omega), lead2 (by omega), u8n (by omega), u8n (by omega)]
theorem form3 {n : Nat} (hv : Utf8.valid (n : Int) = true) (h0 : ¬ n < 128) (h1 : ¬ n < 2048) (h : n < 65536) :
    [Dat.int (bitsV .or .u8 224 (IntKind.u8.wrap (Int.fdiv (n : Int) ((2 : Int) ^ 12)))), Dat.int (bitsV .or .u8 128 (IntKind.u8.wrap (bitsV .and .i32 (Int.fdiv (n : Int) ((2 : Int) ^ 6)) 63))), Dat.int (bitsV .or .u8 128 (IntKind.u8.wrap (bitsV .and .i32 (n : Int) 63)))] = bytesD (Utf8.encode (n : Int)) := by
  unfold Utf8.encode
  rw [if_pos hv, Int.toNat_natCast]
  dsimp only
  rw [if_neg h0, if_neg h1, if_pos h]
  show _ = [Dat.int (((UInt8.ofNat (224 + n / 4096)).toNat : Nat) : Int), Dat.int (((UInt8.ofNat (128 + n / 64 % 64)).toNat : Nat) : Int), Dat.int (((UInt8.ofNat (128 + n % 64)).toNat : Nat) : Int)]
  rw [fd, fd, low (by omega), low (by omega), lead3 (by omega), u8n (by omega), u8n (by omega), u8n (by omega)]
theorem form4 {n : Nat} (hv : Utf8.valid (n : Int) = true) (h0 : ¬ n < 128) (h1 : ¬ n < 2048) (h2 : ¬ n < 65536) (h : n < 2097152) :
    [Dat.int (bitsV .or .u8 240 (IntKind.u8.wrap (Int.fdiv (n : Int) ((2 : Int) ^ 18)))), Dat.int (bitsV .or .u8 128 (IntKind.u8.wrap (bitsV .and .i32 (Int.fdiv (n : Int) ((2 : Int) ^ 12)) 63))), Dat.int (bitsV .or .u8 128 (IntKind.u8.wrap (bitsV .and .i32 (Int.fdiv (n : Int) ((2 : Int) ^ 6)) 63))),
      Dat.int (bitsV .or .u8 128 (IntKind.u8.wrap (bitsV .and .i32 (n : Int) 63)))] = bytesD (Utf8.encode (n : Int)) := by
  unfold Utf8.encode
  rw [if_pos hv, Int.toNat_natCast]
  dsimp only
  rw [if_neg h0, if_neg h1, if_neg h2]
  show _ = [Dat.int (((UInt8.ofNat (240 + n / 262144)).toNat : Nat) : Int), Dat.int (((UInt8.ofNat (128 + n / 4096 % 64)).toNat : Nat) : Int), Dat.int (((UInt8.ofNat (128 + n / 64 % 64)).toNat : Nat) : Int), Dat.int (((UInt8.ofNat (128 + n % 64)).toNat : Nat) : Int)]
  rw [fd, fd, fd, low (by omega), low (by omega), low (by omega), lead4 (by omega), u8n (by omega), u8n (by omega), u8n (by omega), u8n (by omega)]
theorem formBad {r : Int} (hv : Utf8.valid r = false) : bytesD (Utf8.encode r) = [Dat.int 239, Dat.int 191, Dat.int 189] := by
  have e : Utf8.encode r = Utf8.encode (-1) := by
    have h1 : Utf8.valid (-1) = false := rfl
    unfold Utf8.encode
    rw [hv, h1]
    rfl
  rw [e]
  rfl
theorem badForm : [Dat.int (bitsV .or .u8 224 (IntKind.u8.wrap (Int.fdiv (65533 : Int) ((2 : Int) ^ 12)))), Dat.int (bitsV .or .u8 128 (IntKind.u8.wrap (bitsV .and .i32 (Int.fdiv (65533 : Int) ((2 : Int) ^ 6)) 63))), Dat.int (bitsV .or .u8 128 (IntKind.u8.wrap (bitsV .and .i32 (65533 : Int) 63)))] = [Dat.int 239, Dat.int 191, Dat.int 189] := by
  have e := fd 65533 12
  have e2 := fd 65533 6
  have c : ((65533 : Nat) : Int) = 65533 := rfl
  rw [c] at e e2
  rw [e, e2, ← c, low (by decide), low (by decide), lead3 (by decide)]
  rfl
end Go.Proofs.YtojdmhfkgkfpaaaDoor

set_option linter.unusedVariables false
set_option linter.unusedSimpArgs false
set_option maxRecDepth 100000
namespace Go.Proofs.YtojdmhfkgkfpaaaDoor
open Go.AM Go.LTxt Go.LMem Go.RowKit
set_option maxHeartbeats 0
theorem bytesD_bD (s : ByteArray) : bytesD s = bD s.data.toList := rfl
theorem bytesD_len (s : ByteArray) : (bytesD s).length = s.size := by
  unfold bytesD
  rw [List.length_map, Array.length_toList]
  rfl
theorem okB_bytesD (s : ByteArray) : okB (bytesD s) := okB_bD _
theorem okB_app {a b : List Dat} (ha : okB a) (hb : okB b) : okB (a ++ b) := by
  have h : bD (toB (a ++ b)) = bD (toB a) ++ bD (toB b) := by simp [bD, toB]
  unfold okB at *
  rw [h, ← ha, ← hb]
theorem okB_nil' : okB [] := rfl
theorem okB_one' {b : Int} (h0 : 0 ≤ b) (h1 : b ≤ 255) : okB [.int b] := by
  unfold okB bD toB
  simp only [List.map_cons, List.map_nil, Dat.toInt]
  rw [ofNat_toNat h0 h1]
theorem bytesD_app (a b : ByteArray) : bytesD (a ++ b) = bytesD a ++ bytesD b := by
  unfold bytesD
  simp
/-- a parameter's text -/
def strP (d : Dat) : ByteArray := if d.toInt = -1 then { data := #[] } else itoaS d.toInt
def pS (d : Dat) : List Dat := bytesD (strP d)
def pT : List Dat → List Dat
  | [] => []
  | d :: l => .int 59 :: (pS d ++ pT l)
def pB : List Dat → List Dat
  | [] => []
  | d :: l => pS d ++ pT l
theorem strP_len (d : Dat) (h : inR .i64 d.toInt = true) : (strP d).size ≤ 21 := by
  unfold strP
  split
  · show (0 : Nat) ≤ 21; omega
  · unfold inR at h
    rw [Bool.and_eq_true, decide_eq_true_eq, decide_eq_true_eq] at h
    have := Lib.itoa_length_le d.toInt h.1 h.2
    unfold itoaS
    simpa [ByteArray.size] using this
theorem pS_len (d : Dat) (h : inR .i64 d.toInt = true) : (pS d).length ≤ 21 := by
  unfold pS
  rw [bytesD_len]
  exact strP_len d h
theorem pT_len : ∀ (l : List Dat), (∀ d ∈ l, inR .i64 d.toInt = true) → (pT l).length ≤ 22 * l.length
  | [], _ => by simp [pT]
  | d :: l, h => by
    have h1 := pS_len d (h d (List.mem_cons_self ..))
    have h2 := pT_len l fun x hx => h x (List.mem_cons_of_mem _ hx)
    simp only [pT, List.length_cons, List.length_append]
    omega
theorem pB_len (l : List Dat) (h : ∀ d ∈ l, inR .i64 d.toInt = true) : (pB l).length ≤ 22 * l.length := by
  cases l with
  | nil => simp [pB]
  | cons d l =>
    have h1 := pS_len d (h d (List.mem_cons_self ..))
    have h2 := pT_len l fun x hx => h x (List.mem_cons_of_mem _ hx)
    simp only [pB, List.length_cons, List.length_append]
    omega
theorem okB_pT : ∀ (l : List Dat), okB (pT l)
  | [] => okB_nil'
  | d :: l => by
    have : pT (d :: l) = [.int 59] ++ (pS d ++ pT l) := rfl
    rw [this]
    exact okB_app (okB_one' (by decide) (by decide)) (okB_app (okB_bytesD _) (okB_pT l))
theorem okB_pB (l : List Dat) : okB (pB l) := by
  cases l with
  | nil => exact okB_nil'
  | cons d l => exact okB_app (okB_bytesD _) (okB_pT l)
def semi : ByteArray := { data := #[(59 : UInt8)] }
def strsP (l : List Dat) : List Dat := l.map fun d => .str (strP d)
theorem tail_eq : ∀ (l : List Dat), bD (Lib.joinTail [59] ((strsOf (strsP l)).map (·.data.toList))) = pT l
  | [] => rfl
  | d :: l => by
    have h := tail_eq l
    simp only [strsP, strsOf, List.map_cons, Lib.joinTail, List.flatten_cons] at h ⊢
    rw [bD_append, h]
    rfl
theorem join_eq (l : List Dat) : bytesD (joinS (strsP l) semi) = pB l := by
  rw [bytesD_bD]
  show bD (joinL (strsP l) semi) = _
  unfold joinL
  cases l with
  | nil => rfl
  | cons d l =>
    have h := tail_eq l
    have hs : semi.data.toList = [59] := rfl
    rw [hs]
    simp only [strsP, strsOf, List.map_cons] at h ⊢
    rw [Lib.join_cons, bD_append, h]
    rfl
theorem joinL_len (l : List Dat) : (joinL (strsP l) semi).length = (pB l).length := by
  rw [← join_eq, bytesD_bD, bD_length]
  rfl
theorem strsP_len (l : List Dat) : (strsP l).length = l.length := by simp [strsP]
/-- the bytes of an action -/
def wB (a a2 a3 a4 : Int) (a5 : List Dat) (a6 a7 : ByteArray) : List Dat :=
  if a = 1 then bytesD (Utf8.encode a2)
  else if a = 2 then [.int a3]
  else if a = 3 then bytesD ({ data := #[(27 : UInt8)] } ++ a6) ++ [.int a3]
  else if a = 4 then ((if a4 = 0 then [.int 27, .int 91] else [.int 27, .int 91, .int a4]) ++ pB a5 ++ bytesD a6) ++ [.int a3]
  else if a = 5 then bytesD ({ data := #[(27 : UInt8), (93 : UInt8)] } ++ a7 ++ { data := #[(7 : UInt8)] })
  else []
structure WOK (a2 a3 a4 : Int) (a5 : List Dat) (a6 a7 : ByteArray) : Prop where
  r0 : -2147483648 ≤ a2
  r1 : a2 ≤ 2147483647
  f0 : 0 ≤ a3
  f1 : a3 ≤ 255
  p0 : 0 ≤ a4
  p1 : a4 ≤ 255
  ps : ∀ d ∈ a5, inR .i64 d.toInt = true
  sz : 22 * a5.length + a6.size + a7.size + 16 ≤ 24000000
theorem enc_len (r : Int) : (bytesD (Utf8.encode r)).length ≤ 4 := by
  rw [bytesD_len]
  unfold Utf8.encode
  dsimp only
  repeat' split
  all_goals simp [ByteArray.size]
theorem wB_ok {a a2 a3 a4 : Int} {a5 : List Dat} {a6 a7 : ByteArray} (h : WOK a2 a3 a4 a5 a6 a7) : okB (wB a a2 a3 a4 a5 a6 a7) ∧ (wB a a2 a3 a4 a5 a6 a7).length ≤ 24000000 := by
  have hf := okB_one' h.f0 h.f1
  have hsz := h.sz
  have h1 : ({ data := #[(27 : UInt8)] } : ByteArray).size = 1 := rfl
  have h2 : ({ data := #[(27 : UInt8), (93 : UInt8)] } : ByteArray).size = 2 := rfl
  have h3 : ({ data := #[(7 : UInt8)] } : ByteArray).size = 1 := rfl
  unfold wB
  split
  · have := enc_len a2
    exact ⟨okB_bytesD _, by omega⟩
  split
  · exact ⟨hf, by simp⟩
  split
  · refine ⟨okB_app (okB_bytesD _) hf, ?_⟩
    rw [List.length_append, bytesD_len, ByteArray.size_append]
    simp only [List.length_cons, List.length_nil]
    omega
  split
  · have hl := pB_len a5 h.ps
    have h27 : okB [.int 27, .int 91] := rfl
    have h4 : okB [.int 27, .int 91, .int a4] := okB_app h27 (okB_one' h.p0 h.p1)
    refine ⟨okB_app (okB_app (okB_app ?_ (okB_pB a5)) (okB_bytesD _)) hf, ?_⟩
    · split
      · exact h27
      · exact h4
    · rw [List.length_append, List.length_append, List.length_append, bytesD_len]
      split <;> simp only [List.length_cons, List.length_nil] <;> omega
  split
  · refine ⟨okB_bytesD _, ?_⟩
    rw [bytesD_len, ByteArray.size_append, ByteArray.size_append]
    omega
  · exact ⟨okB_nil', by simp⟩
end Go.Proofs.YtojdmhfkgkfpaaaDoor

set_option linter.unusedVariables false
set_option maxRecDepth 100000
namespace Go.Proofs.YtojdmhfkgkfpaaaDoor
open Go.AM Go.LTxt Go.LMem Go.RowKit
noncomputable def cs11z : List (FuncId × CallT) := (43, R43) :: (60, R60) :: cs3
theorem cs11z_ok : CallsOK Tryd.prog cs11z := .cons ok43 (.cons ok60 cs3_ok)
noncomputable def GG11z : Rules := mkG [] cs11z ls13_4
theorem sGG11z : Sound Tryd.prog tys GG11z := mk_sound mixed tysOK names (by kernel_rfl) cs11z_ok ls13_4_ok
noncomputable def l40_4 : Nat → List Dat → List Dat → Int → Int → (Prop) → (Bool → Prop) → Prop
  | 0, _, _, _, _, _, _ => False
  | fu + 1, s1, s2, n, n2, E0, R_ =>
    br (decide (n2 < n)) (
     req (decide ((0 : Int) ≤ n2) && decide (n2 < (↑(List.length s1) : Int))) (
     req (decide (Int.toNat n2 < List.length s1)) (
     req (decide ((0 : Int) ≤ n2) && decide (n2 < (↑(List.length s2) : Int))) (
     req (decide (Int.toNat n2 < List.length s2)) (
     br (!decide (Dat.toInt (List.getD s1 (Int.toNat n2) default) = Dat.toInt (List.getD s2 (Int.toNat n2) default))) (R_ false) (
      req (inR IntKind.i64 (n2 + (1 : Int))) (l40_4 fu s1 s2 n (n2 + (1 : Int)) E0 R_))))))) (E0)
def F40_4 : AM.Form := ⟨mkF 26 [(0, .ro (.int .i64)), (1, .ro (.int .i64)), (12, .int .i64), (13, .int .i64)], []⟩
noncomputable def mm40_4 (n : Nat) (ds : List Dat) (Q : AExit → List AV → AH → Prop) : Prop := l40_4 n ((dat ds 0).toList) ((dat ds 1).toList) ((dat ds 2).toInt) ((dat ds 3).toInt) (Q (AExit.exit 0) (mkAV 26 []) ⟨[], []⟩) (fun rb => Q AExit.ret (mkAV 26 [(4, .c (.bool rb))]) ⟨[], []⟩)
theorem t40_4 (n : Nat) (ds : List Dat) (Q : AExit → List AV → AH → Prop) : wpA Tryd.prog tys GG11z 1000 40 (theLoop Tryd.prog 40 4) (fun e f' h' => endF Tryd.prog ((fun _ => []) e) ((fun e => match e with | .normal => ⟨[0, 1, 12, 13], []⟩ | .exit 0 => ⟨[], []⟩ | .ret => ⟨[4], []⟩ | _ => ⟨[], []⟩) e) ((fun e => match e with | .normal => [] | .exit 0 => [] | .ret => [] | _ => []) e) (F40_4.hp ds) f' h' fun f2 h2 => match e with
      | .normal => locL F40_4 (mm40_4 n) f2 h2 Q
      | e => Q e f2 h2) (F40_4.fr ds) (F40_4.hp ds) = mm40_4 (n + 1) ds Q := by kernel_rfl
noncomputable def R40_4 : LoopT := headF Tryd.prog [] ⟨[0, 1, 12, 13], []⟩ [] fun f h Q => ∃ n, locL F40_4 (mm40_4 n) f h Q
theorem ok40_4 : LoopOK Tryd.prog (theLoop Tryd.prog 40 4) R40_4 := ruleL_ok sGG11z (by kernel_rfl) mm40_4 (fun _ _ => rfl) t40_4
noncomputable def ls40_4 : List (FuncId × Nat × LoopT) := (40, 4, R40_4) :: ls13_4
theorem ls40_4_ok : LoopsOK Tryd.prog ls40_4 := .cons (by kernel_rfl) ok40_4 ls13_4_ok
noncomputable def GG40_4 : Rules := mkG [] cs11z ls40_4
theorem sGG40_4 : Sound Tryd.prog tys GG40_4 := mk_sound mixed tysOK names (by kernel_rfl) cs11z_ok ls40_4_ok
noncomputable def m40 (s1 : List Dat) (s2 : List Dat) (K : Bool → Prop) : Prop :=
    br (!decide ((↑(List.length s1) : Int) = (↑(List.length s2) : Int))) (K false) (
     (∃ y0, 
     l40_4 y0 s1 s2 (↑(List.length s1) : Int) (0 : Int) (K true) (fun y1 => K y1)))
def F40 : AM.Form := ⟨[.ro (.int .i64), .ro (.int .i64)], []⟩
noncomputable def mm40 (ds : List Dat) (K : AV → AH → Prop) : Prop := m40 ((dat ds 0).toList) ((dat ds 1).toList) (fun rb => K (.c (.bool rb)) ⟨[], []⟩)
theorem t40 (ds : List Dat) (K : AV → AH → Prop) : callA Tryd.prog tys GG40_4 1000 40 (F40.fr ds) (F40.hp ds) (fun v h' => endK Tryd.prog [] .keep (F40.hp ds) (F40.fr ds) v h' K) = mm40 ds K := by kernel_rfl
noncomputable def R40 : CallT := ruleF Tryd.prog [(.ro (.int .i64)), (.ro (.int .i64))] [] F40 mm40
theorem ok40 : CallOK Tryd.prog 40 R40 := ruleF_ok sGG40_4 t40
noncomputable def cs40 : List (FuncId × CallT) := (40, R40) :: cs11z
theorem cs40_ok : CallsOK Tryd.prog cs40 := .cons ok40 cs11z_ok
noncomputable def GG40 : Rules := mkG [] cs40 ls40_4
theorem sGG40 : Sound Tryd.prog tys GG40 := mk_sound mixed tysOK names (by kernel_rfl) cs40_ok ls40_4_ok
noncomputable def m39 (x' : Int) (x'2 : Int) (x'3 : Int) (x'4 : Int) (x'5 : List Dat) (x'6 : ByteArray) (x'7 : ByteArray) (y' : Int) (y'2 : Int) (y'3 : Int) (y'4 : Int) (y'5 : List Dat) (y'6 : ByteArray) (y'7 : ByteArray) (K : Bool → Prop) : Prop :=
    br (decide (x' = y')) (
     br (decide (x'2 = y'2)) (
      br (decide (x'3 = y'3)) (
       br (decide (x'4 = y'4)) (
        br (strEq x'6 y'6) (
         br (strEq x'7 y'7) (
          m40 x'5 y'5 (fun y0 => K y0)) (K false)) (K false)) (K false)) (K false)) (K false)) (K false)
def F39 : AM.Form := ⟨[.agg [.int .i64, .int .i32, .int .u8, .int .u8, .ro (.int .i64), .str, .str], .agg [.int .i64, .int .i32, .int .u8, .int .u8, .ro (.int .i64), .str, .str]], []⟩
noncomputable def mm39 (ds : List Dat) (K : AV → AH → Prop) : Prop := m39 ((dat ds 0).toInt) ((dat ds 1).toInt) ((dat ds 2).toInt) ((dat ds 3).toInt) ((dat ds 4).toList) ((dat ds 5).toStr) ((dat ds 6).toStr) ((dat ds 7).toInt) ((dat ds 8).toInt) ((dat ds 9).toInt) ((dat ds 10).toInt) ((dat ds 11).toList) ((dat ds 12).toStr) ((dat ds 13).toStr) (fun rb => K (.c (.bool rb)) ⟨[], []⟩)
theorem t39 (ds : List Dat) (K : AV → AH → Prop) : callA Tryd.prog tys GG40 1000 39 (F39.fr ds) (F39.hp ds) (fun v h' => endK Tryd.prog [] .keep (F39.hp ds) (F39.fr ds) v h' K) = mm39 ds K := by kernel_rfl
noncomputable def R39 : CallT := ruleF Tryd.prog [(.agg [.keep, .keep, .keep, .keep, (.ro (.int .i64)), .keep, .keep]), (.agg [.keep, .keep, .keep, .keep, (.ro (.int .i64)), .keep, .keep])] [] F39 mm39
theorem ok39 : CallOK Tryd.prog 39 R39 := ruleF_ok sGG40 t39
noncomputable def cs39 : List (FuncId × CallT) := (39, R39) :: cs40
theorem cs39_ok : CallsOK Tryd.prog cs39 := .cons ok39 cs40_ok
noncomputable def GG39 : Rules := mkG [] cs39 ls40_4
theorem sGG39 : Sound Tryd.prog tys GG39 := mk_sound mixed tysOK names (by kernel_rfl) cs39_ok ls40_4_ok
noncomputable def l38_4 : Nat → List Dat → List Dat → Int → Int → (Prop) → (Bool → Prop) → Prop
  | 0, _, _, _, _, _, _ => False
  | fu + 1, s2, xs, n, n2, E0, R_ =>
    br (decide (n2 < n)) (
     req (decide ((0 : Int) ≤ n2) && decide (n2 < (↑(List.length xs) : Int))) (
     req (decide (Int.toNat n2 < List.length xs)) (
     req (decide ((0 : Int) ≤ n2) && decide (n2 < (↑(List.length s2) : Int))) (
     req (decide (Int.toNat n2 < List.length s2)) (
     m39 (Dat.toInt (Dat.fst (List.getD xs (Int.toNat n2) default))) (Dat.toInt (Dat.fst (Dat.snd (List.getD xs (Int.toNat n2) default)))) (Dat.toInt (Dat.fst (Dat.snd (Dat.snd (List.getD xs (Int.toNat n2) default))))) (Dat.toInt (Dat.fst (Dat.snd (Dat.snd (Dat.snd (List.getD xs (Int.toNat n2) default)))))) (Dat.toList (Dat.fst (Dat.snd (Dat.snd (Dat.snd (Dat.snd (List.getD xs (Int.toNat n2) default))))))) (Dat.toStr (Dat.fst (Dat.snd (Dat.snd (Dat.snd (Dat.snd (Dat.snd (List.getD xs (Int.toNat n2) default)))))))) (Dat.toStr (Dat.fst (Dat.snd (Dat.snd (Dat.snd (Dat.snd (Dat.snd (Dat.snd (List.getD xs (Int.toNat n2) default))))))))) (Dat.toInt (Dat.fst (List.getD s2 (Int.toNat n2) default))) (Dat.toInt (Dat.fst (Dat.snd (List.getD s2 (Int.toNat n2) default)))) (Dat.toInt (Dat.fst (Dat.snd (Dat.snd (List.getD s2 (Int.toNat n2) default))))) (Dat.toInt (Dat.fst (Dat.snd (Dat.snd (Dat.snd (List.getD s2 (Int.toNat n2) default)))))) (Dat.toList (Dat.fst (Dat.snd (Dat.snd (Dat.snd (Dat.snd (List.getD s2 (Int.toNat n2) default))))))) (Dat.toStr (Dat.fst (Dat.snd (Dat.snd (Dat.snd (Dat.snd (Dat.snd (List.getD s2 (Int.toNat n2) default)))))))) (Dat.toStr (Dat.fst (Dat.snd (Dat.snd (Dat.snd (Dat.snd (Dat.snd (Dat.snd (List.getD s2 (Int.toNat n2) default))))))))) (fun y0 => 
      br (!y0) (R_ false) (
       req (inR IntKind.i64 (n2 + (1 : Int))) (l38_4 fu s2 xs n (n2 + (1 : Int)) E0 R_)))))))) (E0)
def F38_4 : AM.Form := ⟨mkF 32 [(1, .ro (.pair (.int .i64) (.pair (.int .i32) (.pair (.int .u8) (.pair (.int .u8) (.pair (.slice (.int .i64)) (.pair .str (.pair .str .unit)))))))), (2, .fn 39 []), (15, .ro (.pair (.int .i64) (.pair (.int .i32) (.pair (.int .u8) (.pair (.int .u8) (.pair (.slice (.int .i64)) (.pair .str (.pair .str .unit)))))))), (16, .int .i64), (17, .int .i64)], []⟩
noncomputable def mm38_4 (n : Nat) (ds : List Dat) (Q : AExit → List AV → AH → Prop) : Prop := l38_4 n ((dat ds 0).toList) ((dat ds 1).toList) ((dat ds 2).toInt) ((dat ds 3).toInt) (Q (AExit.exit 0) (mkAV 32 []) ⟨[], []⟩) (fun rb => Q AExit.ret (mkAV 32 [(6, .c (.bool rb))]) ⟨[], []⟩)
theorem t38_4 (n : Nat) (ds : List Dat) (Q : AExit → List AV → AH → Prop) : wpA Tryd.prog tys GG39 1000 38 (theLoop Tryd.prog 38 4) (fun e f' h' => endF Tryd.prog ((fun _ => []) e) ((fun e => match e with | .normal => ⟨[1, 2, 15, 16, 17], []⟩ | .exit 0 => ⟨[], []⟩ | .ret => ⟨[6], []⟩ | _ => ⟨[], []⟩) e) ((fun e => match e with | .normal => [] | .exit 0 => [] | .ret => [] | _ => []) e) (F38_4.hp ds) f' h' fun f2 h2 => match e with
      | .normal => locL F38_4 (mm38_4 n) f2 h2 Q
      | e => Q e f2 h2) (F38_4.fr ds) (F38_4.hp ds) = mm38_4 (n + 1) ds Q := by kernel_rfl
noncomputable def R38_4 : LoopT := headF Tryd.prog [] ⟨[1, 2, 15, 16, 17], []⟩ [] fun f h Q => ∃ n, locL F38_4 (mm38_4 n) f h Q
theorem ok38_4 : LoopOK Tryd.prog (theLoop Tryd.prog 38 4) R38_4 := ruleL_ok sGG39 (by kernel_rfl) mm38_4 (fun _ _ => rfl) t38_4
noncomputable def ls38_4 : List (FuncId × Nat × LoopT) := (38, 4, R38_4) :: ls40_4
theorem ls38_4_ok : LoopsOK Tryd.prog ls38_4 := .cons (by kernel_rfl) ok38_4 ls40_4_ok
noncomputable def GG38_4 : Rules := mkG [] cs39 ls38_4
theorem sGG38_4 : Sound Tryd.prog tys GG38_4 := mk_sound mixed tysOK names (by kernel_rfl) cs39_ok ls38_4_ok
noncomputable def m38 (s1 : List Dat) (s2 : List Dat) (K : Bool → Prop) : Prop :=
    br (!decide ((↑(List.length s1) : Int) = (↑(List.length s2) : Int))) (K false) (
     (∃ y0, 
     l38_4 y0 s2 s1 (↑(List.length s1) : Int) (0 : Int) (K true) (fun y1 => K y1)))
def F38 : AM.Form := ⟨[.ro (.pair (.int .i64) (.pair (.int .i32) (.pair (.int .u8) (.pair (.int .u8) (.pair (.slice (.int .i64)) (.pair .str (.pair .str .unit))))))), .ro (.pair (.int .i64) (.pair (.int .i32) (.pair (.int .u8) (.pair (.int .u8) (.pair (.slice (.int .i64)) (.pair .str (.pair .str .unit))))))), .fn 39 []], []⟩
noncomputable def mm38 (ds : List Dat) (K : AV → AH → Prop) : Prop := m38 ((dat ds 0).toList) ((dat ds 1).toList) (fun rb => K (.c (.bool rb)) ⟨[], []⟩)
theorem t38 (ds : List Dat) (K : AV → AH → Prop) : callA Tryd.prog tys GG38_4 1000 38 (F38.fr ds) (F38.hp ds) (fun v h' => endK Tryd.prog [] .keep (F38.hp ds) (F38.fr ds) v h' K) = mm38 ds K := by kernel_rfl
noncomputable def R38 : CallT := ruleF Tryd.prog [(.ro (.pair (.int .i64) (.pair (.int .i32) (.pair (.int .u8) (.pair (.int .u8) (.pair (.slice (.int .i64)) (.pair .str (.pair .str .unit)))))))), (.ro (.pair (.int .i64) (.pair (.int .i32) (.pair (.int .u8) (.pair (.int .u8) (.pair (.slice (.int .i64)) (.pair .str (.pair .str .unit)))))))), .keep] [] F38 mm38
theorem ok38 : CallOK Tryd.prog 38 R38 := ruleF_ok sGG38_4 t38
noncomputable def cs38 : List (FuncId × CallT) := (38, R38) :: cs39
theorem cs38_ok : CallsOK Tryd.prog cs38 := .cons ok38 cs39_ok
noncomputable def GG38 : Rules := mkG [] cs38 ls38_4
theorem sGG38 : Sound Tryd.prog tys GG38 := mk_sound mixed tysOK names (by kernel_rfl) cs38_ok ls38_4_ok
noncomputable def m25 (a : List Dat) (b : List Dat) (K : Bool → Prop) : Prop :=
    m38 a b (fun y0 => K y0)
def F25 : AM.Form := ⟨[.ro (.pair (.int .i64) (.pair (.int .i32) (.pair (.int .u8) (.pair (.int .u8) (.pair (.slice (.int .i64)) (.pair .str (.pair .str .unit))))))), .ro (.pair (.int .i64) (.pair (.int .i32) (.pair (.int .u8) (.pair (.int .u8) (.pair (.slice (.int .i64)) (.pair .str (.pair .str .unit)))))))], []⟩
noncomputable def mm25 (ds : List Dat) (K : AV → AH → Prop) : Prop := m25 ((dat ds 0).toList) ((dat ds 1).toList) (fun rb => K (.c (.bool rb)) ⟨[], []⟩)
theorem t25 (ds : List Dat) (K : AV → AH → Prop) : callA Tryd.prog tys GG38 1000 25 (F25.fr ds) (F25.hp ds) (fun v h' => endK Tryd.prog [] .keep (F25.hp ds) (F25.fr ds) v h' K) = mm25 ds K := by kernel_rfl
noncomputable def R25 : CallT := ruleF Tryd.prog [(.ro (.pair (.int .i64) (.pair (.int .i32) (.pair (.int .u8) (.pair (.int .u8) (.pair (.slice (.int .i64)) (.pair .str (.pair .str .unit)))))))), (.ro (.pair (.int .i64) (.pair (.int .i32) (.pair (.int .u8) (.pair (.int .u8) (.pair (.slice (.int .i64)) (.pair .str (.pair .str .unit))))))))] [] F25 mm25
theorem ok25 : CallOK Tryd.prog 25 R25 := ruleF_ok sGG38 t25
noncomputable def cs25 : List (FuncId × CallT) := (25, R25) :: cs38
theorem cs25_ok : CallsOK Tryd.prog cs25 := .cons ok25 cs38_ok
noncomputable def GG25 : Rules := mkG [] cs25 ls38_4
theorem sGG25 : Sound Tryd.prog tys GG25 := mk_sound mixed tysOK names (by kernel_rfl) cs25_ok ls38_4_ok
noncomputable def m61 (r : Int) (K : Bool → Prop) : Prop :=
    br (decide ((0 : Int) ≤ r)) (
     br (decide (r < (55296 : Int))) (K true) (
      br (decide ((57343 : Int) < r)) (K (decide (r ≤ (1114111 : Int)))) (K false))) (
     br (decide ((57343 : Int) < r)) (K (decide (r ≤ (1114111 : Int)))) (K false))
def F61 : AM.Form := ⟨[.int .i32], []⟩
noncomputable def mm61 (ds : List Dat) (K : AV → AH → Prop) : Prop := m61 ((dat ds 0).toInt) (fun rb => K (.c (.bool rb)) ⟨[], []⟩)
theorem t61 (ds : List Dat) (K : AV → AH → Prop) : callA Tryd.prog tys GG25 1000 61 (F61.fr ds) (F61.hp ds) (fun v h' => endK Tryd.prog [] .keep (F61.hp ds) (F61.fr ds) v h' K) = mm61 ds K := by kernel_rfl
noncomputable def R61 : CallT := ruleF Tryd.prog [.keep] [] F61 mm61
theorem ok61 : CallOK Tryd.prog 61 R61 := ruleF_ok sGG25 t61
noncomputable def cs61 : List (FuncId × CallT) := (61, R61) :: cs25
theorem cs61_ok : CallsOK Tryd.prog cs61 := .cons ok61 cs25_ok
noncomputable def GG61 : Rules := mkG [] cs61 ls38_4
theorem sGG61 : Sound Tryd.prog tys GG61 := mk_sound mixed tysOK names (by kernel_rfl) cs61_ok ls38_4_ok
noncomputable def m42 (r : Int) (K : List Dat → Prop) : Prop :=
    m61 r (fun y0 => 
     br (!y0) (K [Dat.int (bitsV BinOp.or IntKind.u8 (224 : Int) (IntKind.wrap IntKind.u8 (Int.fdiv (65533 : Int) ((2 : Int) ^ (12 : Nat))))), Dat.int (bitsV BinOp.or IntKind.u8 (128 : Int) (IntKind.wrap IntKind.u8 (bitsV BinOp.and IntKind.i32 (Int.fdiv (65533 : Int) ((2 : Int) ^ (6 : Nat))) (63 : Int)))), Dat.int (bitsV BinOp.or IntKind.u8 (128 : Int) (IntKind.wrap IntKind.u8 (bitsV BinOp.and IntKind.i32 (65533 : Int) (63 : Int))))]) (
      br (decide (r < (128 : Int))) (K [Dat.int (IntKind.wrap IntKind.u8 r)]) (
       br (decide (r < (2048 : Int))) (K [Dat.int (bitsV BinOp.or IntKind.u8 (192 : Int) (IntKind.wrap IntKind.u8 (Int.fdiv r ((2 : Int) ^ (6 : Nat))))), Dat.int (bitsV BinOp.or IntKind.u8 (128 : Int) (IntKind.wrap IntKind.u8 (bitsV BinOp.and IntKind.i32 r (63 : Int))))]) (
        br (decide (r < (65536 : Int))) (K [Dat.int (bitsV BinOp.or IntKind.u8 (224 : Int) (IntKind.wrap IntKind.u8 (Int.fdiv r ((2 : Int) ^ (12 : Nat))))), Dat.int (bitsV BinOp.or IntKind.u8 (128 : Int) (IntKind.wrap IntKind.u8 (bitsV BinOp.and IntKind.i32 (Int.fdiv r ((2 : Int) ^ (6 : Nat))) (63 : Int)))), Dat.int (bitsV BinOp.or IntKind.u8 (128 : Int) (IntKind.wrap IntKind.u8 (bitsV BinOp.and IntKind.i32 r (63 : Int))))]) (K [Dat.int (bitsV BinOp.or IntKind.u8 (240 : Int) (IntKind.wrap IntKind.u8 (Int.fdiv r ((2 : Int) ^ (18 : Nat))))), Dat.int (bitsV BinOp.or IntKind.u8 (128 : Int) (IntKind.wrap IntKind.u8 (bitsV BinOp.and IntKind.i32 (Int.fdiv r ((2 : Int) ^ (12 : Nat))) (63 : Int)))), Dat.int (bitsV BinOp.or IntKind.u8 (128 : Int) (IntKind.wrap IntKind.u8 (bitsV BinOp.and IntKind.i32 (Int.fdiv r ((2 : Int) ^ (6 : Nat))) (63 : Int)))), Dat.int (bitsV BinOp.or IntKind.u8 (128 : Int) (IntKind.wrap IntKind.u8 (bitsV BinOp.and IntKind.i32 r (63 : Int))))])))))
def F42 : AM.Form := ⟨[.int .i32], []⟩
noncomputable def mm42 (ds : List Dat) (K : AV → AH → Prop) : Prop := m42 ((dat ds 0).toInt) (fun rl => K (.sl 0 0 rl.length) ⟨[.seq 5 (.int .u8) rl], []⟩)
theorem t42 (ds : List Dat) (K : AV → AH → Prop) : callA Tryd.prog tys GG61 1000 42 (F42.fr ds) (F42.hp ds) (fun v h' => endK Tryd.prog [] .keep (F42.hp ds) (F42.fr ds) v h' K) = mm42 ds K := by kernel_rfl
noncomputable def R42 : CallT := ruleF Tryd.prog [.keep] [] F42 mm42
theorem ok42 : CallOK Tryd.prog 42 R42 := ruleF_ok sGG61 t42
noncomputable def cs42 : List (FuncId × CallT) := (42, R42) :: cs61
theorem cs42_ok : CallsOK Tryd.prog cs42 := .cons ok42 cs61_ok
noncomputable def GG42 : Rules := mkG [] cs42 ls38_4
theorem sGG42 : Sound Tryd.prog tys GG42 := mk_sound mixed tysOK names (by kernel_rfl) cs42_ok ls38_4_ok
noncomputable def m28 (a : List Dat) (b : List Dat) (K : Bool → Prop) : Prop := K (strEq (strD a) (strD b))
def F28 : AM.Form := ⟨[.ro (.int .u8), .ro (.int .u8)], []⟩
noncomputable def mm28 (ds : List Dat) (K : AV → AH → Prop) : Prop := m28 ((dat ds 0).toList) ((dat ds 1).toList) (fun rb => K (.c (.bool rb)) ⟨[], []⟩)
theorem t28 (ds : List Dat) (K : AV → AH → Prop) : callA Tryd.prog tys GG42 1000 28 (F28.fr ds) (F28.hp ds) (fun v h' => endK Tryd.prog [] .keep (F28.hp ds) (F28.fr ds) v h' K) = mm28 ds K := by kernel_rfl
noncomputable def R28 : CallT := ruleF Tryd.prog [(.ro (.int .u8)), (.ro (.int .u8))] [] F28 mm28
theorem ok28 : CallOK Tryd.prog 28 R28 := ruleF_ok sGG42 t28
noncomputable def cs28 : List (FuncId × CallT) := (28, R28) :: cs42
theorem cs28_ok : CallsOK Tryd.prog cs28 := .cons ok28 cs42_ok
noncomputable def GG28 : Rules := mkG [] cs28 ls38_4
theorem sGG28 : Sound Tryd.prog tys GG28 := mk_sound mixed tysOK names (by kernel_rfl) cs28_ok ls38_4_ok
structure C35 where
  kind : Int
  rune : Int
  final : Int
  private_ : Int
  params : List Dat
  inter : ByteArray
  text : ByteArray
noncomputable def l41_14 : Nat → C35 → List Dat → List Dat → List Dat → Int → Int → (C35 → List Dat → List Dat → Prop) → Prop
  | 0, _, _, _, _, _, _, _ => False
  | fu + 1, c, l, l2, xs, n, n2, E1 =>
    br (decide (n2 < n)) (
     req (decide ((0 : Int) ≤ n2) && decide (n2 < (↑(List.length xs) : Int))) (
     req (decide (Int.toNat n2 < List.length xs)) (
     br (!decide (Dat.toInt (List.getD xs (Int.toNat n2) default) = (-1 : Int))) (
      req (inR IntKind.i64 (Dat.toInt (List.getD xs (Int.toNat n2) default))) (
      req (appOK l2 (0 : Nat) (List.length l2) (1 : Nat) (16 : Nat)) (
      req (inR IntKind.i64 (n2 + (1 : Int))) (((List.length l) = List.length l ∧ ((List.length (dapp l2 (0 : Nat) (List.length l2) [Dat.str (itoaS (Dat.toInt (List.getD xs (Int.toNat n2) default)))])) = List.length (dapp l2 (0 : Nat) (List.length l2) [Dat.str (itoaS (Dat.toInt (List.getD xs (Int.toNat n2) default)))]) ∧ l41_14 fu c l (dapp l2 (0 : Nat) (List.length l2) [Dat.str (itoaS (Dat.toInt (List.getD xs (Int.toNat n2) default)))]) xs n (n2 + (1 : Int)) E1)))))) (
      req (appOK l2 (0 : Nat) (List.length l2) (1 : Nat) (16 : Nat)) (
      req (inR IntKind.i64 (n2 + (1 : Int))) (((List.length l) = List.length l ∧ ((List.length (dapp l2 (0 : Nat) (List.length l2) [Dat.str { data := #[] }])) = List.length (dapp l2 (0 : Nat) (List.length l2) [Dat.str { data := #[] }]) ∧ l41_14 fu c l (dapp l2 (0 : Nat) (List.length l2) [Dat.str { data := #[] }]) xs n (n2 + (1 : Int)) E1)))))))) (E1 c l l2)
def F41_14 : AM.Form := ⟨mkF 78 [(1, .p 0 0), (3, .sl 1), (4, .sl 2), (44, .ro (.int .i64)), (45, .int .i64), (46, .int .i64)], [.cells 35 [.int .i64, .int .i32, .int .u8, .int .u8, .ro (.int .i64), .str, .str], .seq 5 (.int .u8), .seq 9 .str]⟩
noncomputable def mm41_14 (n : Nat) (ds : List Dat) (Q : AExit → List AV → AH → Prop) : Prop := l41_14 n ⟨(dat ds 3).toInt, (dat ds 4).toInt, (dat ds 5).toInt, (dat ds 6).toInt, (dat ds 7).toList, (dat ds 8).toStr, (dat ds 9).toStr⟩ ((dat ds 10).toList) ((dat ds 11).toList) ((dat ds 0).toList) ((dat ds 1).toInt) ((dat ds 2).toInt) (fun rc rl rl2 => Q (AExit.exit 1) (mkAV 78 [(1, .p 0 0), (3, .sl 1 0 rl.length), (4, .sl 2 0 rl2.length)]) ⟨[.cells 35 [.c (.int .i64 rc.kind), .c (.int .i32 rc.rune), .c (.int .u8 rc.final), .c (.int .u8 rc.private_), .ro (.int .i64) rc.params, .c (.string rc.inter), .c (.string rc.text)], .seq 5 (.int .u8) rl, .seq 9 .str rl2], []⟩)
theorem t41_14 (n : Nat) (ds : List Dat) (Q : AExit → List AV → AH → Prop) : wpA Tryd.prog tys GG28 1000 41 (theLoop Tryd.prog 41 14) (fun e f' h' => endF Tryd.prog ((fun _ => []) e) ((fun e => match e with | .normal => ⟨[1, 3, 4, 44, 45, 46], []⟩ | .exit 1 => ⟨[1, 3, 4], []⟩ | _ => ⟨[], []⟩) e) ((fun e => match e with | .normal => [(4, .row 9 .str)] | .exit 1 => [(4, .row 9 .str)] | _ => []) e) (F41_14.hp ds) f' h' fun f2 h2 => match e with
      | .normal => locL F41_14 (mm41_14 n) f2 h2 Q
      | e => Q e f2 h2) (F41_14.fr ds) (F41_14.hp ds) = mm41_14 (n + 1) ds Q := by kernel_rfl
noncomputable def R41_14 : LoopT := headF Tryd.prog [] ⟨[1, 3, 4, 44, 45, 46], []⟩ [(4, .row 9 .str)] fun f h Q => ∃ n, locL F41_14 (mm41_14 n) f h Q
theorem ok41_14 : LoopOK Tryd.prog (theLoop Tryd.prog 41 14) R41_14 := ruleL_ok sGG28 (by kernel_rfl) mm41_14 (fun _ _ => rfl) t41_14
noncomputable def ls41_14 : List (FuncId × Nat × LoopT) := (41, 14, R41_14) :: ls38_4
theorem ls41_14_ok : LoopsOK Tryd.prog ls41_14 := .cons (by kernel_rfl) ok41_14 ls38_4_ok
noncomputable def GG41_14 : Rules := mkG [] cs28 ls41_14
theorem sGG41_14 : Sound Tryd.prog tys GG41_14 := mk_sound mixed tysOK names (by kernel_rfl) cs28_ok ls41_14_ok
noncomputable def m41 (a : Int) (a2 : Int) (a3 : Int) (a4 : Int) (a5 : List Dat) (a6 : ByteArray) (a7 : ByteArray) (K : List Dat → Prop) : Prop :=
    br (decide (a = (1 : Int))) (
     req (decide ((0 : Nat) + ByteArray.size (Utf8.encode a2) ≤ List.length (bytesD (Utf8.encode a2)))) (K (List.take (ByteArray.size (Utf8.encode a2)) (bytesD (Utf8.encode a2))))) (
     br (decide (a = (2 : Int))) (K [Dat.int a3]) (
      br (decide (a = (3 : Int))) (
       req (decide ((1 : Nat) + ByteArray.size a6 ≤ (9223372036854775807 : Nat))) (
       req (appOK (bytesD ({ data := #[(27 : UInt8)] } ++ a6)) (0 : Nat) (ByteArray.size ({ data := #[(27 : UInt8)] } ++ a6)) (1 : Nat) (1 : Nat)) (
       req (decide ((0 : Nat) + List.length (dapp (bytesD ({ data := #[(27 : UInt8)] } ++ a6)) (0 : Nat) (ByteArray.size ({ data := #[(27 : UInt8)] } ++ a6)) [Dat.int a3]) ≤ List.length (dapp (bytesD ({ data := #[(27 : UInt8)] } ++ a6)) (0 : Nat) (ByteArray.size ({ data := #[(27 : UInt8)] } ++ a6)) [Dat.int a3]))) (K (List.take (List.length (dapp (bytesD ({ data := #[(27 : UInt8)] } ++ a6)) (0 : Nat) (ByteArray.size ({ data := #[(27 : UInt8)] } ++ a6)) [Dat.int a3])) (dapp (bytesD ({ data := #[(27 : UInt8)] } ++ a6)) (0 : Nat) (ByteArray.size ({ data := #[(27 : UInt8)] } ++ a6)) [Dat.int a3])))))) (
       br (decide (a = (4 : Int))) (
        br (!decide (a4 = (0 : Int))) (
         req (appOK ([Dat.int (27 : Int)] ++ [Dat.int (91 : Int)]) (0 : Nat) (2 : Nat) (1 : Nat) (1 : Nat)) (
         (∃ y0, 
         ((List.length (dapp ([Dat.int (27 : Int)] ++ [Dat.int (91 : Int)]) (0 : Nat) (2 : Nat) [Dat.int a4]) = List.length (dapp ([Dat.int (27 : Int)] ++ [Dat.int (91 : Int)]) (0 : Nat) (2 : Nat) [Dat.int a4])) ∧ 
         (((0 : Nat) = (0 : Nat)) ∧ 
         l41_14 y0 { kind := a, rune := a2, final := a3, private_ := a4, params := a5, inter := a6, text := a7 } (dapp ([Dat.int (27 : Int)] ++ [Dat.int (91 : Int)]) (0 : Nat) (2 : Nat) [Dat.int a4]) [] a5 (↑(List.length a5) : Int) (0 : Int) (fun y1 y2 y3 => 
          req (decide ((0 : Nat) + List.length y3 ≤ List.length y3)) (
          req (joinOK (List.take (List.length y3) y3) { data := #[(59 : UInt8)] }) (
          req (decide (ByteArray.size (joinS (List.take (List.length y3) y3) { data := #[(59 : UInt8)] }) + ByteArray.size (C35.inter y1) ≤ (9223372036854775807 : Nat))) (
          req (appOK y2 (0 : Nat) (List.length y2) (List.length (bytesD (joinS (List.take (List.length y3) y3) { data := #[(59 : UInt8)] } ++ C35.inter y1))) (1 : Nat)) (
          req (appOK (dapp y2 (0 : Nat) (List.length y2) (bytesD (joinS (List.take (List.length y3) y3) { data := #[(59 : UInt8)] } ++ C35.inter y1))) (0 : Nat) (List.length (dapp y2 (0 : Nat) (List.length y2) (bytesD (joinS (List.take (List.length y3) y3) { data := #[(59 : UInt8)] } ++ C35.inter y1)))) (1 : Nat) (1 : Nat)) (
          req (decide ((0 : Nat) + List.length (dapp (dapp y2 (0 : Nat) (List.length y2) (bytesD (joinS (List.take (List.length y3) y3) { data := #[(59 : UInt8)] } ++ C35.inter y1))) (0 : Nat) (List.length (dapp y2 (0 : Nat) (List.length y2) (bytesD (joinS (List.take (List.length y3) y3) { data := #[(59 : UInt8)] } ++ C35.inter y1)))) [Dat.int (C35.final y1)]) ≤ List.length (dapp (dapp y2 (0 : Nat) (List.length y2) (bytesD (joinS (List.take (List.length y3) y3) { data := #[(59 : UInt8)] } ++ C35.inter y1))) (0 : Nat) (List.length (dapp y2 (0 : Nat) (List.length y2) (bytesD (joinS (List.take (List.length y3) y3) { data := #[(59 : UInt8)] } ++ C35.inter y1)))) [Dat.int (C35.final y1)]))) (K (List.take (List.length (dapp (dapp y2 (0 : Nat) (List.length y2) (bytesD (joinS (List.take (List.length y3) y3) { data := #[(59 : UInt8)] } ++ C35.inter y1))) (0 : Nat) (List.length (dapp y2 (0 : Nat) (List.length y2) (bytesD (joinS (List.take (List.length y3) y3) { data := #[(59 : UInt8)] } ++ C35.inter y1)))) [Dat.int (C35.final y1)])) (dapp (dapp y2 (0 : Nat) (List.length y2) (bytesD (joinS (List.take (List.length y3) y3) { data := #[(59 : UInt8)] } ++ C35.inter y1))) (0 : Nat) (List.length (dapp y2 (0 : Nat) (List.length y2) (bytesD (joinS (List.take (List.length y3) y3) { data := #[(59 : UInt8)] } ++ C35.inter y1)))) [Dat.int (C35.final y1)])))))))))))))) (
         (∃ y4, 
         (((2 : Nat) = (2 : Nat)) ∧ 
         (((0 : Nat) = (0 : Nat)) ∧ 
         l41_14 y4 { kind := a, rune := a2, final := a3, private_ := a4, params := a5, inter := a6, text := a7 } [Dat.int (27 : Int), Dat.int (91 : Int)] [] a5 (↑(List.length a5) : Int) (0 : Int) (fun y5 y6 y7 => 
          req (decide ((0 : Nat) + List.length y7 ≤ List.length y7)) (
          req (joinOK (List.take (List.length y7) y7) { data := #[(59 : UInt8)] }) (
          req (decide (ByteArray.size (joinS (List.take (List.length y7) y7) { data := #[(59 : UInt8)] }) + ByteArray.size (C35.inter y5) ≤ (9223372036854775807 : Nat))) (
          req (appOK y6 (0 : Nat) (List.length y6) (List.length (bytesD (joinS (List.take (List.length y7) y7) { data := #[(59 : UInt8)] } ++ C35.inter y5))) (1 : Nat)) (
          req (appOK (dapp y6 (0 : Nat) (List.length y6) (bytesD (joinS (List.take (List.length y7) y7) { data := #[(59 : UInt8)] } ++ C35.inter y5))) (0 : Nat) (List.length (dapp y6 (0 : Nat) (List.length y6) (bytesD (joinS (List.take (List.length y7) y7) { data := #[(59 : UInt8)] } ++ C35.inter y5)))) (1 : Nat) (1 : Nat)) (
          req (decide ((0 : Nat) + List.length (dapp (dapp y6 (0 : Nat) (List.length y6) (bytesD (joinS (List.take (List.length y7) y7) { data := #[(59 : UInt8)] } ++ C35.inter y5))) (0 : Nat) (List.length (dapp y6 (0 : Nat) (List.length y6) (bytesD (joinS (List.take (List.length y7) y7) { data := #[(59 : UInt8)] } ++ C35.inter y5)))) [Dat.int (C35.final y5)]) ≤ List.length (dapp (dapp y6 (0 : Nat) (List.length y6) (bytesD (joinS (List.take (List.length y7) y7) { data := #[(59 : UInt8)] } ++ C35.inter y5))) (0 : Nat) (List.length (dapp y6 (0 : Nat) (List.length y6) (bytesD (joinS (List.take (List.length y7) y7) { data := #[(59 : UInt8)] } ++ C35.inter y5)))) [Dat.int (C35.final y5)]))) (K (List.take (List.length (dapp (dapp y6 (0 : Nat) (List.length y6) (bytesD (joinS (List.take (List.length y7) y7) { data := #[(59 : UInt8)] } ++ C35.inter y5))) (0 : Nat) (List.length (dapp y6 (0 : Nat) (List.length y6) (bytesD (joinS (List.take (List.length y7) y7) { data := #[(59 : UInt8)] } ++ C35.inter y5)))) [Dat.int (C35.final y5)])) (dapp (dapp y6 (0 : Nat) (List.length y6) (bytesD (joinS (List.take (List.length y7) y7) { data := #[(59 : UInt8)] } ++ C35.inter y5))) (0 : Nat) (List.length (dapp y6 (0 : Nat) (List.length y6) (bytesD (joinS (List.take (List.length y7) y7) { data := #[(59 : UInt8)] } ++ C35.inter y5)))) [Dat.int (C35.final y5)])))))))))))))) (
        br (decide (a = (5 : Int))) (
         req (decide ((2 : Nat) + ByteArray.size a7 ≤ (9223372036854775807 : Nat))) (
         req (decide (ByteArray.size ({ data := #[(27 : UInt8), (93 : UInt8)] } ++ a7) + (1 : Nat) ≤ (9223372036854775807 : Nat))) (
         req (decide ((0 : Nat) + ByteArray.size ({ data := #[(27 : UInt8), (93 : UInt8)] } ++ a7 ++ { data := #[(7 : UInt8)] }) ≤ List.length (bytesD ({ data := #[(27 : UInt8), (93 : UInt8)] } ++ a7 ++ { data := #[(7 : UInt8)] })))) (K (List.take (ByteArray.size ({ data := #[(27 : UInt8), (93 : UInt8)] } ++ a7 ++ { data := #[(7 : UInt8)] })) (bytesD ({ data := #[(27 : UInt8), (93 : UInt8)] } ++ a7 ++ { data := #[(7 : UInt8)] }))))))) (K [])))))
def F41 : AM.Form := ⟨[.agg [.int .i64, .int .i32, .int .u8, .int .u8, .ro (.int .i64), .str, .str]], []⟩
noncomputable def mm41 (ds : List Dat) (K : AV → AH → Prop) : Prop := m41 ((dat ds 0).toInt) ((dat ds 1).toInt) ((dat ds 2).toInt) ((dat ds 3).toInt) ((dat ds 4).toList) ((dat ds 5).toStr) ((dat ds 6).toStr) (fun rxs => K (.ro (.int .u8) rxs) ⟨[], []⟩)
theorem t41 (ds : List Dat) (K : AV → AH → Prop) : callA Tryd.prog tys GG41_14 1000 41 (F41.fr ds) (F41.hp ds) (fun v h' => endK Tryd.prog [] (.ro (.int .u8)) (F41.hp ds) (F41.fr ds) v h' K) = mm41 ds K := by kernel_rfl
noncomputable def R41 : CallT := ruleF Tryd.prog [(.agg [.keep, .keep, .keep, .keep, (.ro (.int .i64)), .keep, .keep])] [] F41 mm41
theorem ok41 : CallOK Tryd.prog 41 R41 := ruleF_ok sGG41_14 t41
noncomputable def cs41 : List (FuncId × CallT) := (41, R41) :: cs28
theorem cs41_ok : CallsOK Tryd.prog cs41 := .cons ok41 cs28_ok
noncomputable def GG41 : Rules := mkG [] cs41 ls41_14
theorem sGG41 : Sound Tryd.prog tys GG41 := mk_sound mixed tysOK names (by kernel_rfl) cs41_ok ls41_14_ok
noncomputable def m26 (a : Int) (a2 : Int) (a3 : Int) (a4 : Int) (a5 : List Dat) (a6 : ByteArray) (a7 : ByteArray) (K : List Dat → Int → Prop) : Prop :=
    m41 a a2 a3 a4 a5 a6 a7 (fun y0 => 
     br (decide (a = (6 : Int))) (
      ((K [] (1 : Int)) ∧ (
       ((
        ((K [] (1 : Int)) ∧ (
         ((K [] (1 : Int)) ∧ (True))))) ∧ (True))))) (
      ((
       m14 y0 (fun y1 => 
        req (decide ((0 : Nat) + List.length y1 ≤ List.length y1)) (
        m25 (List.take (List.length y1) y1) [Dat.pair (Dat.int a) (Dat.pair (Dat.int a2) (Dat.pair (Dat.int a3) (Dat.pair (Dat.int a4) (Dat.pair (Dat.list a5) (Dat.pair (Dat.str a6) (Dat.pair (Dat.str a7) (Dat.int (0 : Int))))))))] (fun y2 => 
         br (!y2) (K [] (1 : Int)) (K y0 (0 : Int)))))) ∧ (
       ((
        ((
         m14 y0 (fun y3 => 
          req (decide ((0 : Nat) + List.length y3 ≤ List.length y3)) (
          m25 (List.take (List.length y3) y3) [Dat.pair (Dat.int a) (Dat.pair (Dat.int a2) (Dat.pair (Dat.int a3) (Dat.pair (Dat.int a4) (Dat.pair (Dat.list a5) (Dat.pair (Dat.str a6) (Dat.pair (Dat.str a7) (Dat.int (0 : Int))))))))] (fun y4 => 
           br (!y4) (K [] (1 : Int)) (K y0 (0 : Int)))))) ∧ (
         ((
          m14 y0 (fun y5 => 
           req (decide ((0 : Nat) + List.length y5 ≤ List.length y5)) (
           m25 (List.take (List.length y5) y5) [Dat.pair (Dat.int a) (Dat.pair (Dat.int a2) (Dat.pair (Dat.int a3) (Dat.pair (Dat.int a4) (Dat.pair (Dat.list a5) (Dat.pair (Dat.str a6) (Dat.pair (Dat.str a7) (Dat.int (0 : Int))))))))] (fun y6 => 
            br (!y6) (K [] (1 : Int)) (K y0 (0 : Int)))))) ∧ (True))))) ∧ (True))))))
def F26 : AM.Form := ⟨[.agg [.int .i64, .int .i32, .int .u8, .int .u8, .ro (.int .i64), .str, .str]], []⟩
noncomputable def mm26 (ds : List Dat) (K : AV → AH → Prop) : Prop := m26 ((dat ds 0).toInt) ((dat ds 1).toInt) ((dat ds 2).toInt) ((dat ds 3).toInt) ((dat ds 4).toList) ((dat ds 5).toStr) ((dat ds 6).toStr) (fun rxs rn => K (.tup [.ro (.int .u8) rxs, .c (.int .i64 rn)]) ⟨[], []⟩)
theorem t26 (ds : List Dat) (K : AV → AH → Prop) : callA Tryd.prog tys GG41 1000 26 (F26.fr ds) (F26.hp ds) (fun v h' => endK Tryd.prog [] (.tup [.ro (.int .u8), .keep]) (F26.hp ds) (F26.fr ds) v h' K) = mm26 ds K := by kernel_rfl
noncomputable def R26 : CallT := ruleF Tryd.prog [(.agg [.keep, .keep, .keep, .keep, (.ro (.int .i64)), .keep, .keep])] [] F26 mm26
theorem ok26 : CallOK Tryd.prog 26 R26 := ruleF_ok sGG41 t26
noncomputable def cs26 : List (FuncId × CallT) := (26, R26) :: cs41
theorem cs26_ok : CallsOK Tryd.prog cs26 := .cons ok26 cs41_ok
noncomputable def GG26 : Rules := mkG [] cs26 ls41_14
theorem sGG26 : Sound Tryd.prog tys GG26 := mk_sound mixed tysOK names (by kernel_rfl) cs26_ok ls41_14_ok
noncomputable def l27_14 : Nat → C35 → List Dat → Int → (C35 → List Dat → Prop) → Prop
  | 0, _, _, _, _ => False
  | fu + 1, c, l, i, E1 =>
    br (decide (i < (↑(List.length (C35.params c)) : Int))) (
     br (decide ((0 : Int) < i)) (
      req (appOK l (0 : Nat) (List.length l) (1 : Nat) (1 : Nat)) (
      req (decide ((0 : Int) ≤ i) && decide (i < (↑(List.length (C35.params c)) : Int))) (
      req (decide (Int.toNat i < List.length (C35.params c))) (
      br (!decide (Dat.toInt (List.getD (C35.params c) (Int.toNat i) default) = (-1 : Int))) (
       req (decide ((0 : Int) ≤ i) && decide (i < (↑(List.length (C35.params c)) : Int))) (
       req (decide (Int.toNat i < List.length (C35.params c))) (
       req (inR IntKind.i64 (Dat.toInt (List.getD (C35.params c) (Int.toNat i) default))) (
       req (appOK (dapp l (0 : Nat) (List.length l) [Dat.int (59 : Int)]) (0 : Nat) (List.length (dapp l (0 : Nat) (List.length l) [Dat.int (59 : Int)])) (List.length (bytesD (itoaS (Dat.toInt (List.getD (C35.params c) (Int.toNat i) default))))) (1 : Nat)) (
       req (inR IntKind.i64 (i + (1 : Int))) (((List.length (dapp (dapp l (0 : Nat) (List.length l) [Dat.int (59 : Int)]) (0 : Nat) (List.length (dapp l (0 : Nat) (List.length l) [Dat.int (59 : Int)])) (bytesD (itoaS (Dat.toInt (List.getD (C35.params c) (Int.toNat i) default)))))) = List.length (dapp (dapp l (0 : Nat) (List.length l) [Dat.int (59 : Int)]) (0 : Nat) (List.length (dapp l (0 : Nat) (List.length l) [Dat.int (59 : Int)])) (bytesD (itoaS (Dat.toInt (List.getD (C35.params c) (Int.toNat i) default))))) ∧ l27_14 fu c (dapp (dapp l (0 : Nat) (List.length l) [Dat.int (59 : Int)]) (0 : Nat) (List.length (dapp l (0 : Nat) (List.length l) [Dat.int (59 : Int)])) (bytesD (itoaS (Dat.toInt (List.getD (C35.params c) (Int.toNat i) default))))) (i + (1 : Int)) E1))))))) (
       req (inR IntKind.i64 (i + (1 : Int))) (((List.length (dapp l (0 : Nat) (List.length l) [Dat.int (59 : Int)])) = List.length (dapp l (0 : Nat) (List.length l) [Dat.int (59 : Int)]) ∧ l27_14 fu c (dapp l (0 : Nat) (List.length l) [Dat.int (59 : Int)]) (i + (1 : Int)) E1))))))) (
      req (decide ((0 : Int) ≤ i) && decide (i < (↑(List.length (C35.params c)) : Int))) (
      req (decide (Int.toNat i < List.length (C35.params c))) (
      br (!decide (Dat.toInt (List.getD (C35.params c) (Int.toNat i) default) = (-1 : Int))) (
       req (decide ((0 : Int) ≤ i) && decide (i < (↑(List.length (C35.params c)) : Int))) (
       req (decide (Int.toNat i < List.length (C35.params c))) (
       req (inR IntKind.i64 (Dat.toInt (List.getD (C35.params c) (Int.toNat i) default))) (
       req (appOK l (0 : Nat) (List.length l) (List.length (bytesD (itoaS (Dat.toInt (List.getD (C35.params c) (Int.toNat i) default))))) (1 : Nat)) (
       req (inR IntKind.i64 (i + (1 : Int))) (((List.length (dapp l (0 : Nat) (List.length l) (bytesD (itoaS (Dat.toInt (List.getD (C35.params c) (Int.toNat i) default)))))) = List.length (dapp l (0 : Nat) (List.length l) (bytesD (itoaS (Dat.toInt (List.getD (C35.params c) (Int.toNat i) default))))) ∧ l27_14 fu c (dapp l (0 : Nat) (List.length l) (bytesD (itoaS (Dat.toInt (List.getD (C35.params c) (Int.toNat i) default))))) (i + (1 : Int)) E1))))))) (
       req (inR IntKind.i64 (i + (1 : Int))) (((List.length l) = List.length l ∧ l27_14 fu c l (i + (1 : Int)) E1))))))) (E1 c l)
def F27_14 : AM.Form := ⟨mkF 89 [(1, .p 0 0), (4, .sl 1), (5, .int .i64)], [.cells 35 [.int .i64, .int .i32, .int .u8, .int .u8, .ro (.int .i64), .str, .str], .seq 5 (.int .u8)]⟩
noncomputable def mm27_14 (n : Nat) (ds : List Dat) (Q : AExit → List AV → AH → Prop) : Prop := l27_14 n ⟨(dat ds 1).toInt, (dat ds 2).toInt, (dat ds 3).toInt, (dat ds 4).toInt, (dat ds 5).toList, (dat ds 6).toStr, (dat ds 7).toStr⟩ ((dat ds 8).toList) ((dat ds 0).toInt) (fun rc rl => Q (AExit.exit 1) (mkAV 89 [(1, .p 0 0), (4, .sl 1 0 rl.length)]) ⟨[.cells 35 [.c (.int .i64 rc.kind), .c (.int .i32 rc.rune), .c (.int .u8 rc.final), .c (.int .u8 rc.private_), .ro (.int .i64) rc.params, .c (.string rc.inter), .c (.string rc.text)], .seq 5 (.int .u8) rl], []⟩)
theorem t27_14 (n : Nat) (ds : List Dat) (Q : AExit → List AV → AH → Prop) : wpA Tryd.prog tys GG26 1000 27 (theLoop Tryd.prog 27 14) (fun e f' h' => endF Tryd.prog ((fun _ => []) e) ((fun e => match e with | .normal => ⟨[1, 4, 5], []⟩ | .exit 1 => ⟨[1, 4], []⟩ | _ => ⟨[], []⟩) e) ((fun e => match e with | .normal => [] | .exit 1 => [] | _ => []) e) (F27_14.hp ds) f' h' fun f2 h2 => match e with
      | .normal => locL F27_14 (mm27_14 n) f2 h2 Q
      | e => Q e f2 h2) (F27_14.fr ds) (F27_14.hp ds) = mm27_14 (n + 1) ds Q := by kernel_rfl
noncomputable def R27_14 : LoopT := headF Tryd.prog [] ⟨[1, 4, 5], []⟩ [] fun f h Q => ∃ n, locL F27_14 (mm27_14 n) f h Q
theorem ok27_14 : LoopOK Tryd.prog (theLoop Tryd.prog 27 14) R27_14 := ruleL_ok sGG26 (by kernel_rfl) mm27_14 (fun _ _ => rfl) t27_14
noncomputable def ls27_14 : List (FuncId × Nat × LoopT) := (27, 14, R27_14) :: ls41_14
theorem ls27_14_ok : LoopsOK Tryd.prog ls27_14 := .cons (by kernel_rfl) ok27_14 ls41_14_ok
noncomputable def GG27_14 : Rules := mkG [] cs26 ls27_14
theorem sGG27_14 : Sound Tryd.prog tys GG27_14 := mk_sound mixed tysOK names (by kernel_rfl) cs26_ok ls27_14_ok
noncomputable def p27_r20 (c : C35) (l : List Dat) (E0 : C35 → List Dat → Prop) : Prop :=
    ((
     ((
      req (appOK l (0 : Nat) (List.length l) (List.length (bytesD (C35.inter c))) (1 : Nat)) (
      req (appOK (dapp l (0 : Nat) (List.length l) (bytesD (C35.inter c))) (0 : Nat) (List.length (dapp l (0 : Nat) (List.length l) (bytesD (C35.inter c)))) (1 : Nat) (1 : Nat)) (E0 c (dapp (dapp l (0 : Nat) (List.length l) (bytesD (C35.inter c))) (0 : Nat) (List.length (dapp l (0 : Nat) (List.length l) (bytesD (C35.inter c)))) [Dat.int (C35.final c)])))) ∧ (
      ((
       ((
        req (appOK l (0 : Nat) (List.length l) (List.length (bytesD (C35.inter c))) (1 : Nat)) (
        req (appOK (dapp l (0 : Nat) (List.length l) (bytesD (C35.inter c))) (0 : Nat) (List.length (dapp l (0 : Nat) (List.length l) (bytesD (C35.inter c)))) (1 : Nat) (1 : Nat)) (E0 c (dapp (dapp l (0 : Nat) (List.length l) (bytesD (C35.inter c))) (0 : Nat) (List.length (dapp l (0 : Nat) (List.length l) (bytesD (C35.inter c)))) [Dat.int (C35.final c)])))) ∧ (
        ((
         req (appOK l (0 : Nat) (List.length l) (List.length (bytesD (C35.inter c))) (1 : Nat)) (
         req (appOK (dapp l (0 : Nat) (List.length l) (bytesD (C35.inter c))) (0 : Nat) (List.length (dapp l (0 : Nat) (List.length l) (bytesD (C35.inter c)))) (1 : Nat) (1 : Nat)) (E0 c (dapp (dapp l (0 : Nat) (List.length l) (bytesD (C35.inter c))) (0 : Nat) (List.length (dapp l (0 : Nat) (List.length l) (bytesD (C35.inter c)))) [Dat.int (C35.final c)])))) ∧ (True))))) ∧ (True))))) ∧ (
     ((
      ((
       ((
        req (appOK l (0 : Nat) (List.length l) (List.length (bytesD (C35.inter c))) (1 : Nat)) (
        req (appOK (dapp l (0 : Nat) (List.length l) (bytesD (C35.inter c))) (0 : Nat) (List.length (dapp l (0 : Nat) (List.length l) (bytesD (C35.inter c)))) (1 : Nat) (1 : Nat)) (E0 c (dapp (dapp l (0 : Nat) (List.length l) (bytesD (C35.inter c))) (0 : Nat) (List.length (dapp l (0 : Nat) (List.length l) (bytesD (C35.inter c)))) [Dat.int (C35.final c)])))) ∧ (
        ((
         req (appOK l (0 : Nat) (List.length l) (List.length (bytesD (C35.inter c))) (1 : Nat)) (
         req (appOK (dapp l (0 : Nat) (List.length l) (bytesD (C35.inter c))) (0 : Nat) (List.length (dapp l (0 : Nat) (List.length l) (bytesD (C35.inter c)))) (1 : Nat) (1 : Nat)) (E0 c (dapp (dapp l (0 : Nat) (List.length l) (bytesD (C35.inter c))) (0 : Nat) (List.length (dapp l (0 : Nat) (List.length l) (bytesD (C35.inter c)))) [Dat.int (C35.final c)])))) ∧ (True))))) ∧ (
       ((
        req (appOK l (0 : Nat) (List.length l) (List.length (bytesD (C35.inter c))) (1 : Nat)) (
        req (appOK (dapp l (0 : Nat) (List.length l) (bytesD (C35.inter c))) (0 : Nat) (List.length (dapp l (0 : Nat) (List.length l) (bytesD (C35.inter c)))) (1 : Nat) (1 : Nat)) (E0 c (dapp (dapp l (0 : Nat) (List.length l) (bytesD (C35.inter c))) (0 : Nat) (List.length (dapp l (0 : Nat) (List.length l) (bytesD (C35.inter c)))) [Dat.int (C35.final c)])))) ∧ (True))))) ∧ (True))))
def F27_r20 : AM.Form := ⟨mkF 89 [(1, .p 0 0), (4, .sl 1)], [.cells 35 [.int .i64, .int .i32, .int .u8, .int .u8, .ro (.int .i64), .str, .str], .seq 5 (.int .u8)]⟩
noncomputable def mm27_r20 (ds : List Dat) (Q : AExit → List AV → AH → Prop) : Prop := p27_r20 ⟨(dat ds 0).toInt, (dat ds 1).toInt, (dat ds 2).toInt, (dat ds 3).toInt, (dat ds 4).toList, (dat ds 5).toStr, (dat ds 6).toStr⟩ ((dat ds 7).toList) (fun rc rl => Q .normal (mkAV 89 [(1, .p 0 0), (4, .sl 1 0 rl.length)]) ⟨[.cells 35 [.c (.int .i64 rc.kind), .c (.int .i32 rc.rune), .c (.int .u8 rc.final), .c (.int .u8 rc.private_), .ro (.int .i64) rc.params, .c (.string rc.inter), .c (.string rc.text)], .seq 5 (.int .u8) rl], []⟩)
theorem t27_r20 (ds : List Dat) (Q : AExit → List AV → AH → Prop) : wpA Tryd.prog tys GG27_14 1000 27 (theReg Tryd.prog 27 20) (fun e f' h' => endF Tryd.prog ((fun _ => []) e) ((fun _ => ⟨[1, 4], []⟩) e) ((fun _ => []) e) (F27_r20.hp ds) f' h' fun f2 h2 => Q e f2 h2) (F27_r20.fr ds) (F27_r20.hp ds) = mm27_r20 ds Q := by kernel_rfl
noncomputable def R27_r20 : LoopT := headF Tryd.prog [] ⟨[1, 4], []⟩ [] (locL F27_r20 mm27_r20)
theorem ok27_r20 : RegOK Tryd.prog (theReg Tryd.prog 27 20) R27_r20 := ruleP_ok sGG27_14 (by kernel_rfl) mm27_r20 t27_r20
noncomputable def rs27_r20 : List (FuncId × Nat × LoopT) := (27, 20, R27_r20) :: []
theorem rs27_r20_ok : RegsOK Tryd.prog rs27_r20 := .cons (by kernel_rfl) ok27_r20 .nil
noncomputable def GG27_r20 : Rules := mkG [] cs26 ls27_14 rs27_r20
theorem sGG27_r20 : Sound Tryd.prog tys GG27_r20 := mk_sound mixed tysOK names (by kernel_rfl) cs26_ok ls27_14_ok rs27_r20_ok
noncomputable def p27_r23 (c : C35) (b : List Dat) (E0 : C35 → List Dat → Bool → Prop) : Prop :=
    ((
     m15 b (fun y0 => 
      req (decide ((0 : Nat) + List.length y0 ≤ List.length y0)) (
      m13 (List.take (List.length y0) y0) [Dat.pair (Dat.int (C35.kind c)) (Dat.pair (Dat.int (C35.rune c)) (Dat.pair (Dat.int (C35.final c)) (Dat.pair (Dat.int (C35.private_ c)) (Dat.pair (Dat.list (C35.params c)) (Dat.pair (Dat.str (C35.inter c)) (Dat.pair (Dat.str (C35.text c)) (Dat.int (0 : Int))))))))] (fun y1 => E0 c b !y1)))) ∧ (
     ((
      ((
       m15 b (fun y2 => 
        req (decide ((0 : Nat) + List.length y2 ≤ List.length y2)) (
        m13 (List.take (List.length y2) y2) [Dat.pair (Dat.int (C35.kind c)) (Dat.pair (Dat.int (C35.rune c)) (Dat.pair (Dat.int (C35.final c)) (Dat.pair (Dat.int (C35.private_ c)) (Dat.pair (Dat.list (C35.params c)) (Dat.pair (Dat.str (C35.inter c)) (Dat.pair (Dat.str (C35.text c)) (Dat.int (0 : Int))))))))] (fun y3 => E0 c b !y3)))) ∧ (
       ((
        m15 b (fun y4 => 
         req (decide ((0 : Nat) + List.length y4 ≤ List.length y4)) (
         m13 (List.take (List.length y4) y4) [Dat.pair (Dat.int (C35.kind c)) (Dat.pair (Dat.int (C35.rune c)) (Dat.pair (Dat.int (C35.final c)) (Dat.pair (Dat.int (C35.private_ c)) (Dat.pair (Dat.list (C35.params c)) (Dat.pair (Dat.str (C35.inter c)) (Dat.pair (Dat.str (C35.text c)) (Dat.int (0 : Int))))))))] (fun y5 => E0 c b !y5)))) ∧ (True))))) ∧ (True))))
def F27_r23 : AM.Form := ⟨mkF 89 [(1, .p 0 0), (4, .ro (.int .u8))], [.cells 35 [.int .i64, .int .i32, .int .u8, .int .u8, .ro (.int .i64), .str, .str]]⟩
noncomputable def mm27_r23 (ds : List Dat) (Q : AExit → List AV → AH → Prop) : Prop := p27_r23 ⟨(dat ds 1).toInt, (dat ds 2).toInt, (dat ds 3).toInt, (dat ds 4).toInt, (dat ds 5).toList, (dat ds 6).toStr, (dat ds 7).toStr⟩ ((dat ds 0).toList) (fun rc rxs rb => Q .normal (mkAV 89 [(1, .p 0 0), (4, .ro (.int .u8) rxs), (87, .c (.bool rb))]) ⟨[.cells 35 [.c (.int .i64 rc.kind), .c (.int .i32 rc.rune), .c (.int .u8 rc.final), .c (.int .u8 rc.private_), .ro (.int .i64) rc.params, .c (.string rc.inter), .c (.string rc.text)]], []⟩)
theorem t27_r23 (ds : List Dat) (Q : AExit → List AV → AH → Prop) : wpA Tryd.prog tys GG27_r20 1000 27 (theReg Tryd.prog 27 23) (fun e f' h' => endF Tryd.prog ((fun _ => []) e) ((fun _ => ⟨[1, 4, 87], []⟩) e) ((fun _ => []) e) (F27_r23.hp ds) f' h' fun f2 h2 => Q e f2 h2) (F27_r23.fr ds) (F27_r23.hp ds) = mm27_r23 ds Q := by kernel_rfl
noncomputable def R27_r23 : LoopT := headF Tryd.prog [] ⟨[1, 4], []⟩ [(4, .ro (.int .u8))] (locL F27_r23 mm27_r23)
theorem ok27_r23 : RegOK Tryd.prog (theReg Tryd.prog 27 23) R27_r23 := ruleP_ok sGG27_r20 (by kernel_rfl) mm27_r23 t27_r23
noncomputable def rs27_r23 : List (FuncId × Nat × LoopT) := (27, 23, R27_r23) :: rs27_r20
theorem rs27_r23_ok : RegsOK Tryd.prog rs27_r23 := .cons (by kernel_rfl) ok27_r23 rs27_r20_ok
noncomputable def GG27_r23 : Rules := mkG [] cs26 ls27_14 rs27_r23
theorem sGG27_r23 : Sound Tryd.prog tys GG27_r23 := mk_sound mixed tysOK names (by kernel_rfl) cs26_ok ls27_14_ok rs27_r23_ok
noncomputable def m27 (a : Int) (a2 : Int) (a3 : Int) (a4 : Int) (a5 : List Dat) (a6 : ByteArray) (a7 : ByteArray) (K : List Dat → Int → Prop) : Prop :=
    br (decide (a = (1 : Int))) (
     m42 a2 (fun y0 => 
      req (decide ((0 : Nat) + List.length y0 ≤ List.length y0)) (
      p27_r23 { kind := a, rune := a2, final := a3, private_ := a4, params := a5, inter := a6, text := a7 } (List.take (List.length y0) y0) (fun y1 y2 y3 => 
       br (y3) (K [] (1 : Int)) (K y2 (0 : Int)))))) (
     br (decide (a = (2 : Int))) (
      p27_r23 { kind := a, rune := a2, final := a3, private_ := a4, params := a5, inter := a6, text := a7 } [Dat.int a3] (fun y4 y5 y6 => 
       br (y6) (K [] (1 : Int)) (K y5 (0 : Int)))) (
      br (decide (a = (3 : Int))) (
       req (decide ((1 : Nat) + ByteArray.size a6 ≤ (9223372036854775807 : Nat))) (
       req (appOK (bytesD ({ data := #[(27 : UInt8)] } ++ a6)) (0 : Nat) (ByteArray.size ({ data := #[(27 : UInt8)] } ++ a6)) (1 : Nat) (1 : Nat)) (
       req (decide ((0 : Nat) + List.length (dapp (bytesD ({ data := #[(27 : UInt8)] } ++ a6)) (0 : Nat) (ByteArray.size ({ data := #[(27 : UInt8)] } ++ a6)) [Dat.int a3]) ≤ List.length (dapp (bytesD ({ data := #[(27 : UInt8)] } ++ a6)) (0 : Nat) (ByteArray.size ({ data := #[(27 : UInt8)] } ++ a6)) [Dat.int a3]))) (
       p27_r23 { kind := a, rune := a2, final := a3, private_ := a4, params := a5, inter := a6, text := a7 } (List.take (List.length (dapp (bytesD ({ data := #[(27 : UInt8)] } ++ a6)) (0 : Nat) (ByteArray.size ({ data := #[(27 : UInt8)] } ++ a6)) [Dat.int a3])) (dapp (bytesD ({ data := #[(27 : UInt8)] } ++ a6)) (0 : Nat) (ByteArray.size ({ data := #[(27 : UInt8)] } ++ a6)) [Dat.int a3])) (fun y7 y8 y9 => 
        br (y9) (K [] (1 : Int)) (K y8 (0 : Int))))))) (
       br (decide (a = (4 : Int))) (
        br (!decide (a4 = (0 : Int))) (
         req (appOK ([Dat.int (27 : Int)] ++ [Dat.int (91 : Int)]) (0 : Nat) (2 : Nat) (1 : Nat) (1 : Nat)) (
         (∃ y10, 
         ((List.length (dapp ([Dat.int (27 : Int)] ++ [Dat.int (91 : Int)]) (0 : Nat) (2 : Nat) [Dat.int a4]) = List.length (dapp ([Dat.int (27 : Int)] ++ [Dat.int (91 : Int)]) (0 : Nat) (2 : Nat) [Dat.int a4])) ∧ 
         l27_14 y10 { kind := a, rune := a2, final := a3, private_ := a4, params := a5, inter := a6, text := a7 } (dapp ([Dat.int (27 : Int)] ++ [Dat.int (91 : Int)]) (0 : Nat) (2 : Nat) [Dat.int a4]) (0 : Int) (fun y11 y12 => 
          ((List.length y12 = List.length y12) ∧ 
          p27_r20 y11 y12 (fun y13 y14 => 
           req (decide ((0 : Nat) + List.length y14 ≤ List.length y14)) (
           p27_r23 y13 (List.take (List.length y14) y14) (fun y15 y16 y17 => 
            br (y17) (K [] (1 : Int)) (K y16 (0 : Int))))))))))) (
         (∃ y18, 
         (((2 : Nat) = (2 : Nat)) ∧ 
         l27_14 y18 { kind := a, rune := a2, final := a3, private_ := a4, params := a5, inter := a6, text := a7 } [Dat.int (27 : Int), Dat.int (91 : Int)] (0 : Int) (fun y19 y20 => 
          ((List.length y20 = List.length y20) ∧ 
          p27_r20 y19 y20 (fun y21 y22 => 
           req (decide ((0 : Nat) + List.length y22 ≤ List.length y22)) (
           p27_r23 y21 (List.take (List.length y22) y22) (fun y23 y24 y25 => 
            br (y25) (K [] (1 : Int)) (K y24 (0 : Int))))))))))) (
        br (decide (a = (5 : Int))) (
         req (decide ((2 : Nat) + ByteArray.size a7 ≤ (9223372036854775807 : Nat))) (
         req (appOK (bytesD ({ data := #[(27 : UInt8), (93 : UInt8)] } ++ a7)) (0 : Nat) (ByteArray.size ({ data := #[(27 : UInt8), (93 : UInt8)] } ++ a7)) (1 : Nat) (1 : Nat)) (
         req (decide ((0 : Nat) + List.length (dapp (bytesD ({ data := #[(27 : UInt8), (93 : UInt8)] } ++ a7)) (0 : Nat) (ByteArray.size ({ data := #[(27 : UInt8), (93 : UInt8)] } ++ a7)) [Dat.int (7 : Int)]) ≤ List.length (dapp (bytesD ({ data := #[(27 : UInt8), (93 : UInt8)] } ++ a7)) (0 : Nat) (ByteArray.size ({ data := #[(27 : UInt8), (93 : UInt8)] } ++ a7)) [Dat.int (7 : Int)]))) (
         p27_r23 { kind := a, rune := a2, final := a3, private_ := a4, params := a5, inter := a6, text := a7 } (List.take (List.length (dapp (bytesD ({ data := #[(27 : UInt8), (93 : UInt8)] } ++ a7)) (0 : Nat) (ByteArray.size ({ data := #[(27 : UInt8), (93 : UInt8)] } ++ a7)) [Dat.int (7 : Int)])) (dapp (bytesD ({ data := #[(27 : UInt8), (93 : UInt8)] } ++ a7)) (0 : Nat) (ByteArray.size ({ data := #[(27 : UInt8), (93 : UInt8)] } ++ a7)) [Dat.int (7 : Int)])) (fun y26 y27 y28 => 
          br (y28) (K [] (1 : Int)) (K y27 (0 : Int))))))) (
         p27_r23 { kind := a, rune := a2, final := a3, private_ := a4, params := a5, inter := a6, text := a7 } [] (fun y29 y30 y31 => 
          br (y31) (K [] (1 : Int)) (K y30 (0 : Int))))))))
def F27 : AM.Form := ⟨[.agg [.int .i64, .int .i32, .int .u8, .int .u8, .ro (.int .i64), .str, .str]], []⟩
noncomputable def mm27 (ds : List Dat) (K : AV → AH → Prop) : Prop := m27 ((dat ds 0).toInt) ((dat ds 1).toInt) ((dat ds 2).toInt) ((dat ds 3).toInt) ((dat ds 4).toList) ((dat ds 5).toStr) ((dat ds 6).toStr) (fun rxs rn => K (.tup [.ro (.int .u8) rxs, .c (.int .i64 rn)]) ⟨[], []⟩)
theorem t27 (ds : List Dat) (K : AV → AH → Prop) : callA Tryd.prog tys GG27_r23 1000 27 (F27.fr ds) (F27.hp ds) (fun v h' => endK Tryd.prog [] (.tup [.ro (.int .u8), .keep]) (F27.hp ds) (F27.fr ds) v h' K) = mm27 ds K := by kernel_rfl
noncomputable def R27 : CallT := ruleF Tryd.prog [(.agg [.keep, .keep, .keep, .keep, (.ro (.int .i64)), .keep, .keep])] [] F27 mm27
theorem ok27 : CallOK Tryd.prog 27 R27 := ruleF_ok sGG27_r23 t27
noncomputable def cs27 : List (FuncId × CallT) := (27, R27) :: cs26
theorem cs27_ok : CallsOK Tryd.prog cs27 := .cons ok27 cs26_ok
noncomputable def GG27 : Rules := mkG [] cs27 ls27_14 rs27_r23
theorem sGG27 : Sound Tryd.prog tys GG27 := mk_sound mixed tysOK names (by kernel_rfl) cs27_ok ls27_14_ok rs27_r23_ok
noncomputable def m11 (a : Int) (a2 : Int) (a3 : Int) (a4 : Int) (a5 : List Dat) (a6 : ByteArray) (a7 : ByteArray) (K : Bool → Prop) : Prop :=
    m26 a a2 a3 a4 a5 a6 a7 (fun y0 y1 => 
     m27 a a2 a3 a4 a5 a6 a7 (fun y2 y3 => 
      br (!decide (y1 = y3)) (K false) (
       m28 y0 y2 (fun y4 => 
        br (!y4) (K false) (
         br (!decide (y1 = (0 : Int))) (
          ((K true) ∧ (
           ((
            ((K true) ∧ (
             ((K true) ∧ (True))))) ∧ (True))))) (
          ((
           m14 y0 (fun y5 => 
            req (decide ((0 : Nat) + List.length y5 ≤ List.length y5)) (
            m13 (List.take (List.length y5) y5) [Dat.pair (Dat.int a) (Dat.pair (Dat.int a2) (Dat.pair (Dat.int a3) (Dat.pair (Dat.int a4) (Dat.pair (Dat.list a5) (Dat.pair (Dat.str a6) (Dat.pair (Dat.str a7) (Dat.int (0 : Int))))))))] (fun y6 => K y6)))) ∧ (
           ((
            ((
             m14 y0 (fun y7 => 
              req (decide ((0 : Nat) + List.length y7 ≤ List.length y7)) (
              m13 (List.take (List.length y7) y7) [Dat.pair (Dat.int a) (Dat.pair (Dat.int a2) (Dat.pair (Dat.int a3) (Dat.pair (Dat.int a4) (Dat.pair (Dat.list a5) (Dat.pair (Dat.str a6) (Dat.pair (Dat.str a7) (Dat.int (0 : Int))))))))] (fun y8 => K y8)))) ∧ (
             ((
              m14 y0 (fun y9 => 
               req (decide ((0 : Nat) + List.length y9 ≤ List.length y9)) (
               m13 (List.take (List.length y9) y9) [Dat.pair (Dat.int a) (Dat.pair (Dat.int a2) (Dat.pair (Dat.int a3) (Dat.pair (Dat.int a4) (Dat.pair (Dat.list a5) (Dat.pair (Dat.str a6) (Dat.pair (Dat.str a7) (Dat.int (0 : Int))))))))] (fun y10 => K y10)))) ∧ (True))))) ∧ (True))))))))))
def F11 : AM.Form := ⟨[.agg [.int .i64, .int .i32, .int .u8, .int .u8, .ro (.int .i64), .str, .str]], []⟩
noncomputable def mm11 (ds : List Dat) (K : AV → AH → Prop) : Prop := m11 ((dat ds 0).toInt) ((dat ds 1).toInt) ((dat ds 2).toInt) ((dat ds 3).toInt) ((dat ds 4).toList) ((dat ds 5).toStr) ((dat ds 6).toStr) (fun rb => K (.c (.bool rb)) ⟨[], []⟩)
theorem t11 (ds : List Dat) (K : AV → AH → Prop) : callA Tryd.prog tys GG27 1000 11 (F11.fr ds) (F11.hp ds) (fun v h' => endK Tryd.prog [] .keep (F11.hp ds) (F11.fr ds) v h' K) = mm11 ds K := by kernel_rfl
noncomputable def R11 : CallT := ruleF Tryd.prog [(.agg [.keep, .keep, .keep, .keep, (.ro (.int .i64)), .keep, .keep])] [] F11 mm11
theorem ok11 : CallOK Tryd.prog 11 R11 := ruleF_ok sGG27 t11
noncomputable def cs11 : List (FuncId × CallT) := (11, R11) :: cs27
theorem cs11_ok : CallsOK Tryd.prog cs11 := .cons ok11 cs27_ok
noncomputable def GG11 : Rules := mkG [] cs11 ls27_14 rs27_r23
theorem sGG11 : Sound Tryd.prog tys GG11 := mk_sound mixed tysOK names (by kernel_rfl) cs11_ok ls27_14_ok rs27_r23_ok
end Go.Proofs.YtojdmhfkgkfpaaaDoor

set_option linter.unusedVariables false
set_option linter.unusedSimpArgs false
set_option maxRecDepth 100000
namespace Go.Proofs.YtojdmhfkgkfpaaaDoor
open Go.AM Go.LTxt Go.LMem Go.RowKit
set_option maxHeartbeats 0
/-- the most that an int counts (hidden: the kernel would count it down) -/
def bigB : Nat := 9223372036854775807
theorem in64b {k n : Nat} (hk : k < n) (hn : n ≤ bigB) : inR .i64 ((k : Int) + 1) = true := by
  unfold bigB at hn
  unfold inR
  rw [Bool.and_eq_true]
  exact ⟨decide_eq_true (by show (-9223372036854775808 : Int) ≤ _; omega), decide_eq_true (by show _ ≤ (9223372036854775807 : Int); omega)⟩
theorem len_ne {m n : Nat} (h : (!decide ((m : Int) = (n : Int))) = true) : m ≠ n := by
  simp only [Bool.not_eq_true', decide_eq_false_iff_not] at h
  omega
theorem len_eq {m n : Nat} (h : (!decide ((m : Int) = (n : Int))) = false) : m = n := by
  simp only [Bool.not_eq_false', decide_eq_true_eq] at h
  omega
/-- the same numbers -/
def parEq : List Dat → List Dat → Bool
  | [], [] => true
  | a :: l, b :: m => decide (a.toInt = b.toInt) && parEq l m
  | _, _ => false
theorem parEq_len : ∀ {a b : List Dat}, a.length ≠ b.length → parEq a b = false
  | [], [], h => absurd rfl h
  | [], _ :: _, _ => rfl
  | _ :: _, [], _ => rfl
  | a :: l, b :: m, h => by
    simp only [parEq]
    rw [parEq_len (a := l) (b := m) (by simpa using h), Bool.and_false]
theorem parEq_self : ∀ (a : List Dat), parEq a a = true
  | [] => rfl
  | a :: l => by simp only [parEq]; rw [parEq_self l]; simp
def sameA (x y : AS) : Bool := decide (x.kind = y.kind) && (decide (x.rune = y.rune) && (decide (x.final = y.final) && (decide (x.private_ = y.private_) && (strEq x.inter y.inter && (strEq x.text y.text && parEq x.params y.params)))))
theorem sameA_self (x : AS) : sameA x x = true := by simp [sameA, strEq_self, parEq_self]
def sameL : List Dat → List Dat → Bool
  | [], [] => true
  | a :: l, b :: m => sameA (mkAS a) (mkAS b) && sameL l m
  | _, _ => false
theorem sameL_len : ∀ {a b : List Dat}, a.length ≠ b.length → sameL a b = false
  | [], [], h => absurd rfl h
  | [], _ :: _, _ => rfl
  | _ :: _, [], _ => rfl
  | a :: l, b :: m, h => by
    simp only [sameL]
    rw [sameL_len (a := l) (b := m) (by simpa using h), Bool.and_false]
theorem sameL_self : ∀ (a : List Dat), sameL a a = true
  | [] => rfl
  | a :: l => by simp only [sameL]; rw [sameL_self l, sameA_self]; rfl
theorem kAnd {K : Bool → Prop} {c d : Bool} (hK : K (c && d)) : (c = true → K d) ∧ (c = false → K false) := by
  constructor
  · intro h; rw [h] at hK; exact hK
  · intro h; rw [h] at hK; exact hK
/-! the program's -/
theorem r40_4 (a b : List Dat) (hab : a.length = b.length) (hl : a.length ≤ bigB) (E0 : Prop) (R_ : Bool → Prop) (n : Nat) : ∀ (k : Nat), a.length - k < n → (parEq (a.drop k) (b.drop k) = true → E0) → (parEq (a.drop k) (b.drop k) = false → R_ false) → l40_4 n a b a.length k E0 R_ := by
  induction n with
  | zero => intro k h; omega
  | succ n ih =>
    intro k h hE hR
    unfold l40_4
    rw [Int.toNat_natCast]
    refine br_mk (fun h2 => ?_) (fun h2 => ?_)
    · have hk : k < a.length := by simpa using h2
      have hk' : k < b.length := by omega
      have h3 : (decide ((0 : Int) ≤ (k : Int)) && decide ((k : Int) < (a.length : Int))) = true := by simp; omega
      have h4 : decide (k < a.length) = true := by simpa using hk
      have h5 : (decide ((0 : Int) ≤ (k : Int)) && decide ((k : Int) < (b.length : Int))) = true := by simp; omega
      have h6 : decide (k < b.length) = true := by simpa using hk'
      have e := in64b hk hl
      rw [drop_cons hk, drop_cons hk'] at hE hR
      simp only [parEq] at hE hR
      rw [h3, req_t, h4, req_t, h5, req_t, h6, req_t]
      refine br_mk (fun hc => ?_) (fun hc => ?_)
      · refine hR ?_
        have : decide ((a.getD k default).toInt = (b.getD k default).toInt) = false := by simpa using hc
        rw [this]; rfl
      · have hd : decide ((a.getD k default).toInt = (b.getD k default).toInt) = true := by simpa using hc
        rw [hd, Bool.true_and] at hE hR
        rw [e, req_t, show (k : Int) + 1 = ((k + 1 : Nat) : Int) by omega]
        exact ih (k + 1) (by omega) hE hR
    · have hk : a.length ≤ k := by have := of_decide_eq_false h2; omega
      rw [List.drop_of_length_le hk, List.drop_of_length_le (by omega)] at hE
      exact hE rfl
theorem v40 {a b : List Dat} {K : Bool → Prop} (hl : a.length ≤ bigB) (hK : K (parEq a b)) : m40 a b K := by
  unfold m40
  refine br_mk (fun h => ?_) (fun h => ?_)
  · have : a.length ≠ b.length := len_ne h
    rw [parEq_len this] at hK
    exact hK
  · have hab : a.length = b.length := len_eq h
    exact ⟨_, r40_4 a b hab hl _ _ (_ + 1) 0 (Nat.lt_succ_of_le (Nat.sub_le _ _)) (fun h => by rw [List.drop_zero, List.drop_zero] at h; rw [h] at hK; exact hK) (fun h => by rw [List.drop_zero, List.drop_zero] at h; rw [h] at hK; exact hK)⟩
theorem v39 {x y : AS} {K : Bool → Prop} (hl : x.params.length ≤ bigB) (hK : K (sameA x y)) : m39 x.kind x.rune x.final x.private_ x.params x.inter x.text y.kind y.rune y.final y.private_ y.params y.inter y.text K := by
  unfold m39
  unfold sameA at hK
  have h1 := kAnd hK
  refine br_mk (fun c => ?_) (fun c => h1.2 c)
  have h2 := kAnd (h1.1 c)
  refine br_mk (fun c => ?_) (fun c => h2.2 c)
  have h3 := kAnd (h2.1 c)
  refine br_mk (fun c => ?_) (fun c => h3.2 c)
  have h4 := kAnd (h3.1 c)
  refine br_mk (fun c => ?_) (fun c => h4.2 c)
  have h5 := kAnd (h4.1 c)
  refine br_mk (fun c => ?_) (fun c => h5.2 c)
  have h6 := kAnd (h5.1 c)
  refine br_mk (fun c => ?_) (fun c => h6.2 c)
  exact v40 hl (h6.1 c)
theorem r38_4 (a b : List Dat) (hab : a.length = b.length) (hl : a.length ≤ bigB) (hp : ∀ d ∈ a, (mkAS d).params.length ≤ bigB) (E0 : Prop) (R_ : Bool → Prop) (n : Nat) : ∀ (k : Nat), a.length - k < n → (sameL (a.drop k) (b.drop k) = true → E0) → (sameL (a.drop k) (b.drop k) = false → R_ false) → l38_4 n b a a.length k E0 R_ := by
  induction n with
  | zero => intro k h; omega
  | succ n ih =>
    intro k h hE hR
    unfold l38_4
    rw [Int.toNat_natCast]
    refine br_mk (fun h2 => ?_) (fun h2 => ?_)
    · have hk : k < a.length := by simpa using h2
      have hk' : k < b.length := by omega
      have h3 : (decide ((0 : Int) ≤ (k : Int)) && decide ((k : Int) < (a.length : Int))) = true := by simp; omega
      have h4 : decide (k < a.length) = true := by simpa using hk
      have h5 : (decide ((0 : Int) ≤ (k : Int)) && decide ((k : Int) < (b.length : Int))) = true := by simp; omega
      have h6 : decide (k < b.length) = true := by simpa using hk'
      have e := in64b hk hl
      have hm := hp (a.getD k default) (by rw [List.getD_eq_getElem?_getD, List.getElem?_eq_getElem hk]; exact List.getElem_mem hk)
      rw [drop_cons hk, drop_cons hk'] at hE hR
      simp only [sameL] at hE hR
      rw [h3, req_t, h4, req_t, h5, req_t, h6, req_t]
      refine v39 (x := mkAS (a.getD k default)) (y := mkAS (b.getD k default)) hm ?_
      generalize sameA (mkAS (a.getD k default)) (mkAS (b.getD k default)) = c at hE hR ⊢
      cases c with
      | false => exact hR rfl
      | true =>
        rw [Bool.true_and] at hE hR
        rw [Bool.not_true, br_f, e, req_t, show (k : Int) + 1 = ((k + 1 : Nat) : Int) by omega]
        exact ih (k + 1) (by omega) hE hR
    · have hk : a.length ≤ k := by have := of_decide_eq_false h2; omega
      rw [List.drop_of_length_le hk, List.drop_of_length_le (by omega)] at hE
      exact hE rfl
theorem v25 {a b : List Dat} {K : Bool → Prop} (hl : a.length ≤ bigB) (hp : ∀ d ∈ a, (mkAS d).params.length ≤ bigB) (hK : K (sameL a b)) : m25 a b K := by
  unfold m25 m38
  refine br_mk (fun h => ?_) (fun h => ?_)
  · have : a.length ≠ b.length := len_ne h
    rw [sameL_len this] at hK
    exact hK
  · have hab : a.length = b.length := len_eq h
    exact ⟨_, r38_4 a b hab hl hp _ _ (_ + 1) 0 (Nat.lt_succ_of_le (Nat.sub_le _ _)) (fun h => by rw [List.drop_zero, List.drop_zero] at h; rw [h] at hK; exact hK) (fun h => by rw [List.drop_zero, List.drop_zero] at h; rw [h] at hK; exact hK)⟩
/-! the reference's -/
theorem r13_10g (x y : AS) (hxy : x.params.length = y.params.length) (hl : x.params.length ≤ bigB) (a3 b : List Dat) (i : Int) (E2 : AS → AS → List Dat → List Dat → Int → Prop) (R_ : AS → AS → Bool → Prop) (n : Nat) :
    ∀ (k : Nat), x.params.length - k < n → (parEq (x.params.drop k) (y.params.drop k) = true → E2 x y a3 b i) → (parEq (x.params.drop k) (y.params.drop k) = false → R_ x y false) → l13_10 n x y a3 b i k E2 R_ := by
  induction n with
  | zero => intro k h; omega
  | succ n ih =>
    intro k h hE hR
    unfold l13_10
    rw [Int.toNat_natCast]
    refine br_mk (fun h2 => ?_) (fun h2 => ?_)
    · have hk : k < x.params.length := by simpa using h2
      have hk' : k < y.params.length := by omega
      have h3 : (decide ((0 : Int) ≤ (k : Int)) && decide ((k : Int) < (x.params.length : Int))) = true := by simp; omega
      have h4 : decide (k < x.params.length) = true := by simpa using hk
      have h5 : (decide ((0 : Int) ≤ (k : Int)) && decide ((k : Int) < (y.params.length : Int))) = true := by simp; omega
      have h6 : decide (k < y.params.length) = true := by simpa using hk'
      have e := in64b hk hl
      rw [drop_cons hk, drop_cons hk'] at hE hR
      simp only [parEq] at hE hR
      rw [h3, req_t, h4, req_t, h5, req_t, h6, req_t]
      refine br_mk (fun hc => ?_) (fun hc => ?_)
      · refine hR ?_
        have : decide ((x.params.getD k default).toInt = (y.params.getD k default).toInt) = false := by simpa using hc
        rw [this]; rfl
      · have hd : decide ((x.params.getD k default).toInt = (y.params.getD k default).toInt) = true := by simpa using hc
        rw [hd, Bool.true_and] at hE hR
        rw [e, req_t, show (k : Int) + 1 = ((k + 1 : Nat) : Int) by omega]
        exact ih (k + 1) (by omega) hE hR
    · have hk : x.params.length ≤ k := by have := of_decide_eq_false h2; omega
      rw [List.drop_of_length_le hk, List.drop_of_length_le (by omega)] at hE
      exact hE rfl
theorem r13_4g (a b : List Dat) (hab : a.length = b.length) (hl : a.length ≤ bigB) (hp : ∀ d ∈ a, (mkAS d).params.length ≤ bigB) (E0 : Prop) (R_ : Bool → Prop) (n : Nat) : ∀ (k : Nat), a.length - k < n → (sameL (a.drop k) (b.drop k) = true → E0) → (sameL (a.drop k) (b.drop k) = false → R_ false) → l13_4 n a b k E0 R_ := by
  induction n with
  | zero => intro k h; omega
  | succ n ih =>
    intro k h hE hR
    unfold l13_4
    refine br_mk (fun h2 => ?_) (fun h2 => ?_)
    · have hk : k < a.length := by simpa using h2
      have hk' : k < b.length := by omega
      have e := in64b hk hl
      have hm := hp (a.getD k default) (by rw [List.getD_eq_getElem?_getD, List.getElem?_eq_getElem hk]; exact List.getElem_mem hk)
      rw [drop_cons hk, drop_cons hk'] at hE hR
      simp only [sameL] at hE hR
      refine vp13 hk hk' ?_
      generalize mkAS (a.getD k default) = x at hm hE hR ⊢
      generalize mkAS (b.getD k default) = y at hE hR ⊢
      have hR' : sameA x y = false → R_ false := fun h => hR (by rw [h]; rfl)
      unfold sameA at hR'
      have hT : sameA x y = true → l13_4 n a b ((k : Int) + 1) E0 R_ := fun h => by
        rw [h, Bool.true_and] at hE hR
        rw [show (k : Int) + 1 = ((k + 1 : Nat) : Int) by omega]
        exact ih (k + 1) (by omega) hE hR
      unfold sameA at hT
      refine br_mk (fun c => hR' (by simp only [Bool.not_eq_true'] at c; rw [c]; rfl)) (fun c => ?_)
      simp only [Bool.not_eq_false'] at c
      rw [c, Bool.true_and] at hR' hT
      clear c
      refine br_mk (fun c => hR' (by simp only [Bool.not_eq_true'] at c; rw [c]; rfl)) (fun c => ?_)
      simp only [Bool.not_eq_false'] at c
      rw [c, Bool.true_and] at hR' hT
      clear c
      refine br_mk (fun c => hR' (by simp only [Bool.not_eq_true'] at c; rw [c]; rfl)) (fun c => ?_)
      simp only [Bool.not_eq_false'] at c
      rw [c, Bool.true_and] at hR' hT
      clear c
      refine br_mk (fun c => hR' (by simp only [Bool.not_eq_true'] at c; rw [c]; rfl)) (fun c => ?_)
      simp only [Bool.not_eq_false'] at c
      rw [c, Bool.true_and] at hR' hT
      clear c
      refine br_mk (fun c => hR' (by simp only [Bool.not_eq_true'] at c; rw [c]; rfl)) (fun c => ?_)
      simp only [Bool.not_eq_false'] at c
      rw [c, Bool.true_and] at hR' hT
      clear c
      refine br_mk (fun c => hR' (by simp only [Bool.not_eq_true'] at c; rw [c]; rfl)) (fun c => ?_)
      simp only [Bool.not_eq_false'] at c
      rw [c, Bool.true_and] at hR' hT
      clear c
      refine br_mk (fun c => hR' (parEq_len (len_ne c))) (fun c => ?_)
      have hxy : x.params.length = y.params.length := len_eq c
      refine ⟨_, r13_10g x y hxy hm a b k _ _ (_ + 1) 0 (Nat.lt_succ_of_le (Nat.sub_le _ _)) (fun h => ?_) (fun h => ?_)⟩
      · rw [List.drop_zero, List.drop_zero] at h
        rw [e, req_t]
        exact hT h
      · rw [List.drop_zero, List.drop_zero] at h
        exact hR' h
    · have hk : a.length ≤ k := by have := of_decide_eq_false h2; omega
      rw [List.drop_of_length_le hk, List.drop_of_length_le (by omega)] at hE
      exact hE rfl
theorem v13g {a b : List Dat} {K : Bool → Prop} (hl : a.length ≤ bigB) (hp : ∀ d ∈ a, (mkAS d).params.length ≤ bigB) (hK : K (sameL a b)) : m13 a b K := by
  unfold m13
  refine br_mk (fun h => ?_) (fun h => ?_)
  · have : a.length ≠ b.length := len_ne h
    rw [sameL_len this] at hK
    exact hK
  · have hab : a.length = b.length := len_eq h
    exact ⟨_, r13_4g a b hab hl hp _ _ (_ + 1) 0 (Nat.lt_succ_of_le (Nat.sub_le _ _)) (fun h => by rw [List.drop_zero, List.drop_zero] at h; rw [h] at hK; exact hK) (fun h => by rw [List.drop_zero, List.drop_zero] at h; rw [h] at hK; exact hK)⟩
end Go.Proofs.YtojdmhfkgkfpaaaDoor

set_option linter.unusedVariables false
set_option linter.unusedSimpArgs false
set_option maxRecDepth 100000
namespace Go.Proofs.YtojdmhfkgkfpaaaDoor
open Go.AM Go.LTxt Go.LMem Go.RowKit
set_option maxHeartbeats 0
theorem v61 {r : Int} {K : Bool → Prop} (hK : K (Utf8.valid r)) : m61 r K := by
  unfold m61
  unfold Utf8.valid at hK
  refine br_mk (fun h0 => ?_) (fun h0 => ?_)
  · have g0 := of_decide_eq_true h0
    refine br_mk (fun h1 => ?_) (fun h1 => ?_)
    · have g1 := of_decide_eq_true h1
      have : ((decide (0 ≤ r) && decide (r < 55296)) || (decide (57344 ≤ r) && decide (r ≤ 1114111))) = true := by simp; omega
      rw [this] at hK
      exact hK
    · have g1 := of_decide_eq_false h1
      refine br_mk (fun h2 => ?_) (fun h2 => ?_)
      · have g2 := of_decide_eq_true h2
        have : ((decide (0 ≤ r) && decide (r < 55296)) || (decide (57344 ≤ r) && decide (r ≤ 1114111))) = decide (r ≤ 1114111) := by
          have e1 : decide (r < 55296) = false := decide_eq_false (by omega)
          have e2 : decide (57344 ≤ r) = true := decide_eq_true (by omega)
          rw [e1, e2]; simp
        rw [this] at hK
        exact hK
      · have g2 := of_decide_eq_false h2
        have : ((decide (0 ≤ r) && decide (r < 55296)) || (decide (57344 ≤ r) && decide (r ≤ 1114111))) = false := by simp; omega
        rw [this] at hK
        exact hK
  · have g0 := of_decide_eq_false h0
    refine br_mk (fun h2 => ?_) (fun h2 => ?_)
    · have g2 := of_decide_eq_true h2
      omega
    · have : ((decide (0 ≤ r) && decide (r < 55296)) || (decide (57344 ≤ r) && decide (r ≤ 1114111))) = false := by simp; omega
      rw [this] at hK
      exact hK
theorem v42 {r : Int} {K : List Dat → Prop} (hK : K (bytesD (Utf8.encode r))) : m42 r K := by
  unfold m42
  refine v61 ?_
  cases hv : Utf8.valid r with
  | false =>
    rw [Bool.not_false, br_t]
    exact Eq.mpr (congrArg K (badForm.trans (formBad hv).symm)) hK
  | true =>
    rw [Bool.not_true, br_f]
    have hr : 0 ≤ r ∧ r ≤ 1114111 := by
      unfold Utf8.valid at hv
      simp at hv
      omega
    obtain ⟨n, rfl⟩ : ∃ n : Nat, r = n := ⟨r.toNat, by omega⟩
    refine br_mk (fun h => ?_) (fun h => ?_)
    · have g : n < 128 := by have := of_decide_eq_true h; omega
      rw [← form1 hv g] at hK
      exact hK
    have g0 : ¬ n < 128 := by have := of_decide_eq_false h; omega
    refine br_mk (fun h => ?_) (fun h => ?_)
    · have g : n < 2048 := by have := of_decide_eq_true h; omega
      rw [← form2 hv g0 g] at hK
      exact hK
    have g1 : ¬ n < 2048 := by have := of_decide_eq_false h; omega
    generalize hq : decide ((n : Int) < 65536) = q
    cases q with
    | true =>
      have g : n < 65536 := by have := of_decide_eq_true hq; omega
      rw [br_t]
      rw [← form3 hv g0 g1 g] at hK
      exact hK
    | false =>
      have g : ¬ n < 65536 := by have := of_decide_eq_false hq; omega
      rw [br_f]
      rw [← form4 hv g0 g1 g (by omega)] at hK
      exact hK
theorem app1 {xs : List Dat} {k : Nat} (h : xs.length + k ≤ 140737488351232) : appOK xs 0 xs.length k 1 = true := app_ok (by omega)
theorem r41_14 (c : C35) (l xs : List Dat) (hp : ∀ d ∈ xs, inR .i64 d.toInt = true) (hl : xs.length ≤ limB) (E1 : C35 → List Dat → List Dat → Prop) (n : Nat) :
    ∀ (l2 : List Dat) (k : Nat), xs.length - k < n → l2.length ≤ k → k ≤ xs.length → E1 c l (l2 ++ strsP (xs.drop k)) → l41_14 n c l l2 xs xs.length k E1 := by
  have hlim : limB = 100000000 := rfl
  induction n with
  | zero => intro l2 k h; omega
  | succ n ih =>
    intro l2 k h hk2 hkx hE
    unfold l41_14
    rw [Int.toNat_natCast]
    refine br_mk (fun h2 => ?_) (fun h2 => ?_)
    · have hk : k < xs.length := by simpa using h2
      have h3 : (decide ((0 : Int) ≤ (k : Int)) && decide ((k : Int) < (xs.length : Int))) = true := by simp; omega
      have h4 : decide (k < xs.length) = true := by simpa using hk
      have e := in64 k (by omega)
      have ha : appOK l2 0 l2.length 1 16 = true := app_ok (by omega)
      have hi := hp (xs.getD k default) (by rw [List.getD_eq_getElem?_getD, List.getElem?_eq_getElem hk]; exact List.getElem_mem hk)
      rw [drop_cons hk] at hE
      have hc : strsP (xs.getD k default :: xs.drop (k + 1)) = [.str (strP (xs.getD k default))] ++ strsP (xs.drop (k + 1)) := rfl
      rw [hc, ← List.append_assoc] at hE
      have go := ih (l2 ++ [.str (strP (xs.getD k default))]) (k + 1) (by omega) (by simp; omega) (by omega) hE
      rw [show ((k + 1 : Nat) : Int) = (k : Int) + 1 by omega] at go
      rw [h3, req_t, h4, req_t]
      unfold strP at go
      refine br_mk (fun hm => ?_) (fun hm => ?_)
      · have hm' : ¬ (xs.getD k default).toInt = -1 := by simpa using hm
        rw [if_neg hm'] at go
        rw [hi, req_t, ha, req_t, e, req_t, dapp_full]
        exact ⟨rfl, rfl, go⟩
      · have hm' : (xs.getD k default).toInt = -1 := by simpa using hm
        rw [if_pos hm'] at go
        rw [ha, req_t, e, req_t, dapp_full]
        exact ⟨rfl, rfl, go⟩
    · have hk : xs.length ≤ k := by have := of_decide_eq_false h2; omega
      rw [List.drop_of_length_le hk] at hE
      simpa [strsP] using hE
/-- what is still to be put -/
def restP (ps : List Dat) (k : Nat) : List Dat := if k = 0 then pB ps else pT (ps.drop k)
theorem r27_14 (c : C35) (hp : ∀ d ∈ c.params, inR .i64 d.toInt = true) (hl : c.params.length ≤ 2000000) (E1 : C35 → List Dat → Prop) (n : Nat) :
    ∀ (l : List Dat) (k : Nat), c.params.length - k < n → l.length ≤ 3 + 22 * k → k ≤ c.params.length → E1 c (l ++ restP c.params k) → l27_14 n c l k E1 := by
  induction n with
  | zero => intro l k h; omega
  | succ n ih =>
    intro l k h hlk hkx hE
    unfold l27_14
    rw [Int.toNat_natCast]
    refine br_mk (fun h2 => ?_) (fun h2 => ?_)
    · have hk : k < c.params.length := by simpa using h2
      have h3 : (decide ((0 : Int) ≤ (k : Int)) && decide ((k : Int) < (c.params.length : Int))) = true := by simp; omega
      have h4 : decide (k < c.params.length) = true := by simpa using hk
      have e := in64 k (by omega)
      have hi := hp (c.params.getD k default) (by rw [List.getD_eq_getElem?_getD, List.getElem?_eq_getElem hk]; exact List.getElem_mem hk)
      have hs := pS_len (c.params.getD k default) hi
      have hdk := drop_cons hk
      have hnext : restP c.params (k + 1) = pT (c.params.drop (k + 1)) := rfl
      refine br_mk (fun h0 => ?_) (fun h0 => ?_)
      · have hk0 : ¬ k = 0 := by have := of_decide_eq_true h0; omega
        have hr : restP c.params k = .int 59 :: (pS (c.params.getD k default) ++ restP c.params (k + 1)) := by
          rw [hnext]
          unfold restP
          rw [if_neg hk0, hdk]
          rfl
        have h1 := app1 (xs := l) (k := 1) (by omega)
        rw [h1, req_t, h3, req_t, h4, req_t, dapp_full]
        have hl1 : (l ++ [Dat.int 59]).length = l.length + 1 := by simp
        have hE' : E1 c (((l ++ [Dat.int 59]) ++ pS (c.params.getD k default)) ++ restP c.params (k + 1)) := by
          rw [hr] at hE
          simpa [List.append_assoc] using hE
        have go := ih ((l ++ [Dat.int 59]) ++ pS (c.params.getD k default)) (k + 1) (by omega) (by rw [List.length_append, hl1]; omega) (by omega) hE'
        rw [show ((k + 1 : Nat) : Int) = (k : Int) + 1 by omega] at go
        unfold pS strP at go
        unfold pS strP at hs
        refine br_mk (fun hm => ?_) (fun hm => ?_)
        · have hm' : ¬ (c.params.getD k default).toInt = -1 := by simpa using hm
          rw [if_neg hm'] at go hs
          have h5 := app1 (xs := l ++ [Dat.int 59]) (k := (bytesD (itoaS (c.params.getD k default).toInt)).length) (by omega)
          rw [req_t, req_t, hi, req_t, h5, req_t, e, req_t, dapp_full]
          exact ⟨rfl, go⟩
        · have hm' : (c.params.getD k default).toInt = -1 := by simpa using hm
          rw [if_pos hm'] at go
          rw [e, req_t]
          refine ⟨rfl, ?_⟩
          have : bytesD { data := #[] } = [] := rfl
          rw [this, List.append_nil] at go
          exact go
      · have hk0 : k = 0 := by have := of_decide_eq_false h0; omega
        have hr : restP c.params k = pS (c.params.getD k default) ++ restP c.params (k + 1) := by
          rw [hnext]
          subst hk0
          unfold restP
          rw [if_pos rfl]
          rw [List.drop_zero] at hdk
          conv => lhs; rw [hdk]
          rfl
        rw [h3, req_t, h4, req_t]
        have hE' : E1 c ((l ++ pS (c.params.getD k default)) ++ restP c.params (k + 1)) := by
          rw [hr] at hE
          simpa [List.append_assoc] using hE
        have go := ih (l ++ pS (c.params.getD k default)) (k + 1) (by omega) (by rw [List.length_append]; omega) (by omega) hE'
        rw [show ((k + 1 : Nat) : Int) = (k : Int) + 1 by omega] at go
        unfold pS strP at go
        unfold pS strP at hs
        refine br_mk (fun hm => ?_) (fun hm => ?_)
        · have hm' : ¬ (c.params.getD k default).toInt = -1 := by simpa using hm
          rw [if_neg hm'] at go hs
          have h5 := app1 (xs := l) (k := (bytesD (itoaS (c.params.getD k default).toInt)).length) (by omega)
          rw [req_t, req_t, hi, req_t, h5, req_t, e, req_t, dapp_full]
          exact ⟨rfl, go⟩
        · have hm' : (c.params.getD k default).toInt = -1 := by simpa using hm
          rw [if_pos hm'] at go
          rw [e, req_t]
          refine ⟨rfl, ?_⟩
          have : bytesD { data := #[] } = [] := rfl
          rw [this, List.append_nil] at go
          exact go
    · have hk : c.params.length ≤ k := by have := of_decide_eq_false h2; omega
      have hr : restP c.params k = [] := by
        unfold restP
        split
        · have : c.params = [] := List.eq_nil_of_length_eq_zero (by omega)
          rw [this]; rfl
        · rw [List.drop_of_length_le hk]; rfl
      rw [hr, List.append_nil] at hE
      exact hE

theorem v41 {a a2 a3 a4 : Int} {a5 : List Dat} {a6 a7 : ByteArray} (h : WOK a2 a3 a4 a5 a6 a7) {K : List Dat → Prop} (hK : K (wB a a2 a3 a4 a5 a6 a7)) : m41 a a2 a3 a4 a5 a6 a7 K := by
  have hlim : limB = 100000000 := rfl
  have hsz := h.sz
  have z1 : ({ data := #[(27 : UInt8)] } : ByteArray).size = 1 := rfl
  have z2 : ({ data := #[(27 : UInt8), (93 : UInt8)] } : ByteArray).size = 2 := rfl
  unfold m41
  unfold wB at hK
  refine br_mk (fun c => ?_) (fun c => ?_)
  · rw [if_pos (of_decide_eq_true c)] at hK
    have q := bytesD_len (Utf8.encode a2)
    refine req_mk (decide_eq_true (by omega)) ?_
    rw [← q, List.take_length]
    exact hK
  rw [if_neg (of_decide_eq_false c)] at hK
  refine br_mk (fun c => ?_) (fun c => ?_)
  · rw [if_pos (of_decide_eq_true c)] at hK
    exact hK
  rw [if_neg (of_decide_eq_false c)] at hK
  refine br_mk (fun c => ?_) (fun c => ?_)
  · rw [if_pos (of_decide_eq_true c)] at hK
    have q := bytesD_len ({ data := #[(27 : UInt8)] } ++ a6)
    have q2 : ({ data := #[(27 : UInt8)] } ++ a6 : ByteArray).size = 1 + a6.size := by rw [ByteArray.size_append, z1]
    refine req_mk (decide_eq_true (by omega)) ?_
    rw [← q, dapp_full]
    refine req_mk (app1 (by omega)) (req_mk (decide_eq_true (by omega)) ?_)
    rw [List.take_length]
    exact hK
  rw [if_neg (of_decide_eq_false c)] at hK
  refine br_mk (fun c => ?_) (fun c => ?_)
  · rw [if_pos (of_decide_eq_true c)] at hK
    have hpl := pB_len a5 h.ps
    have q6 := bytesD_len a6
    have tail : ∀ (l : List Dat), l.length ≤ 3 → K (((l ++ pB a5) ++ bytesD a6) ++ [.int a3]) →
        req (decide ((0 : Nat) + (strsP a5).length ≤ (strsP a5).length)) (req (joinOK (List.take (strsP a5).length (strsP a5)) { data := #[(59 : UInt8)] }) (
          req (decide ((joinS (List.take (strsP a5).length (strsP a5)) { data := #[(59 : UInt8)] }).size + a6.size ≤ (9223372036854775807 : Nat))) (
          req (appOK l 0 l.length (bytesD (joinS (List.take (strsP a5).length (strsP a5)) { data := #[(59 : UInt8)] } ++ a6)).length 1) (
          req (appOK (dapp l 0 l.length (bytesD (joinS (List.take (strsP a5).length (strsP a5)) { data := #[(59 : UInt8)] } ++ a6))) 0 (dapp l 0 l.length (bytesD (joinS (List.take (strsP a5).length (strsP a5)) { data := #[(59 : UInt8)] } ++ a6))).length 1 1) (
          req (decide ((0 : Nat) + (dapp (dapp l 0 l.length (bytesD (joinS (List.take (strsP a5).length (strsP a5)) { data := #[(59 : UInt8)] } ++ a6))) 0 (dapp l 0 l.length (bytesD (joinS (List.take (strsP a5).length (strsP a5)) { data := #[(59 : UInt8)] } ++ a6))).length [Dat.int a3]).length ≤ (dapp (dapp l 0 l.length (bytesD (joinS (List.take (strsP a5).length (strsP a5)) { data := #[(59 : UInt8)] } ++ a6))) 0 (dapp l 0 l.length (bytesD (joinS (List.take (strsP a5).length (strsP a5)) { data := #[(59 : UInt8)] } ++ a6))).length [Dat.int a3]).length)) (
          K (List.take (dapp (dapp l 0 l.length (bytesD (joinS (List.take (strsP a5).length (strsP a5)) { data := #[(59 : UInt8)] } ++ a6))) 0 (dapp l 0 l.length (bytesD (joinS (List.take (strsP a5).length (strsP a5)) { data := #[(59 : UInt8)] } ++ a6))).length [Dat.int a3]).length (dapp (dapp l 0 l.length (bytesD (joinS (List.take (strsP a5).length (strsP a5)) { data := #[(59 : UInt8)] } ++ a6))) 0 (dapp l 0 l.length (bytesD (joinS (List.take (strsP a5).length (strsP a5)) { data := #[(59 : UInt8)] } ++ a6))).length [Dat.int a3])))))))) := fun l hl hk => by
      have ej := join_eq a5
      have jl : (joinS (strsP a5) semi).size = (pB a5).length := by rw [← bytesD_len, ej]
      have jok : joinOK (strsP a5) semi = true := by
        unfold joinOK
        rw [Bool.and_eq_true]
        exact ⟨decide_eq_true (by rw [strsP_len]; omega), decide_eq_true (by rw [joinL_len]; omega)⟩
      have es : ({ data := #[(59 : UInt8)] } : ByteArray) = semi := rfl
      have eb : bytesD (joinS (strsP a5) semi ++ a6) = pB a5 ++ bytesD a6 := by rw [bytesD_app, ej]
      rw [List.take_length, es, eb, dapp_full, dapp_full]
      refine req_mk (decide_eq_true (by omega)) (req_mk jok (req_mk (decide_eq_true (by omega)) ?_))
      have l1 : (pB a5 ++ bytesD a6).length = (pB a5).length + a6.size := by rw [List.length_append, q6]
      refine req_mk (app1 (by omega)) (req_mk (app1 (by rw [List.length_append]; omega)) (req_mk (decide_eq_true (by omega)) ?_))
      rw [List.take_length, ← List.append_assoc]
      exact hk
    refine br_mk (fun c4 => ?_) (fun c4 => ?_)
    · have c4' : ¬ a4 = 0 := by simpa using c4
      rw [if_neg c4'] at hK
      refine req_mk (by decide) ?_
      refine ⟨_, rfl, rfl, r41_14 _ _ a5 h.ps (by omega) _ (_ + 1) [] 0 (Nat.lt_succ_of_le (Nat.sub_le _ _)) (by simp) (by omega) ?_⟩
      rw [List.nil_append, List.drop_zero]
      exact tail [.int 27, .int 91, .int a4] (by simp) hK
    · have c4' : a4 = 0 := by simpa using c4
      rw [if_pos c4'] at hK
      refine ⟨_, rfl, rfl, r41_14 _ _ a5 h.ps (by omega) _ (_ + 1) [] 0 (Nat.lt_succ_of_le (Nat.sub_le _ _)) (by simp) (by omega) ?_⟩
      rw [List.nil_append, List.drop_zero]
      exact tail [.int 27, .int 91] (by simp) hK
  rw [if_neg (of_decide_eq_false c)] at hK
  refine br_mk (fun c => ?_) (fun c => ?_)
  · rw [if_pos (of_decide_eq_true c)] at hK
    have z3 : ({ data := #[(7 : UInt8)] } : ByteArray).size = 1 := rfl
    have q := bytesD_len ({ data := #[(27 : UInt8), (93 : UInt8)] } ++ a7 ++ { data := #[(7 : UInt8)] })
    have q2 : ({ data := #[(27 : UInt8), (93 : UInt8)] } ++ a7 : ByteArray).size = 2 + a7.size := by rw [ByteArray.size_append, z2]
    refine req_mk (decide_eq_true (by omega)) (req_mk (decide_eq_true (by omega)) (req_mk (decide_eq_true (by omega)) ?_))
    rw [← q, List.take_length]
    exact hK
  · rw [if_neg (of_decide_eq_false c)] at hK
    exact hK
end Go.Proofs.YtojdmhfkgkfpaaaDoor

set_option linter.unusedVariables false
set_option linter.unusedSimpArgs false
set_option maxRecDepth 100000
namespace Go.Proofs.YtojdmhfkgkfpaaaDoor
open Go.AM Go.LTxt Go.LMem Go.RowKit
set_option maxHeartbeats 0
def actD (c : C35) : Dat := .pair (.int c.kind) (.pair (.int c.rune) (.pair (.int c.final) (.pair (.int c.private_) (.pair (.list c.params) (.pair (.str c.inter) (.pair (.str c.text) (.int 0)))))))
theorem big_of {n : Nat} (h : n ≤ 24000000) : n ≤ bigB := by unfold bigB; omega
theorem all_big {b : List Dat} (hb : okB b) (hN : b.length ≤ 24000000) : (allD b).length ≤ bigB ∧ ∀ d ∈ allD b, (mkAS d).params.length ≤ bigB := by
  have h1 := allD_len hb
  exact ⟨big_of (by omega), fun d hd => big_of (Nat.le_trans ((allD_ok hb).all d hd).pl (by decide))⟩
theorem vp23 {c : C35} {b : List Dat} {E : C35 → List Dat → Bool → Prop} (hb : okB b) (hN : b.length ≤ 24000000) (hE : E c b (!sameL (allD b) [actD c])) : p27_r23 c b E := by
  obtain ⟨g1, g2⟩ := all_big hb hN
  have one : m15 b (fun y0 => req (decide ((0 : Nat) + List.length y0 ≤ List.length y0)) (m13 (List.take (List.length y0) y0) [actD c] (fun y1 => E c b !y1))) := by
    refine v15 hb hN ?_
    refine req_mk (decide_eq_true (by omega)) ?_
    rw [List.take_length]
    exact v13g g1 g2 hE
  unfold p27_r23
  exact ⟨one, ⟨one, one, trivial⟩, trivial⟩
theorem vp20 {c : C35} {l : List Dat} {E : C35 → List Dat → Prop} (h : l.length + c.inter.size ≤ 24000000) (hE : E c ((l ++ bytesD c.inter) ++ [.int c.final])) : p27_r20 c l E := by
  have q := bytesD_len c.inter
  have one : req (appOK l (0 : Nat) (List.length l) (List.length (bytesD (C35.inter c))) (1 : Nat)) (
      req (appOK (dapp l (0 : Nat) (List.length l) (bytesD (C35.inter c))) (0 : Nat) (List.length (dapp l (0 : Nat) (List.length l) (bytesD (C35.inter c)))) (1 : Nat) (1 : Nat)) (E c (dapp (dapp l (0 : Nat) (List.length l) (bytesD (C35.inter c))) (0 : Nat) (List.length (dapp l (0 : Nat) (List.length l) (bytesD (C35.inter c)))) [Dat.int (C35.final c)]))) := by
    rw [dapp_full, dapp_full]
    exact req_mk (app1 (by omega)) (req_mk (app1 (by rw [List.length_append]; omega)) hE)
  unfold p27_r20
  repeat' (first | exact one | exact trivial | apply And.intro)
theorem fin27 {s : Bool} {K : List Dat → Int → Prop} {w : List Dat} (hT : s = true → K w 0) (hF : s = false → K [] 1) : br (!s) (K [] 1) (K w 0) := by
  cases s with
  | true => exact hT rfl
  | false => exact hF rfl
theorem v27 {a a2 a3 a4 : Int} {a5 : List Dat} {a6 a7 : ByteArray} (h : WOK a2 a3 a4 a5 a6 a7) {K : List Dat → Int → Prop}
    (hT : sameL (allD (wB a a2 a3 a4 a5 a6 a7)) [actD ⟨a, a2, a3, a4, a5, a6, a7⟩] = true → K (wB a a2 a3 a4 a5 a6 a7) 0) (hF : sameL (allD (wB a a2 a3 a4 a5 a6 a7)) [actD ⟨a, a2, a3, a4, a5, a6, a7⟩] = false → K [] 1) : m27 a a2 a3 a4 a5 a6 a7 K := by
  obtain ⟨hb, hN⟩ := wB_ok (a := a) h
  have hsz := h.sz
  have all : p27_r23 ⟨a, a2, a3, a4, a5, a6, a7⟩ (wB a a2 a3 a4 a5 a6 a7) (fun _ y2 y3 => br y3 (K [] 1) (K y2 0)) := vp23 hb hN (fin27 hT hF)
  clear hT hF hb
  have z1 : ({ data := #[(27 : UInt8)] } : ByteArray).size = 1 := rfl
  have z2 : ({ data := #[(27 : UInt8), (93 : UInt8)] } : ByteArray).size = 2 := rfl
  unfold m27
  unfold wB at all hN
  refine br_mk (fun c => ?_) (fun c => ?_)
  · rw [if_pos (of_decide_eq_true c)] at all
    refine v42 ?_
    refine req_mk (decide_eq_true (by omega)) ?_
    rw [List.take_length]
    exact all
  rw [if_neg (of_decide_eq_false c)] at all hN
  refine br_mk (fun c => ?_) (fun c => ?_)
  · rw [if_pos (of_decide_eq_true c)] at all
    exact all
  rw [if_neg (of_decide_eq_false c)] at all hN
  refine br_mk (fun c => ?_) (fun c => ?_)
  · rw [if_pos (of_decide_eq_true c)] at all
    have q := bytesD_len ({ data := #[(27 : UInt8)] } ++ a6)
    have q2 : ({ data := #[(27 : UInt8)] } ++ a6 : ByteArray).size = 1 + a6.size := by rw [ByteArray.size_append, z1]
    refine req_mk (decide_eq_true (by omega)) ?_
    rw [← q, dapp_full]
    refine req_mk (app1 (by omega)) (req_mk (decide_eq_true (by omega)) ?_)
    rw [List.take_length]
    exact all
  rw [if_neg (of_decide_eq_false c)] at all hN
  refine br_mk (fun c => ?_) (fun c => ?_)
  · rw [if_pos (of_decide_eq_true c)] at all hN
    have hpl := pB_len a5 h.ps
    have tail : ∀ (l : List Dat), l.length ≤ 3 → p27_r23 ⟨a, a2, a3, a4, a5, a6, a7⟩ (((l ++ pB a5) ++ bytesD a6) ++ [.int a3]) (fun _ y2 y3 => br y3 (K [] 1) (K y2 0)) →
        p27_r20 ⟨a, a2, a3, a4, a5, a6, a7⟩ (l ++ restP a5 0) (fun y13 y14 => req (decide ((0 : Nat) + List.length y14 ≤ List.length y14)) (
          p27_r23 ⟨y13.kind, y13.rune, y13.final, y13.private_, y13.params, y13.inter, y13.text⟩ (List.take (List.length y14) y14) (fun y15 y16 y17 => br y17 (K [] 1) (K y16 0)))) := fun l hl hk => by
      have hr : restP a5 0 = pB a5 := rfl
      rw [hr]
      refine vp20 (by rw [List.length_append]; show l.length + (pB a5).length + a6.size ≤ _; omega) ?_
      refine req_mk (decide_eq_true (by omega)) ?_
      rw [List.take_length]
      exact hk
    refine br_mk (fun c4 => ?_) (fun c4 => ?_)
    · have c4' : ¬ a4 = 0 := by simpa using c4
      rw [if_neg c4'] at all
      refine req_mk (by decide) ?_
      exact ⟨_, rfl, r27_14 ⟨a, a2, a3, a4, a5, a6, a7⟩ h.ps (by show a5.length ≤ _; omega) _ (_ + 1) [.int 27, .int 91, .int a4] 0 (Nat.lt_succ_of_le (Nat.sub_le _ _)) (by simp) (by omega) ⟨rfl, tail [.int 27, .int 91, .int a4] (by simp) all⟩⟩
    · have c4' : a4 = 0 := by simpa using c4
      rw [if_pos c4'] at all
      exact ⟨_, rfl, r27_14 ⟨a, a2, a3, a4, a5, a6, a7⟩ h.ps (by show a5.length ≤ _; omega) _ (_ + 1) [.int 27, .int 91] 0 (Nat.lt_succ_of_le (Nat.sub_le _ _)) (by simp) (by omega) ⟨rfl, tail [.int 27, .int 91] (by simp) all⟩⟩
  rw [if_neg (of_decide_eq_false c)] at all hN
  refine br_mk (fun c => ?_) (fun c => ?_)
  · rw [if_pos (of_decide_eq_true c)] at all
    have q := bytesD_len ({ data := #[(27 : UInt8), (93 : UInt8)] } ++ a7)
    have q2 : ({ data := #[(27 : UInt8), (93 : UInt8)] } ++ a7 : ByteArray).size = 2 + a7.size := by rw [ByteArray.size_append, z2]
    have e7 : bytesD ({ data := #[(27 : UInt8), (93 : UInt8)] } ++ a7 ++ { data := #[(7 : UInt8)] }) = bytesD ({ data := #[(27 : UInt8), (93 : UInt8)] } ++ a7) ++ [.int 7] := by rw [bytesD_app]; rfl
    rw [e7] at all
    refine req_mk (decide_eq_true (by omega)) ?_
    rw [← q, dapp_full]
    refine req_mk (app1 (by omega)) (req_mk (decide_eq_true (by omega)) ?_)
    rw [List.take_length]
    exact all
  · rw [if_neg (of_decide_eq_false c)] at all
    exact all
theorem v26 {a a2 a3 a4 : Int} {a5 : List Dat} {a6 a7 : ByteArray} (h : WOK a2 a3 a4 a5 a6 a7) {K : List Dat → Int → Prop}
    (hT : sameL (allD (wB a a2 a3 a4 a5 a6 a7)) [actD ⟨a, a2, a3, a4, a5, a6, a7⟩] = true → K (wB a a2 a3 a4 a5 a6 a7) 0) (hF : sameL (allD (wB a a2 a3 a4 a5 a6 a7)) [actD ⟨a, a2, a3, a4, a5, a6, a7⟩] = false → K [] 1) : m26 a a2 a3 a4 a5 a6 a7 K := by
  obtain ⟨hb, hN⟩ := wB_ok (a := a) h
  unfold m26
  refine v41 h ?_
  refine br_mk (fun c => ?_) (fun c => ?_)
  · have ha := of_decide_eq_true c
    have hw : wB a a2 a3 a4 a5 a6 a7 = [] := by subst ha; rfl
    have h0 : allD [] = [] := List.eq_nil_of_length_eq_zero (by have := allD_len okB_nil'; simpa using this)
    have one := hF (by rw [hw, h0]; rfl)
    repeat' (first | exact one | exact trivial | apply And.intro)
  · obtain ⟨g1, g2⟩ := all_big hb hN
    generalize wB a a2 a3 a4 a5 a6 a7 = w at *
    have one : m14 w (fun y1 => req (decide ((0 : Nat) + List.length y1 ≤ List.length y1)) (m25 (List.take (List.length y1) y1) [actD ⟨a, a2, a3, a4, a5, a6, a7⟩] (fun y2 => br (!y2) (K [] 1) (K w 0)))) := by
      refine v14 hb hN ?_
      refine req_mk (decide_eq_true (by omega)) ?_
      rw [List.take_length]
      exact v25 g1 g2 (fin27 hT hF)
    exact ⟨one, ⟨one, one, trivial⟩, trivial⟩
theorem v28 {a : List Dat} {K : Bool → Prop} (hK : K true) : m28 a a K := by
  unfold m28
  rw [strEq_self]
  exact hK
theorem v11 {a a2 a3 a4 : Int} {a5 : List Dat} {a6 a7 : ByteArray} (h : WOK a2 a3 a4 a5 a6 a7) {K : Bool → Prop} (hK : K true) : m11 a a2 a3 a4 a5 a6 a7 K := by
  obtain ⟨hb, hN⟩ := wB_ok (a := a) h
  obtain ⟨g1, g2⟩ := all_big hb hN
  unfold m11
  refine v26 h (fun hs => ?_) (fun hs => ?_)
  · refine v27 h (fun _ => ?_) (fun hs' => absurd (hs.symm.trans hs') (by decide))
    have e : (!decide ((0 : Int) = 0)) = false := rfl
    rw [e, br_f]
    refine v28 ?_
    rw [Bool.not_true, br_f, br_f]
    generalize wB a a2 a3 a4 a5 a6 a7 = w at *
    have one : m14 w (fun y5 => req (decide ((0 : Nat) + List.length y5 ≤ List.length y5)) (m13 (List.take (List.length y5) y5) [actD ⟨a, a2, a3, a4, a5, a6, a7⟩] (fun y6 => K y6))) := by
      refine v14 hb hN ?_
      refine req_mk (decide_eq_true (by omega)) ?_
      rw [List.take_length]
      refine v13g g1 g2 ?_
      rw [hs]
      exact hK
    exact ⟨one, ⟨one, one, trivial⟩, trivial⟩
  · refine v27 h (fun hs' => absurd (hs.symm.trans hs') (by decide)) (fun _ => ?_)
    have e : (!decide ((1 : Int) = 1)) = false := rfl
    have e2 : (!decide ((1 : Int) = 0)) = true := rfl
    rw [e, br_f]
    refine v28 ?_
    rw [Bool.not_true, br_f, e2, br_t]
    exact ⟨hK, ⟨hK, hK, trivial⟩, trivial⟩
end Go.Proofs.YtojdmhfkgkfpaaaDoor

set_option linter.unusedVariables false
namespace Go.Proofs.YtojdmhfkgkfpaaaDoor
open Go.AM Go.LTxt Go.LMem Go.RowKit
mutual
/-- all elements and bytes that data hold -/
def wD : Dat → Nat
  | .str s => s.size
  | .list l => wL l
  | .pair a b => wD a + wD b
  | _ => 0
def wL : List Dat → Nat
  | [] => 0
  | d :: l => wD d + 1 + wL l
end
theorem wL_len : ∀ (l : List Dat), l.length ≤ wL l
  | [] => by simp
  | d :: l => by have := wL_len l; simp only [wL, List.length_cons]; omega
theorem wL_mem : ∀ {l : List Dat} {d : Dat}, d ∈ l → wD d + 1 ≤ wL l
  | x :: l, d, h => by
    simp only [wL]
    rcases List.mem_cons.1 h with rfl | h
    · omega
    · have := wL_mem h; omega
theorem w_len (d : Dat) : d.toList.length ≤ wD d := by
  cases d <;> simp only [Dat.toList, List.length_nil, Nat.zero_le]
  simp only [wD]
  exact wL_len _
theorem w_mem {d x : Dat} (h : x ∈ d.toList) : wD x + 1 ≤ wD d := by
  cases d <;> simp only [Dat.toList] at h <;> first | (exact absurd h (by simp)) | (simp only [wD]; exact wL_mem h)
theorem w_fst (d : Dat) : wD d.fst ≤ wD d := by
  cases d <;> simp only [Dat.fst, wD] <;> omega
theorem w_snd (d : Dat) : wD d.snd ≤ wD d := by
  cases d <;> simp only [Dat.snd, wD] <;> omega
theorem w_str (d : Dat) : d.toStr.size ≤ wD d := by
  cases d <;> simp only [Dat.toStr, wD] <;> first | exact Nat.le_refl _ | (show (0 : Nat) ≤ _; omega)
theorem wD_int (n : Int) : wD (.int n) = 0 := rfl
theorem bulk_w {H : Type} : ∀ (s : Sh) (d : DataW H), wD (toDat s d) + 1 ≤ Rows.uptoBulk d
  | .int k, d => by
    obtain ⟨n, e⟩ := toDat_int k d
    rw [e, wD_int]
    exact bulk_one d
  | .bool, d => by
    have h : wD (toDat .bool d) = 0 := by
      cases d <;> try rfl
      rename_i l
      cases l <;> rfl
    rw [h]
    exact bulk_one d
  | .str, d => by
    cases d <;> try exact bulk_one _
    rename_i l
    cases l <;> try exact bulk_one _
    simp only [toDat, wD, Rows.uptoBulk]
    exact Nat.le_refl _
  | .slice s, d => by
    cases d <;> try exact bulk_one _
    rename_i elems spare
    have h : ∀ (l : List (DataW H)), wL (l.map (toDat s)) ≤ Rows.uptoBulkAll l := by
      intro l
      induction l with
      | nil => simp [wL]
      | cons x r ih =>
        have := bulk_w s x
        simp only [List.map_cons, wL, Rows.uptoBulkAll]
        omega
    have := h elems
    simp only [toDat, wD, Rows.uptoBulk]
    omega
  | .pair a b, d => by
    cases d <;> try exact bulk_one _
    rename_i l
    cases l with
    | nil => exact bulk_one _
    | cons x r =>
      have h1 := bulk_w a x
      have h2 := bulk_w b (.agg r)
      simp only [toDat, wD, Rows.uptoBulk, Rows.uptoBulkAll] at *
      omega
  | .unit, d => by
    have h : wD (toDat .unit d) = 0 := by cases d <;> rfl
    rw [h]
    exact bulk_one d
end Go.Proofs.YtojdmhfkgkfpaaaDoor

set_option linter.unusedVariables false
set_option maxRecDepth 100000
namespace Go.Proofs.YtojdmhfkgkfpaaaDoor.vtparseWrites
open Go.ChangeShapes Go.WideShapes Go.ChangeAt Go.RowKit Go.AM
theorem w_pair (d : Dat) : wD d.fst + wD d.snd ≤ wD d := by
  cases d <;> simp only [Dat.fst, Dat.snd, wD] <;> omega
theorem wok (D : Dat) (hF : Fits (.pair (.int .i64) (.pair (.int .i32) (.pair (.int .u8) (.pair (.int .u8) (.pair (.slice (.int .i64)) (.pair .str (.pair .str .unit))))))) D) (hb : wD D ≤ 1048576) : WOK D.snd.fst.toInt D.snd.snd.fst.toInt D.snd.snd.snd.fst.toInt D.snd.snd.snd.snd.fst.toList D.snd.snd.snd.snd.snd.fst.toStr D.snd.snd.snd.snd.snd.snd.fst.toStr := by
  obtain ⟨f0, f1, f2, f3, f4, f5, f6, f7⟩ := hF
  refine ⟨f1.1, f1.2, f2.1, f2.2, f3.1, f3.2, fun d hd => ?_, ?_⟩
  · have h := f4.2 d hd
    unfold inR
    rw [Bool.and_eq_true]
    exact ⟨decide_eq_true h.1, decide_eq_true h.2⟩
  · have h1 := w_snd D
    have h2 := w_snd D.snd
    have h3 := w_snd D.snd.snd
    have h4 := w_snd D.snd.snd.snd
    have h5 := w_pair D.snd.snd.snd.snd
    have h6 := w_pair D.snd.snd.snd.snd.snd
    have h7 := w_fst D.snd.snd.snd.snd.snd.snd
    have g1 := w_len D.snd.snd.snd.snd.fst
    have g2 := w_str D.snd.snd.snd.snd.snd.fst
    have g3 := w_str D.snd.snd.snd.snd.snd.snd.fst
    omega
theorem true11 {a a2 a3 a4 : Int} {a5 : List Dat} {a6 a7 : ByteArray} (h : WOK a2 a3 a4 a5 a6 a7) : m11 a a2 a3 a4 a5 a6 a7 tb := v11 h trivial
theorem rule11 (a a2 a3 a4 : Int) (a5 : List Dat) (a6 a7 : ByteArray) : R11 [.agg [.c (.int .i64 a), .c (.int .i32 a2), .c (.int .u8 a3), .c (.int .u8 a4), .ro (.int .i64) a5, .c (.string a6), .c (.string a7)]] h0 isTrue = m11 a a2 a3 a4 a5 a6 a7 tb := by kernel_rfl
theorem own : ownKnob Tryd.prog.godebug = none := by kernel_rfl
theorem contract (H : Type) (enc : TypeId × Value → H) (W : World) (base : Nat) (args : Array Value) (ds gs : List (DataW H)) (before : List MemPlace)
    (hval : ∀ (j : Nat) t v, Tryd.f11.params[j]? = some t → args[j]? = some v → Value.okWide Tryd.prog W .any base t v)
    (hW : DataW.Whole enc Tryd.prog Tryd.f11.params.toList Rows.vtparseWritesSpec.vars false W args.toList ds gs before) (hL : laidMetH Tryd.prog Rows.vtparseWritesUptoRow.laid W) (hk : Rows.uptoSmall H (ds ++ gs) = true) :
    Calls Tryd.prog 11 args W fun e W' => ∃ v, e = .returned v ∧ Rows.vtparseWritesSpec.post enc Tryd.prog Tryd.f11 false true false false W args v W' := by
  have one : ∃ d0, ds = [d0] := by
    obtain ⟨p, q, hA, hV, _⟩ := hW
    rw [Tryd.params11] at hA
    obtain ⟨v0, vs0, d0, ds0, p0, q0, hargs0, rfl, rfl, h0, r0⟩ := trodAll_cons hA
    obtain ⟨rfl, rfl, rfl⟩ := trodAll_nil r0
    exact ⟨d0, rfl⟩
  obtain ⟨d0, rfl⟩ := one
  have hgs : gs = [] := by
    obtain ⟨p, q, hA, hV, _⟩ := hW
    obtain ⟨rfl, _⟩ := trodVars_none hV
    rfl
  subst hgs
  refine law_contractR ok11 (tb := 4) (ss := [.pair (.int .i64) (.pair (.int .i32) (.pair (.int .u8) (.pair (.int .u8) (.pair (.slice (.int .i64)) (.pair .str (.pair .str .unit))))))]) (tabs_laid hL) hval hW rfl (by kernel_rfl) (by kernel_rfl) (fun hl => rfl) (by kernel_rfl) (by kernel_rfl) (by kernel_rfl) (fun hF => ?_)
  refine ⟨[.agg [.c (.int .i64 (toDat (.pair (.int .i64) (.pair (.int .i32) (.pair (.int .u8) (.pair (.int .u8) (.pair (.slice (.int .i64)) (.pair .str (.pair .str .unit))))))) d0).fst.toInt), .c (.int .i32 (toDat (.pair (.int .i64) (.pair (.int .i32) (.pair (.int .u8) (.pair (.int .u8) (.pair (.slice (.int .i64)) (.pair .str (.pair .str .unit))))))) d0).snd.fst.toInt), .c (.int .u8 (toDat (.pair (.int .i64) (.pair (.int .i32) (.pair (.int .u8) (.pair (.int .u8) (.pair (.slice (.int .i64)) (.pair .str (.pair .str .unit))))))) d0).snd.snd.fst.toInt), .c (.int .u8 (toDat (.pair (.int .i64) (.pair (.int .i32) (.pair (.int .u8) (.pair (.int .u8) (.pair (.slice (.int .i64)) (.pair .str (.pair .str .unit))))))) d0).snd.snd.snd.fst.toInt), .ro (.int .i64) (toDat (.pair (.int .i64) (.pair (.int .i32) (.pair (.int .u8) (.pair (.int .u8) (.pair (.slice (.int .i64)) (.pair .str (.pair .str .unit))))))) d0).snd.snd.snd.snd.fst.toList, .c (.string (toDat (.pair (.int .i64) (.pair (.int .i32) (.pair (.int .u8) (.pair (.int .u8) (.pair (.slice (.int .i64)) (.pair .str (.pair .str .unit))))))) d0).snd.snd.snd.snd.snd.fst.toStr), .c (.string (toDat (.pair (.int .i64) (.pair (.int .i32) (.pair (.int .u8) (.pair (.int .u8) (.pair (.slice (.int .i64)) (.pair .str (.pair .str .unit))))))) d0).snd.snd.snd.snd.snd.snd.fst.toStr)]], by kernel_rfl, ?_⟩
  rw [rule11]
  have hf0 := hF (.pair (.int .i64) (.pair (.int .i32) (.pair (.int .u8) (.pair (.int .u8) (.pair (.slice (.int .i64)) (.pair .str (.pair .str .unit)))))), d0) (by simp)
  have hb := bound hk
  have hb0 := bulk_mem (d := d0) (l := [d0] ++ []) (by simp)
  have hw := bulk_w (.pair (.int .i64) (.pair (.int .i32) (.pair (.int .u8) (.pair (.int .u8) (.pair (.slice (.int .i64)) (.pair .str (.pair .str .unit))))))) d0
  generalize toDat (.pair (.int .i64) (.pair (.int .i32) (.pair (.int .u8) (.pair (.int .u8) (.pair (.slice (.int .i64)) (.pair .str (.pair .str .unit))))))) d0 = D at hw hf0 ⊢
  exact true11 (wok D hf0 (by omega))
theorem laid_met (os : Os) : laidMet Tryd.prog Rows.vtparseWritesUptoRow.laid (((laidWorld Rows.vtparseWritesUptoRow.laid os).forCall (fun _ _ => 0) ⟨#[], #[.agg #[.int .i64 0, .int .i32 0, .int .u8 0, .int .u8 0, .slice none 0 0, .string ⟨#[]⟩, .string ⟨#[]⟩]], []⟩)).memory :=
  laidMet_of_run' 8 (by kernel_rfl) (by kernel_rfl)
theorem reads (os : Os) {H : Type} (enc : TypeId × Value → H) : ∃ places, DataW.whole enc Tryd.prog ((laidWorld Rows.vtparseWritesUptoRow.laid os).forCall (fun _ _ => 0) ⟨#[], #[.agg #[.int .i64 0, .int .i32 0, .int .u8 0, .int .u8 0, .slice none 0 0, .string ⟨#[]⟩, .string ⟨#[]⟩]], []⟩).memory Tryd.f11.params.toList Rows.vtparseWritesSpec.vars false #[.agg #[.int .i64 0, .int .i32 0, .int .u8 0, .int .u8 0, .slice none 0 0, .string ⟨#[]⟩, .string ⟨#[]⟩]].toList 8 = some ([.agg [.lit (.int .i64 0), .lit (.int .i32 0), .lit (.int .u8 0), .lit (.int .u8 0), .nil, .lit (.string []), .lit (.string [])]], [], places) :=
  ⟨[], by kernel_rfl⟩
theorem lifted (os : Os) (started : os.Started) (H : Type) (enc : TypeId × Value → H) (F : Stop.Interp) :
    ReturnsInHanded {} Tryd.checked os 11 .any ((Rows.OpenSpec.upto Rows.vtparseWritesSpec).preRow enc Tryd.prog Tryd.f11 Rows.vtparseWritesUptoRow.domain false Rows.vtparseWritesUptoRow.laid) (((Rows.OpenSpec.upto Rows.vtparseWritesSpec).at F).post enc Tryd.prog Tryd.f11 false true false false) := by
  obtain ⟨places, hx⟩ := reads os enc
  refine returnsInHanded_of_row (C := Tryd.checked) (s := Rows.OpenSpec.upto Rows.vtparseWritesSpec) own started (by kernel_rfl) Tryd.func11
    (witness_row_at (enc := enc) (C := Tryd.checked) false (laidWorld Rows.vtparseWritesUptoRow.laid os) #[.agg #[.int .i64 0, .int .i32 0, .int .u8 0, .int .u8 0, .slice none 0 0, .string ⟨#[]⟩, .string ⟨#[]⟩]] rfl (by kernel_rfl) (by kernel_rfl) (by kernel_rfl)
      (OpenSpec.preRow_of_cond 8 hx (by kernel_rfl) (fun k hk => by cases hk; kernel_rfl) (by kernel_rfl) (laid_met os))) ?_
  intro W base args ds gs before hval hW hc1 hc2 hc3 hL _ _
  first
    | exact contract H enc W base args ds gs before hval hW hL (hc1 _ rfl)
    | exact contract H enc W base args ds gs before hval hW hL (hc2 _ rfl)
    | exact contract H enc W base args ds gs before hval hW hL (hc3 _ rfl)
theorem said : Rows.VtparseWritesUptoSaid :=
  OpenClaim.holds_of_cond 11 Tryd.f11 rfl rfl rfl rfl rfl rfl rfl ⟨rfl, rfl, rfl, rfl, rfl⟩ rfl rfl rfl rfl rfl (by kernel_rfl) Tryd.func11 (by kernel_rfl)
    (of_decide_eq_true (by kernel_rfl)) (by unfold Func.isWrapper; first | (rw [if_pos (by decide +kernel)]; kernel_rfl) | (rw [if_neg (by decide +kernel)]; exact ⟨rfl, rfl⟩))
    (fun os started H enc _ F => by rw [OpenClaim.pre_eq_preRow]; exact lifted os started H enc F)
/-- No parameter wants a stand-in; the program's own looks are off. -/
theorem plain (f : FuncId) (fn : Func) (hf : Tryd.pinned.checked.prog.funcNamed "lanyard/lanyardlaw05.VtparseWrites" = some f) (hfn : Tryd.pinned.checked.prog.funcs[f]? = some fn) :
    false = Tryd.pinned.checked.prog.looks [] ∧ ∀ (j : Nat) t, fn.params[j]? = some t → Tryd.pinned.checked.prog.wantsStandIn t = false := by
  obtain rfl : f = 11 := Option.some.inj ((show Tryd.prog.funcNamed "lanyard/lanyardlaw05.VtparseWrites" = some 11 by kernel_rfl).symm.trans hf) |>.symm
  obtain rfl : fn = Tryd.f11 := (Option.some.inj (Tryd.func11.symm.trans hfn)).symm
  refine ⟨by kernel_rfl, fun j t ht => ?_⟩
  have h1 : (Tryd.f11.params.toList.all fun t => !Tryd.pinned.checked.prog.wantsStandIn t) = true := by kernel_rfl
  have h2 := List.all_eq_true.1 h1 t (Array.mem_toList_iff.2 (Array.mem_of_getElem? ht))
  simpa using h2
theorem card : Rows.VtparseWritesUptoCardSaid :=
  Claim7.holds_tied_plain_at .later [] _ _ _ _ said (fun _ h => by cases h) (by kernel_rfl) (fun _ h => by cases h) vtparseWritesUpto_row_tie rfl ⟨rfl, rfl⟩ (by kernel_rfl) rfl plain (by kernel_rfl)
end Go.Proofs.YtojdmhfkgkfpaaaDoor.vtparseWrites

