/- CompleteFinds answers true for every input of bulk at most 1048576; conditions: the second form's bound, the listed tables. -/
import Derived.Test.YtbhehldefflhpaaDoorCards
import Derived.Test.YtbhehldefflhpaaDoorTie
import Derived.Test.YtbhehldefflhpaaDoorFu
import Derived.Test.YtbhehldefflhpaaDoorTb
import Derived.Test.YtbhehldefflhpaaDoorLw
import Derived.WalkKit
import Derived.ProofKit
import Derived.OpenShut
import Derived.Deep.DeepHandedRow
import Derived.Lib.LaidTab
set_option linter.unusedVariables false
set_option maxRecDepth 100000
namespace Go.Proofs.YtbhehldefflhpaaDoor.completeFinds
open Go.ChangeShapes Go.WideShapes Go.ChangeAt Go.RowKit Go.AM
theorem true3 {l : List Dat} {n : Int} (hl : 2 * l.length ≤ bigF) : m3 l n tb := v3 hl trivial
theorem rule3 (l : List Dat) (n : Int) : R3 [.ro (.int .i32) l, .c (.int .i64 n)] h0 isTrue = m3 l n tb := by kernel_rfl
theorem own : ownKnob Tryd.prog.godebug = none := by kernel_rfl
theorem contract (H : Type) (enc : TypeId × Value → H) (W : World) (base : Nat) (args : Array Value) (ds gs : List (DataW H)) (before : List MemPlace)
    (hval : ∀ (j : Nat) t v, Tryd.f3.params[j]? = some t → args[j]? = some v → Value.okWide Tryd.prog W .any base t v)
    (hW : DataW.Whole enc Tryd.prog Tryd.f3.params.toList Rows.completeFindsSpec.vars false W args.toList ds gs before) (hL : laidMetH Tryd.prog Rows.completeFindsUptoRow.laid W) (hk : Rows.uptoSmall H (ds ++ gs) = true) :
    Calls Tryd.prog 3 args W fun e W' => ∃ v, e = .returned v ∧ Rows.completeFindsSpec.post enc Tryd.prog Tryd.f3 false true false false W args v W' := by
  have one : ∃ d0 d1, ds = [d0, d1] := by
    obtain ⟨p, q, hA, hV, _⟩ := hW
    rw [Tryd.params3] at hA
    obtain ⟨v0, vs0, d0, ds0, p0, q0, hargs0, rfl, rfl, h0, r0⟩ := trodAll_cons hA
    obtain ⟨v1, vs1, d1, ds1, p1, q1, hargs1, rfl, rfl, h1, r1⟩ := trodAll_cons r0
    obtain ⟨rfl, rfl, rfl⟩ := trodAll_nil r1
    exact ⟨d0, d1, rfl⟩
  obtain ⟨d0, d1, rfl⟩ := one
  have hgs : gs = [] := by
    obtain ⟨p, q, hA, hV, _⟩ := hW
    obtain ⟨rfl, _⟩ := trodVars_none hV
    rfl
  subst hgs
  refine law_contractR ok3 (tb := 4) (ss := [.slice (.int .i32), .int .i64]) (tabs_laid hL) hval hW rfl (by kernel_rfl) (by kernel_rfl) (fun hl => rfl) (by kernel_rfl) (by kernel_rfl) (by kernel_rfl) (fun hF => ?_)
  refine ⟨[.ro (.int .i32) (toDat (.slice (.int .i32)) d0).toList, .c (.int .i64 (toDat (.int .i64) d1).toInt)], by kernel_rfl, ?_⟩
  rw [rule3]
  have hf0 := hF (.slice (.int .i32), d0) (by simp)
  have hf1 := hF (.int .i64, d1) (by simp)
  have hb := bound hk
  have hb0 := bulk_mem (d := d0) (l := [d0, d1] ++ []) (by simp)
  have hb1 := bulk_mem (d := d1) (l := [d0, d1] ++ []) (by simp)
  have h2 := slice_len (.int .i32) d0
  have hbig : bigF = 1000000000 := rfl
  exact true3 (by omega)
theorem laid_met (os : Os) : laidMet Tryd.prog Rows.completeFindsUptoRow.laid (((laidWorld Rows.completeFindsUptoRow.laid os).forCall (fun _ _ => 0) ⟨#[], #[.slice none 0 0, .int .i64 0], []⟩)).memory :=
  laidMet_of_run' 8 (by kernel_rfl) (by kernel_rfl)
theorem reads (os : Os) {H : Type} (enc : TypeId × Value → H) : ∃ places, DataW.whole enc Tryd.prog ((laidWorld Rows.completeFindsUptoRow.laid os).forCall (fun _ _ => 0) ⟨#[], #[.slice none 0 0, .int .i64 0], []⟩).memory Tryd.f3.params.toList Rows.completeFindsSpec.vars false #[Value.slice none 0 0, .int .i64 0].toList 8 = some ([.nil, .lit (.int .i64 0)], [], places) :=
  ⟨[], by kernel_rfl⟩
theorem lifted (os : Os) (started : os.Started) (H : Type) (enc : TypeId × Value → H) (F : Stop.Interp) :
    ReturnsInHanded {} Tryd.checked os 3 .any ((Rows.OpenSpec.upto Rows.completeFindsSpec).preRow enc Tryd.prog Tryd.f3 Rows.completeFindsUptoRow.domain false Rows.completeFindsUptoRow.laid) (((Rows.OpenSpec.upto Rows.completeFindsSpec).at F).post enc Tryd.prog Tryd.f3 false true false false) := by
  obtain ⟨places, hx⟩ := reads os enc
  refine returnsInHanded_of_row (C := Tryd.checked) (s := Rows.OpenSpec.upto Rows.completeFindsSpec) own started (by kernel_rfl) Tryd.func3
    (witness_row_at (enc := enc) (C := Tryd.checked) false (laidWorld Rows.completeFindsUptoRow.laid os) #[.slice none 0 0, .int .i64 0] rfl (by kernel_rfl) (by kernel_rfl) (by kernel_rfl)
      (OpenSpec.preRow_of_cond 8 hx (by kernel_rfl) (fun k hk => by cases hk; kernel_rfl) (by kernel_rfl) (laid_met os))) ?_
  intro W base args ds gs before hval hW hc1 hc2 hc3 hL _ _
  first
    | exact contract H enc W base args ds gs before hval hW hL (hc1 _ rfl)
    | exact contract H enc W base args ds gs before hval hW hL (hc2 _ rfl)
    | exact contract H enc W base args ds gs before hval hW hL (hc3 _ rfl)
theorem said : Rows.CompleteFindsUptoSaid :=
  OpenClaim.holds_of_cond 3 Tryd.f3 rfl rfl rfl rfl rfl rfl rfl ⟨rfl, rfl, rfl, rfl, rfl⟩ rfl rfl rfl rfl rfl (by kernel_rfl) Tryd.func3 (by kernel_rfl)
    (of_decide_eq_true (by kernel_rfl)) (by unfold Func.isWrapper; first | (rw [if_pos (by decide +kernel)]; kernel_rfl) | (rw [if_neg (by decide +kernel)]; exact ⟨rfl, rfl⟩))
    (fun os started H enc _ F => by rw [OpenClaim.pre_eq_preRow]; exact lifted os started H enc F)
/-- No parameter wants a stand-in; the program's own looks are off. -/
theorem plain (f : FuncId) (fn : Func) (hf : Tryd.pinned.checked.prog.funcNamed "lanyard/lanyardlaw21.CompleteFinds" = some f) (hfn : Tryd.pinned.checked.prog.funcs[f]? = some fn) :
    false = Tryd.pinned.checked.prog.looks [] ∧ ∀ (j : Nat) t, fn.params[j]? = some t → Tryd.pinned.checked.prog.wantsStandIn t = false := by
  obtain rfl : f = 3 := Option.some.inj ((show Tryd.prog.funcNamed "lanyard/lanyardlaw21.CompleteFinds" = some 3 by kernel_rfl).symm.trans hf) |>.symm
  obtain rfl : fn = Tryd.f3 := (Option.some.inj (Tryd.func3.symm.trans hfn)).symm
  refine ⟨by kernel_rfl, fun j t ht => ?_⟩
  have h1 : (Tryd.f3.params.toList.all fun t => !Tryd.pinned.checked.prog.wantsStandIn t) = true := by kernel_rfl
  have h2 := List.all_eq_true.1 h1 t (Array.mem_toList_iff.2 (Array.mem_of_getElem? ht))
  simpa using h2
theorem card : Rows.CompleteFindsUptoCardSaid :=
  Claim7.holds_tied_plain_at .later [] _ _ _ _ said (fun _ h => by cases h) (by kernel_rfl) (fun _ h => by cases h) completeFindsUpto_row_tie rfl ⟨rfl, rfl⟩ (by kernel_rfl) rfl plain (by kernel_rfl)
end Go.Proofs.YtbhehldefflhpaaDoor.completeFinds
