import Derived.Test.YtlipmagkplbkdaaDoorZ17
import Derived.Test.YtlipmagkplbkdaaDoorLd
import Derived.Test.YtlipmagkplbkdaaDoorRows
import Derived.ProofKit
import Derived.OpenShut
import Derived.ShutString
import Derived.ChangeOld
import Derived.LaidMore
import Derived.Lay
import Derived.Stop.Joined
import Derived.SevenTiedAt
import Derived.Test.YtlipmagkplbkdaaDoorTie
import Derived.Test.YtlipmagkplbkdaaDoorCards
namespace Go.Proofs.YtlipmagkplbkdaaDoor.chanceNames
open Go.ChangeShapes Go.WideShapes Go.ChangeAt Go.RowKit Go.Conc
open Go.ChangeMaps (open_string shut_string)
set_option linter.unusedVariables false
theorem own : ownKnob Tryd.prog.godebug = none := by kernel_rfl
theorem laidOut : laidOutB Tryd.prog = true := by kernel_rfl
set_option maxRecDepth 100000 in
theorem lifted (os : Os) (started : os.Started) (H : Type) (enc : TypeId × Value → H) :
    ReturnsInLeavingWide {} Tryd.checked os 7 .any (fun w args => (Rows.chanceNamesSpec.pre enc Tryd.prog Tryd.f7 Rows.chanceNamesRow.domain false w args ∧ laidMetH Tryd.prog Rows.chanceNamesRow.laid w) ∧ sizedMet enc Tryd.prog Tryd.f7 (OpenSpec.ofChange Rows.chanceNamesSpec) false w args)
      (Rows.chanceNamesSpec.post enc Tryd.prog Tryd.f7 false true false false) := by
  refine change_leaving (C := Tryd.checked) (X := fun w _ => laidMetH Tryd.prog Rows.chanceNamesRow.laid w) (fun _ _ _ hh h => h.of_heap hh) own started Tryd.func7
    (ChangeSpec.witness_shaped (enc := enc) (C := Tryd.checked) (os := os) (X := fun w _ => laidMetH Tryd.prog Rows.chanceNamesRow.laid w) false (World.laidAll Tryd.prog os Rows.chanceNamesRow.laid) #[] 8 (World.laidAll_os _ _ _) (World.shaped_of_ZipB (by kernel_rfl) (by kernel_rfl)) (by kernel_rfl) (by kernel_rfl) (by kernel_rfl) (by rw [MakeChecks.laidMetH_plain _ _ _ (by kernel_rfl)]; exact laidMet_laidAll _ (by kernel_rfl) (by kernel_rfl))) ?_
  intro W base args ds gs before hval0 hW _ _ hsh hL _
  have hval : ∀ (j : Nat) t v, Tryd.f7.params[j]? = some t → args[j]? = some v → Value.okWide Tryd.prog W .any base t v := hval0
  have hW' := hW
  obtain ⟨p, q, hA0, hV, rfl, hfz, hnd⟩ := hW
  have hA : DataW.TrodAll enc Tryd.prog W 0 (fun _ => true) true Tryd.f7.params.toList args.toList ds p := hA0
  rw [Tryd.params7] at hA hval
  obtain ⟨hargs, rfl, rfl⟩ := trodAll_nil hA
  obtain rfl : args = #[] := by cases args; simp_all
  obtain ⟨rfl, rfl⟩ := trodVars_none hV
  clear hA0 hval0
  have hL1 : laidMet Tryd.prog Rows.chanceNamesRow.laid W := by rw [MakeChecks.laidMetH_plain _ _ _ (by kernel_rfl)] at hL; exact hL
  have htab : TabAt W := tabAt_of hL1
  have hgat : GAt W := gAt_of htab
  have hgl := glok_of hsh
  have htv : TabAt (cleanW SR W) := tab_clean htab
  have hgv : GAt (cleanW SR W) := gat_clean hgat
  refine (ends_of_view ctxR hgl.1 hgl.2 (asRel_list fun x hx => ?_) (na_ms htv hgv)).mono fun e W' ⟨he, bel⟩ => ?_
  · simp at hx
  subst he
  exact ⟨_, _, _, [], _, [], hW', trodAll_mk1 (shut_bool Tryd.underlying4 _), trodAll_mk0, rfl, bel.frame _, fun h => by cases h⟩
theorem over : Rows.chanceNamesRow.holds Tryd.pinned (OpenSpec.ofChange Rows.chanceNamesSpec) :=
  OpenClaim.holds_of_wide_leaving 7 Tryd.f7 rfl rfl rfl rfl rfl rfl rfl ⟨rfl, rfl, rfl, rfl, rfl⟩ rfl rfl rfl rfl rfl (by kernel_rfl) Tryd.func7 (by kernel_rfl)
    (of_decide_eq_true (by kernel_rfl)) (by unfold Func.isWrapper; first | (rw [if_pos (by decide +kernel)]; kernel_rfl) | (rw [if_neg (by decide +kernel)]; exact ⟨rfl, rfl⟩))
    (fun os started H enc _ => lifted os started H enc)
theorem plain (f : FuncId) (fn : Func) (hf : Tryd.pinned.checked.prog.funcNamed "gambrel/gambrellaw09.ChanceNames" = some f) (hfn : Tryd.pinned.checked.prog.funcs[f]? = some fn) :
    false = Tryd.pinned.checked.prog.looks [] ∧ ∀ (j : Nat) t, fn.params[j]? = some t → Tryd.pinned.checked.prog.wantsStandIn t = false := by
  obtain rfl : f = 7 := Option.some.inj ((show Tryd.prog.funcNamed "gambrel/gambrellaw09.ChanceNames" = some 7 by kernel_rfl).symm.trans hf) |>.symm
  obtain rfl : fn = Tryd.f7 := (Option.some.inj (Tryd.func7.symm.trans hfn)).symm
  refine ⟨by kernel_rfl, fun j t ht => ?_⟩
  rw [Tryd.params7] at ht
  simp at ht
theorem proved : Rows.ChanceNamesCardSaid :=
  holds_tied_goes .later _ _ _ _ over (by kernel_rfl) chanceNames_row_tie rfl ⟨rfl, rfl⟩ (by kernel_rfl) rfl plain (by kernel_rfl)
#print axioms proved
end Go.Proofs.YtlipmagkplbkdaaDoor.chanceNames
