/- 'StableKnown': whatever the arguments, the law answers true, and each argument reads behind the call as it did. Conditions: none. -/
import Derived.Test.YtajbpdmhpcpkgaaRows
import Derived.Test.YtajbpdmhpcpkgaaJ9
namespace Go.Proofs.Ytajbpdmhpcpkgaa
open Go.Eng Go.ChangeShapes Go.WideShapes Go.ChangeAt Go.RowKit
set_option linter.unusedVariables false

theorem ownStableKnown : ownKnob Try.prog.godebug = none := by kernel_rfl
theorem laidStableKnown : laidOutB Try.prog = true := by kernel_rfl
set_option maxRecDepth 100000 in
theorem liftedStableKnown (os : Os) (started : os.Started) (H : Type) (enc : TypeId × Value → H) :
    ReturnsInHanded {} Try.checked os 3 .any (Rows.stableKnownSpec.pre6 enc Try.prog Try.f3 Rows.stableKnownRow.domain false) (Rows.stableKnownSpec.post enc Try.prog Try.f3 false true false false) := by
  refine returnsInHanded_of_change (C := Try.checked) ownStableKnown started (by kernel_rfl) Try.func3
    (ChangeSpec.witness6 (enc := enc) (C := Try.checked) false ⟨#[], #[], []⟩ 8 (by kernel_rfl) (by kernel_rfl) (by kernel_rfl) (by kernel_rfl)) ?_
  intro W base args ds gs before hval0 hW hcnd _
  have hval : ∀ (j : Nat) t v, Try.f3.params[j]? = some t → args[j]? = some v → Value.okWide Try.prog W .any base t v := hval0
  have hW' := hW
  obtain ⟨p, q, hA0, hV, rfl, hfz, hnd⟩ := hW
  have hA : DataW.TrodAll enc Try.prog W 0 (fun _ => true) true [] args.toList ds p := hA0
  have hall := hA
  obtain ⟨hargs, rfl, rfl⟩ := trodAll_nil hA
  obtain rfl : args = #[] := by cases args; simp_all
  obtain ⟨rfl, rfl⟩ := trodVars_none hV
  clear hA0 hval0
  refine (walk_StableKnown ).mono fun e W' ⟨he, bel⟩ => ?_
  subst he
  exact ⟨_, rfl, _, _, _, [], _, [], hW', trodAll_mk1 (shut_bool (TT.und (P := Try.prog) t_bool _ rfl rfl) _), trodAll_below laidStableKnown bel.below (by kernel_rfl) (trodAll_lt hall) hall, rfl, bel.below.frame _, fun h => by cases h⟩

theorem overStableKnown : Rows.stableKnownRow.holds Try.pinned (OpenSpec.ofChange Rows.stableKnownSpec) :=
  OpenClaim.holds_of_wide 3 Try.f3 rfl rfl rfl rfl rfl rfl rfl ⟨rfl, rfl, rfl, rfl, rfl⟩ rfl rfl rfl rfl rfl (by kernel_rfl) Try.func3 (by kernel_rfl)
    (of_decide_eq_true (by kernel_rfl)) (by unfold Func.isWrapper; first | (rw [if_pos (by decide +kernel)]; kernel_rfl) | (rw [if_neg (by decide +kernel)]; exact ⟨rfl, rfl⟩))
    (fun os started H enc _ => liftedStableKnown os started H enc)

theorem provedStableKnown : Rows.StableKnownSaid := overStableKnown
#print axioms provedStableKnown
end Go.Proofs.Ytajbpdmhpcpkgaa
