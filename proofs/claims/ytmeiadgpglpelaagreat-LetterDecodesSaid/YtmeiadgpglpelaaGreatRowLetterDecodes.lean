/- 'LetterDecodes': whatever the arguments, the law answers true, and each argument reads behind the call as it did. Conditions: none. -/
import Derived.Test.YtmeiadgpglpelaaGreatRows
import Derived.Test.YtmeiadgpglpelaaGreatM10
namespace Go.Proofs.YtmeiadgpglpelaaGreat
open Go.Eng Go.ChangeShapes Go.WideShapes Go.ChangeAt Go.RowKit
set_option linter.unusedVariables false

theorem ownLetterDecodes : ownKnob Tryz.prog.godebug = none := by kernel_rfl
theorem laidLetterDecodes : laidOutB Tryz.prog = true := by kernel_rfl
set_option maxRecDepth 100000 in
theorem liftedLetterDecodes (os : Os) (started : os.Started) (H : Type) (enc : TypeId × Value → H) :
    ReturnsInHanded {} Tryz.checked os 4 .any (Rows.letterDecodesSpec.pre6 enc Tryz.prog Tryz.f4 Rows.letterDecodesRow.domain false) (Rows.letterDecodesSpec.post enc Tryz.prog Tryz.f4 false true false false) := by
  refine returnsInHanded_of_change (C := Tryz.checked) ownLetterDecodes started (by kernel_rfl) Tryz.func4
    (ChangeSpec.witness6 (enc := enc) (C := Tryz.checked) false ⟨#[], #[.slice none 0 0], []⟩ 8 (by kernel_rfl) (by kernel_rfl) (by kernel_rfl) (by kernel_rfl)) ?_
  intro W base args ds gs before hval0 hW hcnd _
  have hval : ∀ (j : Nat) t v, Tryz.f4.params[j]? = some t → args[j]? = some v → Value.okWide Tryz.prog W .any base t v := hval0
  have hW' := hW
  obtain ⟨p, q, hA0, hV, rfl, hfz, hnd⟩ := hW
  have hA : DataW.TrodAll enc Tryz.prog W 0 (fun _ => true) true [28] args.toList ds p := hA0
  have hall := hA
  obtain ⟨v0, vs0, d0, ds0, p0, q0, hargs, rfl, rfl, h0, r0⟩ := trodAll_cons hA
  obtain ⟨rfl, rfl, rfl⟩ := trodAll_nil r0
  obtain rfl : args = #[v0] := by cases args; simp_all
  obtain ⟨rfl, rfl⟩ := trodVars_none hV
  obtain ⟨sA0, sn0, sc0, rfl⟩ := okWide_slice (e := 5) (by kernel_rfl) (hval 0 28 v0 rfl rfl)
  obtain ⟨x0, hx0⟩ := open_arg (t := 28) (opens_list (e := 5) (sz := 1) (by kernel_rfl) (by kernel_rfl) (by decide) (opens_int (k := .u8) (by kernel_rfl))) h0
  have a0 := vlw_of_rd hx0
  clear hA0 hval0
  refine (walk_LetterDecodes a0).mono fun e W' ⟨he, bel⟩ => ?_
  subst he
  exact ⟨_, rfl, _, _, _, [], _, [], hW', trodAll_mk1 (shut_bool (TT.und (P := Tryz.prog) t_bool _ rfl rfl) _), trodAll_below laidLetterDecodes bel.below (by kernel_rfl) (trodAll_lt hall) hall, rfl, bel.below.frame _, fun h => by cases h⟩

theorem overLetterDecodes : Rows.letterDecodesRow.holds Tryz.pinned (OpenSpec.ofChange Rows.letterDecodesSpec) :=
  OpenClaim.holds_of_wide 4 Tryz.f4 rfl rfl rfl rfl rfl rfl rfl ⟨rfl, rfl, rfl, rfl, rfl⟩ rfl rfl rfl rfl rfl (by kernel_rfl) Tryz.func4 (by kernel_rfl)
    (of_decide_eq_true (by kernel_rfl)) (by unfold Func.isWrapper; first | (rw [if_pos (by decide +kernel)]; kernel_rfl) | (rw [if_neg (by decide +kernel)]; exact ⟨rfl, rfl⟩))
    (fun os started H enc _ => liftedLetterDecodes os started H enc)

theorem provedLetterDecodes : Rows.LetterDecodesSaid := overLetterDecodes
#print axioms provedLetterDecodes
end Go.Proofs.YtmeiadgpglpelaaGreat
