/- 'BlobConflict': whatever the arguments, the law answers true, and each argument reads behind the call as it did. Conditions: none. -/
import Derived.Test.YtahimopjohdkjaaRows
import Derived.Test.YtahimopjohdkjaaK5
namespace Go.Proofs.Ytahimopjohdkjaa
open Go.Eng Go.ChangeShapes Go.WideShapes Go.ChangeAt Go.RowKit
set_option linter.unusedVariables false

theorem ownBlobConflict : ownKnob Try.prog.godebug = none := by kernel_rfl
theorem laidBlobConflict : laidOutB Try.prog = true := by kernel_rfl
set_option maxRecDepth 100000 in
theorem liftedBlobConflict (os : Os) (started : os.Started) (H : Type) (enc : TypeId × Value → H) :
    ReturnsInHanded {} Try.checked os 7 .any (Rows.blobConflictSpec.pre6 enc Try.prog Try.f7 Rows.blobConflictRow.domain false) (Rows.blobConflictSpec.post enc Try.prog Try.f7 false true false false) := by
  refine returnsInHanded_of_change (C := Try.checked) ownBlobConflict started (by kernel_rfl) Try.func7
    (ChangeSpec.witness6 (enc := enc) (C := Try.checked) false ⟨#[], #[.slice none 0 0], []⟩ 8 (by kernel_rfl) (by kernel_rfl) (by kernel_rfl) (by kernel_rfl)) ?_
  intro W base args ds gs before hval0 hW hcnd _
  have hval : ∀ (j : Nat) t v, Try.f7.params[j]? = some t → args[j]? = some v → Value.okWide Try.prog W .any base t v := hval0
  have hW' := hW
  obtain ⟨p, q, hA0, hV, rfl, hfz, hnd⟩ := hW
  have hA : DataW.TrodAll enc Try.prog W 0 (fun _ => true) true [63] args.toList ds p := hA0
  have hall := hA
  obtain ⟨v0, vs0, d0, ds0, p0, q0, hargs, rfl, rfl, h0, r0⟩ := trodAll_cons hA
  obtain ⟨rfl, rfl, rfl⟩ := trodAll_nil r0
  obtain rfl : args = #[v0] := by cases args; simp_all
  obtain ⟨rfl, rfl⟩ := trodVars_none hV
  obtain ⟨sA0, sn0, sc0, rfl⟩ := okWide_slice (e := 33) (by kernel_rfl) (hval 0 63 v0 rfl rfl)
  obtain ⟨x0, hx0⟩ := open_arg (opens_list (t := 63) (e := 33) (sz := 1) (by kernel_rfl) (by kernel_rfl) (by decide) (opens_list (e := 5) (sz := 1) (by kernel_rfl) (by kernel_rfl) (by decide) (opens_int (k := .u8) (by kernel_rfl)))) h0
  have a0 := lb_of_rd hx0
  clear hA0 hval0
  refine (walk_BlobConflict a0).mono fun e W' ⟨he, bel⟩ => ?_
  subst he
  exact ⟨_, rfl, _, _, _, [], _, [], hW', trodAll_mk1 (shut_bool (TT.und (P := Try.prog) t_bool _ rfl rfl) _), trodAll_below laidBlobConflict bel.below (by kernel_rfl) (trodAll_lt hall) hall, rfl, bel.below.frame _, fun h => by cases h⟩

theorem overBlobConflict : Rows.blobConflictRow.holds Try.pinned (OpenSpec.ofChange Rows.blobConflictSpec) :=
  OpenClaim.holds_of_wide 7 Try.f7 rfl rfl rfl rfl rfl rfl rfl ⟨rfl, rfl, rfl, rfl, rfl⟩ rfl rfl rfl rfl rfl (by kernel_rfl) Try.func7 (by kernel_rfl)
    (of_decide_eq_true (by kernel_rfl)) (by unfold Func.isWrapper; first | (rw [if_pos (by decide +kernel)]; kernel_rfl) | (rw [if_neg (by decide +kernel)]; exact ⟨rfl, rfl⟩))
    (fun os started H enc _ => liftedBlobConflict os started H enc)

theorem provedBlobConflict : Rows.BlobConflictSaid := overBlobConflict
#print axioms provedBlobConflict
end Go.Proofs.Ytahimopjohdkjaa
