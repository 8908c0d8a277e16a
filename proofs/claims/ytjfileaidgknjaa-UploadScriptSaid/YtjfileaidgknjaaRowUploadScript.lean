/- 'UploadScript': whatever the arguments, the law answers true, and each argument reads behind the call as it did. Conditions: none. -/
import Derived.Test.YtjfileaidgknjaaRows
import Derived.Test.YtjfileaidgknjaaK7
namespace Go.Proofs.Ytjfileaidgknjaa
open Go.Eng Go.ChangeShapes Go.WideShapes Go.ChangeAt Go.RowKit
set_option linter.unusedVariables false

theorem ownUploadScript : ownKnob Try.prog.godebug = none := by kernel_rfl
theorem laidUploadScript : laidOutB Try.prog = true := by kernel_rfl
set_option maxRecDepth 100000 in
theorem liftedUploadScript (os : Os) (started : os.Started) (H : Type) (enc : TypeId × Value → H) :
    ReturnsInHanded {} Try.checked os 3 .any (Rows.uploadScriptSpec.pre6 enc Try.prog Try.f3 Rows.uploadScriptRow.domain false) (Rows.uploadScriptSpec.post enc Try.prog Try.f3 false true false false) := by
  refine returnsInHanded_of_change (C := Try.checked) ownUploadScript started (by kernel_rfl) Try.func3
    (ChangeSpec.witness6 (enc := enc) (C := Try.checked) false ⟨#[], #[.int .i64 0, .slice none 0 0], []⟩ 8 (by kernel_rfl) (by kernel_rfl) (by kernel_rfl) (by kernel_rfl)) ?_
  intro W base args ds gs before hval0 hW hcnd _
  have hval : ∀ (j : Nat) t v, Try.f3.params[j]? = some t → args[j]? = some v → Value.okWide Try.prog W .any base t v := hval0
  have hW' := hW
  obtain ⟨p, q, hA0, hV, rfl, hfz, hnd⟩ := hW
  have hA : DataW.TrodAll enc Try.prog W 0 (fun _ => true) true [3, 22] args.toList ds p := hA0
  have hall := hA
  obtain ⟨v0, vs0, d0, ds0, p0, q0, hargs, rfl, rfl, h0, r0⟩ := trodAll_cons hA
  obtain ⟨v1, vs1, d1, ds1, p1, q1, rfl, rfl, rfl, h1, r1⟩ := trodAll_cons r0
  obtain ⟨rfl, rfl, rfl⟩ := trodAll_nil r1
  obtain rfl : args = #[v0, v1] := by cases args; simp_all
  obtain ⟨rfl, rfl⟩ := trodVars_none hV
  obtain ⟨a0, rfl, rfl, rfl, w0⟩ := open_int (k := .i64) (by kernel_rfl) (hval 0 3 v0 rfl rfl) h0
  obtain ⟨sA1, sn1, sc1, rfl⟩ := okWide_slice (e := 35) (by kernel_rfl) (hval 1 22 v1 rfl rfl)
  obtain ⟨x1, hx1⟩ := open_arg (t := 22) (opens_list (e := 35) (sz := 7) (by kernel_rfl) (by kernel_rfl) (by decide) (opens_struct (fs := [⟨ "Kind", 3, 0, false, "", "", 0⟩, ⟨ "N", 3, 1, false, "", "", 8⟩, ⟨ "Offset", 3, 2, false, "", "", 16⟩, ⟨ "At", 3, 3, false, "", "", 24⟩, ⟨ "Turn", 5, 4, false, "", "", 32⟩, ⟨ "Repo", 9, 5, false, "", "", 40⟩, ⟨ "B", 33, 6, false, "", "", 56⟩]) (m := 7) (by kernel_rfl) (by kernel_rfl) (OpF.cons (n := 1) (m := 6) rfl (by kernel_rfl) (opens_int (k := .i64) (by kernel_rfl)) (OpF.cons (n := 1) (m := 5) rfl (by kernel_rfl) (opens_int (k := .i64) (by kernel_rfl)) (OpF.cons (n := 1) (m := 4) rfl (by kernel_rfl) (opens_int (k := .i64) (by kernel_rfl)) (OpF.cons (n := 1) (m := 3) rfl (by kernel_rfl) (opens_int (k := .i64) (by kernel_rfl)) (OpF.cons (n := 1) (m := 2) rfl (by kernel_rfl) (opens_int (k := .u8) (by kernel_rfl)) (OpF.cons (n := 1) (m := 1) rfl (by kernel_rfl) (opens_str (by kernel_rfl)) (OpF.one (n := 1) rfl (by kernel_rfl) (opens_list (e := 5) (sz := 1) (by kernel_rfl) (by kernel_rfl) (by decide) (opens_int (k := .u8) (by kernel_rfl)))))))))))) h1
  have a1 := lac_of_rd hx1
  clear hA0 hval0
  refine (walk_UploadScript a1).mono fun e W' ⟨he, bel⟩ => ?_
  subst he
  exact ⟨_, rfl, _, _, _, [], _, [], hW', trodAll_mk1 (shut_bool (TT.und (P := Try.prog) t_bool _ rfl rfl) _), trodAll_below laidUploadScript bel.below (by kernel_rfl) (trodAll_lt hall) hall, rfl, bel.below.frame _, fun h => by cases h⟩

theorem overUploadScript : Rows.uploadScriptRow.holds Try.pinned (OpenSpec.ofChange Rows.uploadScriptSpec) :=
  OpenClaim.holds_of_wide 3 Try.f3 rfl rfl rfl rfl rfl rfl rfl ⟨rfl, rfl, rfl, rfl, rfl⟩ rfl rfl rfl rfl rfl (by kernel_rfl) Try.func3 (by kernel_rfl)
    (of_decide_eq_true (by kernel_rfl)) (by unfold Func.isWrapper; first | (rw [if_pos (by decide +kernel)]; kernel_rfl) | (rw [if_neg (by decide +kernel)]; exact ⟨rfl, rfl⟩))
    (fun os started H enc _ => liftedUploadScript os started H enc)

theorem provedUploadScript : Rows.UploadScriptSaid := overUploadScript
#print axioms provedUploadScript
end Go.Proofs.Ytjfileaidgknjaa
