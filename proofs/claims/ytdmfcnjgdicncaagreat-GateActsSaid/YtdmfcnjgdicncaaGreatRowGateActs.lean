/- 'GateActs': whatever the arguments, the law answers true, and each argument reads behind the call as it did. Conditions: none. -/
import Derived.Test.YtdmfcnjgdicncaaGreatRows
import Derived.Test.YtdmfcnjgdicncaaGreatR12
import Derived.Test.YtdmfcnjgdicncaaGreatR10
namespace Go.Proofs.YtdmfcnjgdicncaaGreat
open Go.Eng Go.ChangeShapes Go.WideShapes Go.ChangeAt Go.RowKit
set_option linter.unusedVariables false

theorem ownGateActs : ownKnob Tryz.prog.godebug = none := by kernel_rfl
theorem laidGateActs : laidOutB Tryz.prog = true := by kernel_rfl
set_option maxRecDepth 100000 in
theorem liftedGateActs (os : Os) (started : os.Started) (H : Type) (enc : TypeId × Value → H) :
    ReturnsInHanded {} Tryz.checked os 7 .any (Rows.gateActsSpec.pre6 enc Tryz.prog Tryz.f7 Rows.gateActsRow.domain false) (Rows.gateActsSpec.post enc Tryz.prog Tryz.f7 false true false false) := by
  refine returnsInHanded_of_change (C := Tryz.checked) ownGateActs started (by kernel_rfl) Tryz.func7
    (ChangeSpec.witness6 (enc := enc) (C := Tryz.checked) false ⟨#[], #[.int .i64 0, .int .i64 0, .int .i64 0, .slice none 0 0], []⟩ 8 (by kernel_rfl) (by kernel_rfl) (by kernel_rfl) (by kernel_rfl)) ?_
  intro W base args ds gs before hval0 hW hcnd _
  have hval : ∀ (j : Nat) t v, Tryz.f7.params[j]? = some t → args[j]? = some v → Value.okWide Tryz.prog W .any base t v := hval0
  have hW' := hW
  obtain ⟨p, q, hA0, hV, rfl, hfz, hnd⟩ := hW
  have hA : DataW.TrodAll enc Tryz.prog W 0 (fun _ => true) true [3, 3, 3, 75] args.toList ds p := hA0
  have hall := hA
  obtain ⟨v0, vs0, d0, ds0, p0, q0, hargs, rfl, rfl, h0, r0⟩ := trodAll_cons hA
  obtain ⟨v1, vs1, d1, ds1, p1, q1, rfl, rfl, rfl, h1, r1⟩ := trodAll_cons r0
  obtain ⟨v2, vs2, d2, ds2, p2, q2, rfl, rfl, rfl, h2, r2⟩ := trodAll_cons r1
  obtain ⟨v3, vs3, d3, ds3, p3, q3, rfl, rfl, rfl, h3, r3⟩ := trodAll_cons r2
  obtain ⟨rfl, rfl, rfl⟩ := trodAll_nil r3
  obtain rfl : args = #[v0, v1, v2, v3] := by cases args; simp_all
  obtain ⟨rfl, rfl⟩ := trodVars_none hV
  obtain ⟨a0, rfl, rfl, rfl, w0⟩ := open_int (k := .i64) (by kernel_rfl) (hval 0 3 v0 rfl rfl) h0
  obtain ⟨a1, rfl, rfl, rfl, w1⟩ := open_int (k := .i64) (by kernel_rfl) (hval 1 3 v1 rfl rfl) h1
  obtain ⟨a2, rfl, rfl, rfl, w2⟩ := open_int (k := .i64) (by kernel_rfl) (hval 2 3 v2 rfl rfl) h2
  obtain ⟨sA3, sn3, sc3, rfl⟩ := okWide_slice (e := 81) (by kernel_rfl) (hval 3 75 v3 rfl rfl)
  obtain ⟨x3, hx3⟩ := ayn (t := 75) (aad (e := 81) (sz := 76) (by kernel_rfl) (by kernel_rfl) (by decide) (vn (fs := [⟨ "Kind", 3, 0, false, "", "", 0⟩, ⟨ "Event", 29, 1, false, "", "", 8⟩, ⟨ "From", 3, 40, false, "", "", 144⟩, ⟨ "Dot", 23, 41, false, "", "", 152⟩, ⟨ "ID", 26, 43, false, "", "", 168⟩, ⟨ "B", 30, 75, false, "", "", 200⟩]) (m := 76) (by kernel_rfl) (by kernel_rfl) (OpF.cons (n := 1) (m := 75) rfl (by kernel_rfl) (n4 (k := .i64) (by kernel_rfl)) (OpF.cons (n := 39) (m := 36) rfl (by kernel_rfl) (vn (fs := [⟨ "Dot", 23, 0, false, "", "", 0⟩, ⟨ "Deps", 24, 2, false, "", "", 16⟩, ⟨ "Kind", 3, 3, false, "", "", 40⟩, ⟨ "Repo", 9, 4, false, "", "", 48⟩, ⟨ "Tag", 9, 5, false, "", "", 64⟩, ⟨ "ID", 26, 6, false, "", "", 80⟩, ⟨ "Refs", 27, 38, false, "", "", 112⟩]) (m := 39) (by kernel_rfl) (by kernel_rfl) (OpF.cons (n := 2) (m := 37) rfl (by kernel_rfl) (vn (fs := [⟨ "R", 3, 0, false, "", "", 0⟩, ⟨ "N", 3, 1, false, "", "", 8⟩]) (m := 2) (by kernel_rfl) (by kernel_rfl) (OpF.cons (n := 1) (m := 1) rfl (by kernel_rfl) (n4 (k := .i64) (by kernel_rfl)) (OpF.one (n := 1) rfl (by kernel_rfl) (n4 (k := .i64) (by kernel_rfl))))) (OpF.cons (n := 1) (m := 36) rfl (by kernel_rfl) (aad (e := 3) (sz := 1) (by kernel_rfl) (by kernel_rfl) (by decide) (n4 (k := .i64) (by kernel_rfl))) (OpF.cons (n := 1) (m := 35) rfl (by kernel_rfl) (n4 (k := .i64) (by kernel_rfl)) (OpF.cons (n := 1) (m := 34) rfl (by kernel_rfl) (al8 (by kernel_rfl)) (OpF.cons (n := 1) (m := 33) rfl (by kernel_rfl) (al8 (by kernel_rfl)) (OpF.cons (n := 32) (m := 1) rfl (by kernel_rfl) (agt (e := 5) (n := 32) (k := .u8) (by kernel_rfl) (by kernel_rfl) (by kernel_rfl) (by kernel_rfl)) (OpF.one (n := 1) rfl (by kernel_rfl) (aad (e := 26) (sz := 32) (by kernel_rfl) (by kernel_rfl) (by decide) (agt (e := 5) (n := 32) (k := .u8) (by kernel_rfl) (by kernel_rfl) (by kernel_rfl) (by kernel_rfl))))))))))) (OpF.cons (n := 1) (m := 35) rfl (by kernel_rfl) (n4 (k := .i64) (by kernel_rfl)) (OpF.cons (n := 2) (m := 33) rfl (by kernel_rfl) (vn (fs := [⟨ "R", 3, 0, false, "", "", 0⟩, ⟨ "N", 3, 1, false, "", "", 8⟩]) (m := 2) (by kernel_rfl) (by kernel_rfl) (OpF.cons (n := 1) (m := 1) rfl (by kernel_rfl) (n4 (k := .i64) (by kernel_rfl)) (OpF.one (n := 1) rfl (by kernel_rfl) (n4 (k := .i64) (by kernel_rfl))))) (OpF.cons (n := 32) (m := 1) rfl (by kernel_rfl) (agt (e := 5) (n := 32) (k := .u8) (by kernel_rfl) (by kernel_rfl) (by kernel_rfl) (by kernel_rfl)) (OpF.one (n := 1) rfl (by kernel_rfl) (aad (e := 5) (sz := 1) (by kernel_rfl) (by kernel_rfl) (by decide) (n4 (k := .u8) (by kernel_rfl))))))))))) h3
  have a3 := axk hx3
  clear hA0 hval0
  refine (alz a3).mono fun e W' ⟨he, bel⟩ => ?_
  subst he
  exact ⟨_, rfl, _, _, _, [], _, [], hW', trodAll_mk1 (shut_bool (TT.und (P := Tryz.prog) ab8 _ rfl rfl) _), ad4 laidGateActs bel.below (by kernel_rfl) (ai6 hall) hall, rfl, bel.below.frame _, fun h => by cases h⟩

theorem overGateActs : Rows.gateActsRow.holds Tryz.pinned (OpenSpec.ofChange Rows.gateActsSpec) :=
  OpenClaim.holds_of_wide 7 Tryz.f7 rfl rfl rfl rfl rfl rfl rfl ⟨rfl, rfl, rfl, rfl, rfl⟩ rfl rfl rfl rfl rfl (by kernel_rfl) Tryz.func7 (by kernel_rfl)
    (of_decide_eq_true (by kernel_rfl)) (by unfold Func.isWrapper; first | (rw [if_pos (by decide +kernel)]; kernel_rfl) | (rw [if_neg (by decide +kernel)]; exact ⟨rfl, rfl⟩))
    (fun os started H enc _ => liftedGateActs os started H enc)

theorem provedGateActs : Rows.GateActsSaid := overGateActs
#print axioms provedGateActs
end Go.Proofs.YtdmfcnjgdicncaaGreat
