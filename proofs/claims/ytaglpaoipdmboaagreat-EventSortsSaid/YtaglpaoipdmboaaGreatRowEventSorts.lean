/- 'EventSorts': whatever the arguments, the law answers true, and each argument reads behind the call as it did. Conditions: none. -/
import Derived.Test.YtaglpaoipdmboaaGreatRows
import Derived.Test.YtaglpaoipdmboaaGreatK8
namespace Go.Proofs.YtaglpaoipdmboaaGreat
open Go.Eng Go.ChangeShapes Go.WideShapes Go.ChangeAt Go.RowKit
set_option linter.unusedVariables false

theorem ownEventSorts : ownKnob Tryz.prog.godebug = none := by kernel_rfl
theorem laidEventSorts : laidOutB Tryz.prog = true := by kernel_rfl
set_option maxRecDepth 100000 in
theorem liftedEventSorts (os : Os) (started : os.Started) (H : Type) (enc : TypeId × Value → H) :
    ReturnsInHanded {} Tryz.checked os 8 .any (Rows.eventSortsSpec.pre6 enc Tryz.prog Tryz.f8 Rows.eventSortsRow.domain false) (Rows.eventSortsSpec.post enc Tryz.prog Tryz.f8 false true false false) := by
  refine returnsInHanded_of_change (C := Tryz.checked) ownEventSorts started (by kernel_rfl) Tryz.func8
    (ChangeSpec.witness6 (enc := enc) (C := Tryz.checked) false ⟨#[], #[.slice none 0 0], []⟩ 8 (by kernel_rfl) (by kernel_rfl) (by kernel_rfl) (by kernel_rfl)) ?_
  intro W base args ds gs before hval0 hW hcnd _
  have hval : ∀ (j : Nat) t v, Tryz.f8.params[j]? = some t → args[j]? = some v → Value.okWide Tryz.prog W .any base t v := hval0
  have hW' := hW
  obtain ⟨p, q, hA0, hV, rfl, hfz, hnd⟩ := hW
  have hA : DataW.TrodAll enc Tryz.prog W 0 (fun _ => true) true [48] args.toList ds p := hA0
  have hall := hA
  obtain ⟨v0, vs0, d0, ds0, p0, q0, hargs, rfl, rfl, h0, r0⟩ := trodAll_cons hA
  obtain ⟨rfl, rfl, rfl⟩ := trodAll_nil r0
  obtain rfl : args = #[v0] := by cases args; simp_all
  obtain ⟨rfl, rfl⟩ := trodVars_none hV
  obtain ⟨sA0, sn0, sc0, rfl⟩ := okWide_slice (e := 29) (by kernel_rfl) (hval 0 48 v0 rfl rfl)
  obtain ⟨x0, hx0⟩ := open_arg (t := 48) (opens_list (e := 29) (sz := 39) (by kernel_rfl) (by kernel_rfl) (by decide) (opens_struct (fs := [⟨ "Dot", 23, 0, false, "", "", 0⟩, ⟨ "Deps", 24, 2, false, "", "", 16⟩, ⟨ "Kind", 3, 3, false, "", "", 40⟩, ⟨ "Repo", 9, 4, false, "", "", 48⟩, ⟨ "Tag", 9, 5, false, "", "", 64⟩, ⟨ "ID", 26, 6, false, "", "", 80⟩, ⟨ "Refs", 27, 38, false, "", "", 112⟩]) (m := 39) (by kernel_rfl) (by kernel_rfl) (OpF.cons (n := 2) (m := 37) rfl (by kernel_rfl) (opens_struct (fs := [⟨ "R", 3, 0, false, "", "", 0⟩, ⟨ "N", 3, 1, false, "", "", 8⟩]) (m := 2) (by kernel_rfl) (by kernel_rfl) (OpF.cons (n := 1) (m := 1) rfl (by kernel_rfl) (opens_int (k := .i64) (by kernel_rfl)) (OpF.one (n := 1) rfl (by kernel_rfl) (opens_int (k := .i64) (by kernel_rfl))))) (OpF.cons (n := 1) (m := 36) rfl (by kernel_rfl) (opens_list (e := 3) (sz := 1) (by kernel_rfl) (by kernel_rfl) (by decide) (opens_int (k := .i64) (by kernel_rfl))) (OpF.cons (n := 1) (m := 35) rfl (by kernel_rfl) (opens_int (k := .i64) (by kernel_rfl)) (OpF.cons (n := 1) (m := 34) rfl (by kernel_rfl) (opens_str (by kernel_rfl)) (OpF.cons (n := 1) (m := 33) rfl (by kernel_rfl) (opens_str (by kernel_rfl)) (OpF.cons (n := 32) (m := 1) rfl (by kernel_rfl) (opens_arr (e := 5) (n := 32) (k := .u8) (by kernel_rfl) (by kernel_rfl) (by kernel_rfl) (by kernel_rfl)) (OpF.one (n := 1) rfl (by kernel_rfl) (opens_list (e := 26) (sz := 32) (by kernel_rfl) (by kernel_rfl) (by decide) (opens_arr (e := 5) (n := 32) (k := .u8) (by kernel_rfl) (by kernel_rfl) (by kernel_rfl) (by kernel_rfl)))))))))))) h0
  have a0 := es_of_rd hx0
  clear hA0 hval0
  refine (walk_EventSorts a0).mono fun e W' ⟨he, bel⟩ => ?_
  subst he
  exact ⟨_, rfl, _, _, _, [], _, [], hW', trodAll_mk1 (shut_bool (TT.und (P := Tryz.prog) t_bool _ rfl rfl) _), trodAll_below laidEventSorts bel.below (by kernel_rfl) (trodAll_lt hall) hall, rfl, bel.below.frame _, fun h => by cases h⟩

theorem overEventSorts : Rows.eventSortsRow.holds Tryz.pinned (OpenSpec.ofChange Rows.eventSortsSpec) :=
  OpenClaim.holds_of_wide 8 Tryz.f8 rfl rfl rfl rfl rfl rfl rfl ⟨rfl, rfl, rfl, rfl, rfl⟩ rfl rfl rfl rfl rfl (by kernel_rfl) Tryz.func8 (by kernel_rfl)
    (of_decide_eq_true (by kernel_rfl)) (by unfold Func.isWrapper; first | (rw [if_pos (by decide +kernel)]; kernel_rfl) | (rw [if_neg (by decide +kernel)]; exact ⟨rfl, rfl⟩))
    (fun os started H enc _ => liftedEventSorts os started H enc)

theorem provedEventSorts : Rows.EventSortsSaid := overEventSorts
#print axioms provedEventSorts
end Go.Proofs.YtaglpaoipdmboaaGreat
