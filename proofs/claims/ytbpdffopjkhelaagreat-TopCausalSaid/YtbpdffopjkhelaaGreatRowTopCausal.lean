/- 'TopCausal': whatever the arguments, the law answers true, and each argument reads behind the call as it did. Conditions: none. -/
import Derived.Test.YtbpdffopjkhelaaGreatRows
import Derived.Test.YtbpdffopjkhelaaGreatX14
namespace Go.Proofs.YtbpdffopjkhelaaGreat
open Go.Eng Go.ChangeShapes Go.WideShapes Go.ChangeAt Go.RowKit
set_option linter.unusedVariables false

theorem ownTopCausal : ownKnob Tryz.prog.godebug = none := by kernel_rfl
theorem laidTopCausal : laidOutB Tryz.prog = true := by kernel_rfl
set_option maxRecDepth 100000 in
theorem liftedTopCausal (os : Os) (started : os.Started) (H : Type) (enc : TypeId × Value → H) :
    ReturnsInHanded {} Tryz.checked os 3 .any (Rows.topCausalSpec.pre6 enc Tryz.prog Tryz.f3 Rows.topCausalRow.domain false) (Rows.topCausalSpec.post enc Tryz.prog Tryz.f3 false true false false) := by
  refine returnsInHanded_of_change (C := Tryz.checked) ownTopCausal started (by kernel_rfl) Tryz.func3
    (ChangeSpec.witness6 (enc := enc) (C := Tryz.checked) false ⟨#[], #[.slice none 0 0, .slice none 0 0, .int .i64 0, .int .i64 0, .slice none 0 0], []⟩ 8 (by kernel_rfl) (by kernel_rfl) (by kernel_rfl) (by kernel_rfl)) ?_
  intro W base args ds gs before hval0 hW hcnd _
  have hval : ∀ (j : Nat) t v, Tryz.f3.params[j]? = some t → args[j]? = some v → Value.okWide Tryz.prog W .any base t v := hval0
  have hW' := hW
  obtain ⟨p, q, hA0, hV, rfl, hfz, hnd⟩ := hW
  have hA : DataW.TrodAll enc Tryz.prog W 0 (fun _ => true) true [22, 23, 3, 3, 24] args.toList ds p := hA0
  have hall := hA
  obtain ⟨v0, vs0, d0, ds0, p0, q0, hargs, rfl, rfl, h0, r0⟩ := trodAll_cons hA
  obtain ⟨v1, vs1, d1, ds1, p1, q1, rfl, rfl, rfl, h1, r1⟩ := trodAll_cons r0
  obtain ⟨v2, vs2, d2, ds2, p2, q2, rfl, rfl, rfl, h2, r2⟩ := trodAll_cons r1
  obtain ⟨v3, vs3, d3, ds3, p3, q3, rfl, rfl, rfl, h3, r3⟩ := trodAll_cons r2
  obtain ⟨v4, vs4, d4, ds4, p4, q4, rfl, rfl, rfl, h4, r4⟩ := trodAll_cons r3
  obtain ⟨rfl, rfl, rfl⟩ := trodAll_nil r4
  obtain rfl : args = #[v0, v1, v2, v3, v4] := by cases args; simp_all
  obtain ⟨rfl, rfl⟩ := trodVars_none hV
  obtain ⟨sA0, sn0, sc0, rfl⟩ := okWide_slice (e := 36) (by kernel_rfl) (hval 0 22 v0 rfl rfl)
  obtain ⟨x0, hx0⟩ := Ch (t := 22) (yp (e := 36) (sz := 39) (by kernel_rfl) (by kernel_rfl) (by decide) (lJ (fs := [⟨ "Dot", 31, 0, false, "", "", 0⟩, ⟨ "Deps", 24, 2, false, "", "", 16⟩, ⟨ "Kind", 3, 3, false, "", "", 40⟩, ⟨ "Repo", 9, 4, false, "", "", 48⟩, ⟨ "Tag", 9, 5, false, "", "", 64⟩, ⟨ "ID", 33, 6, false, "", "", 80⟩, ⟨ "Refs", 34, 38, false, "", "", 112⟩]) (m := 39) (by kernel_rfl) (by kernel_rfl) (OpF.cons (n := 2) (m := 37) rfl (by kernel_rfl) (lJ (fs := [⟨ "R", 3, 0, false, "", "", 0⟩, ⟨ "N", 3, 1, false, "", "", 8⟩]) (m := 2) (by kernel_rfl) (by kernel_rfl) (OpF.cons (n := 1) (m := 1) rfl (by kernel_rfl) (x8 (k := .i64) (by kernel_rfl)) (OpF.one (n := 1) rfl (by kernel_rfl) (x8 (k := .i64) (by kernel_rfl))))) (OpF.cons (n := 1) (m := 36) rfl (by kernel_rfl) (yp (e := 3) (sz := 1) (by kernel_rfl) (by kernel_rfl) (by decide) (x8 (k := .i64) (by kernel_rfl))) (OpF.cons (n := 1) (m := 35) rfl (by kernel_rfl) (x8 (k := .i64) (by kernel_rfl)) (OpF.cons (n := 1) (m := 34) rfl (by kernel_rfl) (xD (by kernel_rfl)) (OpF.cons (n := 1) (m := 33) rfl (by kernel_rfl) (xD (by kernel_rfl)) (OpF.cons (n := 32) (m := 1) rfl (by kernel_rfl) (xE (e := 5) (n := 32) (k := .u8) (by kernel_rfl) (by kernel_rfl) (by kernel_rfl) (by kernel_rfl)) (OpF.one (n := 1) rfl (by kernel_rfl) (yp (e := 33) (sz := 32) (by kernel_rfl) (by kernel_rfl) (by decide) (xE (e := 5) (n := 32) (k := .u8) (by kernel_rfl) (by kernel_rfl) (by kernel_rfl) (by kernel_rfl)))))))))))) h0
  have a0 := O2 hx0
  obtain ⟨sA1, sn1, sc1, rfl⟩ := okWide_slice (e := 37) (by kernel_rfl) (hval 1 23 v1 rfl rfl)
  obtain ⟨x1, hx1⟩ := Ch (t := 23) (yp (e := 37) (sz := 1) (by kernel_rfl) (by kernel_rfl) (by decide) (yp (e := 5) (sz := 1) (by kernel_rfl) (by kernel_rfl) (by decide) (x8 (k := .u8) (by kernel_rfl)))) h1
  have a1 := Py hx1
  obtain ⟨a2, rfl, rfl, rfl, w2⟩ := open_int (k := .i64) (by kernel_rfl) (hval 2 3 v2 rfl rfl) h2
  obtain ⟨a3, rfl, rfl, rfl, w3⟩ := open_int (k := .i64) (by kernel_rfl) (hval 3 3 v3 rfl rfl) h3
  obtain ⟨xs4, a4, w4, hd4⟩ := Fp (k := .i64) (e := 3) (by kernel_rfl) (by kernel_rfl) (by kernel_rfl) (hval 4 24 v4 rfl rfl) h4
  clear hA0 hval0
  refine (vI a0 a1 a4 (gF w2) (gF w3)).mono fun e W' ⟨he, bel⟩ => ?_
  subst he
  exact ⟨_, rfl, _, _, _, [], _, [], hW', trodAll_mk1 (shut_bool (TT.und (P := Tryz.prog) tb _ rfl rfl) _), iY laidTopCausal bel.below (by kernel_rfl) (rG hall) hall, rfl, bel.below.frame _, fun h => by cases h⟩

theorem and_tt {a b : Bool} (h1 : a = true) (h2 : b = true) : (a && b) = true := by rw [h1, h2]; rfl
set_option maxRecDepth 100000 in
theorem fact0 : Rows.topCausalRow.wf (OpenSpec.ofChange Rows.topCausalSpec) = true := by kernel_rfl
set_option maxRecDepth 100000 in
theorem fact1 : laidOutB Tryz.checked.prog = true := by kernel_rfl
set_option maxRecDepth 100000 in
theorem fact2 : mapsRowed Tryz.checked.prog = true := by kernel_rfl
set_option maxRecDepth 100000 in
theorem fact3 : Tryz.f3.params.all ((Tryz.checked.prog).readableRec ·) = true := by kernel_rfl
set_option maxRecDepth 100000 in
theorem fact4 : namedTie Tryz.checked.prog Rows.topCausalRow.named Rows.topCausalSpec.vars = true := by kernel_rfl
set_option maxRecDepth 100000 in
theorem fact5 : (Rows.topCausalRow.stops == []) = true := by kernel_rfl
set_option maxRecDepth 100000 in
theorem fact6 : ((Tryz.checked.prog).stops == []) = true := by kernel_rfl
set_option maxRecDepth 100000 in
theorem fact7 : (Rows.topCausalRow.knobs == []) = true := by kernel_rfl
set_option maxRecDepth 100000 in
theorem fact8 : ((Tryz.checked.prog).stopKnobs == []) = true := by kernel_rfl
set_option maxRecDepth 100000 in
theorem fact9 : (Rows.topCausalRow.inPlace == (Tryz.checked.prog).inPlace 3) = true := by kernel_rfl
set_option maxRecDepth 100000 in
theorem fact10 : (Rows.topCausalRow.unfollowed == (Tryz.checked.prog).unfollowed 3) = true := by kernel_rfl
set_option maxRecDepth 100000 in
theorem fact11 : (Rows.topCausalRow.recurses == (Tryz.checked.prog).recurses 3) = true := by kernel_rfl
set_option maxRecDepth 100000 in
theorem fact12 : (Rows.topCausalRow.named == (Tryz.checked.prog).varsNamed 3) = true := by kernel_rfl
set_option maxRecDepth 100000 in
theorem fact13 : (Rows.topCausalRow.maps == (Tryz.f3.params.toList ++ Rows.topCausalSpec.plain.varTypes (Tryz.checked.prog)).any ((Tryz.checked.prog).mapsRec ·)) = true := by kernel_rfl
set_option maxRecDepth 100000 in
theorem fact14 : (Rows.topCausalRow.ifaces == (Tryz.f3.params.toList ++ Rows.topCausalSpec.plain.varTypes (Tryz.checked.prog)).any ((Tryz.checked.prog).ifacesRec ·)) = true := by kernel_rfl
set_option maxRecDepth 100000 in
theorem fact15 : (Rows.topCausalRow.mapsOut == (Tryz.checked.prog).mapsAmong Tryz.f3.resultTypes.toList) = true := by kernel_rfl
set_option maxRecDepth 100000 in
theorem fact16 : (Rows.topCausalRow.loops == (Tryz.f3.params.toList ++ Rows.topCausalSpec.plain.varTypes (Tryz.checked.prog)).any ((Tryz.checked.prog).loopsFrom ·)) = true := by kernel_rfl
set_option maxRecDepth 100000 in
theorem fact17 : (Rows.topCausalRow.wideKeys == (Tryz.f3.params.toList ++ Rows.topCausalSpec.plain.varTypes (Tryz.checked.prog) ++ Tryz.f3.resultTypes.toList).any ((Tryz.checked.prog).wideKeysFrom ·)) = true := by kernel_rfl
set_option maxRecDepth 100000 in
theorem fact18 : Rows.topCausalSpec.vars.all ((Tryz.checked.prog).varReadable ·) = true := by kernel_rfl
set_option maxRecDepth 100000 in
theorem fact19 : Tryz.f3.resultTypes.all (fun t => (Tryz.checked.prog).readableRec t && decide (t < (Tryz.checked.prog).types.size)) = true := by kernel_rfl
set_option maxRecDepth 100000 in
theorem fact20 : (Rows.topCausalRow.ifacesOut == Tryz.f3.resultTypes.toList.any ((Tryz.checked.prog).ifacesRec ·)) = true := by kernel_rfl
set_option maxRecDepth 100000 in
theorem fact21 : (Rows.topCausalRow.loopsOut == Tryz.f3.resultTypes.toList.any ((Tryz.checked.prog).loopsFrom ·)) = true := by kernel_rfl
set_option maxRecDepth 100000 in
theorem fact22 : (Rows.topCausalRow.plainKeys == (Tryz.checked.prog).plainKeys) = true := by kernel_rfl
set_option maxRecDepth 100000 in
theorem fact23 : Rows.topCausalRow.shortTexts.isNone = true := by kernel_rfl
set_option maxRecDepth 100000 in
theorem fact24 : (Tryz.checked.prog).stopsHeard = true := by kernel_rfl
set_option maxRecDepth 100000 in
theorem fact25 : (Tryz.checked.prog).mayEnter = true := by kernel_rfl
set_option maxRecDepth 100000 in
theorem fact26 : (Rows.topCausalRow.lifted == (Tryz.checked.prog).liftsFinal) = true := by kernel_rfl
set_option maxRecDepth 100000 in
theorem fact27 : ((Tryz.checked.prog).make == some Rows.topCausalRow.make) = true := by kernel_rfl
set_option maxRecDepth 100000 in
theorem fact28 : (Rows.topCausalRow.kinds == (if Rows.topCausalRow.domain.isEmpty then [] else Tryz.f3.params.toList.map fun t => match (Tryz.checked.prog).underlying t with | some (.int k) => some k | _ => none)) = true := by kernel_rfl
set_option maxRecDepth 100000 in
theorem fact29 : (Rows.topCausalRow.pinned == Rows.topCausalRow.pinnedBy) = true := by kernel_rfl
set_option maxRecDepth 100000 in
theorem fact30 : (Rows.topCausalRow.veiled == (Tryz.f3.params.toList ++ Rows.topCausalSpec.plain.varTypes (Tryz.checked.prog) ++ Tryz.f3.resultTypes.toList).any ((Tryz.checked.prog).veiledRec ·)) = true := by kernel_rfl
set_option maxRecDepth 100000 in
theorem fact31 : Rows.topCausalRow.veiledFits (Tryz.checked.prog) Tryz.f3.params.toList (Tryz.f3.params.toList ++ Rows.topCausalSpec.plain.varTypes (Tryz.checked.prog) ++ Tryz.f3.resultTypes.toList) = true := by kernel_rfl
set_option maxRecDepth 100000 in
theorem facts : joinedFacts Tryz.checked.prog 3 Tryz.f3 Rows.topCausalSpec Rows.topCausalRow = true := (and_tt (and_tt (and_tt (and_tt (and_tt (and_tt (and_tt (and_tt (and_tt (and_tt (and_tt (and_tt (and_tt (and_tt (and_tt (and_tt (and_tt (and_tt (and_tt (and_tt (and_tt (and_tt (and_tt (and_tt (and_tt (and_tt (and_tt (and_tt (and_tt (and_tt (and_tt fact0 fact1) fact2) fact3) fact4) fact5) fact6) fact7) fact8) fact9) fact10) fact11) fact12) fact13) fact14) fact15) fact16) fact17) fact18) fact19) fact20) fact21) fact22) fact23) fact24) fact25) fact26) fact27) fact28) fact29) fact30) fact31)
theorem namedTopCausal : (Tryz.checked.prog).funcNamed Rows.topCausalRow.func = some 3 := by kernel_rfl
theorem instTopCausal : Tryz.f3.isInstance (Tryz.checked.prog) Rows.topCausalRow.origin Rows.topCausalRow.targs := of_decide_eq_true (by kernel_rfl)
theorem overTopCausal : Rows.topCausalRow.holds Tryz.pinned (OpenSpec.ofChange Rows.topCausalSpec) :=
  OpenClaim.holds_of_wide 3 Tryz.f3 rfl rfl rfl rfl rfl rfl rfl ⟨rfl, rfl, rfl, rfl, rfl⟩ rfl rfl rfl rfl rfl namedTopCausal Tryz.func3 facts
    instTopCausal (by unfold Func.isWrapper; first | (rw [if_pos (by decide +kernel)]; kernel_rfl) | (rw [if_neg (by decide +kernel)]; exact ⟨rfl, rfl⟩))
    (fun os started H enc _ => liftedTopCausal os started H enc)

theorem provedTopCausal : Rows.TopCausalSaid := overTopCausal
#print axioms provedTopCausal
end Go.Proofs.YtbpdffopjkhelaaGreat
