/- 'LetterMakes': whatever the arguments, the law answers true, and each argument reads behind the call as it did. Conditions: none. -/
import Derived.Test.YtmeiadgpglpelaaGreatRows
import Derived.Test.YtmeiadgpglpelaaGreatK10
namespace Go.Proofs.YtmeiadgpglpelaaGreat
open Go.Eng Go.ChangeShapes Go.WideShapes Go.ChangeAt Go.RowKit
set_option linter.unusedVariables false

theorem ownLetterMakes : ownKnob Tryz.prog.godebug = none := by kernel_rfl
theorem laidLetterMakes : laidOutB Tryz.prog = true := by kernel_rfl
set_option maxRecDepth 100000 in
theorem liftedLetterMakes (os : Os) (started : os.Started) (H : Type) (enc : TypeId × Value → H) :
    ReturnsInHanded {} Tryz.checked os 5 .any (Rows.letterMakesSpec.pre6 enc Tryz.prog Tryz.f5 Rows.letterMakesRow.domain false) (Rows.letterMakesSpec.post enc Tryz.prog Tryz.f5 false true false false) := by
  refine returnsInHanded_of_change (C := Tryz.checked) ownLetterMakes started (by kernel_rfl) Tryz.func5
    (ChangeSpec.witness6 (enc := enc) (C := Tryz.checked) false ⟨#[], #[.agg #[.int .i64 0, .int .i64 0, .slice none 0 0, .int .i64 0, .string ⟨#[]⟩, .string ⟨#[]⟩, .int .u8 0, .int .u8 0, .int .u8 0, .int .u8 0, .int .u8 0, .int .u8 0, .int .u8 0, .int .u8 0, .int .u8 0, .int .u8 0, .int .u8 0, .int .u8 0, .int .u8 0, .int .u8 0, .int .u8 0, .int .u8 0, .int .u8 0, .int .u8 0, .int .u8 0, .int .u8 0, .int .u8 0, .int .u8 0, .int .u8 0, .int .u8 0, .int .u8 0, .int .u8 0, .int .u8 0, .int .u8 0, .int .u8 0, .int .u8 0, .int .u8 0, .int .u8 0, .slice none 0 0], .agg #[.int .i64 0, .int .i64 0, .int .i64 0, .slice none 0 0, .slice none 0 0, .int .i64 0, .int .i64 0, .int .u8 0, .int .u8 0, .int .u8 0, .int .u8 0, .int .u8 0, .int .u8 0, .int .u8 0, .int .u8 0, .int .u8 0, .int .u8 0, .int .u8 0, .int .u8 0, .int .u8 0, .int .u8 0, .int .u8 0, .int .u8 0, .int .u8 0, .int .u8 0, .int .u8 0, .int .u8 0, .int .u8 0, .int .u8 0, .int .u8 0, .int .u8 0, .int .u8 0, .int .u8 0, .int .u8 0, .int .u8 0, .int .u8 0, .int .u8 0, .int .u8 0, .int .u8 0, .slice none 0 0], .int .i64 0, .slice none 0 0, .slice none 0 0], []⟩ 8 (by kernel_rfl) (by kernel_rfl) (by kernel_rfl) (by kernel_rfl)) ?_
  intro W base args ds gs before hval0 hW hcnd _
  have hval : ∀ (j : Nat) t v, Tryz.f5.params[j]? = some t → args[j]? = some v → Value.okWide Tryz.prog W .any base t v := hval0
  have hW' := hW
  obtain ⟨p, q, hA0, hV, rfl, hfz, hnd⟩ := hW
  have hA : DataW.TrodAll enc Tryz.prog W 0 (fun _ => true) true [52, 30, 3, 22, 28] args.toList ds p := hA0
  have hall := hA
  obtain ⟨v0, vs0, d0, ds0, p0, q0, hargs, rfl, rfl, h0, r0⟩ := trodAll_cons hA
  obtain ⟨v1, vs1, d1, ds1, p1, q1, rfl, rfl, rfl, h1, r1⟩ := trodAll_cons r0
  obtain ⟨v2, vs2, d2, ds2, p2, q2, rfl, rfl, rfl, h2, r2⟩ := trodAll_cons r1
  obtain ⟨v3, vs3, d3, ds3, p3, q3, rfl, rfl, rfl, h3, r3⟩ := trodAll_cons r2
  obtain ⟨v4, vs4, d4, ds4, p4, q4, rfl, rfl, rfl, h4, r4⟩ := trodAll_cons r3
  obtain ⟨rfl, rfl, rfl⟩ := trodAll_nil r4
  obtain rfl : args = #[v0, v1, v2, v3, v4] := by cases args; simp_all
  obtain ⟨rfl, rfl⟩ := trodVars_none hV
  obtain ⟨cs0, rfl⟩ := agg_of_okWide (by kernel_rfl) (hval 0 52 v0 rfl rfl)
  obtain ⟨x0, hx0⟩ := open_arg (t := 52) (opens_struct (fs := [⟨ "Dot", 25, 0, false, "", "", 0⟩, ⟨ "Deps", 22, 2, false, "", "", 16⟩, ⟨ "Kind", 3, 3, false, "", "", 40⟩, ⟨ "Repo", 9, 4, false, "", "", 48⟩, ⟨ "Tag", 9, 5, false, "", "", 64⟩, ⟨ "ID", 27, 6, false, "", "", 80⟩, ⟨ "Refs", 50, 38, false, "", "", 112⟩]) (m := 39) (by kernel_rfl) (by kernel_rfl) (OpF.cons (n := 2) (m := 37) rfl (by kernel_rfl) (opens_struct (fs := [⟨ "R", 3, 0, false, "", "", 0⟩, ⟨ "N", 3, 1, false, "", "", 8⟩]) (m := 2) (by kernel_rfl) (by kernel_rfl) (OpF.cons (n := 1) (m := 1) rfl (by kernel_rfl) (opens_int (k := .i64) (by kernel_rfl)) (OpF.one (n := 1) rfl (by kernel_rfl) (opens_int (k := .i64) (by kernel_rfl))))) (OpF.cons (n := 1) (m := 36) rfl (by kernel_rfl) (opens_list (e := 3) (sz := 1) (by kernel_rfl) (by kernel_rfl) (by decide) (opens_int (k := .i64) (by kernel_rfl))) (OpF.cons (n := 1) (m := 35) rfl (by kernel_rfl) (opens_int (k := .i64) (by kernel_rfl)) (OpF.cons (n := 1) (m := 34) rfl (by kernel_rfl) (opens_str (by kernel_rfl)) (OpF.cons (n := 1) (m := 33) rfl (by kernel_rfl) (opens_str (by kernel_rfl)) (OpF.cons (n := 32) (m := 1) rfl (by kernel_rfl) (opens_arr (e := 5) (n := 32) (k := .u8) (by kernel_rfl) (by kernel_rfl) (by kernel_rfl) (by kernel_rfl)) (OpF.one (n := 1) rfl (by kernel_rfl) (opens_list (e := 27) (sz := 32) (by kernel_rfl) (by kernel_rfl) (by decide) (opens_arr (e := 5) (n := 32) (k := .u8) (by kernel_rfl) (by kernel_rfl) (by kernel_rfl) (by kernel_rfl))))))))))) h0
  have a0 := ea_of_rd hx0
  obtain ⟨cs1, rfl⟩ := agg_of_okWide (by kernel_rfl) (hval 1 30 v1 rfl rfl)
  obtain ⟨x1, hx1⟩ := open_arg (t := 30) (opens_struct (fs := [⟨ "Kind", 3, 0, false, "", "", 0⟩, ⟨ "From", 3, 1, false, "", "", 8⟩, ⟨ "To", 3, 2, false, "", "", 16⟩, ⟨ "Seen", 22, 3, false, "", "", 24⟩, ⟨ "Events", 23, 4, false, "", "", 48⟩, ⟨ "Dot", 25, 5, false, "", "", 72⟩, ⟨ "ID", 27, 7, false, "", "", 88⟩, ⟨ "B", 28, 39, false, "", "", 120⟩]) (m := 40) (by kernel_rfl) (by kernel_rfl) (OpF.cons (n := 1) (m := 39) rfl (by kernel_rfl) (opens_int (k := .i64) (by kernel_rfl)) (OpF.cons (n := 1) (m := 38) rfl (by kernel_rfl) (opens_int (k := .i64) (by kernel_rfl)) (OpF.cons (n := 1) (m := 37) rfl (by kernel_rfl) (opens_int (k := .i64) (by kernel_rfl)) (OpF.cons (n := 1) (m := 36) rfl (by kernel_rfl) (opens_list (e := 3) (sz := 1) (by kernel_rfl) (by kernel_rfl) (by decide) (opens_int (k := .i64) (by kernel_rfl))) (OpF.cons (n := 1) (m := 35) rfl (by kernel_rfl) (opens_list (e := 52) (sz := 39) (by kernel_rfl) (by kernel_rfl) (by decide) (opens_struct (fs := [⟨ "Dot", 25, 0, false, "", "", 0⟩, ⟨ "Deps", 22, 2, false, "", "", 16⟩, ⟨ "Kind", 3, 3, false, "", "", 40⟩, ⟨ "Repo", 9, 4, false, "", "", 48⟩, ⟨ "Tag", 9, 5, false, "", "", 64⟩, ⟨ "ID", 27, 6, false, "", "", 80⟩, ⟨ "Refs", 50, 38, false, "", "", 112⟩]) (m := 39) (by kernel_rfl) (by kernel_rfl) (OpF.cons (n := 2) (m := 37) rfl (by kernel_rfl) (opens_struct (fs := [⟨ "R", 3, 0, false, "", "", 0⟩, ⟨ "N", 3, 1, false, "", "", 8⟩]) (m := 2) (by kernel_rfl) (by kernel_rfl) (OpF.cons (n := 1) (m := 1) rfl (by kernel_rfl) (opens_int (k := .i64) (by kernel_rfl)) (OpF.one (n := 1) rfl (by kernel_rfl) (opens_int (k := .i64) (by kernel_rfl))))) (OpF.cons (n := 1) (m := 36) rfl (by kernel_rfl) (opens_list (e := 3) (sz := 1) (by kernel_rfl) (by kernel_rfl) (by decide) (opens_int (k := .i64) (by kernel_rfl))) (OpF.cons (n := 1) (m := 35) rfl (by kernel_rfl) (opens_int (k := .i64) (by kernel_rfl)) (OpF.cons (n := 1) (m := 34) rfl (by kernel_rfl) (opens_str (by kernel_rfl)) (OpF.cons (n := 1) (m := 33) rfl (by kernel_rfl) (opens_str (by kernel_rfl)) (OpF.cons (n := 32) (m := 1) rfl (by kernel_rfl) (opens_arr (e := 5) (n := 32) (k := .u8) (by kernel_rfl) (by kernel_rfl) (by kernel_rfl) (by kernel_rfl)) (OpF.one (n := 1) rfl (by kernel_rfl) (opens_list (e := 27) (sz := 32) (by kernel_rfl) (by kernel_rfl) (by decide) (opens_arr (e := 5) (n := 32) (k := .u8) (by kernel_rfl) (by kernel_rfl) (by kernel_rfl) (by kernel_rfl)))))))))))) (OpF.cons (n := 2) (m := 33) rfl (by kernel_rfl) (opens_struct (fs := [⟨ "R", 3, 0, false, "", "", 0⟩, ⟨ "N", 3, 1, false, "", "", 8⟩]) (m := 2) (by kernel_rfl) (by kernel_rfl) (OpF.cons (n := 1) (m := 1) rfl (by kernel_rfl) (opens_int (k := .i64) (by kernel_rfl)) (OpF.one (n := 1) rfl (by kernel_rfl) (opens_int (k := .i64) (by kernel_rfl))))) (OpF.cons (n := 32) (m := 1) rfl (by kernel_rfl) (opens_arr (e := 5) (n := 32) (k := .u8) (by kernel_rfl) (by kernel_rfl) (by kernel_rfl) (by kernel_rfl)) (OpF.one (n := 1) rfl (by kernel_rfl) (opens_list (e := 5) (sz := 1) (by kernel_rfl) (by kernel_rfl) (by decide) (opens_int (k := .u8) (by kernel_rfl)))))))))))) h1
  have a1 := lt_of_rd hx1
  obtain ⟨a2, rfl, rfl, rfl, w2⟩ := open_int (k := .i64) (by kernel_rfl) (hval 2 3 v2 rfl rfl) h2
  obtain ⟨xs3, a3, w3, hd3⟩ := vl_of_trod (k := .i64) (e := 3) (by kernel_rfl) (by kernel_rfl) (by kernel_rfl) (hval 3 22 v3 rfl rfl) h3
  obtain ⟨sA4, sn4, sc4, rfl⟩ := okWide_slice (e := 5) (by kernel_rfl) (hval 4 28 v4 rfl rfl)
  obtain ⟨x4, hx4⟩ := open_arg (t := 28) (opens_list (e := 5) (sz := 1) (by kernel_rfl) (by kernel_rfl) (by decide) (opens_int (k := .u8) (by kernel_rfl))) h4
  have a4 := vlw_of_rd hx4
  clear hA0 hval0
  refine (walk_LetterMakes a0 a1 a3 a4).mono fun e W' ⟨he, bel⟩ => ?_
  subst he
  exact ⟨_, rfl, _, _, _, [], _, [], hW', trodAll_mk1 (shut_bool (TT.und (P := Tryz.prog) t_bool _ rfl rfl) _), trodAll_below laidLetterMakes bel.below (by kernel_rfl) (trodAll_lt hall) hall, rfl, bel.below.frame _, fun h => by cases h⟩

theorem overLetterMakes : Rows.letterMakesRow.holds Tryz.pinned (OpenSpec.ofChange Rows.letterMakesSpec) :=
  OpenClaim.holds_of_wide 5 Tryz.f5 rfl rfl rfl rfl rfl rfl rfl ⟨rfl, rfl, rfl, rfl, rfl⟩ rfl rfl rfl rfl rfl (by kernel_rfl) Tryz.func5 (by kernel_rfl)
    (of_decide_eq_true (by kernel_rfl)) (by unfold Func.isWrapper; first | (rw [if_pos (by decide +kernel)]; kernel_rfl) | (rw [if_neg (by decide +kernel)]; exact ⟨rfl, rfl⟩))
    (fun os started H enc _ => liftedLetterMakes os started H enc)

theorem provedLetterMakes : Rows.LetterMakesSaid := overLetterMakes
#print axioms provedLetterMakes
end Go.Proofs.YtmeiadgpglpelaaGreat
