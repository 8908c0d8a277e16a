/- 'TopUpload': whatever the arguments, the law answers true, and each argument reads behind the call as it did. Conditions: the listed variable reads as the program's text lays it (the card ties it). -/
import Derived.Test.YtbfailbgdnpaiaaGreatDoorTie
import Derived.Test.YtbfailbgdnpaiaaGreatDoorCards
import Derived.SevenTiedAt
import Derived.Lay
import Derived.LaidMore
import Derived.Test.YtbfailbgdnpaiaaGreatDoorX12
namespace Go.Proofs.YtbfailbgdnpaiaaGreatDoor
open Go.Eng Go.ChangeShapes Go.WideShapes Go.ChangeAt Go.RowKit
set_option linter.unusedVariables false

theorem ownTopUpload : ownKnob Tryz.prog.godebug = none := by kernel_rfl
theorem laidTopUpload : laidOutB Tryz.prog = true := by kernel_rfl
theorem prop_cell {W : World} (h : laidMetH Tryz.prog Rows.topUploadRow.laid W) : W.cell? ⟨0, 116, none⟩ = some (.int .u8 192) := by
  rw [MakeChecks.laidMetH_plain _ _ _ (by kernel_rfl)] at h
  obtain ⟨ps, ⟨g, t, cs, fuel, p, q, hg, ht, hv, hd, _, _⟩, _, _⟩ := h
  obtain rfl := Option.some.inj ((show Tryz.prog.globalNamed "unicode.properties" = some 0 by kernel_rfl).symm.trans hg)
  obtain rfl := Option.some.inj ((show (Tryz.prog.globals[0]?).map (·.type) = some 384 by kernel_rfl).symm.trans ht)
  obtain ⟨xs, m, _, ex, _, hl, hel⟩ := DataW.trod_array (show Tryz.prog.underlying 384 = some (.array 256 5) by kernel_rfl) hd
  have c5 : Tryz.prog.cellsOf 5 = 1 := by kernel_rfl
  have hE := hel 116 (by decide)
  rw [c5, Nat.mul_one, List.getElem?_eq_getElem (by omega)] at hE
  obtain ⟨z, e1, e2, _⟩ := DataW.trod_int (show Tryz.prog.underlying 5 = some (.int .u8) by kernel_rfl) hE
  have hz : (Rows.laid_unicode_properties : DataW Unit) = .agg (xs.map (·.1)) := (Prod.mk.inj ex).1
  have e4 : (xs.map (·.1))[116]? = some (.lit (.int .u8 192)) := by
    rw [← DataW.agg.inj hz]
    kernel_rfl
  rw [List.getElem?_map, List.getElem?_eq_getElem (by omega : 116 < xs.length), e2] at e4
  have hz : z = 192 := by simpa using e4
  rw [World.var?_cell hg hv 116, ← hz]
  have : cs.toList[116]? = some (.int .u8 z) := by
    have h0 : ((cs.toList.drop 116).take 1)[0]? = some (.int .u8 z) := by rw [e1]; rfl
    simpa using h0
  simpa using this
set_option maxRecDepth 100000 in
theorem liftedTopUpload (os : Os) (started : os.Started) (H : Type) (enc : TypeId × Value → H) :
    ReturnsInHanded {} Tryz.checked os 3 .any (fun w args => (Rows.topUploadSpec.pre enc Tryz.prog Tryz.f3 Rows.topUploadRow.domain false w args ∧ laidMetH Tryz.prog Rows.topUploadRow.laid w) ∧ sizedMet enc Tryz.prog Tryz.f3 (OpenSpec.ofChange Rows.topUploadSpec) false w args) (Rows.topUploadSpec.post enc Tryz.prog Tryz.f3 false true false false) := by
  refine returnsInHanded_of_change_and (C := Tryz.checked) (X := (fun w _ => laidMetH Tryz.prog Rows.topUploadRow.laid w)) (fun _ _ _ hh h => h.of_heap hh) ownTopUpload started (by kernel_rfl) Tryz.func3
    (ChangeSpec.witness_shaped (enc := enc) (C := Tryz.checked) (os := os) (X := (fun w _ => laidMetH Tryz.prog Rows.topUploadRow.laid w)) false (World.laidAll Tryz.prog os Rows.topUploadRow.laid) #[.slice none 0 0, .int .i64 0] 8 (World.laidAll_os _ _ _)
      (World.shaped_of_ZipB (by kernel_rfl) (by kernel_rfl)) (by kernel_rfl) (by kernel_rfl) (by kernel_rfl)
      (by rw [MakeChecks.laidMetH_plain _ _ _ (by kernel_rfl)]; exact laidMet_laidAll _ (by kernel_rfl) (by kernel_rfl))) ?_
  intro W base args ds gs before hval0 hW hcnd _ hL _
  have hval : ∀ (j : Nat) t v, Tryz.f3.params[j]? = some t → args[j]? = some v → Value.okWide Tryz.prog W .any base t v := hval0
  have hW' := hW
  obtain ⟨p, q, hA0, hV, rfl, hfz, hnd⟩ := hW
  have hA : DataW.TrodAll enc Tryz.prog W 0 (fun _ => true) true [22, 3] args.toList ds p := hA0
  have hall := hA
  obtain ⟨v0, vs0, d0, ds0, p0, q0, hargs, rfl, rfl, h0, r0⟩ := trodAll_cons hA
  obtain ⟨v1, vs1, d1, ds1, p1, q1, rfl, rfl, rfl, h1, r1⟩ := trodAll_cons r0
  obtain ⟨rfl, rfl, rfl⟩ := trodAll_nil r1
  obtain rfl : args = #[v0, v1] := by cases args; simp_all
  obtain ⟨rfl, rfl⟩ := trodVars_none hV
  obtain ⟨sA0, sn0, sc0, rfl⟩ := okWide_slice (e := 39) (by kernel_rfl) (hval 0 22 v0 rfl rfl)
  obtain ⟨x0, hx0⟩ := M7 (rL (t := 22) (e := 39) (sz := 1) (by kernel_rfl) (by kernel_rfl) (by decide) (rL (e := 5) (sz := 1) (by kernel_rfl) (by kernel_rfl) (by decide) (J1 (k := .u8) (by kernel_rfl)))) h0
  have a0 := Og hx0
  obtain ⟨a1, rfl, rfl, rfl, w1⟩ := open_int (k := .i64) (by kernel_rfl) (hval 1 3 v1 rfl rfl) h1
  clear hA0 hval0
  refine (uU (prop_cell hL) a0 (Gc w1)).mono fun e W' ⟨he, bel⟩ => ?_
  subst he
  exact ⟨_, rfl, _, _, _, [], _, [], hW', trodAll_mk1 (shut_bool (TT.und (P := Tryz.prog) zi _ rfl rfl) _), iO laidTopUpload bel.below (by kernel_rfl) (qT hall) hall, rfl, bel.below.frame _, fun h => by cases h⟩

theorem and_tt {a b : Bool} (h1 : a = true) (h2 : b = true) : (a && b) = true := by rw [h1, h2]; rfl
set_option maxRecDepth 100000 in
theorem fact0 : Rows.topUploadRow.wf (OpenSpec.ofChange Rows.topUploadSpec) = true := by kernel_rfl
set_option maxRecDepth 100000 in
theorem fact1 : laidOutB Tryz.checked.prog = true := by kernel_rfl
set_option maxRecDepth 100000 in
theorem fact2 : mapsRowed Tryz.checked.prog = true := by kernel_rfl
set_option maxRecDepth 100000 in
theorem fact3 : Tryz.f3.params.all ((Tryz.checked.prog).readableRec ·) = true := by kernel_rfl
set_option maxRecDepth 100000 in
theorem fact4 : namedTie Tryz.checked.prog Rows.topUploadRow.named Rows.topUploadSpec.vars = true := by kernel_rfl
set_option maxRecDepth 100000 in
theorem fact5 : (Rows.topUploadRow.stops == []) = true := by kernel_rfl
set_option maxRecDepth 100000 in
theorem fact6 : ((Tryz.checked.prog).stops == []) = true := by kernel_rfl
set_option maxRecDepth 100000 in
theorem fact7 : (Rows.topUploadRow.knobs == []) = true := by kernel_rfl
set_option maxRecDepth 100000 in
theorem fact8 : ((Tryz.checked.prog).stopKnobs == []) = true := by kernel_rfl
set_option maxRecDepth 100000 in
theorem fact9 : (Rows.topUploadRow.inPlace == (Tryz.checked.prog).inPlace 3) = true := by kernel_rfl
set_option maxRecDepth 100000 in
theorem fact10 : (Rows.topUploadRow.unfollowed == (Tryz.checked.prog).unfollowed 3) = true := by kernel_rfl
set_option maxRecDepth 100000 in
theorem fact11 : (Rows.topUploadRow.recurses == (Tryz.checked.prog).recurses 3) = true := by kernel_rfl
set_option maxRecDepth 100000 in
theorem fact12 : (Rows.topUploadRow.named == (Tryz.checked.prog).varsNamed 3) = true := by kernel_rfl
set_option maxRecDepth 100000 in
theorem fact13 : (Rows.topUploadRow.maps == (Tryz.f3.params.toList ++ Rows.topUploadSpec.plain.varTypes (Tryz.checked.prog)).any ((Tryz.checked.prog).mapsRec ·)) = true := by kernel_rfl
set_option maxRecDepth 100000 in
theorem fact14 : (Rows.topUploadRow.ifaces == (Tryz.f3.params.toList ++ Rows.topUploadSpec.plain.varTypes (Tryz.checked.prog)).any ((Tryz.checked.prog).ifacesRec ·)) = true := by kernel_rfl
set_option maxRecDepth 100000 in
theorem fact15 : (Rows.topUploadRow.mapsOut == (Tryz.checked.prog).mapsAmong Tryz.f3.resultTypes.toList) = true := by kernel_rfl
set_option maxRecDepth 100000 in
theorem fact16 : (Rows.topUploadRow.loops == (Tryz.f3.params.toList ++ Rows.topUploadSpec.plain.varTypes (Tryz.checked.prog)).any ((Tryz.checked.prog).loopsFrom ·)) = true := by kernel_rfl
set_option maxRecDepth 100000 in
theorem fact17 : (Rows.topUploadRow.wideKeys == (Tryz.f3.params.toList ++ Rows.topUploadSpec.plain.varTypes (Tryz.checked.prog) ++ Tryz.f3.resultTypes.toList).any ((Tryz.checked.prog).wideKeysFrom ·)) = true := by kernel_rfl
set_option maxRecDepth 100000 in
theorem fact18 : Rows.topUploadSpec.vars.all ((Tryz.checked.prog).varReadable ·) = true := by kernel_rfl
set_option maxRecDepth 100000 in
theorem fact19 : Tryz.f3.resultTypes.all (fun t => (Tryz.checked.prog).readableRec t && decide (t < (Tryz.checked.prog).types.size)) = true := by kernel_rfl
set_option maxRecDepth 100000 in
theorem fact20 : (Rows.topUploadRow.ifacesOut == Tryz.f3.resultTypes.toList.any ((Tryz.checked.prog).ifacesRec ·)) = true := by kernel_rfl
set_option maxRecDepth 100000 in
theorem fact21 : (Rows.topUploadRow.loopsOut == Tryz.f3.resultTypes.toList.any ((Tryz.checked.prog).loopsFrom ·)) = true := by kernel_rfl
set_option maxRecDepth 100000 in
theorem fact22 : (Rows.topUploadRow.plainKeys == (Tryz.checked.prog).plainKeys) = true := by kernel_rfl
set_option maxRecDepth 100000 in
theorem fact23 : Rows.topUploadRow.shortTexts.isNone = true := by kernel_rfl
set_option maxRecDepth 100000 in
theorem fact24 : (Tryz.checked.prog).stopsHeard = true := by kernel_rfl
set_option maxRecDepth 100000 in
theorem fact25 : (Tryz.checked.prog).mayEnter = true := by kernel_rfl
set_option maxRecDepth 100000 in
theorem fact26 : (Rows.topUploadRow.lifted == (Tryz.checked.prog).liftsFinal) = true := by kernel_rfl
set_option maxRecDepth 100000 in
theorem fact27 : ((Tryz.checked.prog).make == some Rows.topUploadRow.make) = true := by kernel_rfl
set_option maxRecDepth 100000 in
theorem fact28 : (Rows.topUploadRow.kinds == (if Rows.topUploadRow.domain.isEmpty then [] else Tryz.f3.params.toList.map fun t => match (Tryz.checked.prog).underlying t with | some (.int k) => some k | _ => none)) = true := by kernel_rfl
set_option maxRecDepth 100000 in
theorem fact29 : (Rows.topUploadRow.pinned == Rows.topUploadRow.pinnedBy) = true := by kernel_rfl
set_option maxRecDepth 100000 in
theorem fact30 : (Rows.topUploadRow.veiled == (Tryz.f3.params.toList ++ Rows.topUploadSpec.plain.varTypes (Tryz.checked.prog) ++ Tryz.f3.resultTypes.toList).any ((Tryz.checked.prog).veiledRec ·)) = true := by kernel_rfl
set_option maxRecDepth 100000 in
theorem fact31 : Rows.topUploadRow.veiledFits (Tryz.checked.prog) Tryz.f3.params.toList (Tryz.f3.params.toList ++ Rows.topUploadSpec.plain.varTypes (Tryz.checked.prog) ++ Tryz.f3.resultTypes.toList) = true := by kernel_rfl
set_option maxRecDepth 100000 in
theorem facts : joinedFacts Tryz.checked.prog 3 Tryz.f3 Rows.topUploadSpec Rows.topUploadRow = true := (and_tt (and_tt (and_tt (and_tt (and_tt (and_tt (and_tt (and_tt (and_tt (and_tt (and_tt (and_tt (and_tt (and_tt (and_tt (and_tt (and_tt (and_tt (and_tt (and_tt (and_tt (and_tt (and_tt (and_tt (and_tt (and_tt (and_tt (and_tt (and_tt (and_tt (and_tt fact0 fact1) fact2) fact3) fact4) fact5) fact6) fact7) fact8) fact9) fact10) fact11) fact12) fact13) fact14) fact15) fact16) fact17) fact18) fact19) fact20) fact21) fact22) fact23) fact24) fact25) fact26) fact27) fact28) fact29) fact30) fact31)
theorem namedTopUpload : (Tryz.checked.prog).funcNamed Rows.topUploadRow.func = some 3 := by kernel_rfl
theorem instTopUpload : Tryz.f3.isInstance (Tryz.checked.prog) Rows.topUploadRow.origin Rows.topUploadRow.targs := of_decide_eq_true (by kernel_rfl)
theorem overTopUpload : Rows.topUploadRow.holds Tryz.pinned (OpenSpec.ofChange Rows.topUploadSpec) :=
  OpenClaim.holds_of_wide 3 Tryz.f3 rfl rfl rfl rfl rfl rfl rfl ⟨rfl, rfl, rfl, rfl, rfl⟩ rfl rfl rfl rfl rfl namedTopUpload Tryz.func3 facts
    instTopUpload (by unfold Func.isWrapper; first | (rw [if_pos (by decide +kernel)]; kernel_rfl) | (rw [if_neg (by decide +kernel)]; exact ⟨rfl, rfl⟩))
    (fun os started H enc _ => liftedTopUpload os started H enc)

theorem wfTextTopUpload : Rows.topUploadRow.wfByText (OpenSpec.ofChange Rows.topUploadSpec) = true := by kernel_rfl
theorem mainTopUpload : (Tryz.pinned.checked.prog).mainIs = some (true, "91d2fe8c21e56668316e8b42336bc741cbaac7980d7ea765c0e382b7c7a1f7a9".toList) := by kernel_rfl
theorem looksTopUpload : true = (Tryz.pinned.checked.prog).looks [] := by kernel_rfl
theorem standTopUpload : ([22, 3].all fun u => !Tryz.prog.wantsStandIn u) = true := by kernel_rfl
theorem goesTopUpload : false = Rows.topUploadRow.goesBy (Tryz.pinned.checked.prog) := by kernel_rfl
theorem provedTopUpload : Rows.TopUploadCardSaid :=
  Claim7.holds_tied_plain_at .later [] [.data] true (true, "91d2fe8c21e56668316e8b42336bc741cbaac7980d7ea765c0e382b7c7a1f7a9") true overTopUpload (fun _ h => by cases h) wfTextTopUpload (fun _ h => by cases h) topUpload_row_tie rfl ⟨rfl, rfl⟩ mainTopUpload rfl
    (fun f fn hf hfn => by
      obtain rfl : f = 3 := (Option.some.inj (namedTopUpload.symm.trans hf)).symm
      obtain rfl : fn = Tryz.f3 := (Option.some.inj (Tryz.func3.symm.trans hfn)).symm
      exact ⟨looksTopUpload, fun j t ht => by
        have hm : t ∈ [22, 3] := by
          have := Array.mem_of_getElem? ht
          simpa using (show t ∈ (#[22, 3] : Array Nat) from this)
        exact (show Tryz.prog.wantsStandIn t = false by simpa using List.all_eq_true.1 standTopUpload t hm)⟩)
    goesTopUpload
#print axioms provedTopUpload
end Go.Proofs.YtbfailbgdnpaiaaGreatDoor
