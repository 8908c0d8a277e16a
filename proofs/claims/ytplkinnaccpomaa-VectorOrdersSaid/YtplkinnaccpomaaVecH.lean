/- Vectors: the law VectorOrders, as a program printed its walk (lawwalk.py). Conditions: none. -/
import Derived.Test.YtplkinnaccpomaaVecG
namespace Go.Proofs.Ytplkinnaccpomaa
open Go.Eng Go.RowKit
theorem pickL_len (p : Int → Int → Int) (xs ys : List Int) : (pickL p xs ys).length = max xs.length ys.length := by simp [pickL]
theorem bqq_self (b : Bool) : bqq b b = true := by cases b <;> rfl
theorem walk_VectorOrders {r1 n1 r2 n2 : Int} {v1 v2 : Value} {xs ys : List Int} {w : World} (h1 : IL w v1 xs) (h2 : IL w v2 ys) :
    Calls Try.prog n_entrepotlaw14_VectorOrders #[dotV r1 n1, v1, dotV r2 n2, v2] w fun e w' => e = .returned (.bool true) ∧ Ext w w' := by
  have hE : Ext w w := Fr.refl _ _
  obtain ⟨A1, c1, rfl, _⟩ := VL.op h1
  obtain ⟨A2, c2, rfl, _⟩ := VL.op h2
  refine enter4 F_entrepotlaw14_VectorOrders rfl rfl ?_
  refine (cw_seq (cw_region ?_))
  refine ow_box rfl rfl rfl rfl ?_
  intro w4 B4 e4 _
  replace hE := hE.trans e4
  replace h1 := h1.ext e4
  replace h2 := h2.ext e4
  refine ow_box rfl rfl rfl rfl ?_
  intro w6 B6 e6 _
  replace hE := hE.trans e6
  replace h1 := h1.ext e6
  replace h2 := h2.ext e6
  replace B4 := B4.ext e6
  refine o_p rfl rfl rfl ?_
  refine (ow_nil (pn_then (cw_seq (cw_seq (cw_region ?_)))))
  refine o_p rfl rfl rfl ?_
  refine o_p rfl rfl rfl ?_
  refine o_p rfl rfl rfl ?_
  refine o_p rfl rfl rfl ?_
  refine o_split 15 rfl (fun s15 => ?_) (fun s15 => ?_)
  · have q15 := of_decide_eq_true s15
    refine ow_skip rfl rfl ?_
    refine ow_skip rfl rfl ?_
    refine ow_skip rfl rfl ?_
    refine o_p rfl rfl rfl ?_
    refine (ow_nil (pn_then (cw_cond_t rfl (cw_seq (cw_region ?_)))))
    refine ow_call rfl (ec_call rfl) rfl ((awake_spec).mono ?_)
    rintro _ w20 ⟨rfl, e20⟩
    replace hE := hE.trans e20
    replace h1 := h1.ext e20
    replace h2 := h2.ext e20
    replace B4 := B4.ext e20
    replace B6 := B6.ext e20
    refine ⟨_, rfl, ?_⟩
    refine o_p rfl rfl rfl ?_
    refine (ow_nil (pn_then (cw_ret (pn_then_ret (pn_ret rfl rfl ⟨rfl, hE⟩)))))
  · have q15 := of_decide_eq_false s15
    refine o_p rfl rfl rfl ?_
    refine o_p rfl rfl rfl ?_
    refine o_p rfl rfl rfl ?_
    refine o_p rfl rfl rfl ?_
    refine o_split 19 rfl (fun s19 => ?_) (fun s19 => ?_)
    · have q19 := of_decide_eq_true s19
      refine (ow_nil (pn_then (cw_cond_t rfl (cw_seq (cw_region ?_)))))
      refine ow_call rfl (ec_call rfl) rfl ((awake_spec).mono ?_)
      rintro _ w20 ⟨rfl, e20⟩
      replace hE := hE.trans e20
      replace h1 := h1.ext e20
      replace h2 := h2.ext e20
      replace B4 := B4.ext e20
      replace B6 := B6.ext e20
      refine ⟨_, rfl, ?_⟩
      refine o_p rfl rfl rfl ?_
      refine (ow_nil (pn_then (cw_ret (pn_then_ret (pn_ret rfl rfl ⟨rfl, hE⟩)))))
    · have q19 := of_decide_eq_false s19
      refine (ow_nil (pn_then (cw_cond_f rfl (cw_skip (pn_then (cw_seq (cw_region ?_)))))))
      refine o_p rfl rfl rfl ?_
      refine ow_call rfl (ec_call rfl) rfl ((CopyInts_spec h1 (by omega)).mono ?_)
      rintro _ w22 ⟨v22, rfl, m22, e22⟩
      replace hE := hE.trans e22
      replace h1 := h1.ext e22
      replace h2 := h2.ext e22
      replace B4 := B4.ext e22
      replace B6 := B6.ext e22
      have h22 : IL w22 v22 (xs) := Mine.sl m22
      refine ⟨_, rfl, ?_⟩
      refine o_p rfl rfl rfl ?_
      refine ow_call rfl (ec_call rfl) rfl ((CopyInts_spec h2 (by omega)).mono ?_)
      rintro _ w24 ⟨v24, rfl, m24, e24⟩
      replace hE := hE.trans e24
      replace h1 := h1.ext e24
      replace h2 := h2.ext e24
      replace B4 := B4.ext e24
      replace B6 := B6.ext e24
      replace h22 := h22.ext e24
      have h24 : IL w24 v24 (ys) := Mine.sl m24
      refine ⟨_, rfl, ?_⟩
      refine o_p rfl rfl rfl ?_
      refine o_p rfl rfl rfl ?_
      refine (ow_nil (pn_then (cw_seq (cw_draw flo (fun W' => Ext w24 W') (by decide) (Fr.drew _) ?_))))
      have B4d := B4
      have B6d := B6
      have hD : Ext w24 w24 := Fr.refl _ _
      have eD4 : Ext w24 w24.drew := Fr.drew _
      replace hE := hE.trans eD4
      replace hD := hD.trans eD4
      replace h1 := h1.ext eD4
      replace h2 := h2.ext eD4
      replace B4 := B4.ext eD4
      replace B6 := B6.ext eD4
      replace h22 := h22.ext eD4
      replace h24 := h24.ext eD4
      generalize w24.drew = wD4 at *
      refine d_p rfl rfl rfl rfl ?_
      refine dw_call rfl rfl (ec_call rfl) rfl ((Weight_spec h22).mono ?_)
      rintro _ w26 ⟨rfl, e26⟩
      replace hE := hE.trans e26
      replace hD := hD.trans e26
      replace h1 := h1.ext e26
      replace h2 := h2.ext e26
      replace B4 := B4.ext e26
      replace B6 := B6.ext e26
      replace h22 := h22.ext e26
      replace h24 := h24.ext e26
      refine ⟨_, rfl, hD, ?_⟩
      refine d_p rfl rfl rfl rfl ?_
      refine dw_call rfl rfl (ec_call rfl) rfl ((refWeight_spec h1 (by omega)).mono ?_)
      rintro _ w28 ⟨rfl, e28⟩
      replace hE := hE.trans e28
      replace hD := hD.trans e28
      replace h1 := h1.ext e28
      replace h2 := h2.ext e28
      replace B4 := B4.ext e28
      replace B6 := B6.ext e28
      replace h22 := h22.ext e28
      replace h24 := h24.ext e28
      refine ⟨_, rfl, hD, ?_⟩
      refine d_p rfl rfl rfl rfl ?_
      refine d_p rfl rfl rfl rfl ?_
      refine d_know 30 (.bool true) rfl (congrArg Value.bool (by simp [bqq_self])) ?_
      refine dw_rd rfl rfl (fun W' hW' => ex_loadN (cs := [.int .i64 r1, .int .i64 n1]) rfl rfl rfl rfl (fun j _ => by rw [Nat.zero_add]; exact (Blk.ext B4d hW').cell j)) rfl ?_
      refine d_p rfl rfl rfl rfl ?_
      refine dw_rd rfl rfl (fun W' hW' => ex_loadN (cs := [.int .i64 r2, .int .i64 n2]) rfl rfl rfl rfl (fun j _ => by rw [Nat.zero_add]; exact (Blk.ext B6d hW').cell j)) rfl ?_
      refine d_p rfl rfl rfl rfl ?_
      refine dw_call rfl rfl (ec_call rfl) rfl ((Less_spec h22 h24).mono ?_)
      rintro _ w35 ⟨rfl, e35⟩
      replace hE := hE.trans e35
      replace hD := hD.trans e35
      replace h1 := h1.ext e35
      replace h2 := h2.ext e35
      replace B4 := B4.ext e35
      replace B6 := B6.ext e35
      replace h22 := h22.ext e35
      replace h24 := h24.ext e35
      refine ⟨_, rfl, hD, ?_⟩
      refine dw_rd rfl rfl (fun W' hW' => ex_loadN (cs := [.int .i64 r1, .int .i64 n1]) rfl rfl rfl rfl (fun j _ => by rw [Nat.zero_add]; exact (Blk.ext B4d hW').cell j)) rfl ?_
      refine d_p rfl rfl rfl rfl ?_
      refine dw_rd rfl rfl (fun W' hW' => ex_loadN (cs := [.int .i64 r2, .int .i64 n2]) rfl rfl rfl rfl (fun j _ => by rw [Nat.zero_add]; exact (Blk.ext B6d hW').cell j)) rfl ?_
      refine d_p rfl rfl rfl rfl ?_
      refine dw_call rfl rfl (ec_call rfl) rfl ((refLess_spec h1 h2 (by omega) (by omega)).mono ?_)
      rintro _ w40 ⟨rfl, e40⟩
      replace hE := hE.trans e40
      replace hD := hD.trans e40
      replace h1 := h1.ext e40
      replace h2 := h2.ext e40
      replace B4 := B4.ext e40
      replace B6 := B6.ext e40
      replace h22 := h22.ext e40
      replace h24 := h24.ext e40
      refine ⟨_, rfl, hD, ?_⟩
      refine d_p rfl rfl rfl rfl ?_
      refine d_p rfl rfl rfl rfl ?_
      refine d_p rfl rfl rfl rfl ?_
      refine d_know 11 (.bool true) rfl (congrArg Value.bool (by simp [bqq_self])) ?_
      clear hD
      refine (dw_nil (pn_then (cw_seq (cw_region ?_))))
      refine o_p rfl rfl rfl ?_
      refine o_p rfl rfl rfl ?_
      refine o_p rfl rfl rfl ?_
      refine o_p rfl rfl rfl ?_
      refine ow_call rfl (ec_call rfl) rfl (((SameInts_spec h22 h1)).mono ?_)
      rintro _ w47 ⟨rfl, e47⟩
      replace hE := hE.trans e47
      replace h1 := h1.ext e47
      replace h2 := h2.ext e47
      replace B4 := B4.ext e47
      replace B6 := B6.ext e47
      replace h22 := h22.ext e47
      replace h24 := h24.ext e47
      refine ⟨_, rfl, ?_⟩
      refine o_p rfl rfl rfl ?_
      refine o_p rfl rfl rfl ?_
      refine o_know 49 (.bool true) rfl (congrArg Value.bool (by simp [bqq_self])) ?_
      refine o_p rfl rfl rfl ?_
      refine o_p rfl rfl rfl ?_
      refine ow_call rfl (ec_call rfl) rfl (((SameInts_spec h24 h2)).mono ?_)
      rintro _ w52 ⟨rfl, e52⟩
      replace hE := hE.trans e52
      replace h1 := h1.ext e52
      replace h2 := h2.ext e52
      replace B4 := B4.ext e52
      replace B6 := B6.ext e52
      replace h22 := h22.ext e52
      replace h24 := h24.ext e52
      refine ⟨_, rfl, ?_⟩
      refine o_p rfl rfl rfl ?_
      refine o_p rfl rfl rfl ?_
      refine o_know 54 (.bool true) rfl (congrArg Value.bool (by simp [bqq_self])) ?_
      refine ow_call rfl (ec_call rfl) rfl ((awake_spec).mono ?_)
      rintro _ w55 ⟨rfl, e55⟩
      replace hE := hE.trans e55
      replace h1 := h1.ext e55
      replace h2 := h2.ext e55
      replace B4 := B4.ext e55
      replace B6 := B6.ext e55
      replace h22 := h22.ext e55
      replace h24 := h24.ext e55
      refine ⟨_, rfl, ?_⟩
      refine o_p rfl rfl rfl ?_
      refine o_p rfl rfl rfl ?_
      refine (ow_nil (pn_then (cw_ret (pn_ret rfl rfl ⟨rfl, hE⟩))))

theorem open_dot {H : Type} {enc : TypeId × Value → H} {W : World} {base b0 : Nat} {spare : Nat → Bool} {held : Bool} {r : Reach} {v : Value} {d : DataW H} {ps : List MemPlace} (hval : Value.okWide Try.prog W r b0 t_api_Dot v)
    (h : DataW.Trod enc Try.prog W base spare held t_api_Dot v d ps) : ∃ x n : Int, v = dotV x n := by
  have hs : Try.prog.underlying t_api_Dot = some (.struct (Try.prog.fieldsOf t_api_Dot)) := by kernel_rfl
  have hf : ∃ f g : Field, Try.prog.fieldsOf t_api_Dot = #[f, g] ∧ f.type = t_int ∧ g.type = t_int := ⟨_, _, rfl, rfl, rfl⟩
  have hone : Deep.oneCellFields Try.prog (Try.prog.fieldsOf t_api_Dot) = true := by kernel_rfl
  obtain ⟨f, g, hfg, ef, eg⟩ := hf
  rw [hfg] at hs hone
  obtain ⟨c0, c1, y0, y1, m, rfl, _, _, h0, h1⟩ := Go.Joins.open_agg2 hs hone (by kernel_rfl) hval h
  have ui : Try.prog.underlying t_int = some (.int .i64) := by kernel_rfl
  rw [ef] at h0
  rw [eg] at h1
  obtain ⟨a, ha, _⟩ := DataW.trod_int ui h0
  obtain ⟨b, hb, _⟩ := DataW.trod_int ui h1
  simp only [List.cons.injEq, and_true] at ha hb
  exact ⟨a, b, by rw [ha, hb]⟩
end Go.Proofs.Ytplkinnaccpomaa
