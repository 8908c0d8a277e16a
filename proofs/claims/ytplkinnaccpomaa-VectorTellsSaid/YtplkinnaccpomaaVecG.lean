/- Vectors, part seven: the chapter examples, as a program printed their walk (lawgen.py). Conditions: none. -/
import Derived.Test.YtplkinnaccpomaaVecF
namespace Go.Proofs.Ytplkinnaccpomaa
open Go.Eng Go.RowKit
theorem awake_spec {w : World} : Calls Try.prog n_entrepotlaw14_awake #[] w fun e w' => e = .returned (.bool true) ∧ Ext w w' := by
  have hE : Ext w w := Fr.refl _ _
  refine enter0 F_entrepotlaw14_awake rfl rfl ?_
  refine sr ?_
  refine o_p rfl rfl rfl ?_
  refine on ?_
  refine sr ?_
  refine ow_lit [.int .i64 1, .int .i64 2] rfl rfl rfl rfl rfl rfl rfl rfl rfl ?_
  intro w1 b1 e1
  replace hE := hE.trans e1
  have h1 : IL w1 _ [1, 2] := b1.sl (n := 2) (sz := 1) rfl (by decide)
  refine ow_call rfl (ec_call rfl) rfl ((of_spec _ _).mono ?_)
  rintro _ w2 ⟨rfl, rfl⟩; refine ⟨_, rfl, ?_⟩
  refine ow_call rfl (ec_call rfl) rfl ((At_spec_vector_At h1).mono ?_)
  rintro _ w3 ⟨rfl, rfl⟩; refine ⟨_, rfl, ?_⟩
  refine o_p rfl rfl rfl ?_
  refine o_p rfl rfl rfl ?_
  refine o_know 5 (.bool true) rfl (congrArg Value.bool (by decide)) ?_
  refine ow_lit [.int .i64 1, .int .i64 2] rfl rfl rfl rfl rfl rfl rfl rfl rfl ?_
  intro w6 b6 e6
  replace hE := hE.trans e6
  have h6 : IL w6 _ [1, 2] := b6.sl (n := 2) (sz := 1) rfl (by decide)
  refine ow_call rfl (ec_call rfl) rfl ((of_spec _ _).mono ?_)
  rintro _ w7 ⟨rfl, rfl⟩; refine ⟨_, rfl, ?_⟩
  refine ow_call rfl (ec_call rfl) rfl ((dot_spec _ _ _).mono ?_)
  rintro _ w8 ⟨rfl, e8⟩; refine ⟨_, rfl, ?_⟩
  replace hE := hE.trans e8
  replace h6 := h6.ext e8
  refine ow_call rfl (ec_call rfl) rfl ((Has_spec_vector_Has h6).mono ?_)
  rintro _ w9 ⟨rfl, e9⟩; refine ⟨_, rfl, ?_⟩
  replace hE := hE.trans e9
  refine o_p rfl rfl rfl ?_
  refine o_p rfl rfl rfl ?_
  refine o_know 11 (.bool true) rfl (congrArg Value.bool (by decide)) ?_
  refine ow_lit [.int .i64 1, .int .i64 2] rfl rfl rfl rfl rfl rfl rfl rfl rfl ?_
  intro w12 b12 e12
  replace hE := hE.trans e12
  have h12 : IL w12 _ [1, 2] := b12.sl (n := 2) (sz := 1) rfl (by decide)
  refine ow_call rfl (ec_call rfl) rfl ((of_spec _ _).mono ?_)
  rintro _ w13 ⟨rfl, rfl⟩; refine ⟨_, rfl, ?_⟩
  refine ow_lit [.int .i64 1, .int .i64 2, .int .i64 0] rfl rfl rfl rfl rfl rfl rfl rfl rfl ?_
  intro w14 b14 e14
  replace hE := hE.trans e14
  replace h12 := h12.ext e14
  have h14 : IL w14 _ [1, 2, 0] := b14.sl (n := 3) (sz := 1) rfl (by decide)
  refine ow_call rfl (ec_call rfl) rfl ((of_spec _ _).mono ?_)
  rintro _ w15 ⟨rfl, rfl⟩; refine ⟨_, rfl, ?_⟩
  refine ow_call rfl (ec_call rfl) rfl ((Leq_spec h12 h14).mono ?_)
  rintro _ w16 ⟨rfl, e16⟩; refine ⟨_, rfl, ?_⟩
  replace hE := hE.trans e16
  refine o_p rfl rfl rfl ?_
  refine o_p rfl rfl rfl ?_
  refine o_know 18 (.bool true) rfl (congrArg Value.bool (by decide)) ?_
  refine ow_lit [.int .i64 1, .int .i64 2] rfl rfl rfl rfl rfl rfl rfl rfl rfl ?_
  intro w19 b19 e19
  replace hE := hE.trans e19
  have h19 : IL w19 _ [1, 2] := b19.sl (n := 2) (sz := 1) rfl (by decide)
  refine ow_call rfl (ec_call rfl) rfl ((of_spec _ _).mono ?_)
  rintro _ w20 ⟨rfl, rfl⟩; refine ⟨_, rfl, ?_⟩
  refine ow_lit [.int .i64 2, .int .i64 1, .int .i64 4] rfl rfl rfl rfl rfl rfl rfl rfl rfl ?_
  intro w21 b21 e21
  replace hE := hE.trans e21
  replace h19 := h19.ext e21
  have h21 : IL w21 _ [2, 1, 4] := b21.sl (n := 3) (sz := 1) rfl (by decide)
  refine ow_call rfl (ec_call rfl) rfl ((of_spec _ _).mono ?_)
  rintro _ w22 ⟨rfl, rfl⟩; refine ⟨_, rfl, ?_⟩
  refine ow_call rfl (ec_call rfl) rfl ((Join_spec h19 h21 (by decide) (by decide)).mono ?_)
  rintro _ w23 ⟨v23, rfl, m23, e23⟩; refine ⟨_, rfl, ?_⟩
  replace hE := hE.trans e23
  have h23 : IL w23 v23 (joinL [1, 2] [2, 1, 4]) := Mine.sl m23
  refine ow_lit [.int .i64 2, .int .i64 2, .int .i64 4] rfl rfl rfl rfl rfl rfl rfl rfl rfl ?_
  intro w24 b24 e24
  replace hE := hE.trans e24
  replace h23 := h23.ext e24
  have h24 : IL w24 _ [2, 2, 4] := b24.sl (n := 3) (sz := 1) rfl (by decide)
  refine ow_call rfl (ec_call rfl) rfl ((of_spec _ _).mono ?_)
  rintro _ w25 ⟨rfl, rfl⟩; refine ⟨_, rfl, ?_⟩
  refine ow_call rfl (ec_call rfl) rfl ((SameInts_spec h23 h24).mono ?_)
  rintro _ w26 ⟨rfl, e26⟩; refine ⟨_, rfl, ?_⟩
  replace hE := hE.trans e26
  refine o_p rfl rfl rfl ?_
  refine o_p rfl rfl rfl ?_
  refine o_know 28 (.bool true) rfl (congrArg Value.bool (by decide)) ?_
  refine ow_lit [.int .i64 1, .int .i64 2] rfl rfl rfl rfl rfl rfl rfl rfl rfl ?_
  intro w29 b29 e29
  replace hE := hE.trans e29
  have h29 : IL w29 _ [1, 2] := b29.sl (n := 2) (sz := 1) rfl (by decide)
  refine ow_call rfl (ec_call rfl) rfl ((of_spec _ _).mono ?_)
  rintro _ w30 ⟨rfl, rfl⟩; refine ⟨_, rfl, ?_⟩
  refine ow_call rfl (ec_call rfl) rfl ((Next_spec_vector h29).mono ?_)
  rintro _ w31 ⟨rfl, e31⟩; refine ⟨_, rfl, ?_⟩
  replace hE := hE.trans e31
  refine ow_call rfl (ec_call rfl) rfl ((dot_spec _ _ _).mono ?_)
  rintro _ w32 ⟨rfl, e32⟩; refine ⟨_, rfl, ?_⟩
  replace hE := hE.trans e32
  refine ow_pu rfl (pu_eqA rfl rfl (eq_dot _ _ _ _)) rfl ?_
  refine o_p rfl rfl rfl ?_
  refine o_p rfl rfl rfl ?_
  refine o_know 0 (.bool true) rfl (congrArg Value.bool (by decide)) ?_
  refine on ?_
  exact cw_ret (pn_ret rfl rfl ⟨rfl, hE⟩)
theorem walk_VectorKnown {w : World} : Calls Try.prog n_entrepotlaw14_VectorKnown #[] w fun e w' => e = .returned (.bool true) ∧ Ext w w' := by
  have hE : Ext w w := Fr.refl _ _
  refine enter0 F_entrepotlaw14_VectorKnown rfl rfl ?_
  refine sr ?_
  refine o_p rfl rfl rfl ?_
  refine on ?_
  refine sr ?_
  refine ow_lit [.int .i64 1, .int .i64 2] rfl rfl rfl rfl rfl rfl rfl rfl rfl ?_
  intro w4 b4 e4
  replace hE := hE.trans e4
  have h4 : IL w4 _ [1, 2] := b4.sl (n := 2) (sz := 1) rfl (by decide)
  refine ow_call rfl (ec_call rfl) rfl ((of_spec _ _).mono ?_)
  rintro _ w5 ⟨rfl, rfl⟩; refine ⟨_, rfl, ?_⟩
  refine ow_call rfl (ec_call rfl) rfl ((At_spec_vector_At h4).mono ?_)
  rintro _ w6 ⟨rfl, rfl⟩; refine ⟨_, rfl, ?_⟩
  refine o_p rfl rfl rfl ?_
  refine o_p rfl rfl rfl ?_
  refine o_know 8 (.bool true) rfl (congrArg Value.bool (by decide)) ?_
  refine ow_lit [.int .i64 (-5)] rfl rfl rfl rfl rfl rfl rfl rfl rfl ?_
  intro w9 b9 e9
  replace hE := hE.trans e9
  have h9 : IL w9 _ [(-5)] := b9.sl (n := 1) (sz := 1) rfl (by decide)
  refine ow_call rfl (ec_call rfl) rfl ((of_spec _ _).mono ?_)
  rintro _ w10 ⟨rfl, rfl⟩; refine ⟨_, rfl, ?_⟩
  refine ow_call rfl (ec_call rfl) rfl ((At_spec_vector_At h9).mono ?_)
  rintro _ w11 ⟨rfl, rfl⟩; refine ⟨_, rfl, ?_⟩
  refine o_p rfl rfl rfl ?_
  refine o_p rfl rfl rfl ?_
  refine o_p rfl rfl rfl ?_
  refine o_know 14 (.bool true) rfl (congrArg Value.bool (by decide)) ?_
  refine ow_lit [.int .i64 1, .int .i64 2] rfl rfl rfl rfl rfl rfl rfl rfl rfl ?_
  intro w15 b15 e15
  replace hE := hE.trans e15
  have h15 : IL w15 _ [1, 2] := b15.sl (n := 2) (sz := 1) rfl (by decide)
  refine ow_call rfl (ec_call rfl) rfl ((of_spec _ _).mono ?_)
  rintro _ w16 ⟨rfl, rfl⟩; refine ⟨_, rfl, ?_⟩
  refine ow_call rfl (ec_call rfl) rfl ((dot_spec _ _ _).mono ?_)
  rintro _ w17 ⟨rfl, e17⟩; refine ⟨_, rfl, ?_⟩
  replace hE := hE.trans e17
  replace h15 := h15.ext e17
  refine ow_call rfl (ec_call rfl) rfl ((Has_spec_vector_Has h15).mono ?_)
  rintro _ w18 ⟨rfl, e18⟩; refine ⟨_, rfl, ?_⟩
  replace hE := hE.trans e18
  refine o_p rfl rfl rfl ?_
  refine o_p rfl rfl rfl ?_
  refine o_p rfl rfl rfl ?_
  refine o_know 21 (.bool true) rfl (congrArg Value.bool (by decide)) ?_
  refine ow_lit [.int .i64 1, .int .i64 2] rfl rfl rfl rfl rfl rfl rfl rfl rfl ?_
  intro w22 b22 e22
  replace hE := hE.trans e22
  have h22 : IL w22 _ [1, 2] := b22.sl (n := 2) (sz := 1) rfl (by decide)
  refine ow_call rfl (ec_call rfl) rfl ((of_spec _ _).mono ?_)
  rintro _ w23 ⟨rfl, rfl⟩; refine ⟨_, rfl, ?_⟩
  refine ow_call rfl (ec_call rfl) rfl ((dot_spec _ _ _).mono ?_)
  rintro _ w24 ⟨rfl, e24⟩; refine ⟨_, rfl, ?_⟩
  replace hE := hE.trans e24
  replace h22 := h22.ext e24
  refine ow_call rfl (ec_call rfl) rfl ((Has_spec_vector_Has h22).mono ?_)
  rintro _ w25 ⟨rfl, e25⟩; refine ⟨_, rfl, ?_⟩
  replace hE := hE.trans e25
  refine o_p rfl rfl rfl ?_
  refine o_p rfl rfl rfl ?_
  refine o_p rfl rfl rfl ?_
  refine o_know 28 (.bool true) rfl (congrArg Value.bool (by decide)) ?_
  refine ow_lit [.int .i64 1, .int .i64 2] rfl rfl rfl rfl rfl rfl rfl rfl rfl ?_
  intro w29 b29 e29
  replace hE := hE.trans e29
  have h29 : IL w29 _ [1, 2] := b29.sl (n := 2) (sz := 1) rfl (by decide)
  refine ow_call rfl (ec_call rfl) rfl ((of_spec _ _).mono ?_)
  rintro _ w30 ⟨rfl, rfl⟩; refine ⟨_, rfl, ?_⟩
  refine ow_lit [.int .i64 1, .int .i64 2, .int .i64 0] rfl rfl rfl rfl rfl rfl rfl rfl rfl ?_
  intro w31 b31 e31
  replace hE := hE.trans e31
  replace h29 := h29.ext e31
  have h31 : IL w31 _ [1, 2, 0] := b31.sl (n := 3) (sz := 1) rfl (by decide)
  refine ow_call rfl (ec_call rfl) rfl ((of_spec _ _).mono ?_)
  rintro _ w32 ⟨rfl, rfl⟩; refine ⟨_, rfl, ?_⟩
  refine ow_call rfl (ec_call rfl) rfl ((Same_spec h29 h31).mono ?_)
  rintro _ w33 ⟨rfl, e33⟩; refine ⟨_, rfl, ?_⟩
  replace hE := hE.trans e33
  refine o_p rfl rfl rfl ?_
  refine o_p rfl rfl rfl ?_
  refine o_know 35 (.bool true) rfl (congrArg Value.bool (by decide)) ?_
  refine ow_lit [.int .i64 1, .int .i64 2] rfl rfl rfl rfl rfl rfl rfl rfl rfl ?_
  intro w36 b36 e36
  replace hE := hE.trans e36
  have h36 : IL w36 _ [1, 2] := b36.sl (n := 2) (sz := 1) rfl (by decide)
  refine ow_call rfl (ec_call rfl) rfl ((of_spec _ _).mono ?_)
  rintro _ w37 ⟨rfl, rfl⟩; refine ⟨_, rfl, ?_⟩
  refine ow_lit [.int .i64 2, .int .i64 1] rfl rfl rfl rfl rfl rfl rfl rfl rfl ?_
  intro w38 b38 e38
  replace hE := hE.trans e38
  replace h36 := h36.ext e38
  have h38 : IL w38 _ [2, 1] := b38.sl (n := 2) (sz := 1) rfl (by decide)
  refine ow_call rfl (ec_call rfl) rfl ((of_spec _ _).mono ?_)
  rintro _ w39 ⟨rfl, rfl⟩; refine ⟨_, rfl, ?_⟩
  refine ow_call rfl (ec_call rfl) rfl ((Leq_spec h36 h38).mono ?_)
  rintro _ w40 ⟨rfl, e40⟩; refine ⟨_, rfl, ?_⟩
  replace hE := hE.trans e40
  refine o_p rfl rfl rfl ?_
  refine o_p rfl rfl rfl ?_
  refine o_p rfl rfl rfl ?_
  refine o_know 43 (.bool true) rfl (congrArg Value.bool (by decide)) ?_
  refine ow_lit [.int .i64 1, .int .i64 2] rfl rfl rfl rfl rfl rfl rfl rfl rfl ?_
  intro w44 b44 e44
  replace hE := hE.trans e44
  have h44 : IL w44 _ [1, 2] := b44.sl (n := 2) (sz := 1) rfl (by decide)
  refine ow_call rfl (ec_call rfl) rfl ((of_spec _ _).mono ?_)
  rintro _ w45 ⟨rfl, rfl⟩; refine ⟨_, rfl, ?_⟩
  refine ow_lit [.int .i64 2, .int .i64 1, .int .i64 4] rfl rfl rfl rfl rfl rfl rfl rfl rfl ?_
  intro w46 b46 e46
  replace hE := hE.trans e46
  replace h44 := h44.ext e46
  have h46 : IL w46 _ [2, 1, 4] := b46.sl (n := 3) (sz := 1) rfl (by decide)
  refine ow_call rfl (ec_call rfl) rfl ((of_spec _ _).mono ?_)
  rintro _ w47 ⟨rfl, rfl⟩; refine ⟨_, rfl, ?_⟩
  refine ow_call rfl (ec_call rfl) rfl ((Meet_spec h44 h46 (by decide) (by decide)).mono ?_)
  rintro _ w48 ⟨v48, rfl, m48, e48⟩; refine ⟨_, rfl, ?_⟩
  replace hE := hE.trans e48
  have h48 : IL w48 v48 (meetL [1, 2] [2, 1, 4]) := Mine.sl m48
  refine ow_lit [.int .i64 1, .int .i64 1, .int .i64 0] rfl rfl rfl rfl rfl rfl rfl rfl rfl ?_
  intro w49 b49 e49
  replace hE := hE.trans e49
  replace h48 := h48.ext e49
  have h49 : IL w49 _ [1, 1, 0] := b49.sl (n := 3) (sz := 1) rfl (by decide)
  refine ow_call rfl (ec_call rfl) rfl ((of_spec _ _).mono ?_)
  rintro _ w50 ⟨rfl, rfl⟩; refine ⟨_, rfl, ?_⟩
  refine ow_call rfl (ec_call rfl) rfl ((SameInts_spec h48 h49).mono ?_)
  rintro _ w51 ⟨rfl, e51⟩; refine ⟨_, rfl, ?_⟩
  replace hE := hE.trans e51
  refine o_p rfl rfl rfl ?_
  refine o_p rfl rfl rfl ?_
  refine o_know 1 (.bool true) rfl (congrArg Value.bool (by decide)) ?_
  refine on ?_
  refine sr ?_
  refine ow_lit [.int .i64 1] rfl rfl rfl rfl rfl rfl rfl rfl rfl ?_
  intro w53 b53 e53
  replace hE := hE.trans e53
  have h53 : IL w53 _ [1] := b53.sl (n := 1) (sz := 1) rfl (by decide)
  refine ow_call rfl (ec_call rfl) rfl ((of_spec _ _).mono ?_)
  rintro _ w54 ⟨rfl, rfl⟩; refine ⟨_, rfl, ?_⟩
  refine ow_call rfl (ec_call rfl) rfl ((dot_spec _ _ _).mono ?_)
  rintro _ w55 ⟨rfl, e55⟩; refine ⟨_, rfl, ?_⟩
  replace hE := hE.trans e55
  replace h53 := h53.ext e55
  refine ow_call rfl (ec_call rfl) rfl ((With_spec_vector h53 (by decide)).mono ?_)
  rintro _ w56 ⟨v56, rfl, m56, e56⟩; refine ⟨_, rfl, ?_⟩
  replace hE := hE.trans e56
  have h56 : IL w56 v56 (withL [1] 3 2) := Mine.sl m56
  refine ow_lit [.int .i64 1, .int .i64 0, .int .i64 2] rfl rfl rfl rfl rfl rfl rfl rfl rfl ?_
  intro w57 b57 e57
  replace hE := hE.trans e57
  replace h56 := h56.ext e57
  have h57 : IL w57 _ [1, 0, 2] := b57.sl (n := 3) (sz := 1) rfl (by decide)
  refine ow_call rfl (ec_call rfl) rfl ((of_spec _ _).mono ?_)
  rintro _ w58 ⟨rfl, rfl⟩; refine ⟨_, rfl, ?_⟩
  refine ow_call rfl (ec_call rfl) rfl ((SameInts_spec h56 h57).mono ?_)
  rintro _ w59 ⟨rfl, e59⟩; refine ⟨_, rfl, ?_⟩
  replace hE := hE.trans e59
  refine o_p rfl rfl rfl ?_
  refine o_know 60 (.bool true) rfl (congrArg Value.bool (by decide)) ?_
  refine ow_lit [.int .i64 1, .int .i64 5] rfl rfl rfl rfl rfl rfl rfl rfl rfl ?_
  intro w61 b61 e61
  replace hE := hE.trans e61
  have h61 : IL w61 _ [1, 5] := b61.sl (n := 2) (sz := 1) rfl (by decide)
  refine ow_call rfl (ec_call rfl) rfl ((of_spec _ _).mono ?_)
  rintro _ w62 ⟨rfl, rfl⟩; refine ⟨_, rfl, ?_⟩
  refine ow_call rfl (ec_call rfl) rfl ((dot_spec _ _ _).mono ?_)
  rintro _ w63 ⟨rfl, e63⟩; refine ⟨_, rfl, ?_⟩
  replace hE := hE.trans e63
  replace h61 := h61.ext e63
  refine ow_call rfl (ec_call rfl) rfl ((With_spec_vector h61 (by decide)).mono ?_)
  rintro _ w64 ⟨v64, rfl, m64, e64⟩; refine ⟨_, rfl, ?_⟩
  replace hE := hE.trans e64
  have h64 : IL w64 v64 (withL [1, 5] 2 3) := Mine.sl m64
  refine ow_lit [.int .i64 1, .int .i64 5] rfl rfl rfl rfl rfl rfl rfl rfl rfl ?_
  intro w65 b65 e65
  replace hE := hE.trans e65
  replace h64 := h64.ext e65
  have h65 : IL w65 _ [1, 5] := b65.sl (n := 2) (sz := 1) rfl (by decide)
  refine ow_call rfl (ec_call rfl) rfl ((of_spec _ _).mono ?_)
  rintro _ w66 ⟨rfl, rfl⟩; refine ⟨_, rfl, ?_⟩
  refine ow_call rfl (ec_call rfl) rfl ((SameInts_spec h64 h65).mono ?_)
  rintro _ w67 ⟨rfl, e67⟩; refine ⟨_, rfl, ?_⟩
  replace hE := hE.trans e67
  refine o_p rfl rfl rfl ?_
  refine o_p rfl rfl rfl ?_
  refine o_know 69 (.bool true) rfl (congrArg Value.bool (by decide)) ?_
  refine ow_lit [.int .i64 1] rfl rfl rfl rfl rfl rfl rfl rfl rfl ?_
  intro w70 b70 e70
  replace hE := hE.trans e70
  have h70 : IL w70 _ [1] := b70.sl (n := 1) (sz := 1) rfl (by decide)
  refine ow_call rfl (ec_call rfl) rfl ((of_spec _ _).mono ?_)
  rintro _ w71 ⟨rfl, rfl⟩; refine ⟨_, rfl, ?_⟩
  refine ow_call rfl (ec_call rfl) rfl ((dot_spec _ _ _).mono ?_)
  rintro _ w72 ⟨rfl, e72⟩; refine ⟨_, rfl, ?_⟩
  replace hE := hE.trans e72
  replace h70 := h70.ext e72
  refine ow_call rfl (ec_call rfl) rfl ((With_spec_vector h70 (by decide)).mono ?_)
  rintro _ w73 ⟨v73, rfl, m73, e73⟩; refine ⟨_, rfl, ?_⟩
  replace hE := hE.trans e73
  have h73 : IL w73 v73 (withL [1] 17 1) := Mine.sl m73
  refine ow_lit [.int .i64 1] rfl rfl rfl rfl rfl rfl rfl rfl rfl ?_
  intro w74 b74 e74
  replace hE := hE.trans e74
  replace h73 := h73.ext e74
  have h74 : IL w74 _ [1] := b74.sl (n := 1) (sz := 1) rfl (by decide)
  refine ow_call rfl (ec_call rfl) rfl ((of_spec _ _).mono ?_)
  rintro _ w75 ⟨rfl, rfl⟩; refine ⟨_, rfl, ?_⟩
  refine ow_call rfl (ec_call rfl) rfl ((SameInts_spec h73 h74).mono ?_)
  rintro _ w76 ⟨rfl, e76⟩; refine ⟨_, rfl, ?_⟩
  replace hE := hE.trans e76
  refine o_p rfl rfl rfl ?_
  refine o_p rfl rfl rfl ?_
  refine o_know 78 (.bool true) rfl (congrArg Value.bool (by decide)) ?_
  refine ow_lit [.int .i64 1, .int .i64 2] rfl rfl rfl rfl rfl rfl rfl rfl rfl ?_
  intro w79 b79 e79
  replace hE := hE.trans e79
  have h79 : IL w79 _ [1, 2] := b79.sl (n := 2) (sz := 1) rfl (by decide)
  refine ow_call rfl (ec_call rfl) rfl ((of_spec _ _).mono ?_)
  rintro _ w80 ⟨rfl, rfl⟩; refine ⟨_, rfl, ?_⟩
  refine ow_call rfl (ec_call rfl) rfl ((Next_spec_vector h79).mono ?_)
  rintro _ w81 ⟨rfl, e81⟩; refine ⟨_, rfl, ?_⟩
  replace hE := hE.trans e81
  refine ow_call rfl (ec_call rfl) rfl ((dot_spec _ _ _).mono ?_)
  rintro _ w82 ⟨rfl, e82⟩; refine ⟨_, rfl, ?_⟩
  replace hE := hE.trans e82
  refine ow_pu rfl (pu_eqA rfl rfl (eq_dot _ _ _ _)) rfl ?_
  refine o_p rfl rfl rfl ?_
  refine o_p rfl rfl rfl ?_
  refine o_know 85 (.bool true) rfl (congrArg Value.bool (by decide)) ?_
  refine ow_lit [.int .i64 1] rfl rfl rfl rfl rfl rfl rfl rfl rfl ?_
  intro w86 b86 e86
  replace hE := hE.trans e86
  have h86 : IL w86 _ [1] := b86.sl (n := 1) (sz := 1) rfl (by decide)
  refine ow_call rfl (ec_call rfl) rfl ((of_spec _ _).mono ?_)
  rintro _ w87 ⟨rfl, rfl⟩; refine ⟨_, rfl, ?_⟩
  refine ow_call rfl (ec_call rfl) rfl ((Next_spec_vector h86).mono ?_)
  rintro _ w88 ⟨rfl, e88⟩; refine ⟨_, rfl, ?_⟩
  replace hE := hE.trans e88
  refine ow_call rfl (ec_call rfl) rfl ((dot_spec _ _ _).mono ?_)
  rintro _ w89 ⟨rfl, e89⟩; refine ⟨_, rfl, ?_⟩
  replace hE := hE.trans e89
  refine ow_pu rfl (pu_eqA rfl rfl (eq_dot _ _ _ _)) rfl ?_
  refine o_p rfl rfl rfl ?_
  refine o_p rfl rfl rfl ?_
  refine o_know 2 (.bool true) rfl (congrArg Value.bool (by decide)) ?_
  refine on ?_
  refine sr ?_
  refine ow_lit [.int .i64 1, .int .i64 2, .int .i64 (-7)] rfl rfl rfl rfl rfl rfl rfl rfl rfl ?_
  intro w92 b92 e92
  replace hE := hE.trans e92
  have h92 : IL w92 _ [1, 2, (-7)] := b92.sl (n := 3) (sz := 1) rfl (by decide)
  refine ow_call rfl (ec_call rfl) rfl ((of_spec _ _).mono ?_)
  rintro _ w93 ⟨rfl, rfl⟩; refine ⟨_, rfl, ?_⟩
  refine ow_call rfl (ec_call rfl) rfl ((Weight_spec h92).mono ?_)
  rintro _ w94 ⟨rfl, e94⟩; refine ⟨_, rfl, ?_⟩
  replace hE := hE.trans e94
  refine o_p rfl rfl rfl ?_
  refine o_p rfl rfl rfl ?_
  refine o_know 96 (.bool true) rfl (congrArg Value.bool (by decide)) ?_
  refine ow_lit [.int .i64 4611686018427387904, .int .i64 1] rfl rfl rfl rfl rfl rfl rfl rfl rfl ?_
  intro w97 b97 e97
  replace hE := hE.trans e97
  have h97 : IL w97 _ [4611686018427387904, 1] := b97.sl (n := 2) (sz := 1) rfl (by decide)
  refine ow_call rfl (ec_call rfl) rfl ((of_spec _ _).mono ?_)
  rintro _ w98 ⟨rfl, rfl⟩; refine ⟨_, rfl, ?_⟩
  refine ow_call rfl (ec_call rfl) rfl ((Weight_spec h97).mono ?_)
  rintro _ w99 ⟨rfl, e99⟩; refine ⟨_, rfl, ?_⟩
  replace hE := hE.trans e99
  refine o_p rfl rfl rfl ?_
  refine o_p rfl rfl rfl ?_
  refine o_p rfl rfl rfl ?_
  refine o_know 102 (.bool true) rfl (congrArg Value.bool (by decide)) ?_
  refine ow_call rfl (ec_call rfl) rfl ((dot_spec _ _ _).mono ?_)
  rintro _ w103 ⟨rfl, e103⟩; refine ⟨_, rfl, ?_⟩
  replace hE := hE.trans e103
  refine ow_lit [.int .i64 1] rfl rfl rfl rfl rfl rfl rfl rfl rfl ?_
  intro w104 b104 e104
  replace hE := hE.trans e104
  have h104 : IL w104 _ [1] := b104.sl (n := 1) (sz := 1) rfl (by decide)
  refine ow_call rfl (ec_call rfl) rfl ((of_spec _ _).mono ?_)
  rintro _ w105 ⟨rfl, rfl⟩; refine ⟨_, rfl, ?_⟩
  refine ow_call rfl (ec_call rfl) rfl ((dot_spec _ _ _).mono ?_)
  rintro _ w106 ⟨rfl, e106⟩; refine ⟨_, rfl, ?_⟩
  replace hE := hE.trans e106
  replace h104 := h104.ext e106
  refine ow_lit [.int .i64 0, .int .i64 0] rfl rfl rfl rfl rfl rfl rfl rfl rfl ?_
  intro w107 b107 e107
  replace hE := hE.trans e107
  replace h104 := h104.ext e107
  have h107 : IL w107 _ [0, 0] := b107.sl (n := 2) (sz := 1) rfl (by decide)
  refine ow_call rfl (ec_call rfl) rfl ((of_spec _ _).mono ?_)
  rintro _ w108 ⟨rfl, rfl⟩; refine ⟨_, rfl, ?_⟩
  refine ow_call rfl (ec_call rfl) rfl ((Less_spec h104 h107).mono ?_)
  rintro _ w109 ⟨rfl, e109⟩; refine ⟨_, rfl, ?_⟩
  replace hE := hE.trans e109
  refine o_p rfl rfl rfl ?_
  refine o_p rfl rfl rfl ?_
  refine o_p rfl rfl rfl ?_
  refine o_know 112 (.bool true) rfl (congrArg Value.bool (by decide)) ?_
  refine ow_call rfl (ec_call rfl) rfl ((dot_spec _ _ _).mono ?_)
  rintro _ w113 ⟨rfl, e113⟩; refine ⟨_, rfl, ?_⟩
  replace hE := hE.trans e113
  refine ow_call rfl (ec_call rfl) rfl ((dot_spec _ _ _).mono ?_)
  rintro _ w114 ⟨rfl, e114⟩; refine ⟨_, rfl, ?_⟩
  replace hE := hE.trans e114
  refine ow_lit [.int .i64 1] rfl rfl rfl rfl rfl rfl rfl rfl rfl ?_
  intro w115 b115 e115
  replace hE := hE.trans e115
  have h115 : IL w115 _ [1] := b115.sl (n := 1) (sz := 1) rfl (by decide)
  refine ow_call rfl (ec_call rfl) rfl ((of_spec _ _).mono ?_)
  rintro _ w116 ⟨rfl, rfl⟩; refine ⟨_, rfl, ?_⟩
  refine ow_call rfl (ec_call rfl) rfl ((Less_spec (VL.nil _ _) h115).mono ?_)
  rintro _ w117 ⟨rfl, e117⟩; refine ⟨_, rfl, ?_⟩
  replace hE := hE.trans e117
  refine o_p rfl rfl rfl ?_
  refine o_p rfl rfl rfl ?_
  refine o_know 3 (.bool true) rfl (congrArg Value.bool (by decide)) ?_
  refine on ?_
  refine sr ?_
  refine ow_call rfl (ec_call rfl) rfl (awake_spec.mono ?_)
  rintro _ w119 ⟨rfl, e119⟩; refine ⟨_, rfl, ?_⟩
  replace hE := hE.trans e119
  refine o_p rfl rfl rfl ?_
  refine o_know 120 (.bool true) rfl (congrArg Value.bool (by decide)) ?_
  refine o_p rfl rfl rfl ?_
  refine o_p rfl rfl rfl ?_
  refine o_p rfl rfl rfl ?_
  refine o_know 123 (.bool true) rfl (congrArg Value.bool (by decide)) ?_
  refine o_p rfl rfl rfl ?_
  refine o_p rfl rfl rfl ?_
  refine o_p rfl rfl rfl ?_
  refine o_know 126 (.bool true) rfl (congrArg Value.bool (by decide)) ?_
  refine o_p rfl rfl rfl ?_
  refine o_p rfl rfl rfl ?_
  refine o_p rfl rfl rfl ?_
  refine on ?_
  exact cw_ret (pn_ret rfl rfl ⟨rfl, hE⟩)
end Go.Proofs.Ytplkinnaccpomaa
