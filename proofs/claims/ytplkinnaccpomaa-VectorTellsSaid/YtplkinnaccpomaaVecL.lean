/- Vectors: the law VectorTells, as a program printed its walk (lawwalk.py). Conditions: none. -/
import Derived.Test.YtplkinnaccpomaaVecG
import Derived.Test.YtplkinnaccpomaaVecM
namespace Go.Proofs.Ytplkinnaccpomaa
open Go.Eng Go.RowKit
theorem walk_VectorTells {r n k : Int} {v1 v2 : Value} {u v : List Int} {w : World} (h1 : IL w v1 u) (h2 : IL w v2 v) :
    Calls Try.prog n_entrepotlaw14_VectorTells #[v1, v2, dotV r n, .int .i64 k] w fun e w' => e = .returned (.bool true) ∧ Ext w w' := by
  have hE : Ext w w := Fr.refl _ _
  obtain ⟨A1, c1, rfl, _⟩ := VL.op h1
  obtain ⟨A2, c2, rfl, _⟩ := VL.op h2
  refine enter4 F_entrepotlaw14_VectorTells rfl rfl ?_
  refine (cw_seq (cw_region ?_))
  refine ow_box rfl rfl rfl rfl ?_
  intro w6 B6 e6 _
  replace hE := hE.trans e6
  replace h1 := h1.ext e6
  replace h2 := h2.ext e6
  refine o_p rfl rfl rfl ?_
  refine (ow_nil (pn_then (cw_seq (cw_seq (cw_region ?_)))))
  refine o_p rfl rfl rfl ?_
  refine o_p rfl rfl rfl ?_
  refine o_p rfl rfl rfl ?_
  refine o_p rfl rfl rfl ?_
  refine o_split 18 rfl (fun s18 => ?_) (fun s18 => ?_)
  · have q18 := of_decide_eq_true s18
    refine ow_skip rfl rfl ?_
    refine ow_skip rfl rfl ?_
    refine ow_skip rfl rfl ?_
    refine o_p rfl rfl rfl ?_
    refine (ow_nil (pn_then (cw_cond_t rfl (cw_seq (cw_region ?_)))))
    refine ow_call rfl (ec_call rfl) rfl ((awake_spec).mono ?_)
    rintro _ w23 ⟨rfl, e23⟩
    replace hE := hE.trans e23
    replace h1 := h1.ext e23
    replace h2 := h2.ext e23
    replace B6 := B6.ext e23
    refine ⟨_, rfl, ?_⟩
    refine o_p rfl rfl rfl ?_
    refine (ow_nil (pn_then (cw_ret (pn_then_ret (pn_ret rfl rfl ⟨rfl, hE⟩)))))
  · have q18 := of_decide_eq_false s18
    refine o_p rfl rfl rfl ?_
    refine o_p rfl rfl rfl ?_
    refine o_p rfl rfl rfl ?_
    refine o_p rfl rfl rfl ?_
    refine o_split 22 rfl (fun s22 => ?_) (fun s22 => ?_)
    · have q22 := of_decide_eq_true s22
      refine (ow_nil (pn_then (cw_cond_t rfl (cw_seq (cw_region ?_)))))
      refine ow_call rfl (ec_call rfl) rfl ((awake_spec).mono ?_)
      rintro _ w23 ⟨rfl, e23⟩
      replace hE := hE.trans e23
      replace h1 := h1.ext e23
      replace h2 := h2.ext e23
      replace B6 := B6.ext e23
      refine ⟨_, rfl, ?_⟩
      refine o_p rfl rfl rfl ?_
      refine (ow_nil (pn_then (cw_ret (pn_then_ret (pn_ret rfl rfl ⟨rfl, hE⟩)))))
    · have q22 := of_decide_eq_false s22
      refine (ow_nil (pn_then (cw_cond_f rfl (cw_skip (pn_then (cw_seq (cw_region ?_)))))))
      refine o_p rfl rfl rfl ?_
      refine ow_call rfl (ec_call rfl) rfl ((CopyInts_spec h1 (by omega)).mono ?_)
      rintro _ w25 ⟨v25, rfl, m25, e25⟩
      replace hE := hE.trans e25
      replace h1 := h1.ext e25
      replace h2 := h2.ext e25
      replace B6 := B6.ext e25
      have h25 : IL w25 v25 (u) := Mine.sl m25
      refine ⟨_, rfl, ?_⟩
      refine o_p rfl rfl rfl ?_
      refine ow_call rfl (ec_call rfl) rfl ((CopyInts_spec h2 (by omega)).mono ?_)
      rintro _ w27 ⟨v27, rfl, m27, e27⟩
      replace hE := hE.trans e27
      replace h1 := h1.ext e27
      replace h2 := h2.ext e27
      replace B6 := B6.ext e27
      replace h25 := h25.ext e27
      have h27 : IL w27 v27 (v) := Mine.sl m27
      refine ⟨_, rfl, ?_⟩
      refine o_p rfl rfl rfl ?_
      refine o_p rfl rfl rfl ?_
      have hS : Ext w27 w27 := Fr.refl _ _
      have hES := hE
      have h1_S := h1
      have h2_S := h2
      have B6_S := B6
      have h25_S := h25
      have h27_S := h27
      refine (ow_nil (pn_then (cw_seq (cw_draw flo (fun W' => Ext w27 W') (by decide +kernel) (Fr.drew _) ?_))))
      have B6d := B6
      have hD : Ext w27 w27 := Fr.refl _ _
      have eD4 : Ext w27 w27.drew := Fr.drew _
      replace hE := hE.trans eD4
      replace hS := hS.trans eD4
      replace hD := hD.trans eD4
      replace h1 := h1.ext eD4
      replace h2 := h2.ext eD4
      replace B6 := B6.ext eD4
      replace h25 := h25.ext eD4
      replace h27 := h27.ext eD4
      generalize w27.drew = wD4 at *
      refine d_p rfl rfl rfl rfl ?_
      refine d_p rfl rfl rfl rfl ?_
      have z30 := hS.size
      refine dw_call rfl rfl (ec_call rfl) rfl ((Join_spec h25 h27 (by (try simp only [pickL_len, List.length_nil]); omega) (by (try simp only [pickL_len, List.length_nil]); omega)).mono ?_)
      rintro _ w30 ⟨v30, rfl, m30, e30⟩
      replace hE := hE.trans e30
      replace hS := hS.trans e30
      replace hD := hD.trans e30
      replace h1 := h1.ext e30
      replace h2 := h2.ext e30
      replace B6 := B6.ext e30
      replace h25 := h25.ext e30
      replace h27 := h27.ext e30
      have h30 : IL w30 v30 (joinL (u) (v)) := Mine.sl m30
      refine ⟨_, rfl, hD, ?_⟩
      refine d_p rfl rfl rfl rfl ?_
      refine d_p rfl rfl rfl rfl ?_
      have z33 := hS.size
      have l30_33 := fun k hk => (Mine.block m30 (k := k) hk).2
      refine dw_call rfl rfl (ec_call rfl) rfl ((Meet_spec h25 h27 (by (try simp only [pickL_len, List.length_nil]); omega) (by (try simp only [pickL_len, List.length_nil]); omega)).mono ?_)
      rintro _ w33 ⟨v33, rfl, m33, e33⟩
      replace hE := hE.trans e33
      replace hS := hS.trans e33
      replace hD := hD.trans e33
      replace h1 := h1.ext e33
      replace h2 := h2.ext e33
      replace B6 := B6.ext e33
      replace h25 := h25.ext e33
      replace h27 := h27.ext e33
      replace h30 := h30.ext e33
      replace m30 := Mine.ext m30 e33
      have h33 : IL w33 v33 (meetL (u) (v)) := Mine.sl m33
      refine ⟨_, rfl, hD, ?_⟩
      refine d_p rfl rfl rfl rfl ?_
      refine dw_rd rfl rfl (fun W' hW' => ex_loadN (cs := [.int .i64 r, .int .i64 n]) rfl rfl rfl rfl (fun j _ => by rw [Nat.zero_add]; exact (Blk.ext B6d hW').cell j)) rfl ?_
      have z36 := hS.size
      have l30_36 := fun k hk => (Mine.block m30 (k := k) hk).2
      have l33_36 := fun k hk => (Mine.block m33 (k := k) hk).2
      refine dw_call rfl rfl (ec_call rfl) rfl ((With_spec_vector h25 (by (try simp only [pickL_len, List.length_nil]); omega)).mono ?_)
      rintro _ w36 ⟨v36, rfl, m36, e36⟩
      replace hE := hE.trans e36
      replace hS := hS.trans e36
      replace hD := hD.trans e36
      replace h1 := h1.ext e36
      replace h2 := h2.ext e36
      replace B6 := B6.ext e36
      replace h25 := h25.ext e36
      replace h27 := h27.ext e36
      replace h30 := h30.ext e36
      replace m30 := Mine.ext m30 e36
      replace h33 := h33.ext e36
      replace m33 := Mine.ext m33 e36
      have h36 : IL w36 v36 (withL (u) r n) := Mine.sl m36
      refine ⟨_, rfl, hD, ?_⟩
      refine d_p rfl rfl rfl rfl ?_
      refine d_p rfl rfl rfl rfl ?_
      refine d_p rfl rfl rfl rfl ?_
      clear hD
      refine (dw_nil (pn_then (cw_seq (cw_region ?_))))
      refine o_p rfl rfl rfl ?_
      refine o_p rfl rfl rfl ?_
      refine o_p rfl rfl rfl ?_
      refine ow_call rfl (ec_call rfl) rfl ((refJoin_spec h1 h2 (by (try simp only [pickL_len, List.length_nil]); omega) (by (try simp only [pickL_len, List.length_nil]); omega)).mono ?_)
      rintro _ w40 ⟨v40, rfl, m40, e40⟩
      replace hE := hE.trans e40
      replace hS := hS.trans e40
      replace h1 := h1.ext e40
      replace h2 := h2.ext e40
      replace B6 := B6.ext e40
      replace h25 := h25.ext e40
      replace h27 := h27.ext e40
      replace h30 := h30.ext e40
      replace m30 := Mine.ext m30 e40
      replace h33 := h33.ext e40
      replace m33 := Mine.ext m33 e40
      replace h36 := h36.ext e40
      replace m36 := Mine.ext m36 e40
      have h40 : IL w40 v40 (joinL u v) := Mine.sl m40
      refine ⟨_, rfl, ?_⟩
      refine ow_call rfl (ec_call rfl) rfl (((SameInts_spec h30 h40)).mono ?_)
      rintro _ w41 ⟨rfl, e41⟩
      replace hE := hE.trans e41
      replace hS := hS.trans e41
      replace h1 := h1.ext e41
      replace h2 := h2.ext e41
      replace B6 := B6.ext e41
      replace h25 := h25.ext e41
      replace h27 := h27.ext e41
      replace h30 := h30.ext e41
      replace m30 := Mine.ext m30 e41
      replace h33 := h33.ext e41
      replace m33 := Mine.ext m33 e41
      replace h36 := h36.ext e41
      replace m36 := Mine.ext m36 e41
      replace h40 := h40.ext e41
      refine ⟨_, rfl, ?_⟩
      refine o_p rfl rfl rfl ?_
      refine o_know 42 (.bool true) rfl (congrArg Value.bool (by simp [bqq_self])) ?_
      refine o_p rfl rfl rfl ?_
      refine o_p rfl rfl rfl ?_
      refine o_p rfl rfl rfl ?_
      refine ow_call rfl (ec_call rfl) rfl ((refMeet_spec h1 h2 (by (try simp only [pickL_len, List.length_nil]); omega) (by (try simp only [pickL_len, List.length_nil]); omega)).mono ?_)
      rintro _ w46 ⟨v46, rfl, m46, e46⟩
      replace hE := hE.trans e46
      replace hS := hS.trans e46
      replace h1 := h1.ext e46
      replace h2 := h2.ext e46
      replace B6 := B6.ext e46
      replace h25 := h25.ext e46
      replace h27 := h27.ext e46
      replace h30 := h30.ext e46
      replace m30 := Mine.ext m30 e46
      replace h33 := h33.ext e46
      replace m33 := Mine.ext m33 e46
      replace h36 := h36.ext e46
      replace m36 := Mine.ext m36 e46
      replace h40 := h40.ext e46
      have h46 : IL w46 v46 (meetL u v) := Mine.sl m46
      refine ⟨_, rfl, ?_⟩
      refine ow_call rfl (ec_call rfl) rfl (((SameInts_spec h33 h46)).mono ?_)
      rintro _ w47 ⟨rfl, e47⟩
      replace hE := hE.trans e47
      replace hS := hS.trans e47
      replace h1 := h1.ext e47
      replace h2 := h2.ext e47
      replace B6 := B6.ext e47
      replace h25 := h25.ext e47
      replace h27 := h27.ext e47
      replace h30 := h30.ext e47
      replace m30 := Mine.ext m30 e47
      replace h33 := h33.ext e47
      replace m33 := Mine.ext m33 e47
      replace h36 := h36.ext e47
      replace m36 := Mine.ext m36 e47
      replace h40 := h40.ext e47
      replace h46 := h46.ext e47
      refine ⟨_, rfl, ?_⟩
      refine o_p rfl rfl rfl ?_
      refine o_p rfl rfl rfl ?_
      refine o_know 49 (.bool true) rfl (congrArg Value.bool (by simp [bqq_self])) ?_
      refine o_p rfl rfl rfl ?_
      refine o_p rfl rfl rfl ?_
      refine ow_ex rfl (ex_loadN (cs := [.int .i64 r, .int .i64 n]) rfl rfl rfl rfl (fun j _ => by rw [Nat.zero_add]; exact B6.cell j)) rfl ?_
      refine ow_call rfl (ec_call rfl) rfl ((refWith_spec h1 (by (try simp only [pickL_len, List.length_nil]); omega)).mono ?_)
      rintro _ w53 ⟨v53, rfl, m53, e53⟩
      replace hE := hE.trans e53
      replace hS := hS.trans e53
      replace h1 := h1.ext e53
      replace h2 := h2.ext e53
      replace B6 := B6.ext e53
      replace h25 := h25.ext e53
      replace h27 := h27.ext e53
      replace h30 := h30.ext e53
      replace m30 := Mine.ext m30 e53
      replace h33 := h33.ext e53
      replace m33 := Mine.ext m33 e53
      replace h36 := h36.ext e53
      replace m36 := Mine.ext m36 e53
      replace h40 := h40.ext e53
      replace h46 := h46.ext e53
      have h53 : IL w53 v53 (withL u r n) := Mine.sl m53
      refine ⟨_, rfl, ?_⟩
      refine ow_call rfl (ec_call rfl) rfl (((SameInts_spec h36 h53)).mono ?_)
      rintro _ w54 ⟨rfl, e54⟩
      replace hE := hE.trans e54
      replace hS := hS.trans e54
      replace h1 := h1.ext e54
      replace h2 := h2.ext e54
      replace B6 := B6.ext e54
      replace h25 := h25.ext e54
      replace h27 := h27.ext e54
      replace h30 := h30.ext e54
      replace m30 := Mine.ext m30 e54
      replace h33 := h33.ext e54
      replace m33 := Mine.ext m33 e54
      replace h36 := h36.ext e54
      replace m36 := Mine.ext m36 e54
      replace h40 := h40.ext e54
      replace h46 := h46.ext e54
      replace h53 := h53.ext e54
      refine ⟨_, rfl, ?_⟩
      refine o_p rfl rfl rfl ?_
      refine o_p rfl rfl rfl ?_
      refine o_know 14 (.bool true) rfl (congrArg Value.bool (by simp [bqq_self])) ?_
      refine (ow_nil (pn_then (cw_seq (cw_region ?_))))
      refine o_p rfl rfl rfl ?_
      refine ow_call rfl (ec_call rfl) rfl ((OverInts_spec m30).mono ?_)
      rintro _ w57 ⟨⟨u57, rfl⟩, f57⟩
      replace hS := hS.trans' f57 (fun j hj h => absurd (Mine.block m30 h).1 (by omega))
      replace hE := hES.trans hS
      replace h1 := h1_S.ext hS
      replace h2 := h2_S.ext hS
      replace B6 := B6_S.ext hS
      replace h25 := h25_S.ext hS
      replace h27 := h27_S.ext hS
      replace m33 := Mine.fr m33 f57 (fun k hk h => absurd (l30_33 k h) (by have := (Mine.block m33 hk).1; omega))
      replace m36 := Mine.fr m36 f57 (fun k hk h => absurd (l30_36 k h) (by have := (Mine.block m36 hk).1; omega))
      refine ⟨_, rfl, ?_⟩
      refine (ow_nil (pn_then (cw_seq (cw_region ?_))))
      refine o_p rfl rfl rfl ?_
      refine ow_call rfl (ec_call rfl) rfl ((OverInts_spec m33).mono ?_)
      rintro _ w59 ⟨⟨u59, rfl⟩, f59⟩
      replace hS := hS.trans' f59 (fun j hj h => absurd (Mine.block m33 h).1 (by omega))
      replace hE := hES.trans hS
      replace h1 := h1_S.ext hS
      replace h2 := h2_S.ext hS
      replace B6 := B6_S.ext hS
      replace h25 := h25_S.ext hS
      replace h27 := h27_S.ext hS
      replace m36 := Mine.fr m36 f59 (fun k hk h => absurd (l33_36 k h) (by have := (Mine.block m36 hk).1; omega))
      refine ⟨_, rfl, ?_⟩
      refine (ow_nil (pn_then (cw_seq (cw_region ?_))))
      refine o_p rfl rfl rfl ?_
      refine ow_call rfl (ec_call rfl) rfl ((OverInts_spec m36).mono ?_)
      rintro _ w61 ⟨⟨u61, rfl⟩, f61⟩
      replace hS := hS.trans' f61 (fun j hj h => absurd (Mine.block m36 h).1 (by omega))
      replace hE := hES.trans hS
      replace h1 := h1_S.ext hS
      replace h2 := h2_S.ext hS
      replace B6 := B6_S.ext hS
      replace h25 := h25_S.ext hS
      replace h27 := h27_S.ext hS
      refine ⟨_, rfl, ?_⟩
      refine (ow_nil (pn_then (cw_seq (cw_draw flo (fun W' => Ext w61 W') (by decide +kernel) (Fr.drew _) ?_))))
      have B6d := B6
      have hD : Ext w61 w61 := Fr.refl _ _
      have eD9 : Ext w61 w61.drew := Fr.drew _
      replace hE := hE.trans eD9
      replace hS := hS.trans eD9
      replace hD := hD.trans eD9
      replace h1 := h1.ext eD9
      replace h2 := h2.ext eD9
      replace B6 := B6.ext eD9
      replace h25 := h25.ext eD9
      replace h27 := h27.ext eD9
      generalize w61.drew = wD9 at *
      refine d_p rfl rfl rfl rfl ?_
      refine d_p rfl rfl rfl rfl ?_
      refine d_p rfl rfl rfl rfl ?_
      refine d_p rfl rfl rfl rfl ?_
      refine dw_call rfl rfl (ec_call rfl) rfl ((At_spec_vector_At h25).mono ?_)
      rintro _ w66 ⟨rfl, rfl⟩; refine ⟨_, rfl, hD, ?_⟩
      refine d_p rfl rfl rfl rfl ?_
      refine d_p rfl rfl rfl rfl ?_
      refine dw_call rfl rfl (ec_call rfl) rfl ((At_spec_entrepotref14_At h1).mono ?_)
      rintro _ w69 ⟨rfl, rfl⟩; refine ⟨_, rfl, hD, ?_⟩
      refine d_p rfl rfl rfl rfl ?_
      refine d_p rfl rfl rfl rfl ?_
      refine d_p rfl rfl rfl rfl ?_
      refine d_know 72 (.bool true) rfl (congrArg Value.bool (by simp [bqq_self])) ?_
      refine d_p rfl rfl rfl rfl ?_
      refine dw_rd rfl rfl (fun W' hW' => ex_loadN (cs := [.int .i64 r, .int .i64 n]) rfl rfl rfl rfl (fun j _ => by rw [Nat.zero_add]; exact (Blk.ext B6d hW').cell j)) rfl ?_
      refine dw_call rfl rfl (ec_call rfl) rfl ((Has_spec_vector_Has h25).mono ?_)
      rintro _ w75 ⟨rfl, e75⟩
      replace hE := hE.trans e75
      replace hS := hS.trans e75
      replace hD := hD.trans e75
      replace h1 := h1.ext e75
      replace h2 := h2.ext e75
      replace B6 := B6.ext e75
      replace h25 := h25.ext e75
      replace h27 := h27.ext e75
      refine ⟨_, rfl, hD, ?_⟩
      refine d_p rfl rfl rfl rfl ?_
      refine dw_rd rfl rfl (fun W' hW' => ex_loadN (cs := [.int .i64 r, .int .i64 n]) rfl rfl rfl rfl (fun j _ => by rw [Nat.zero_add]; exact (Blk.ext B6d hW').cell j)) rfl ?_
      refine dw_call rfl rfl (ec_call rfl) rfl ((refHas_spec h1).mono ?_)
      rintro _ w78 ⟨rfl, e78⟩
      replace hE := hE.trans e78
      replace hS := hS.trans e78
      replace hD := hD.trans e78
      replace h1 := h1.ext e78
      replace h2 := h2.ext e78
      replace B6 := B6.ext e78
      replace h25 := h25.ext e78
      replace h27 := h27.ext e78
      refine ⟨_, rfl, hD, ?_⟩
      refine d_p rfl rfl rfl rfl ?_
      refine d_p rfl rfl rfl rfl ?_
      refine d_p rfl rfl rfl rfl ?_
      refine d_know 81 (.bool true) rfl (congrArg Value.bool (by simp [bqq_self])) ?_
      refine d_p rfl rfl rfl rfl ?_
      refine d_p rfl rfl rfl rfl ?_
      refine dw_call rfl rfl (ec_call rfl) rfl ((Leq_spec h25 h27).mono ?_)
      rintro _ w84 ⟨rfl, e84⟩
      replace hE := hE.trans e84
      replace hS := hS.trans e84
      replace hD := hD.trans e84
      replace h1 := h1.ext e84
      replace h2 := h2.ext e84
      replace B6 := B6.ext e84
      replace h25 := h25.ext e84
      replace h27 := h27.ext e84
      refine ⟨_, rfl, hD, ?_⟩
      refine d_p rfl rfl rfl rfl ?_
      refine d_p rfl rfl rfl rfl ?_
      refine dw_call rfl rfl (ec_call rfl) rfl ((refLeq_spec h1 h2 (by omega)).mono ?_)
      rintro _ w87 ⟨rfl, e87⟩
      replace hE := hE.trans e87
      replace hS := hS.trans e87
      replace hD := hD.trans e87
      replace h1 := h1.ext e87
      replace h2 := h2.ext e87
      replace B6 := B6.ext e87
      replace h25 := h25.ext e87
      replace h27 := h27.ext e87
      refine ⟨_, rfl, hD, ?_⟩
      refine d_p rfl rfl rfl rfl ?_
      refine d_p rfl rfl rfl rfl ?_
      refine d_p rfl rfl rfl rfl ?_
      refine d_know 90 (.bool true) rfl (congrArg Value.bool (by simp [bqq_self])) ?_
      refine d_p rfl rfl rfl rfl ?_
      refine d_p rfl rfl rfl rfl ?_
      refine dw_call rfl rfl (ec_call rfl) rfl ((Same_spec h25 h27).mono ?_)
      rintro _ w93 ⟨rfl, e93⟩
      replace hE := hE.trans e93
      replace hS := hS.trans e93
      replace hD := hD.trans e93
      replace h1 := h1.ext e93
      replace h2 := h2.ext e93
      replace B6 := B6.ext e93
      replace h25 := h25.ext e93
      replace h27 := h27.ext e93
      refine ⟨_, rfl, hD, ?_⟩
      refine d_p rfl rfl rfl rfl ?_
      refine d_p rfl rfl rfl rfl ?_
      refine dw_call rfl rfl (ec_call rfl) rfl ((refSame_spec h1 h2 (by omega) (by omega)).mono ?_)
      rintro _ w96 ⟨rfl, e96⟩
      replace hE := hE.trans e96
      replace hS := hS.trans e96
      replace hD := hD.trans e96
      replace h1 := h1.ext e96
      replace h2 := h2.ext e96
      replace B6 := B6.ext e96
      replace h25 := h25.ext e96
      replace h27 := h27.ext e96
      refine ⟨_, rfl, hD, ?_⟩
      refine d_p rfl rfl rfl rfl ?_
      refine d_p rfl rfl rfl rfl ?_
      refine d_p rfl rfl rfl rfl ?_
      refine d_know 99 (.bool true) rfl (congrArg Value.bool (by simp [bqq_self])) ?_
      refine d_p rfl rfl rfl rfl ?_
      refine d_p rfl rfl rfl rfl ?_
      refine dw_call rfl rfl (ec_call rfl) rfl ((Next_spec_vector h25).mono ?_)
      rintro _ w102 ⟨rfl, e102⟩
      replace hE := hE.trans e102
      replace hS := hS.trans e102
      replace hD := hD.trans e102
      replace h1 := h1.ext e102
      replace h2 := h2.ext e102
      replace B6 := B6.ext e102
      replace h25 := h25.ext e102
      replace h27 := h27.ext e102
      refine ⟨_, rfl, hD, ?_⟩
      refine d_p rfl rfl rfl rfl ?_
      refine d_p rfl rfl rfl rfl ?_
      refine dw_call rfl rfl (ec_call rfl) rfl ((refNext_spec h1).mono ?_)
      rintro _ w105 ⟨rfl, e105⟩
      replace hE := hE.trans e105
      replace hS := hS.trans e105
      replace hD := hD.trans e105
      replace h1 := h1.ext e105
      replace h2 := h2.ext e105
      replace B6 := B6.ext e105
      replace h25 := h25.ext e105
      replace h27 := h27.ext e105
      refine ⟨_, rfl, hD, ?_⟩
      refine dw_rd rfl rfl (fun W' _ => pu_eqA rfl rfl (eq_dot _ _ _ _) W') rfl ?_
      refine d_p rfl rfl rfl rfl ?_
      refine d_p rfl rfl rfl rfl ?_
      refine d_know 14 (.bool true) rfl (congrArg Value.bool (by simp [bqq_self])) ?_
      clear hD
      refine (dw_nil (pn_then (cw_seq (cw_region ?_))))
      refine o_p rfl rfl rfl ?_
      refine o_p rfl rfl rfl ?_
      refine o_p rfl rfl rfl ?_
      refine o_p rfl rfl rfl ?_
      refine ow_call rfl (ec_call rfl) rfl (((SameInts_spec h25 h1)).mono ?_)
      rintro _ w112 ⟨rfl, e112⟩
      replace hE := hE.trans e112
      replace hS := hS.trans e112
      replace h1 := h1.ext e112
      replace h2 := h2.ext e112
      replace B6 := B6.ext e112
      replace h25 := h25.ext e112
      replace h27 := h27.ext e112
      refine ⟨_, rfl, ?_⟩
      refine o_p rfl rfl rfl ?_
      refine o_p rfl rfl rfl ?_
      refine o_know 114 (.bool true) rfl (congrArg Value.bool (by simp [bqq_self])) ?_
      refine o_p rfl rfl rfl ?_
      refine o_p rfl rfl rfl ?_
      refine ow_call rfl (ec_call rfl) rfl (((SameInts_spec h27 h2)).mono ?_)
      rintro _ w117 ⟨rfl, e117⟩
      replace hE := hE.trans e117
      replace hS := hS.trans e117
      replace h1 := h1.ext e117
      replace h2 := h2.ext e117
      replace B6 := B6.ext e117
      replace h25 := h25.ext e117
      replace h27 := h27.ext e117
      refine ⟨_, rfl, ?_⟩
      refine o_p rfl rfl rfl ?_
      refine o_p rfl rfl rfl ?_
      refine o_know 119 (.bool true) rfl (congrArg Value.bool (by simp [bqq_self])) ?_
      refine ow_call rfl (ec_call rfl) rfl ((awake_spec).mono ?_)
      rintro _ w120 ⟨rfl, e120⟩
      replace hE := hE.trans e120
      replace hS := hS.trans e120
      replace h1 := h1.ext e120
      replace h2 := h2.ext e120
      replace B6 := B6.ext e120
      replace h25 := h25.ext e120
      replace h27 := h27.ext e120
      refine ⟨_, rfl, ?_⟩
      refine o_p rfl rfl rfl ?_
      refine o_p rfl rfl rfl ?_
      refine (ow_nil (pn_then (cw_ret (pn_ret rfl rfl ⟨rfl, hE⟩))))
end Go.Proofs.Ytplkinnaccpomaa
