/- Vectors: the law VectorLattice, as a program printed its walk (lawwalk.py). Conditions: none. -/
import Derived.Test.YtplkinnaccpomaaVecG
import Derived.Test.YtplkinnaccpomaaVecM
namespace Go.Proofs.Ytplkinnaccpomaa
open Go.Eng Go.RowKit
theorem walk_VectorLattice {v1 v2 v3 : Value} {u v x : List Int} {w : World} (h1 : IL w v1 u) (h2 : IL w v2 v) (h3 : IL w v3 x) :
    Calls Try.prog n_entrepotlaw14_VectorLattice #[v1, v2, v3] w fun e w' => e = .returned (.bool true) ∧ Ext w w' := by
  have hE : Ext w w := Fr.refl _ _
  obtain ⟨A1, c1, rfl, _⟩ := VL.op h1
  obtain ⟨A2, c2, rfl, _⟩ := VL.op h2
  obtain ⟨A3, c3, rfl, _⟩ := VL.op h3
  refine enter3 F_entrepotlaw14_VectorLattice rfl rfl ?_
  refine (cw_seq (cw_region ?_))
  refine o_p rfl rfl rfl ?_
  refine (ow_nil (pn_then (cw_seq (cw_region ?_))))
  refine ow_call rfl (ec_call rfl) rfl ((walk_VectorKnown).mono ?_)
  rintro _ w10 ⟨rfl, e10⟩
  replace hE := hE.trans e10
  replace h1 := h1.ext e10
  replace h2 := h2.ext e10
  replace h3 := h3.ext e10
  refine ⟨_, rfl, ?_⟩
  refine o_p rfl rfl rfl ?_
  refine (ow_nil (pn_then (cw_seq (cw_seq (cw_region ?_)))))
  refine o_p rfl rfl rfl ?_
  refine o_p rfl rfl rfl ?_
  refine o_p rfl rfl rfl ?_
  refine o_p rfl rfl rfl ?_
  refine o_split 14 rfl (fun s14 => ?_) (fun s14 => ?_)
  · have q14 := of_decide_eq_true s14
    refine ow_skip rfl rfl ?_
    refine ow_skip rfl rfl ?_
    refine ow_skip rfl rfl ?_
    refine o_p rfl rfl rfl ?_
    refine o_p rfl rfl rfl ?_
    refine ow_skip rfl rfl ?_
    refine ow_skip rfl rfl ?_
    refine ow_skip rfl rfl ?_
    refine o_p rfl rfl rfl ?_
    refine (ow_nil (pn_then (cw_cond_t rfl (cw_seq (cw_region ?_)))))
    refine o_p rfl rfl rfl ?_
    refine o_p rfl rfl rfl ?_
    refine (ow_nil (pn_then (cw_ret (pn_then_ret (pn_ret rfl rfl ⟨rfl, hE⟩)))))
  · have q14 := of_decide_eq_false s14
    refine o_p rfl rfl rfl ?_
    refine o_p rfl rfl rfl ?_
    refine o_p rfl rfl rfl ?_
    refine o_p rfl rfl rfl ?_
    refine o_p rfl rfl rfl ?_
    refine o_split 19 rfl (fun s19 => ?_) (fun s19 => ?_)
    · have q19 := of_decide_eq_true s19
      refine ow_skip rfl rfl ?_
      refine ow_skip rfl rfl ?_
      refine ow_skip rfl rfl ?_
      refine o_p rfl rfl rfl ?_
      refine (ow_nil (pn_then (cw_cond_t rfl (cw_seq (cw_region ?_)))))
      refine o_p rfl rfl rfl ?_
      refine o_p rfl rfl rfl ?_
      refine (ow_nil (pn_then (cw_ret (pn_then_ret (pn_ret rfl rfl ⟨rfl, hE⟩)))))
    · have q19 := of_decide_eq_false s19
      refine o_p rfl rfl rfl ?_
      refine o_p rfl rfl rfl ?_
      refine o_p rfl rfl rfl ?_
      refine o_p rfl rfl rfl ?_
      refine o_split 23 rfl (fun s23 => ?_) (fun s23 => ?_)
      · have q23 := of_decide_eq_true s23
        refine (ow_nil (pn_then (cw_cond_t rfl (cw_seq (cw_region ?_)))))
        refine o_p rfl rfl rfl ?_
        refine o_p rfl rfl rfl ?_
        refine (ow_nil (pn_then (cw_ret (pn_then_ret (pn_ret rfl rfl ⟨rfl, hE⟩)))))
      · have q23 := of_decide_eq_false s23
        refine (ow_nil (pn_then (cw_cond_f rfl (cw_skip (pn_then (cw_seq (cw_region ?_)))))))
        refine o_p rfl rfl rfl ?_
        refine o_p rfl rfl rfl ?_
        refine ow_call rfl (ec_call rfl) rfl ((Join_spec h1 h2 (by (try simp only [pickL_len, List.length_nil]); omega) (by (try simp only [pickL_len, List.length_nil]); omega)).mono ?_)
        rintro _ w27 ⟨v27, rfl, m27, e27⟩
        replace hE := hE.trans e27
        replace h1 := h1.ext e27
        replace h2 := h2.ext e27
        replace h3 := h3.ext e27
        have h27 : IL w27 v27 (joinL u v) := Mine.sl m27
        refine ⟨_, rfl, ?_⟩
        refine o_p rfl rfl rfl ?_
        refine o_p rfl rfl rfl ?_
        refine ow_call rfl (ec_call rfl) rfl ((Meet_spec h1 h2 (by (try simp only [pickL_len, List.length_nil]); omega) (by (try simp only [pickL_len, List.length_nil]); omega)).mono ?_)
        rintro _ w30 ⟨v30, rfl, m30, e30⟩
        replace hE := hE.trans e30
        replace h1 := h1.ext e30
        replace h2 := h2.ext e30
        replace h3 := h3.ext e30
        replace h27 := h27.ext e30
        have h30 : IL w30 v30 (meetL u v) := Mine.sl m30
        refine ⟨_, rfl, ?_⟩
        refine o_p rfl rfl rfl ?_
        refine o_p rfl rfl rfl ?_
        refine (ow_nil (pn_then (cw_seq (cw_seq (cw_region ?_)))))
        refine o_p rfl rfl rfl ?_
        refine o_p rfl rfl rfl ?_
        refine ow_call rfl (ec_call rfl) rfl ((Leq_spec h1 h27).mono ?_)
        rintro _ w33 ⟨rfl, e33⟩
        replace hE := hE.trans e33
        replace h1 := h1.ext e33
        replace h2 := h2.ext e33
        replace h3 := h3.ext e33
        replace h27 := h27.ext e33
        replace h30 := h30.ext e33
        refine ⟨_, rfl, ?_⟩
        refine o_p rfl rfl rfl ?_
        refine o_p rfl rfl rfl ?_
        refine o_know 35 (.bool false) rfl (congrArg Value.bool (by rw [leq_join_l]; rfl)) ?_
        refine o_p rfl rfl rfl ?_
        refine o_p rfl rfl rfl ?_
        refine ow_call rfl (ec_call rfl) rfl ((Leq_spec h2 h27).mono ?_)
        rintro _ w38 ⟨rfl, e38⟩
        replace hE := hE.trans e38
        replace h1 := h1.ext e38
        replace h2 := h2.ext e38
        replace h3 := h3.ext e38
        replace h27 := h27.ext e38
        replace h30 := h30.ext e38
        refine ⟨_, rfl, ?_⟩
        refine o_p rfl rfl rfl ?_
        refine o_p rfl rfl rfl ?_
        refine o_p rfl rfl rfl ?_
        refine o_know 41 (.bool false) rfl (congrArg Value.bool (by rw [leq_join_r]; rfl)) ?_
        refine o_p rfl rfl rfl ?_
        refine o_p rfl rfl rfl ?_
        refine ow_call rfl (ec_call rfl) rfl ((Leq_spec h30 h1).mono ?_)
        rintro _ w44 ⟨rfl, e44⟩
        replace hE := hE.trans e44
        replace h1 := h1.ext e44
        replace h2 := h2.ext e44
        replace h3 := h3.ext e44
        replace h27 := h27.ext e44
        replace h30 := h30.ext e44
        refine ⟨_, rfl, ?_⟩
        refine o_p rfl rfl rfl ?_
        refine o_p rfl rfl rfl ?_
        refine o_p rfl rfl rfl ?_
        refine o_know 47 (.bool false) rfl (congrArg Value.bool (by rw [meet_leq_l]; rfl)) ?_
        refine o_p rfl rfl rfl ?_
        refine o_p rfl rfl rfl ?_
        refine ow_call rfl (ec_call rfl) rfl ((Leq_spec h30 h2).mono ?_)
        rintro _ w50 ⟨rfl, e50⟩
        replace hE := hE.trans e50
        replace h1 := h1.ext e50
        replace h2 := h2.ext e50
        replace h3 := h3.ext e50
        replace h27 := h27.ext e50
        replace h30 := h30.ext e50
        refine ⟨_, rfl, ?_⟩
        refine o_p rfl rfl rfl ?_
        refine o_p rfl rfl rfl ?_
        refine o_p rfl rfl rfl ?_
        refine o_know 53 (.bool false) rfl (congrArg Value.bool (by rw [meet_leq_r]; rfl)) ?_
        refine o_p rfl rfl rfl ?_
        refine o_p rfl rfl rfl ?_
        refine ow_call rfl (ec_call rfl) rfl ((Leq_spec h1 h1).mono ?_)
        rintro _ w56 ⟨rfl, e56⟩
        replace hE := hE.trans e56
        replace h1 := h1.ext e56
        replace h2 := h2.ext e56
        replace h3 := h3.ext e56
        replace h27 := h27.ext e56
        replace h30 := h30.ext e56
        refine ⟨_, rfl, ?_⟩
        refine o_p rfl rfl rfl ?_
        refine o_p rfl rfl rfl ?_
        refine o_know 58 (.bool false) rfl (congrArg Value.bool (by rw [leq_refl]; rfl)) ?_
        refine (ow_nil (pn_then (cw_cond_f rfl (cw_skip (pn_then (cw_seq (cw_seq (cw_region ?_))))))))
        refine o_p rfl rfl rfl ?_
        refine o_p rfl rfl rfl ?_
        refine ow_call rfl (ec_call rfl) rfl ((Leq_spec h1 h3).mono ?_)
        rintro _ w61 ⟨rfl, e61⟩
        replace hE := hE.trans e61
        replace h1 := h1.ext e61
        replace h2 := h2.ext e61
        replace h3 := h3.ext e61
        replace h27 := h27.ext e61
        replace h30 := h30.ext e61
        refine ⟨_, rfl, ?_⟩
        refine o_p rfl rfl rfl ?_
        refine o_split 62 rfl (fun s62 => ?_) (fun s62 => ?_)
        · have q62 := s62
          refine o_p rfl rfl rfl ?_
          refine o_p rfl rfl rfl ?_
          refine ow_call rfl (ec_call rfl) rfl ((Leq_spec h2 h3).mono ?_)
          rintro _ w65 ⟨rfl, e65⟩
          replace hE := hE.trans e65
          replace h1 := h1.ext e65
          replace h2 := h2.ext e65
          replace h3 := h3.ext e65
          replace h27 := h27.ext e65
          replace h30 := h30.ext e65
          refine ⟨_, rfl, ?_⟩
          refine o_p rfl rfl rfl ?_
          refine o_p rfl rfl rfl ?_
          refine ow_call rfl (ec_call rfl) rfl ((Leq_spec h27 h3).mono ?_)
          rintro _ w68 ⟨rfl, e68⟩
          replace hE := hE.trans e68
          replace h1 := h1.ext e68
          replace h2 := h2.ext e68
          replace h3 := h3.ext e68
          replace h27 := h27.ext e68
          replace h30 := h30.ext e68
          refine ⟨_, rfl, ?_⟩
          refine o_p rfl rfl rfl ?_
          refine o_p rfl rfl rfl ?_
          refine o_p rfl rfl rfl ?_
          refine o_know 71 (.bool false) rfl (congrArg Value.bool (nbqq_of (least q62))) ?_
          refine o_p rfl rfl rfl ?_
          refine o_p rfl rfl rfl ?_
          refine ow_call rfl (ec_call rfl) rfl ((Leq_spec h3 h1).mono ?_)
          rintro _ w74 ⟨rfl, e74⟩
          replace hE := hE.trans e74
          replace h1 := h1.ext e74
          replace h2 := h2.ext e74
          replace h3 := h3.ext e74
          replace h27 := h27.ext e74
          replace h30 := h30.ext e74
          refine ⟨_, rfl, ?_⟩
          refine o_p rfl rfl rfl ?_
          refine o_split 75 rfl (fun s75 => ?_) (fun s75 => ?_)
          · have q75 := s75
            refine o_p rfl rfl rfl ?_
            refine o_p rfl rfl rfl ?_
            refine ow_call rfl (ec_call rfl) rfl ((Leq_spec h3 h2).mono ?_)
            rintro _ w78 ⟨rfl, e78⟩
            replace hE := hE.trans e78
            replace h1 := h1.ext e78
            replace h2 := h2.ext e78
            replace h3 := h3.ext e78
            replace h27 := h27.ext e78
            replace h30 := h30.ext e78
            refine ⟨_, rfl, ?_⟩
            refine o_p rfl rfl rfl ?_
            refine o_p rfl rfl rfl ?_
            refine ow_call rfl (ec_call rfl) rfl ((Leq_spec h3 h30).mono ?_)
            rintro _ w81 ⟨rfl, e81⟩
            replace hE := hE.trans e81
            replace h1 := h1.ext e81
            replace h2 := h2.ext e81
            replace h3 := h3.ext e81
            replace h27 := h27.ext e81
            replace h30 := h30.ext e81
            refine ⟨_, rfl, ?_⟩
            refine o_p rfl rfl rfl ?_
            refine o_p rfl rfl rfl ?_
            refine o_p rfl rfl rfl ?_
            refine o_know 84 (.bool false) rfl (congrArg Value.bool (nbqq_of (greatest q75))) ?_
            refine (ow_nil (pn_then (cw_cond_f rfl (cw_skip (pn_then (cw_seq (cw_seq (cw_region ?_))))))))
            refine o_p rfl rfl rfl ?_
            refine o_p rfl rfl rfl ?_
            refine ow_call rfl (ec_call rfl) rfl ((Leq_spec h1 h2).mono ?_)
            rintro _ w87 ⟨rfl, e87⟩
            replace hE := hE.trans e87
            replace h1 := h1.ext e87
            replace h2 := h2.ext e87
            replace h3 := h3.ext e87
            replace h27 := h27.ext e87
            replace h30 := h30.ext e87
            refine ⟨_, rfl, ?_⟩
            refine o_p rfl rfl rfl ?_
            refine o_split 88 rfl (fun s88 => ?_) (fun s88 => ?_)
            · have q88 := s88
              refine o_p rfl rfl rfl ?_
              refine o_p rfl rfl rfl ?_
              refine ow_call rfl (ec_call rfl) rfl ((Leq_spec h2 h3).mono ?_)
              rintro _ w91 ⟨rfl, e91⟩
              replace hE := hE.trans e91
              replace h1 := h1.ext e91
              replace h2 := h2.ext e91
              replace h3 := h3.ext e91
              replace h27 := h27.ext e91
              replace h30 := h30.ext e91
              refine ⟨_, rfl, ?_⟩
              refine o_p rfl rfl rfl ?_
              refine o_p rfl rfl rfl ?_
              refine o_split 93 rfl (fun s93 => ?_) (fun s93 => ?_)
              · have q93 := s93
                refine o_p rfl rfl rfl ?_
                refine o_p rfl rfl rfl ?_
                refine ow_call rfl (ec_call rfl) rfl ((Leq_spec h1 h3).mono ?_)
                rintro _ w96 ⟨rfl, e96⟩
                replace hE := hE.trans e96
                replace h1 := h1.ext e96
                replace h2 := h2.ext e96
                replace h3 := h3.ext e96
                replace h27 := h27.ext e96
                replace h30 := h30.ext e96
                refine ⟨_, rfl, ?_⟩
                refine o_p rfl rfl rfl ?_
                refine o_p rfl rfl rfl ?_
                refine o_p rfl rfl rfl ?_
                refine o_know 99 (.bool false) rfl (congrArg Value.bool (by rw [leq_trans q88 q93]; rfl)) ?_
                refine o_p rfl rfl rfl ?_
                refine o_p rfl rfl rfl ?_
                refine ow_call rfl (ec_call rfl) rfl ((Same_spec h1 h2).mono ?_)
                rintro _ w102 ⟨rfl, e102⟩
                replace hE := hE.trans e102
                replace h1 := h1.ext e102
                replace h2 := h2.ext e102
                replace h3 := h3.ext e102
                replace h27 := h27.ext e102
                replace h30 := h30.ext e102
                refine ⟨_, rfl, ?_⟩
                refine o_p rfl rfl rfl ?_
                refine o_p rfl rfl rfl ?_
                refine ow_call rfl (ec_call rfl) rfl ((Leq_spec h1 h2).mono ?_)
                rintro _ w105 ⟨rfl, e105⟩
                replace hE := hE.trans e105
                replace h1 := h1.ext e105
                replace h2 := h2.ext e105
                replace h3 := h3.ext e105
                replace h27 := h27.ext e105
                replace h30 := h30.ext e105
                refine ⟨_, rfl, ?_⟩
                refine o_p rfl rfl rfl ?_
                refine o_know 106 (.bool true) rfl (congrArg Value.bool q88) ?_
                refine o_p rfl rfl rfl ?_
                refine o_p rfl rfl rfl ?_
                refine ow_call rfl (ec_call rfl) rfl ((Leq_spec h2 h1).mono ?_)
                rintro _ w109 ⟨rfl, e109⟩
                replace hE := hE.trans e109
                replace h1 := h1.ext e109
                replace h2 := h2.ext e109
                replace h3 := h3.ext e109
                replace h27 := h27.ext e109
                replace h30 := h30.ext e109
                refine ⟨_, rfl, ?_⟩
                refine o_p rfl rfl rfl ?_
                refine o_p rfl rfl rfl ?_
                refine o_p rfl rfl rfl ?_
                refine o_know 112 (.bool false) rfl (congrArg Value.bool (nbqq_of (by rw [sameL_eq, q88]; simp))) ?_
                refine (ow_nil (pn_then (cw_cond_f rfl (cw_skip (pn_then (cw_seq (cw_region ?_)))))))
                refine o_p rfl rfl rfl ?_
                refine o_p rfl rfl rfl ?_
                refine o_p rfl rfl rfl ?_
                refine o_p rfl rfl rfl ?_
                refine o_p rfl rfl rfl ?_
                refine ow_call rfl (ec_call rfl) rfl ((Join_spec h2 h1 (by (try simp only [pickL_len, List.length_nil]); omega) (by (try simp only [pickL_len, List.length_nil]); omega)).mono ?_)
                rintro _ w118 ⟨v118, rfl, m118, e118⟩
                replace hE := hE.trans e118
                replace h1 := h1.ext e118
                replace h2 := h2.ext e118
                replace h3 := h3.ext e118
                replace h27 := h27.ext e118
                replace h30 := h30.ext e118
                have h118 : IL w118 v118 (joinL v u) := Mine.sl m118
                refine ⟨_, rfl, ?_⟩
                refine ow_call rfl (ec_call rfl) rfl (((SameInts_spec h27 h118)).mono ?_)
                rintro _ w119 ⟨rfl, e119⟩
                replace hE := hE.trans e119
                replace h1 := h1.ext e119
                replace h2 := h2.ext e119
                replace h3 := h3.ext e119
                replace h27 := h27.ext e119
                replace h30 := h30.ext e119
                replace h118 := h118.ext e119
                refine ⟨_, rfl, ?_⟩
                refine o_p rfl rfl rfl ?_
                refine o_p rfl rfl rfl ?_
                refine o_know 121 (.bool true) rfl (congrArg Value.bool (decide_eq_true (join_comm _ _))) ?_
                refine o_p rfl rfl rfl ?_
                refine o_p rfl rfl rfl ?_
                refine o_p rfl rfl rfl ?_
                refine ow_call rfl (ec_call rfl) rfl ((Meet_spec h2 h1 (by (try simp only [pickL_len, List.length_nil]); omega) (by (try simp only [pickL_len, List.length_nil]); omega)).mono ?_)
                rintro _ w125 ⟨v125, rfl, m125, e125⟩
                replace hE := hE.trans e125
                replace h1 := h1.ext e125
                replace h2 := h2.ext e125
                replace h3 := h3.ext e125
                replace h27 := h27.ext e125
                replace h30 := h30.ext e125
                replace h118 := h118.ext e125
                have h125 : IL w125 v125 (meetL v u) := Mine.sl m125
                refine ⟨_, rfl, ?_⟩
                refine ow_call rfl (ec_call rfl) rfl (((SameInts_spec h30 h125)).mono ?_)
                rintro _ w126 ⟨rfl, e126⟩
                replace hE := hE.trans e126
                replace h1 := h1.ext e126
                replace h2 := h2.ext e126
                replace h3 := h3.ext e126
                replace h27 := h27.ext e126
                replace h30 := h30.ext e126
                replace h118 := h118.ext e126
                replace h125 := h125.ext e126
                refine ⟨_, rfl, ?_⟩
                refine o_p rfl rfl rfl ?_
                refine o_p rfl rfl rfl ?_
                refine o_know 128 (.bool true) rfl (congrArg Value.bool (decide_eq_true (meet_comm _ _))) ?_
                refine o_p rfl rfl rfl ?_
                refine o_p rfl rfl rfl ?_
                refine ow_call rfl (ec_call rfl) rfl ((Join_spec h27 h3 (by (try simp only [pickL_len, List.length_nil]); omega) (by (try simp only [pickL_len, List.length_nil]); omega)).mono ?_)
                rintro _ w131 ⟨v131, rfl, m131, e131⟩
                replace hE := hE.trans e131
                replace h1 := h1.ext e131
                replace h2 := h2.ext e131
                replace h3 := h3.ext e131
                replace h27 := h27.ext e131
                replace h30 := h30.ext e131
                replace h118 := h118.ext e131
                replace h125 := h125.ext e131
                have h131 : IL w131 v131 (joinL (joinL u v) x) := Mine.sl m131
                refine ⟨_, rfl, ?_⟩
                refine o_p rfl rfl rfl ?_
                refine o_p rfl rfl rfl ?_
                refine o_p rfl rfl rfl ?_
                refine ow_call rfl (ec_call rfl) rfl ((Join_spec h2 h3 (by (try simp only [pickL_len, List.length_nil]); omega) (by (try simp only [pickL_len, List.length_nil]); omega)).mono ?_)
                rintro _ w135 ⟨v135, rfl, m135, e135⟩
                replace hE := hE.trans e135
                replace h1 := h1.ext e135
                replace h2 := h2.ext e135
                replace h3 := h3.ext e135
                replace h27 := h27.ext e135
                replace h30 := h30.ext e135
                replace h118 := h118.ext e135
                replace h125 := h125.ext e135
                replace h131 := h131.ext e135
                have h135 : IL w135 v135 (joinL v x) := Mine.sl m135
                refine ⟨_, rfl, ?_⟩
                refine ow_call rfl (ec_call rfl) rfl ((Join_spec h1 h135 (by (try simp only [pickL_len, List.length_nil]); omega) (by (try simp only [pickL_len, List.length_nil]); omega)).mono ?_)
                rintro _ w136 ⟨v136, rfl, m136, e136⟩
                replace hE := hE.trans e136
                replace h1 := h1.ext e136
                replace h2 := h2.ext e136
                replace h3 := h3.ext e136
                replace h27 := h27.ext e136
                replace h30 := h30.ext e136
                replace h118 := h118.ext e136
                replace h125 := h125.ext e136
                replace h131 := h131.ext e136
                replace h135 := h135.ext e136
                have h136 : IL w136 v136 (joinL u (joinL v x)) := Mine.sl m136
                refine ⟨_, rfl, ?_⟩
                refine ow_call rfl (ec_call rfl) rfl (((SameInts_spec h131 h136)).mono ?_)
                rintro _ w137 ⟨rfl, e137⟩
                replace hE := hE.trans e137
                replace h1 := h1.ext e137
                replace h2 := h2.ext e137
                replace h3 := h3.ext e137
                replace h27 := h27.ext e137
                replace h30 := h30.ext e137
                replace h118 := h118.ext e137
                replace h125 := h125.ext e137
                replace h131 := h131.ext e137
                replace h135 := h135.ext e137
                replace h136 := h136.ext e137
                refine ⟨_, rfl, ?_⟩
                refine o_p rfl rfl rfl ?_
                refine o_p rfl rfl rfl ?_
                refine o_know 139 (.bool true) rfl (congrArg Value.bool (decide_eq_true (join_assoc _ _ _))) ?_
                refine o_p rfl rfl rfl ?_
                refine o_p rfl rfl rfl ?_
                refine ow_call rfl (ec_call rfl) rfl ((Meet_spec h30 h3 (by (try simp only [pickL_len, List.length_nil]); omega) (by (try simp only [pickL_len, List.length_nil]); omega)).mono ?_)
                rintro _ w142 ⟨v142, rfl, m142, e142⟩
                replace hE := hE.trans e142
                replace h1 := h1.ext e142
                replace h2 := h2.ext e142
                replace h3 := h3.ext e142
                replace h27 := h27.ext e142
                replace h30 := h30.ext e142
                replace h118 := h118.ext e142
                replace h125 := h125.ext e142
                replace h131 := h131.ext e142
                replace h135 := h135.ext e142
                replace h136 := h136.ext e142
                have h142 : IL w142 v142 (meetL (meetL u v) x) := Mine.sl m142
                refine ⟨_, rfl, ?_⟩
                refine o_p rfl rfl rfl ?_
                refine o_p rfl rfl rfl ?_
                refine o_p rfl rfl rfl ?_
                refine ow_call rfl (ec_call rfl) rfl ((Meet_spec h2 h3 (by (try simp only [pickL_len, List.length_nil]); omega) (by (try simp only [pickL_len, List.length_nil]); omega)).mono ?_)
                rintro _ w146 ⟨v146, rfl, m146, e146⟩
                replace hE := hE.trans e146
                replace h1 := h1.ext e146
                replace h2 := h2.ext e146
                replace h3 := h3.ext e146
                replace h27 := h27.ext e146
                replace h30 := h30.ext e146
                replace h118 := h118.ext e146
                replace h125 := h125.ext e146
                replace h131 := h131.ext e146
                replace h135 := h135.ext e146
                replace h136 := h136.ext e146
                replace h142 := h142.ext e146
                have h146 : IL w146 v146 (meetL v x) := Mine.sl m146
                refine ⟨_, rfl, ?_⟩
                refine ow_call rfl (ec_call rfl) rfl ((Meet_spec h1 h146 (by (try simp only [pickL_len, List.length_nil]); omega) (by (try simp only [pickL_len, List.length_nil]); omega)).mono ?_)
                rintro _ w147 ⟨v147, rfl, m147, e147⟩
                replace hE := hE.trans e147
                replace h1 := h1.ext e147
                replace h2 := h2.ext e147
                replace h3 := h3.ext e147
                replace h27 := h27.ext e147
                replace h30 := h30.ext e147
                replace h118 := h118.ext e147
                replace h125 := h125.ext e147
                replace h131 := h131.ext e147
                replace h135 := h135.ext e147
                replace h136 := h136.ext e147
                replace h142 := h142.ext e147
                replace h146 := h146.ext e147
                have h147 : IL w147 v147 (meetL u (meetL v x)) := Mine.sl m147
                refine ⟨_, rfl, ?_⟩
                refine ow_call rfl (ec_call rfl) rfl (((SameInts_spec h142 h147)).mono ?_)
                rintro _ w148 ⟨rfl, e148⟩
                replace hE := hE.trans e148
                replace h1 := h1.ext e148
                replace h2 := h2.ext e148
                replace h3 := h3.ext e148
                replace h27 := h27.ext e148
                replace h30 := h30.ext e148
                replace h118 := h118.ext e148
                replace h125 := h125.ext e148
                replace h131 := h131.ext e148
                replace h135 := h135.ext e148
                replace h136 := h136.ext e148
                replace h142 := h142.ext e148
                replace h146 := h146.ext e148
                replace h147 := h147.ext e148
                refine ⟨_, rfl, ?_⟩
                refine o_p rfl rfl rfl ?_
                refine o_p rfl rfl rfl ?_
                refine o_know 6 (.bool true) rfl (congrArg Value.bool (decide_eq_true (meet_assoc _ _ _))) ?_
                refine (ow_nil (pn_then (cw_ret (pn_ret rfl rfl ⟨rfl, hE⟩))))
              · have q93 := s93
                refine ow_skip rfl rfl ?_
                refine ow_skip rfl rfl ?_
                refine ow_skip rfl rfl ?_
                refine ow_skip rfl rfl ?_
                refine o_p rfl rfl rfl ?_
                refine o_p rfl rfl rfl ?_
                refine o_p rfl rfl rfl ?_
                refine o_p rfl rfl rfl ?_
                refine ow_call rfl (ec_call rfl) rfl ((Same_spec h1 h2).mono ?_)
                rintro _ w102 ⟨rfl, e102⟩
                replace hE := hE.trans e102
                replace h1 := h1.ext e102
                replace h2 := h2.ext e102
                replace h3 := h3.ext e102
                replace h27 := h27.ext e102
                replace h30 := h30.ext e102
                refine ⟨_, rfl, ?_⟩
                refine o_p rfl rfl rfl ?_
                refine o_p rfl rfl rfl ?_
                refine ow_call rfl (ec_call rfl) rfl ((Leq_spec h1 h2).mono ?_)
                rintro _ w105 ⟨rfl, e105⟩
                replace hE := hE.trans e105
                replace h1 := h1.ext e105
                replace h2 := h2.ext e105
                replace h3 := h3.ext e105
                replace h27 := h27.ext e105
                replace h30 := h30.ext e105
                refine ⟨_, rfl, ?_⟩
                refine o_p rfl rfl rfl ?_
                refine o_know 106 (.bool true) rfl (congrArg Value.bool q88) ?_
                refine o_p rfl rfl rfl ?_
                refine o_p rfl rfl rfl ?_
                refine ow_call rfl (ec_call rfl) rfl ((Leq_spec h2 h1).mono ?_)
                rintro _ w109 ⟨rfl, e109⟩
                replace hE := hE.trans e109
                replace h1 := h1.ext e109
                replace h2 := h2.ext e109
                replace h3 := h3.ext e109
                replace h27 := h27.ext e109
                replace h30 := h30.ext e109
                refine ⟨_, rfl, ?_⟩
                refine o_p rfl rfl rfl ?_
                refine o_p rfl rfl rfl ?_
                refine o_p rfl rfl rfl ?_
                refine o_know 112 (.bool false) rfl (congrArg Value.bool (nbqq_of (by rw [sameL_eq, q88]; simp))) ?_
                refine (ow_nil (pn_then (cw_cond_f rfl (cw_skip (pn_then (cw_seq (cw_region ?_)))))))
                refine o_p rfl rfl rfl ?_
                refine o_p rfl rfl rfl ?_
                refine o_p rfl rfl rfl ?_
                refine o_p rfl rfl rfl ?_
                refine o_p rfl rfl rfl ?_
                refine ow_call rfl (ec_call rfl) rfl ((Join_spec h2 h1 (by (try simp only [pickL_len, List.length_nil]); omega) (by (try simp only [pickL_len, List.length_nil]); omega)).mono ?_)
                rintro _ w118 ⟨v118, rfl, m118, e118⟩
                replace hE := hE.trans e118
                replace h1 := h1.ext e118
                replace h2 := h2.ext e118
                replace h3 := h3.ext e118
                replace h27 := h27.ext e118
                replace h30 := h30.ext e118
                have h118 : IL w118 v118 (joinL v u) := Mine.sl m118
                refine ⟨_, rfl, ?_⟩
                refine ow_call rfl (ec_call rfl) rfl (((SameInts_spec h27 h118)).mono ?_)
                rintro _ w119 ⟨rfl, e119⟩
                replace hE := hE.trans e119
                replace h1 := h1.ext e119
                replace h2 := h2.ext e119
                replace h3 := h3.ext e119
                replace h27 := h27.ext e119
                replace h30 := h30.ext e119
                replace h118 := h118.ext e119
                refine ⟨_, rfl, ?_⟩
                refine o_p rfl rfl rfl ?_
                refine o_p rfl rfl rfl ?_
                refine o_know 121 (.bool true) rfl (congrArg Value.bool (decide_eq_true (join_comm _ _))) ?_
                refine o_p rfl rfl rfl ?_
                refine o_p rfl rfl rfl ?_
                refine o_p rfl rfl rfl ?_
                refine ow_call rfl (ec_call rfl) rfl ((Meet_spec h2 h1 (by (try simp only [pickL_len, List.length_nil]); omega) (by (try simp only [pickL_len, List.length_nil]); omega)).mono ?_)
                rintro _ w125 ⟨v125, rfl, m125, e125⟩
                replace hE := hE.trans e125
                replace h1 := h1.ext e125
                replace h2 := h2.ext e125
                replace h3 := h3.ext e125
                replace h27 := h27.ext e125
                replace h30 := h30.ext e125
                replace h118 := h118.ext e125
                have h125 : IL w125 v125 (meetL v u) := Mine.sl m125
                refine ⟨_, rfl, ?_⟩
                refine ow_call rfl (ec_call rfl) rfl (((SameInts_spec h30 h125)).mono ?_)
                rintro _ w126 ⟨rfl, e126⟩
                replace hE := hE.trans e126
                replace h1 := h1.ext e126
                replace h2 := h2.ext e126
                replace h3 := h3.ext e126
                replace h27 := h27.ext e126
                replace h30 := h30.ext e126
                replace h118 := h118.ext e126
                replace h125 := h125.ext e126
                refine ⟨_, rfl, ?_⟩
                refine o_p rfl rfl rfl ?_
                refine o_p rfl rfl rfl ?_
                refine o_know 128 (.bool true) rfl (congrArg Value.bool (decide_eq_true (meet_comm _ _))) ?_
                refine o_p rfl rfl rfl ?_
                refine o_p rfl rfl rfl ?_
                refine ow_call rfl (ec_call rfl) rfl ((Join_spec h27 h3 (by (try simp only [pickL_len, List.length_nil]); omega) (by (try simp only [pickL_len, List.length_nil]); omega)).mono ?_)
                rintro _ w131 ⟨v131, rfl, m131, e131⟩
                replace hE := hE.trans e131
                replace h1 := h1.ext e131
                replace h2 := h2.ext e131
                replace h3 := h3.ext e131
                replace h27 := h27.ext e131
                replace h30 := h30.ext e131
                replace h118 := h118.ext e131
                replace h125 := h125.ext e131
                have h131 : IL w131 v131 (joinL (joinL u v) x) := Mine.sl m131
                refine ⟨_, rfl, ?_⟩
                refine o_p rfl rfl rfl ?_
                refine o_p rfl rfl rfl ?_
                refine o_p rfl rfl rfl ?_
                refine ow_call rfl (ec_call rfl) rfl ((Join_spec h2 h3 (by (try simp only [pickL_len, List.length_nil]); omega) (by (try simp only [pickL_len, List.length_nil]); omega)).mono ?_)
                rintro _ w135 ⟨v135, rfl, m135, e135⟩
                replace hE := hE.trans e135
                replace h1 := h1.ext e135
                replace h2 := h2.ext e135
                replace h3 := h3.ext e135
                replace h27 := h27.ext e135
                replace h30 := h30.ext e135
                replace h118 := h118.ext e135
                replace h125 := h125.ext e135
                replace h131 := h131.ext e135
                have h135 : IL w135 v135 (joinL v x) := Mine.sl m135
                refine ⟨_, rfl, ?_⟩
                refine ow_call rfl (ec_call rfl) rfl ((Join_spec h1 h135 (by (try simp only [pickL_len, List.length_nil]); omega) (by (try simp only [pickL_len, List.length_nil]); omega)).mono ?_)
                rintro _ w136 ⟨v136, rfl, m136, e136⟩
                replace hE := hE.trans e136
                replace h1 := h1.ext e136
                replace h2 := h2.ext e136
                replace h3 := h3.ext e136
                replace h27 := h27.ext e136
                replace h30 := h30.ext e136
                replace h118 := h118.ext e136
                replace h125 := h125.ext e136
                replace h131 := h131.ext e136
                replace h135 := h135.ext e136
                have h136 : IL w136 v136 (joinL u (joinL v x)) := Mine.sl m136
                refine ⟨_, rfl, ?_⟩
                refine ow_call rfl (ec_call rfl) rfl (((SameInts_spec h131 h136)).mono ?_)
                rintro _ w137 ⟨rfl, e137⟩
                replace hE := hE.trans e137
                replace h1 := h1.ext e137
                replace h2 := h2.ext e137
                replace h3 := h3.ext e137
                replace h27 := h27.ext e137
                replace h30 := h30.ext e137
                replace h118 := h118.ext e137
                replace h125 := h125.ext e137
                replace h131 := h131.ext e137
                replace h135 := h135.ext e137
                replace h136 := h136.ext e137
                refine ⟨_, rfl, ?_⟩
                refine o_p rfl rfl rfl ?_
                refine o_p rfl rfl rfl ?_
                refine o_know 139 (.bool true) rfl (congrArg Value.bool (decide_eq_true (join_assoc _ _ _))) ?_
                refine o_p rfl rfl rfl ?_
                refine o_p rfl rfl rfl ?_
                refine ow_call rfl (ec_call rfl) rfl ((Meet_spec h30 h3 (by (try simp only [pickL_len, List.length_nil]); omega) (by (try simp only [pickL_len, List.length_nil]); omega)).mono ?_)
                rintro _ w142 ⟨v142, rfl, m142, e142⟩
                replace hE := hE.trans e142
                replace h1 := h1.ext e142
                replace h2 := h2.ext e142
                replace h3 := h3.ext e142
                replace h27 := h27.ext e142
                replace h30 := h30.ext e142
                replace h118 := h118.ext e142
                replace h125 := h125.ext e142
                replace h131 := h131.ext e142
                replace h135 := h135.ext e142
                replace h136 := h136.ext e142
                have h142 : IL w142 v142 (meetL (meetL u v) x) := Mine.sl m142
                refine ⟨_, rfl, ?_⟩
                refine o_p rfl rfl rfl ?_
                refine o_p rfl rfl rfl ?_
                refine o_p rfl rfl rfl ?_
                refine ow_call rfl (ec_call rfl) rfl ((Meet_spec h2 h3 (by (try simp only [pickL_len, List.length_nil]); omega) (by (try simp only [pickL_len, List.length_nil]); omega)).mono ?_)
                rintro _ w146 ⟨v146, rfl, m146, e146⟩
                replace hE := hE.trans e146
                replace h1 := h1.ext e146
                replace h2 := h2.ext e146
                replace h3 := h3.ext e146
                replace h27 := h27.ext e146
                replace h30 := h30.ext e146
                replace h118 := h118.ext e146
                replace h125 := h125.ext e146
                replace h131 := h131.ext e146
                replace h135 := h135.ext e146
                replace h136 := h136.ext e146
                replace h142 := h142.ext e146
                have h146 : IL w146 v146 (meetL v x) := Mine.sl m146
                refine ⟨_, rfl, ?_⟩
                refine ow_call rfl (ec_call rfl) rfl ((Meet_spec h1 h146 (by (try simp only [pickL_len, List.length_nil]); omega) (by (try simp only [pickL_len, List.length_nil]); omega)).mono ?_)
                rintro _ w147 ⟨v147, rfl, m147, e147⟩
                replace hE := hE.trans e147
                replace h1 := h1.ext e147
                replace h2 := h2.ext e147
                replace h3 := h3.ext e147
                replace h27 := h27.ext e147
                replace h30 := h30.ext e147
                replace h118 := h118.ext e147
                replace h125 := h125.ext e147
                replace h131 := h131.ext e147
                replace h135 := h135.ext e147
                replace h136 := h136.ext e147
                replace h142 := h142.ext e147
                replace h146 := h146.ext e147
                have h147 : IL w147 v147 (meetL u (meetL v x)) := Mine.sl m147
                refine ⟨_, rfl, ?_⟩
                refine ow_call rfl (ec_call rfl) rfl (((SameInts_spec h142 h147)).mono ?_)
                rintro _ w148 ⟨rfl, e148⟩
                replace hE := hE.trans e148
                replace h1 := h1.ext e148
                replace h2 := h2.ext e148
                replace h3 := h3.ext e148
                replace h27 := h27.ext e148
                replace h30 := h30.ext e148
                replace h118 := h118.ext e148
                replace h125 := h125.ext e148
                replace h131 := h131.ext e148
                replace h135 := h135.ext e148
                replace h136 := h136.ext e148
                replace h142 := h142.ext e148
                replace h146 := h146.ext e148
                replace h147 := h147.ext e148
                refine ⟨_, rfl, ?_⟩
                refine o_p rfl rfl rfl ?_
                refine o_p rfl rfl rfl ?_
                refine o_know 6 (.bool true) rfl (congrArg Value.bool (decide_eq_true (meet_assoc _ _ _))) ?_
                refine (ow_nil (pn_then (cw_ret (pn_ret rfl rfl ⟨rfl, hE⟩))))
            · have q88 := s88
              refine ow_skip rfl rfl ?_
              refine ow_skip rfl rfl ?_
              refine ow_skip rfl rfl ?_
              refine o_p rfl rfl rfl ?_
              refine o_p rfl rfl rfl ?_
              refine ow_skip rfl rfl ?_
              refine ow_skip rfl rfl ?_
              refine ow_skip rfl rfl ?_
              refine ow_skip rfl rfl ?_
              refine o_p rfl rfl rfl ?_
              refine o_p rfl rfl rfl ?_
              refine o_p rfl rfl rfl ?_
              refine o_p rfl rfl rfl ?_
              refine ow_call rfl (ec_call rfl) rfl ((Same_spec h1 h2).mono ?_)
              rintro _ w102 ⟨rfl, e102⟩
              replace hE := hE.trans e102
              replace h1 := h1.ext e102
              replace h2 := h2.ext e102
              replace h3 := h3.ext e102
              replace h27 := h27.ext e102
              replace h30 := h30.ext e102
              refine ⟨_, rfl, ?_⟩
              refine o_p rfl rfl rfl ?_
              refine o_p rfl rfl rfl ?_
              refine ow_call rfl (ec_call rfl) rfl ((Leq_spec h1 h2).mono ?_)
              rintro _ w105 ⟨rfl, e105⟩
              replace hE := hE.trans e105
              replace h1 := h1.ext e105
              replace h2 := h2.ext e105
              replace h3 := h3.ext e105
              replace h27 := h27.ext e105
              replace h30 := h30.ext e105
              refine ⟨_, rfl, ?_⟩
              refine o_p rfl rfl rfl ?_
              refine o_know 106 (.bool false) rfl (congrArg Value.bool q88) ?_
              refine ow_skip rfl rfl ?_
              refine ow_skip rfl rfl ?_
              refine ow_skip rfl rfl ?_
              refine o_p rfl rfl rfl ?_
              refine o_p rfl rfl rfl ?_
              refine o_p rfl rfl rfl ?_
              refine o_know 112 (.bool false) rfl (congrArg Value.bool (nbqq_of (by rw [sameL_eq, q88]; simp))) ?_
              refine (ow_nil (pn_then (cw_cond_f rfl (cw_skip (pn_then (cw_seq (cw_region ?_)))))))
              refine o_p rfl rfl rfl ?_
              refine o_p rfl rfl rfl ?_
              refine o_p rfl rfl rfl ?_
              refine o_p rfl rfl rfl ?_
              refine o_p rfl rfl rfl ?_
              refine ow_call rfl (ec_call rfl) rfl ((Join_spec h2 h1 (by (try simp only [pickL_len, List.length_nil]); omega) (by (try simp only [pickL_len, List.length_nil]); omega)).mono ?_)
              rintro _ w118 ⟨v118, rfl, m118, e118⟩
              replace hE := hE.trans e118
              replace h1 := h1.ext e118
              replace h2 := h2.ext e118
              replace h3 := h3.ext e118
              replace h27 := h27.ext e118
              replace h30 := h30.ext e118
              have h118 : IL w118 v118 (joinL v u) := Mine.sl m118
              refine ⟨_, rfl, ?_⟩
              refine ow_call rfl (ec_call rfl) rfl (((SameInts_spec h27 h118)).mono ?_)
              rintro _ w119 ⟨rfl, e119⟩
              replace hE := hE.trans e119
              replace h1 := h1.ext e119
              replace h2 := h2.ext e119
              replace h3 := h3.ext e119
              replace h27 := h27.ext e119
              replace h30 := h30.ext e119
              replace h118 := h118.ext e119
              refine ⟨_, rfl, ?_⟩
              refine o_p rfl rfl rfl ?_
              refine o_p rfl rfl rfl ?_
              refine o_know 121 (.bool true) rfl (congrArg Value.bool (decide_eq_true (join_comm _ _))) ?_
              refine o_p rfl rfl rfl ?_
              refine o_p rfl rfl rfl ?_
              refine o_p rfl rfl rfl ?_
              refine ow_call rfl (ec_call rfl) rfl ((Meet_spec h2 h1 (by (try simp only [pickL_len, List.length_nil]); omega) (by (try simp only [pickL_len, List.length_nil]); omega)).mono ?_)
              rintro _ w125 ⟨v125, rfl, m125, e125⟩
              replace hE := hE.trans e125
              replace h1 := h1.ext e125
              replace h2 := h2.ext e125
              replace h3 := h3.ext e125
              replace h27 := h27.ext e125
              replace h30 := h30.ext e125
              replace h118 := h118.ext e125
              have h125 : IL w125 v125 (meetL v u) := Mine.sl m125
              refine ⟨_, rfl, ?_⟩
              refine ow_call rfl (ec_call rfl) rfl (((SameInts_spec h30 h125)).mono ?_)
              rintro _ w126 ⟨rfl, e126⟩
              replace hE := hE.trans e126
              replace h1 := h1.ext e126
              replace h2 := h2.ext e126
              replace h3 := h3.ext e126
              replace h27 := h27.ext e126
              replace h30 := h30.ext e126
              replace h118 := h118.ext e126
              replace h125 := h125.ext e126
              refine ⟨_, rfl, ?_⟩
              refine o_p rfl rfl rfl ?_
              refine o_p rfl rfl rfl ?_
              refine o_know 128 (.bool true) rfl (congrArg Value.bool (decide_eq_true (meet_comm _ _))) ?_
              refine o_p rfl rfl rfl ?_
              refine o_p rfl rfl rfl ?_
              refine ow_call rfl (ec_call rfl) rfl ((Join_spec h27 h3 (by (try simp only [pickL_len, List.length_nil]); omega) (by (try simp only [pickL_len, List.length_nil]); omega)).mono ?_)
              rintro _ w131 ⟨v131, rfl, m131, e131⟩
              replace hE := hE.trans e131
              replace h1 := h1.ext e131
              replace h2 := h2.ext e131
              replace h3 := h3.ext e131
              replace h27 := h27.ext e131
              replace h30 := h30.ext e131
              replace h118 := h118.ext e131
              replace h125 := h125.ext e131
              have h131 : IL w131 v131 (joinL (joinL u v) x) := Mine.sl m131
              refine ⟨_, rfl, ?_⟩
              refine o_p rfl rfl rfl ?_
              refine o_p rfl rfl rfl ?_
              refine o_p rfl rfl rfl ?_
              refine ow_call rfl (ec_call rfl) rfl ((Join_spec h2 h3 (by (try simp only [pickL_len, List.length_nil]); omega) (by (try simp only [pickL_len, List.length_nil]); omega)).mono ?_)
              rintro _ w135 ⟨v135, rfl, m135, e135⟩
              replace hE := hE.trans e135
              replace h1 := h1.ext e135
              replace h2 := h2.ext e135
              replace h3 := h3.ext e135
              replace h27 := h27.ext e135
              replace h30 := h30.ext e135
              replace h118 := h118.ext e135
              replace h125 := h125.ext e135
              replace h131 := h131.ext e135
              have h135 : IL w135 v135 (joinL v x) := Mine.sl m135
              refine ⟨_, rfl, ?_⟩
              refine ow_call rfl (ec_call rfl) rfl ((Join_spec h1 h135 (by (try simp only [pickL_len, List.length_nil]); omega) (by (try simp only [pickL_len, List.length_nil]); omega)).mono ?_)
              rintro _ w136 ⟨v136, rfl, m136, e136⟩
              replace hE := hE.trans e136
              replace h1 := h1.ext e136
              replace h2 := h2.ext e136
              replace h3 := h3.ext e136
              replace h27 := h27.ext e136
              replace h30 := h30.ext e136
              replace h118 := h118.ext e136
              replace h125 := h125.ext e136
              replace h131 := h131.ext e136
              replace h135 := h135.ext e136
              have h136 : IL w136 v136 (joinL u (joinL v x)) := Mine.sl m136
              refine ⟨_, rfl, ?_⟩
              refine ow_call rfl (ec_call rfl) rfl (((SameInts_spec h131 h136)).mono ?_)
              rintro _ w137 ⟨rfl, e137⟩
              replace hE := hE.trans e137
              replace h1 := h1.ext e137
              replace h2 := h2.ext e137
              replace h3 := h3.ext e137
              replace h27 := h27.ext e137
              replace h30 := h30.ext e137
              replace h118 := h118.ext e137
              replace h125 := h125.ext e137
              replace h131 := h131.ext e137
              replace h135 := h135.ext e137
              replace h136 := h136.ext e137
              refine ⟨_, rfl, ?_⟩
              refine o_p rfl rfl rfl ?_
              refine o_p rfl rfl rfl ?_
              refine o_know 139 (.bool true) rfl (congrArg Value.bool (decide_eq_true (join_assoc _ _ _))) ?_
              refine o_p rfl rfl rfl ?_
              refine o_p rfl rfl rfl ?_
              refine ow_call rfl (ec_call rfl) rfl ((Meet_spec h30 h3 (by (try simp only [pickL_len, List.length_nil]); omega) (by (try simp only [pickL_len, List.length_nil]); omega)).mono ?_)
              rintro _ w142 ⟨v142, rfl, m142, e142⟩
              replace hE := hE.trans e142
              replace h1 := h1.ext e142
              replace h2 := h2.ext e142
              replace h3 := h3.ext e142
              replace h27 := h27.ext e142
              replace h30 := h30.ext e142
              replace h118 := h118.ext e142
              replace h125 := h125.ext e142
              replace h131 := h131.ext e142
              replace h135 := h135.ext e142
              replace h136 := h136.ext e142
              have h142 : IL w142 v142 (meetL (meetL u v) x) := Mine.sl m142
              refine ⟨_, rfl, ?_⟩
              refine o_p rfl rfl rfl ?_
              refine o_p rfl rfl rfl ?_
              refine o_p rfl rfl rfl ?_
              refine ow_call rfl (ec_call rfl) rfl ((Meet_spec h2 h3 (by (try simp only [pickL_len, List.length_nil]); omega) (by (try simp only [pickL_len, List.length_nil]); omega)).mono ?_)
              rintro _ w146 ⟨v146, rfl, m146, e146⟩
              replace hE := hE.trans e146
              replace h1 := h1.ext e146
              replace h2 := h2.ext e146
              replace h3 := h3.ext e146
              replace h27 := h27.ext e146
              replace h30 := h30.ext e146
              replace h118 := h118.ext e146
              replace h125 := h125.ext e146
              replace h131 := h131.ext e146
              replace h135 := h135.ext e146
              replace h136 := h136.ext e146
              replace h142 := h142.ext e146
              have h146 : IL w146 v146 (meetL v x) := Mine.sl m146
              refine ⟨_, rfl, ?_⟩
              refine ow_call rfl (ec_call rfl) rfl ((Meet_spec h1 h146 (by (try simp only [pickL_len, List.length_nil]); omega) (by (try simp only [pickL_len, List.length_nil]); omega)).mono ?_)
              rintro _ w147 ⟨v147, rfl, m147, e147⟩
              replace hE := hE.trans e147
              replace h1 := h1.ext e147
              replace h2 := h2.ext e147
              replace h3 := h3.ext e147
              replace h27 := h27.ext e147
              replace h30 := h30.ext e147
              replace h118 := h118.ext e147
              replace h125 := h125.ext e147
              replace h131 := h131.ext e147
              replace h135 := h135.ext e147
              replace h136 := h136.ext e147
              replace h142 := h142.ext e147
              replace h146 := h146.ext e147
              have h147 : IL w147 v147 (meetL u (meetL v x)) := Mine.sl m147
              refine ⟨_, rfl, ?_⟩
              refine ow_call rfl (ec_call rfl) rfl (((SameInts_spec h142 h147)).mono ?_)
              rintro _ w148 ⟨rfl, e148⟩
              replace hE := hE.trans e148
              replace h1 := h1.ext e148
              replace h2 := h2.ext e148
              replace h3 := h3.ext e148
              replace h27 := h27.ext e148
              replace h30 := h30.ext e148
              replace h118 := h118.ext e148
              replace h125 := h125.ext e148
              replace h131 := h131.ext e148
              replace h135 := h135.ext e148
              replace h136 := h136.ext e148
              replace h142 := h142.ext e148
              replace h146 := h146.ext e148
              replace h147 := h147.ext e148
              refine ⟨_, rfl, ?_⟩
              refine o_p rfl rfl rfl ?_
              refine o_p rfl rfl rfl ?_
              refine o_know 6 (.bool true) rfl (congrArg Value.bool (decide_eq_true (meet_assoc _ _ _))) ?_
              refine (ow_nil (pn_then (cw_ret (pn_ret rfl rfl ⟨rfl, hE⟩))))
          · have q75 := s75
            refine ow_skip rfl rfl ?_
            refine ow_skip rfl rfl ?_
            refine ow_skip rfl rfl ?_
            refine ow_skip rfl rfl ?_
            refine ow_skip rfl rfl ?_
            refine ow_skip rfl rfl ?_
            refine ow_skip rfl rfl ?_
            refine o_p rfl rfl rfl ?_
            refine o_p rfl rfl rfl ?_
            refine (ow_nil (pn_then (cw_cond_f rfl (cw_skip (pn_then (cw_seq (cw_seq (cw_region ?_))))))))
            refine o_p rfl rfl rfl ?_
            refine o_p rfl rfl rfl ?_
            refine ow_call rfl (ec_call rfl) rfl ((Leq_spec h1 h2).mono ?_)
            rintro _ w87 ⟨rfl, e87⟩
            replace hE := hE.trans e87
            replace h1 := h1.ext e87
            replace h2 := h2.ext e87
            replace h3 := h3.ext e87
            replace h27 := h27.ext e87
            replace h30 := h30.ext e87
            refine ⟨_, rfl, ?_⟩
            refine o_p rfl rfl rfl ?_
            refine o_split 88 rfl (fun s88 => ?_) (fun s88 => ?_)
            · have q88 := s88
              refine o_p rfl rfl rfl ?_
              refine o_p rfl rfl rfl ?_
              refine ow_call rfl (ec_call rfl) rfl ((Leq_spec h2 h3).mono ?_)
              rintro _ w91 ⟨rfl, e91⟩
              replace hE := hE.trans e91
              replace h1 := h1.ext e91
              replace h2 := h2.ext e91
              replace h3 := h3.ext e91
              replace h27 := h27.ext e91
              replace h30 := h30.ext e91
              refine ⟨_, rfl, ?_⟩
              refine o_p rfl rfl rfl ?_
              refine o_p rfl rfl rfl ?_
              refine o_split 93 rfl (fun s93 => ?_) (fun s93 => ?_)
              · have q93 := s93
                refine o_p rfl rfl rfl ?_
                refine o_p rfl rfl rfl ?_
                refine ow_call rfl (ec_call rfl) rfl ((Leq_spec h1 h3).mono ?_)
                rintro _ w96 ⟨rfl, e96⟩
                replace hE := hE.trans e96
                replace h1 := h1.ext e96
                replace h2 := h2.ext e96
                replace h3 := h3.ext e96
                replace h27 := h27.ext e96
                replace h30 := h30.ext e96
                refine ⟨_, rfl, ?_⟩
                refine o_p rfl rfl rfl ?_
                refine o_p rfl rfl rfl ?_
                refine o_p rfl rfl rfl ?_
                refine o_know 99 (.bool false) rfl (congrArg Value.bool (by rw [leq_trans q88 q93]; rfl)) ?_
                refine o_p rfl rfl rfl ?_
                refine o_p rfl rfl rfl ?_
                refine ow_call rfl (ec_call rfl) rfl ((Same_spec h1 h2).mono ?_)
                rintro _ w102 ⟨rfl, e102⟩
                replace hE := hE.trans e102
                replace h1 := h1.ext e102
                replace h2 := h2.ext e102
                replace h3 := h3.ext e102
                replace h27 := h27.ext e102
                replace h30 := h30.ext e102
                refine ⟨_, rfl, ?_⟩
                refine o_p rfl rfl rfl ?_
                refine o_p rfl rfl rfl ?_
                refine ow_call rfl (ec_call rfl) rfl ((Leq_spec h1 h2).mono ?_)
                rintro _ w105 ⟨rfl, e105⟩
                replace hE := hE.trans e105
                replace h1 := h1.ext e105
                replace h2 := h2.ext e105
                replace h3 := h3.ext e105
                replace h27 := h27.ext e105
                replace h30 := h30.ext e105
                refine ⟨_, rfl, ?_⟩
                refine o_p rfl rfl rfl ?_
                refine o_know 106 (.bool true) rfl (congrArg Value.bool q88) ?_
                refine o_p rfl rfl rfl ?_
                refine o_p rfl rfl rfl ?_
                refine ow_call rfl (ec_call rfl) rfl ((Leq_spec h2 h1).mono ?_)
                rintro _ w109 ⟨rfl, e109⟩
                replace hE := hE.trans e109
                replace h1 := h1.ext e109
                replace h2 := h2.ext e109
                replace h3 := h3.ext e109
                replace h27 := h27.ext e109
                replace h30 := h30.ext e109
                refine ⟨_, rfl, ?_⟩
                refine o_p rfl rfl rfl ?_
                refine o_p rfl rfl rfl ?_
                refine o_p rfl rfl rfl ?_
                refine o_know 112 (.bool false) rfl (congrArg Value.bool (nbqq_of (by rw [sameL_eq, q88]; simp))) ?_
                refine (ow_nil (pn_then (cw_cond_f rfl (cw_skip (pn_then (cw_seq (cw_region ?_)))))))
                refine o_p rfl rfl rfl ?_
                refine o_p rfl rfl rfl ?_
                refine o_p rfl rfl rfl ?_
                refine o_p rfl rfl rfl ?_
                refine o_p rfl rfl rfl ?_
                refine ow_call rfl (ec_call rfl) rfl ((Join_spec h2 h1 (by (try simp only [pickL_len, List.length_nil]); omega) (by (try simp only [pickL_len, List.length_nil]); omega)).mono ?_)
                rintro _ w118 ⟨v118, rfl, m118, e118⟩
                replace hE := hE.trans e118
                replace h1 := h1.ext e118
                replace h2 := h2.ext e118
                replace h3 := h3.ext e118
                replace h27 := h27.ext e118
                replace h30 := h30.ext e118
                have h118 : IL w118 v118 (joinL v u) := Mine.sl m118
                refine ⟨_, rfl, ?_⟩
                refine ow_call rfl (ec_call rfl) rfl (((SameInts_spec h27 h118)).mono ?_)
                rintro _ w119 ⟨rfl, e119⟩
                replace hE := hE.trans e119
                replace h1 := h1.ext e119
                replace h2 := h2.ext e119
                replace h3 := h3.ext e119
                replace h27 := h27.ext e119
                replace h30 := h30.ext e119
                replace h118 := h118.ext e119
                refine ⟨_, rfl, ?_⟩
                refine o_p rfl rfl rfl ?_
                refine o_p rfl rfl rfl ?_
                refine o_know 121 (.bool true) rfl (congrArg Value.bool (decide_eq_true (join_comm _ _))) ?_
                refine o_p rfl rfl rfl ?_
                refine o_p rfl rfl rfl ?_
                refine o_p rfl rfl rfl ?_
                refine ow_call rfl (ec_call rfl) rfl ((Meet_spec h2 h1 (by (try simp only [pickL_len, List.length_nil]); omega) (by (try simp only [pickL_len, List.length_nil]); omega)).mono ?_)
                rintro _ w125 ⟨v125, rfl, m125, e125⟩
                replace hE := hE.trans e125
                replace h1 := h1.ext e125
                replace h2 := h2.ext e125
                replace h3 := h3.ext e125
                replace h27 := h27.ext e125
                replace h30 := h30.ext e125
                replace h118 := h118.ext e125
                have h125 : IL w125 v125 (meetL v u) := Mine.sl m125
                refine ⟨_, rfl, ?_⟩
                refine ow_call rfl (ec_call rfl) rfl (((SameInts_spec h30 h125)).mono ?_)
                rintro _ w126 ⟨rfl, e126⟩
                replace hE := hE.trans e126
                replace h1 := h1.ext e126
                replace h2 := h2.ext e126
                replace h3 := h3.ext e126
                replace h27 := h27.ext e126
                replace h30 := h30.ext e126
                replace h118 := h118.ext e126
                replace h125 := h125.ext e126
                refine ⟨_, rfl, ?_⟩
                refine o_p rfl rfl rfl ?_
                refine o_p rfl rfl rfl ?_
                refine o_know 128 (.bool true) rfl (congrArg Value.bool (decide_eq_true (meet_comm _ _))) ?_
                refine o_p rfl rfl rfl ?_
                refine o_p rfl rfl rfl ?_
                refine ow_call rfl (ec_call rfl) rfl ((Join_spec h27 h3 (by (try simp only [pickL_len, List.length_nil]); omega) (by (try simp only [pickL_len, List.length_nil]); omega)).mono ?_)
                rintro _ w131 ⟨v131, rfl, m131, e131⟩
                replace hE := hE.trans e131
                replace h1 := h1.ext e131
                replace h2 := h2.ext e131
                replace h3 := h3.ext e131
                replace h27 := h27.ext e131
                replace h30 := h30.ext e131
                replace h118 := h118.ext e131
                replace h125 := h125.ext e131
                have h131 : IL w131 v131 (joinL (joinL u v) x) := Mine.sl m131
                refine ⟨_, rfl, ?_⟩
                refine o_p rfl rfl rfl ?_
                refine o_p rfl rfl rfl ?_
                refine o_p rfl rfl rfl ?_
                refine ow_call rfl (ec_call rfl) rfl ((Join_spec h2 h3 (by (try simp only [pickL_len, List.length_nil]); omega) (by (try simp only [pickL_len, List.length_nil]); omega)).mono ?_)
                rintro _ w135 ⟨v135, rfl, m135, e135⟩
                replace hE := hE.trans e135
                replace h1 := h1.ext e135
                replace h2 := h2.ext e135
                replace h3 := h3.ext e135
                replace h27 := h27.ext e135
                replace h30 := h30.ext e135
                replace h118 := h118.ext e135
                replace h125 := h125.ext e135
                replace h131 := h131.ext e135
                have h135 : IL w135 v135 (joinL v x) := Mine.sl m135
                refine ⟨_, rfl, ?_⟩
                refine ow_call rfl (ec_call rfl) rfl ((Join_spec h1 h135 (by (try simp only [pickL_len, List.length_nil]); omega) (by (try simp only [pickL_len, List.length_nil]); omega)).mono ?_)
                rintro _ w136 ⟨v136, rfl, m136, e136⟩
                replace hE := hE.trans e136
                replace h1 := h1.ext e136
                replace h2 := h2.ext e136
                replace h3 := h3.ext e136
                replace h27 := h27.ext e136
                replace h30 := h30.ext e136
                replace h118 := h118.ext e136
                replace h125 := h125.ext e136
                replace h131 := h131.ext e136
                replace h135 := h135.ext e136
                have h136 : IL w136 v136 (joinL u (joinL v x)) := Mine.sl m136
                refine ⟨_, rfl, ?_⟩
                refine ow_call rfl (ec_call rfl) rfl (((SameInts_spec h131 h136)).mono ?_)
                rintro _ w137 ⟨rfl, e137⟩
                replace hE := hE.trans e137
                replace h1 := h1.ext e137
                replace h2 := h2.ext e137
                replace h3 := h3.ext e137
                replace h27 := h27.ext e137
                replace h30 := h30.ext e137
                replace h118 := h118.ext e137
                replace h125 := h125.ext e137
                replace h131 := h131.ext e137
                replace h135 := h135.ext e137
                replace h136 := h136.ext e137
                refine ⟨_, rfl, ?_⟩
                refine o_p rfl rfl rfl ?_
                refine o_p rfl rfl rfl ?_
                refine o_know 139 (.bool true) rfl (congrArg Value.bool (decide_eq_true (join_assoc _ _ _))) ?_
                refine o_p rfl rfl rfl ?_
                refine o_p rfl rfl rfl ?_
                refine ow_call rfl (ec_call rfl) rfl ((Meet_spec h30 h3 (by (try simp only [pickL_len, List.length_nil]); omega) (by (try simp only [pickL_len, List.length_nil]); omega)).mono ?_)
                rintro _ w142 ⟨v142, rfl, m142, e142⟩
                replace hE := hE.trans e142
                replace h1 := h1.ext e142
                replace h2 := h2.ext e142
                replace h3 := h3.ext e142
                replace h27 := h27.ext e142
                replace h30 := h30.ext e142
                replace h118 := h118.ext e142
                replace h125 := h125.ext e142
                replace h131 := h131.ext e142
                replace h135 := h135.ext e142
                replace h136 := h136.ext e142
                have h142 : IL w142 v142 (meetL (meetL u v) x) := Mine.sl m142
                refine ⟨_, rfl, ?_⟩
                refine o_p rfl rfl rfl ?_
                refine o_p rfl rfl rfl ?_
                refine o_p rfl rfl rfl ?_
                refine ow_call rfl (ec_call rfl) rfl ((Meet_spec h2 h3 (by (try simp only [pickL_len, List.length_nil]); omega) (by (try simp only [pickL_len, List.length_nil]); omega)).mono ?_)
                rintro _ w146 ⟨v146, rfl, m146, e146⟩
                replace hE := hE.trans e146
                replace h1 := h1.ext e146
                replace h2 := h2.ext e146
                replace h3 := h3.ext e146
                replace h27 := h27.ext e146
                replace h30 := h30.ext e146
                replace h118 := h118.ext e146
                replace h125 := h125.ext e146
                replace h131 := h131.ext e146
                replace h135 := h135.ext e146
                replace h136 := h136.ext e146
                replace h142 := h142.ext e146
                have h146 : IL w146 v146 (meetL v x) := Mine.sl m146
                refine ⟨_, rfl, ?_⟩
                refine ow_call rfl (ec_call rfl) rfl ((Meet_spec h1 h146 (by (try simp only [pickL_len, List.length_nil]); omega) (by (try simp only [pickL_len, List.length_nil]); omega)).mono ?_)
                rintro _ w147 ⟨v147, rfl, m147, e147⟩
                replace hE := hE.trans e147
                replace h1 := h1.ext e147
                replace h2 := h2.ext e147
                replace h3 := h3.ext e147
                replace h27 := h27.ext e147
                replace h30 := h30.ext e147
                replace h118 := h118.ext e147
                replace h125 := h125.ext e147
                replace h131 := h131.ext e147
                replace h135 := h135.ext e147
                replace h136 := h136.ext e147
                replace h142 := h142.ext e147
                replace h146 := h146.ext e147
                have h147 : IL w147 v147 (meetL u (meetL v x)) := Mine.sl m147
                refine ⟨_, rfl, ?_⟩
                refine ow_call rfl (ec_call rfl) rfl (((SameInts_spec h142 h147)).mono ?_)
                rintro _ w148 ⟨rfl, e148⟩
                replace hE := hE.trans e148
                replace h1 := h1.ext e148
                replace h2 := h2.ext e148
                replace h3 := h3.ext e148
                replace h27 := h27.ext e148
                replace h30 := h30.ext e148
                replace h118 := h118.ext e148
                replace h125 := h125.ext e148
                replace h131 := h131.ext e148
                replace h135 := h135.ext e148
                replace h136 := h136.ext e148
                replace h142 := h142.ext e148
                replace h146 := h146.ext e148
                replace h147 := h147.ext e148
                refine ⟨_, rfl, ?_⟩
                refine o_p rfl rfl rfl ?_
                refine o_p rfl rfl rfl ?_
                refine o_know 6 (.bool true) rfl (congrArg Value.bool (decide_eq_true (meet_assoc _ _ _))) ?_
                refine (ow_nil (pn_then (cw_ret (pn_ret rfl rfl ⟨rfl, hE⟩))))
              · have q93 := s93
                refine ow_skip rfl rfl ?_
                refine ow_skip rfl rfl ?_
                refine ow_skip rfl rfl ?_
                refine ow_skip rfl rfl ?_
                refine o_p rfl rfl rfl ?_
                refine o_p rfl rfl rfl ?_
                refine o_p rfl rfl rfl ?_
                refine o_p rfl rfl rfl ?_
                refine ow_call rfl (ec_call rfl) rfl ((Same_spec h1 h2).mono ?_)
                rintro _ w102 ⟨rfl, e102⟩
                replace hE := hE.trans e102
                replace h1 := h1.ext e102
                replace h2 := h2.ext e102
                replace h3 := h3.ext e102
                replace h27 := h27.ext e102
                replace h30 := h30.ext e102
                refine ⟨_, rfl, ?_⟩
                refine o_p rfl rfl rfl ?_
                refine o_p rfl rfl rfl ?_
                refine ow_call rfl (ec_call rfl) rfl ((Leq_spec h1 h2).mono ?_)
                rintro _ w105 ⟨rfl, e105⟩
                replace hE := hE.trans e105
                replace h1 := h1.ext e105
                replace h2 := h2.ext e105
                replace h3 := h3.ext e105
                replace h27 := h27.ext e105
                replace h30 := h30.ext e105
                refine ⟨_, rfl, ?_⟩
                refine o_p rfl rfl rfl ?_
                refine o_know 106 (.bool true) rfl (congrArg Value.bool q88) ?_
                refine o_p rfl rfl rfl ?_
                refine o_p rfl rfl rfl ?_
                refine ow_call rfl (ec_call rfl) rfl ((Leq_spec h2 h1).mono ?_)
                rintro _ w109 ⟨rfl, e109⟩
                replace hE := hE.trans e109
                replace h1 := h1.ext e109
                replace h2 := h2.ext e109
                replace h3 := h3.ext e109
                replace h27 := h27.ext e109
                replace h30 := h30.ext e109
                refine ⟨_, rfl, ?_⟩
                refine o_p rfl rfl rfl ?_
                refine o_p rfl rfl rfl ?_
                refine o_p rfl rfl rfl ?_
                refine o_know 112 (.bool false) rfl (congrArg Value.bool (nbqq_of (by rw [sameL_eq, q88]; simp))) ?_
                refine (ow_nil (pn_then (cw_cond_f rfl (cw_skip (pn_then (cw_seq (cw_region ?_)))))))
                refine o_p rfl rfl rfl ?_
                refine o_p rfl rfl rfl ?_
                refine o_p rfl rfl rfl ?_
                refine o_p rfl rfl rfl ?_
                refine o_p rfl rfl rfl ?_
                refine ow_call rfl (ec_call rfl) rfl ((Join_spec h2 h1 (by (try simp only [pickL_len, List.length_nil]); omega) (by (try simp only [pickL_len, List.length_nil]); omega)).mono ?_)
                rintro _ w118 ⟨v118, rfl, m118, e118⟩
                replace hE := hE.trans e118
                replace h1 := h1.ext e118
                replace h2 := h2.ext e118
                replace h3 := h3.ext e118
                replace h27 := h27.ext e118
                replace h30 := h30.ext e118
                have h118 : IL w118 v118 (joinL v u) := Mine.sl m118
                refine ⟨_, rfl, ?_⟩
                refine ow_call rfl (ec_call rfl) rfl (((SameInts_spec h27 h118)).mono ?_)
                rintro _ w119 ⟨rfl, e119⟩
                replace hE := hE.trans e119
                replace h1 := h1.ext e119
                replace h2 := h2.ext e119
                replace h3 := h3.ext e119
                replace h27 := h27.ext e119
                replace h30 := h30.ext e119
                replace h118 := h118.ext e119
                refine ⟨_, rfl, ?_⟩
                refine o_p rfl rfl rfl ?_
                refine o_p rfl rfl rfl ?_
                refine o_know 121 (.bool true) rfl (congrArg Value.bool (decide_eq_true (join_comm _ _))) ?_
                refine o_p rfl rfl rfl ?_
                refine o_p rfl rfl rfl ?_
                refine o_p rfl rfl rfl ?_
                refine ow_call rfl (ec_call rfl) rfl ((Meet_spec h2 h1 (by (try simp only [pickL_len, List.length_nil]); omega) (by (try simp only [pickL_len, List.length_nil]); omega)).mono ?_)
                rintro _ w125 ⟨v125, rfl, m125, e125⟩
                replace hE := hE.trans e125
                replace h1 := h1.ext e125
                replace h2 := h2.ext e125
                replace h3 := h3.ext e125
                replace h27 := h27.ext e125
                replace h30 := h30.ext e125
                replace h118 := h118.ext e125
                have h125 : IL w125 v125 (meetL v u) := Mine.sl m125
                refine ⟨_, rfl, ?_⟩
                refine ow_call rfl (ec_call rfl) rfl (((SameInts_spec h30 h125)).mono ?_)
                rintro _ w126 ⟨rfl, e126⟩
                replace hE := hE.trans e126
                replace h1 := h1.ext e126
                replace h2 := h2.ext e126
                replace h3 := h3.ext e126
                replace h27 := h27.ext e126
                replace h30 := h30.ext e126
                replace h118 := h118.ext e126
                replace h125 := h125.ext e126
                refine ⟨_, rfl, ?_⟩
                refine o_p rfl rfl rfl ?_
                refine o_p rfl rfl rfl ?_
                refine o_know 128 (.bool true) rfl (congrArg Value.bool (decide_eq_true (meet_comm _ _))) ?_
                refine o_p rfl rfl rfl ?_
                refine o_p rfl rfl rfl ?_
                refine ow_call rfl (ec_call rfl) rfl ((Join_spec h27 h3 (by (try simp only [pickL_len, List.length_nil]); omega) (by (try simp only [pickL_len, List.length_nil]); omega)).mono ?_)
                rintro _ w131 ⟨v131, rfl, m131, e131⟩
                replace hE := hE.trans e131
                replace h1 := h1.ext e131
                replace h2 := h2.ext e131
                replace h3 := h3.ext e131
                replace h27 := h27.ext e131
                replace h30 := h30.ext e131
                replace h118 := h118.ext e131
                replace h125 := h125.ext e131
                have h131 : IL w131 v131 (joinL (joinL u v) x) := Mine.sl m131
                refine ⟨_, rfl, ?_⟩
                refine o_p rfl rfl rfl ?_
                refine o_p rfl rfl rfl ?_
                refine o_p rfl rfl rfl ?_
                refine ow_call rfl (ec_call rfl) rfl ((Join_spec h2 h3 (by (try simp only [pickL_len, List.length_nil]); omega) (by (try simp only [pickL_len, List.length_nil]); omega)).mono ?_)
                rintro _ w135 ⟨v135, rfl, m135, e135⟩
                replace hE := hE.trans e135
                replace h1 := h1.ext e135
                replace h2 := h2.ext e135
                replace h3 := h3.ext e135
                replace h27 := h27.ext e135
                replace h30 := h30.ext e135
                replace h118 := h118.ext e135
                replace h125 := h125.ext e135
                replace h131 := h131.ext e135
                have h135 : IL w135 v135 (joinL v x) := Mine.sl m135
                refine ⟨_, rfl, ?_⟩
                refine ow_call rfl (ec_call rfl) rfl ((Join_spec h1 h135 (by (try simp only [pickL_len, List.length_nil]); omega) (by (try simp only [pickL_len, List.length_nil]); omega)).mono ?_)
                rintro _ w136 ⟨v136, rfl, m136, e136⟩
                replace hE := hE.trans e136
                replace h1 := h1.ext e136
                replace h2 := h2.ext e136
                replace h3 := h3.ext e136
                replace h27 := h27.ext e136
                replace h30 := h30.ext e136
                replace h118 := h118.ext e136
                replace h125 := h125.ext e136
                replace h131 := h131.ext e136
                replace h135 := h135.ext e136
                have h136 : IL w136 v136 (joinL u (joinL v x)) := Mine.sl m136
                refine ⟨_, rfl, ?_⟩
                refine ow_call rfl (ec_call rfl) rfl (((SameInts_spec h131 h136)).mono ?_)
                rintro _ w137 ⟨rfl, e137⟩
                replace hE := hE.trans e137
                replace h1 := h1.ext e137
                replace h2 := h2.ext e137
                replace h3 := h3.ext e137
                replace h27 := h27.ext e137
                replace h30 := h30.ext e137
                replace h118 := h118.ext e137
                replace h125 := h125.ext e137
                replace h131 := h131.ext e137
                replace h135 := h135.ext e137
                replace h136 := h136.ext e137
                refine ⟨_, rfl, ?_⟩
                refine o_p rfl rfl rfl ?_
                refine o_p rfl rfl rfl ?_
                refine o_know 139 (.bool true) rfl (congrArg Value.bool (decide_eq_true (join_assoc _ _ _))) ?_
                refine o_p rfl rfl rfl ?_
                refine o_p rfl rfl rfl ?_
                refine ow_call rfl (ec_call rfl) rfl ((Meet_spec h30 h3 (by (try simp only [pickL_len, List.length_nil]); omega) (by (try simp only [pickL_len, List.length_nil]); omega)).mono ?_)
                rintro _ w142 ⟨v142, rfl, m142, e142⟩
                replace hE := hE.trans e142
                replace h1 := h1.ext e142
                replace h2 := h2.ext e142
                replace h3 := h3.ext e142
                replace h27 := h27.ext e142
                replace h30 := h30.ext e142
                replace h118 := h118.ext e142
                replace h125 := h125.ext e142
                replace h131 := h131.ext e142
                replace h135 := h135.ext e142
                replace h136 := h136.ext e142
                have h142 : IL w142 v142 (meetL (meetL u v) x) := Mine.sl m142
                refine ⟨_, rfl, ?_⟩
                refine o_p rfl rfl rfl ?_
                refine o_p rfl rfl rfl ?_
                refine o_p rfl rfl rfl ?_
                refine ow_call rfl (ec_call rfl) rfl ((Meet_spec h2 h3 (by (try simp only [pickL_len, List.length_nil]); omega) (by (try simp only [pickL_len, List.length_nil]); omega)).mono ?_)
                rintro _ w146 ⟨v146, rfl, m146, e146⟩
                replace hE := hE.trans e146
                replace h1 := h1.ext e146
                replace h2 := h2.ext e146
                replace h3 := h3.ext e146
                replace h27 := h27.ext e146
                replace h30 := h30.ext e146
                replace h118 := h118.ext e146
                replace h125 := h125.ext e146
                replace h131 := h131.ext e146
                replace h135 := h135.ext e146
                replace h136 := h136.ext e146
                replace h142 := h142.ext e146
                have h146 : IL w146 v146 (meetL v x) := Mine.sl m146
                refine ⟨_, rfl, ?_⟩
                refine ow_call rfl (ec_call rfl) rfl ((Meet_spec h1 h146 (by (try simp only [pickL_len, List.length_nil]); omega) (by (try simp only [pickL_len, List.length_nil]); omega)).mono ?_)
                rintro _ w147 ⟨v147, rfl, m147, e147⟩
                replace hE := hE.trans e147
                replace h1 := h1.ext e147
                replace h2 := h2.ext e147
                replace h3 := h3.ext e147
                replace h27 := h27.ext e147
                replace h30 := h30.ext e147
                replace h118 := h118.ext e147
                replace h125 := h125.ext e147
                replace h131 := h131.ext e147
                replace h135 := h135.ext e147
                replace h136 := h136.ext e147
                replace h142 := h142.ext e147
                replace h146 := h146.ext e147
                have h147 : IL w147 v147 (meetL u (meetL v x)) := Mine.sl m147
                refine ⟨_, rfl, ?_⟩
                refine ow_call rfl (ec_call rfl) rfl (((SameInts_spec h142 h147)).mono ?_)
                rintro _ w148 ⟨rfl, e148⟩
                replace hE := hE.trans e148
                replace h1 := h1.ext e148
                replace h2 := h2.ext e148
                replace h3 := h3.ext e148
                replace h27 := h27.ext e148
                replace h30 := h30.ext e148
                replace h118 := h118.ext e148
                replace h125 := h125.ext e148
                replace h131 := h131.ext e148
                replace h135 := h135.ext e148
                replace h136 := h136.ext e148
                replace h142 := h142.ext e148
                replace h146 := h146.ext e148
                replace h147 := h147.ext e148
                refine ⟨_, rfl, ?_⟩
                refine o_p rfl rfl rfl ?_
                refine o_p rfl rfl rfl ?_
                refine o_know 6 (.bool true) rfl (congrArg Value.bool (decide_eq_true (meet_assoc _ _ _))) ?_
                refine (ow_nil (pn_then (cw_ret (pn_ret rfl rfl ⟨rfl, hE⟩))))
            · have q88 := s88
              refine ow_skip rfl rfl ?_
              refine ow_skip rfl rfl ?_
              refine ow_skip rfl rfl ?_
              refine o_p rfl rfl rfl ?_
              refine o_p rfl rfl rfl ?_
              refine ow_skip rfl rfl ?_
              refine ow_skip rfl rfl ?_
              refine ow_skip rfl rfl ?_
              refine ow_skip rfl rfl ?_
              refine o_p rfl rfl rfl ?_
              refine o_p rfl rfl rfl ?_
              refine o_p rfl rfl rfl ?_
              refine o_p rfl rfl rfl ?_
              refine ow_call rfl (ec_call rfl) rfl ((Same_spec h1 h2).mono ?_)
              rintro _ w102 ⟨rfl, e102⟩
              replace hE := hE.trans e102
              replace h1 := h1.ext e102
              replace h2 := h2.ext e102
              replace h3 := h3.ext e102
              replace h27 := h27.ext e102
              replace h30 := h30.ext e102
              refine ⟨_, rfl, ?_⟩
              refine o_p rfl rfl rfl ?_
              refine o_p rfl rfl rfl ?_
              refine ow_call rfl (ec_call rfl) rfl ((Leq_spec h1 h2).mono ?_)
              rintro _ w105 ⟨rfl, e105⟩
              replace hE := hE.trans e105
              replace h1 := h1.ext e105
              replace h2 := h2.ext e105
              replace h3 := h3.ext e105
              replace h27 := h27.ext e105
              replace h30 := h30.ext e105
              refine ⟨_, rfl, ?_⟩
              refine o_p rfl rfl rfl ?_
              refine o_know 106 (.bool false) rfl (congrArg Value.bool q88) ?_
              refine ow_skip rfl rfl ?_
              refine ow_skip rfl rfl ?_
              refine ow_skip rfl rfl ?_
              refine o_p rfl rfl rfl ?_
              refine o_p rfl rfl rfl ?_
              refine o_p rfl rfl rfl ?_
              refine o_know 112 (.bool false) rfl (congrArg Value.bool (nbqq_of (by rw [sameL_eq, q88]; simp))) ?_
              refine (ow_nil (pn_then (cw_cond_f rfl (cw_skip (pn_then (cw_seq (cw_region ?_)))))))
              refine o_p rfl rfl rfl ?_
              refine o_p rfl rfl rfl ?_
              refine o_p rfl rfl rfl ?_
              refine o_p rfl rfl rfl ?_
              refine o_p rfl rfl rfl ?_
              refine ow_call rfl (ec_call rfl) rfl ((Join_spec h2 h1 (by (try simp only [pickL_len, List.length_nil]); omega) (by (try simp only [pickL_len, List.length_nil]); omega)).mono ?_)
              rintro _ w118 ⟨v118, rfl, m118, e118⟩
              replace hE := hE.trans e118
              replace h1 := h1.ext e118
              replace h2 := h2.ext e118
              replace h3 := h3.ext e118
              replace h27 := h27.ext e118
              replace h30 := h30.ext e118
              have h118 : IL w118 v118 (joinL v u) := Mine.sl m118
              refine ⟨_, rfl, ?_⟩
              refine ow_call rfl (ec_call rfl) rfl (((SameInts_spec h27 h118)).mono ?_)
              rintro _ w119 ⟨rfl, e119⟩
              replace hE := hE.trans e119
              replace h1 := h1.ext e119
              replace h2 := h2.ext e119
              replace h3 := h3.ext e119
              replace h27 := h27.ext e119
              replace h30 := h30.ext e119
              replace h118 := h118.ext e119
              refine ⟨_, rfl, ?_⟩
              refine o_p rfl rfl rfl ?_
              refine o_p rfl rfl rfl ?_
              refine o_know 121 (.bool true) rfl (congrArg Value.bool (decide_eq_true (join_comm _ _))) ?_
              refine o_p rfl rfl rfl ?_
              refine o_p rfl rfl rfl ?_
              refine o_p rfl rfl rfl ?_
              refine ow_call rfl (ec_call rfl) rfl ((Meet_spec h2 h1 (by (try simp only [pickL_len, List.length_nil]); omega) (by (try simp only [pickL_len, List.length_nil]); omega)).mono ?_)
              rintro _ w125 ⟨v125, rfl, m125, e125⟩
              replace hE := hE.trans e125
              replace h1 := h1.ext e125
              replace h2 := h2.ext e125
              replace h3 := h3.ext e125
              replace h27 := h27.ext e125
              replace h30 := h30.ext e125
              replace h118 := h118.ext e125
              have h125 : IL w125 v125 (meetL v u) := Mine.sl m125
              refine ⟨_, rfl, ?_⟩
              refine ow_call rfl (ec_call rfl) rfl (((SameInts_spec h30 h125)).mono ?_)
              rintro _ w126 ⟨rfl, e126⟩
              replace hE := hE.trans e126
              replace h1 := h1.ext e126
              replace h2 := h2.ext e126
              replace h3 := h3.ext e126
              replace h27 := h27.ext e126
              replace h30 := h30.ext e126
              replace h118 := h118.ext e126
              replace h125 := h125.ext e126
              refine ⟨_, rfl, ?_⟩
              refine o_p rfl rfl rfl ?_
              refine o_p rfl rfl rfl ?_
              refine o_know 128 (.bool true) rfl (congrArg Value.bool (decide_eq_true (meet_comm _ _))) ?_
              refine o_p rfl rfl rfl ?_
              refine o_p rfl rfl rfl ?_
              refine ow_call rfl (ec_call rfl) rfl ((Join_spec h27 h3 (by (try simp only [pickL_len, List.length_nil]); omega) (by (try simp only [pickL_len, List.length_nil]); omega)).mono ?_)
              rintro _ w131 ⟨v131, rfl, m131, e131⟩
              replace hE := hE.trans e131
              replace h1 := h1.ext e131
              replace h2 := h2.ext e131
              replace h3 := h3.ext e131
              replace h27 := h27.ext e131
              replace h30 := h30.ext e131
              replace h118 := h118.ext e131
              replace h125 := h125.ext e131
              have h131 : IL w131 v131 (joinL (joinL u v) x) := Mine.sl m131
              refine ⟨_, rfl, ?_⟩
              refine o_p rfl rfl rfl ?_
              refine o_p rfl rfl rfl ?_
              refine o_p rfl rfl rfl ?_
              refine ow_call rfl (ec_call rfl) rfl ((Join_spec h2 h3 (by (try simp only [pickL_len, List.length_nil]); omega) (by (try simp only [pickL_len, List.length_nil]); omega)).mono ?_)
              rintro _ w135 ⟨v135, rfl, m135, e135⟩
              replace hE := hE.trans e135
              replace h1 := h1.ext e135
              replace h2 := h2.ext e135
              replace h3 := h3.ext e135
              replace h27 := h27.ext e135
              replace h30 := h30.ext e135
              replace h118 := h118.ext e135
              replace h125 := h125.ext e135
              replace h131 := h131.ext e135
              have h135 : IL w135 v135 (joinL v x) := Mine.sl m135
              refine ⟨_, rfl, ?_⟩
              refine ow_call rfl (ec_call rfl) rfl ((Join_spec h1 h135 (by (try simp only [pickL_len, List.length_nil]); omega) (by (try simp only [pickL_len, List.length_nil]); omega)).mono ?_)
              rintro _ w136 ⟨v136, rfl, m136, e136⟩
              replace hE := hE.trans e136
              replace h1 := h1.ext e136
              replace h2 := h2.ext e136
              replace h3 := h3.ext e136
              replace h27 := h27.ext e136
              replace h30 := h30.ext e136
              replace h118 := h118.ext e136
              replace h125 := h125.ext e136
              replace h131 := h131.ext e136
              replace h135 := h135.ext e136
              have h136 : IL w136 v136 (joinL u (joinL v x)) := Mine.sl m136
              refine ⟨_, rfl, ?_⟩
              refine ow_call rfl (ec_call rfl) rfl (((SameInts_spec h131 h136)).mono ?_)
              rintro _ w137 ⟨rfl, e137⟩
              replace hE := hE.trans e137
              replace h1 := h1.ext e137
              replace h2 := h2.ext e137
              replace h3 := h3.ext e137
              replace h27 := h27.ext e137
              replace h30 := h30.ext e137
              replace h118 := h118.ext e137
              replace h125 := h125.ext e137
              replace h131 := h131.ext e137
              replace h135 := h135.ext e137
              replace h136 := h136.ext e137
              refine ⟨_, rfl, ?_⟩
              refine o_p rfl rfl rfl ?_
              refine o_p rfl rfl rfl ?_
              refine o_know 139 (.bool true) rfl (congrArg Value.bool (decide_eq_true (join_assoc _ _ _))) ?_
              refine o_p rfl rfl rfl ?_
              refine o_p rfl rfl rfl ?_
              refine ow_call rfl (ec_call rfl) rfl ((Meet_spec h30 h3 (by (try simp only [pickL_len, List.length_nil]); omega) (by (try simp only [pickL_len, List.length_nil]); omega)).mono ?_)
              rintro _ w142 ⟨v142, rfl, m142, e142⟩
              replace hE := hE.trans e142
              replace h1 := h1.ext e142
              replace h2 := h2.ext e142
              replace h3 := h3.ext e142
              replace h27 := h27.ext e142
              replace h30 := h30.ext e142
              replace h118 := h118.ext e142
              replace h125 := h125.ext e142
              replace h131 := h131.ext e142
              replace h135 := h135.ext e142
              replace h136 := h136.ext e142
              have h142 : IL w142 v142 (meetL (meetL u v) x) := Mine.sl m142
              refine ⟨_, rfl, ?_⟩
              refine o_p rfl rfl rfl ?_
              refine o_p rfl rfl rfl ?_
              refine o_p rfl rfl rfl ?_
              refine ow_call rfl (ec_call rfl) rfl ((Meet_spec h2 h3 (by (try simp only [pickL_len, List.length_nil]); omega) (by (try simp only [pickL_len, List.length_nil]); omega)).mono ?_)
              rintro _ w146 ⟨v146, rfl, m146, e146⟩
              replace hE := hE.trans e146
              replace h1 := h1.ext e146
              replace h2 := h2.ext e146
              replace h3 := h3.ext e146
              replace h27 := h27.ext e146
              replace h30 := h30.ext e146
              replace h118 := h118.ext e146
              replace h125 := h125.ext e146
              replace h131 := h131.ext e146
              replace h135 := h135.ext e146
              replace h136 := h136.ext e146
              replace h142 := h142.ext e146
              have h146 : IL w146 v146 (meetL v x) := Mine.sl m146
              refine ⟨_, rfl, ?_⟩
              refine ow_call rfl (ec_call rfl) rfl ((Meet_spec h1 h146 (by (try simp only [pickL_len, List.length_nil]); omega) (by (try simp only [pickL_len, List.length_nil]); omega)).mono ?_)
              rintro _ w147 ⟨v147, rfl, m147, e147⟩
              replace hE := hE.trans e147
              replace h1 := h1.ext e147
              replace h2 := h2.ext e147
              replace h3 := h3.ext e147
              replace h27 := h27.ext e147
              replace h30 := h30.ext e147
              replace h118 := h118.ext e147
              replace h125 := h125.ext e147
              replace h131 := h131.ext e147
              replace h135 := h135.ext e147
              replace h136 := h136.ext e147
              replace h142 := h142.ext e147
              replace h146 := h146.ext e147
              have h147 : IL w147 v147 (meetL u (meetL v x)) := Mine.sl m147
              refine ⟨_, rfl, ?_⟩
              refine ow_call rfl (ec_call rfl) rfl (((SameInts_spec h142 h147)).mono ?_)
              rintro _ w148 ⟨rfl, e148⟩
              replace hE := hE.trans e148
              replace h1 := h1.ext e148
              replace h2 := h2.ext e148
              replace h3 := h3.ext e148
              replace h27 := h27.ext e148
              replace h30 := h30.ext e148
              replace h118 := h118.ext e148
              replace h125 := h125.ext e148
              replace h131 := h131.ext e148
              replace h135 := h135.ext e148
              replace h136 := h136.ext e148
              replace h142 := h142.ext e148
              replace h146 := h146.ext e148
              replace h147 := h147.ext e148
              refine ⟨_, rfl, ?_⟩
              refine o_p rfl rfl rfl ?_
              refine o_p rfl rfl rfl ?_
              refine o_know 6 (.bool true) rfl (congrArg Value.bool (decide_eq_true (meet_assoc _ _ _))) ?_
              refine (ow_nil (pn_then (cw_ret (pn_ret rfl rfl ⟨rfl, hE⟩))))
        · have q62 := s62
          refine ow_skip rfl rfl ?_
          refine ow_skip rfl rfl ?_
          refine ow_skip rfl rfl ?_
          refine ow_skip rfl rfl ?_
          refine ow_skip rfl rfl ?_
          refine ow_skip rfl rfl ?_
          refine ow_skip rfl rfl ?_
          refine o_p rfl rfl rfl ?_
          refine o_p rfl rfl rfl ?_
          refine o_p rfl rfl rfl ?_
          refine o_p rfl rfl rfl ?_
          refine ow_call rfl (ec_call rfl) rfl ((Leq_spec h3 h1).mono ?_)
          rintro _ w74 ⟨rfl, e74⟩
          replace hE := hE.trans e74
          replace h1 := h1.ext e74
          replace h2 := h2.ext e74
          replace h3 := h3.ext e74
          replace h27 := h27.ext e74
          replace h30 := h30.ext e74
          refine ⟨_, rfl, ?_⟩
          refine o_p rfl rfl rfl ?_
          refine o_split 75 rfl (fun s75 => ?_) (fun s75 => ?_)
          · have q75 := s75
            refine o_p rfl rfl rfl ?_
            refine o_p rfl rfl rfl ?_
            refine ow_call rfl (ec_call rfl) rfl ((Leq_spec h3 h2).mono ?_)
            rintro _ w78 ⟨rfl, e78⟩
            replace hE := hE.trans e78
            replace h1 := h1.ext e78
            replace h2 := h2.ext e78
            replace h3 := h3.ext e78
            replace h27 := h27.ext e78
            replace h30 := h30.ext e78
            refine ⟨_, rfl, ?_⟩
            refine o_p rfl rfl rfl ?_
            refine o_p rfl rfl rfl ?_
            refine ow_call rfl (ec_call rfl) rfl ((Leq_spec h3 h30).mono ?_)
            rintro _ w81 ⟨rfl, e81⟩
            replace hE := hE.trans e81
            replace h1 := h1.ext e81
            replace h2 := h2.ext e81
            replace h3 := h3.ext e81
            replace h27 := h27.ext e81
            replace h30 := h30.ext e81
            refine ⟨_, rfl, ?_⟩
            refine o_p rfl rfl rfl ?_
            refine o_p rfl rfl rfl ?_
            refine o_p rfl rfl rfl ?_
            refine o_know 84 (.bool false) rfl (congrArg Value.bool (nbqq_of (greatest q75))) ?_
            refine (ow_nil (pn_then (cw_cond_f rfl (cw_skip (pn_then (cw_seq (cw_seq (cw_region ?_))))))))
            refine o_p rfl rfl rfl ?_
            refine o_p rfl rfl rfl ?_
            refine ow_call rfl (ec_call rfl) rfl ((Leq_spec h1 h2).mono ?_)
            rintro _ w87 ⟨rfl, e87⟩
            replace hE := hE.trans e87
            replace h1 := h1.ext e87
            replace h2 := h2.ext e87
            replace h3 := h3.ext e87
            replace h27 := h27.ext e87
            replace h30 := h30.ext e87
            refine ⟨_, rfl, ?_⟩
            refine o_p rfl rfl rfl ?_
            refine o_split 88 rfl (fun s88 => ?_) (fun s88 => ?_)
            · have q88 := s88
              refine o_p rfl rfl rfl ?_
              refine o_p rfl rfl rfl ?_
              refine ow_call rfl (ec_call rfl) rfl ((Leq_spec h2 h3).mono ?_)
              rintro _ w91 ⟨rfl, e91⟩
              replace hE := hE.trans e91
              replace h1 := h1.ext e91
              replace h2 := h2.ext e91
              replace h3 := h3.ext e91
              replace h27 := h27.ext e91
              replace h30 := h30.ext e91
              refine ⟨_, rfl, ?_⟩
              refine o_p rfl rfl rfl ?_
              refine o_p rfl rfl rfl ?_
              refine o_split 93 rfl (fun s93 => ?_) (fun s93 => ?_)
              · have q93 := s93
                refine o_p rfl rfl rfl ?_
                refine o_p rfl rfl rfl ?_
                refine ow_call rfl (ec_call rfl) rfl ((Leq_spec h1 h3).mono ?_)
                rintro _ w96 ⟨rfl, e96⟩
                replace hE := hE.trans e96
                replace h1 := h1.ext e96
                replace h2 := h2.ext e96
                replace h3 := h3.ext e96
                replace h27 := h27.ext e96
                replace h30 := h30.ext e96
                refine ⟨_, rfl, ?_⟩
                refine o_p rfl rfl rfl ?_
                refine o_p rfl rfl rfl ?_
                refine o_p rfl rfl rfl ?_
                refine o_know 99 (.bool false) rfl (congrArg Value.bool (by rw [leq_trans q88 q93]; rfl)) ?_
                refine o_p rfl rfl rfl ?_
                refine o_p rfl rfl rfl ?_
                refine ow_call rfl (ec_call rfl) rfl ((Same_spec h1 h2).mono ?_)
                rintro _ w102 ⟨rfl, e102⟩
                replace hE := hE.trans e102
                replace h1 := h1.ext e102
                replace h2 := h2.ext e102
                replace h3 := h3.ext e102
                replace h27 := h27.ext e102
                replace h30 := h30.ext e102
                refine ⟨_, rfl, ?_⟩
                refine o_p rfl rfl rfl ?_
                refine o_p rfl rfl rfl ?_
                refine ow_call rfl (ec_call rfl) rfl ((Leq_spec h1 h2).mono ?_)
                rintro _ w105 ⟨rfl, e105⟩
                replace hE := hE.trans e105
                replace h1 := h1.ext e105
                replace h2 := h2.ext e105
                replace h3 := h3.ext e105
                replace h27 := h27.ext e105
                replace h30 := h30.ext e105
                refine ⟨_, rfl, ?_⟩
                refine o_p rfl rfl rfl ?_
                refine o_know 106 (.bool true) rfl (congrArg Value.bool q88) ?_
                refine o_p rfl rfl rfl ?_
                refine o_p rfl rfl rfl ?_
                refine ow_call rfl (ec_call rfl) rfl ((Leq_spec h2 h1).mono ?_)
                rintro _ w109 ⟨rfl, e109⟩
                replace hE := hE.trans e109
                replace h1 := h1.ext e109
                replace h2 := h2.ext e109
                replace h3 := h3.ext e109
                replace h27 := h27.ext e109
                replace h30 := h30.ext e109
                refine ⟨_, rfl, ?_⟩
                refine o_p rfl rfl rfl ?_
                refine o_p rfl rfl rfl ?_
                refine o_p rfl rfl rfl ?_
                refine o_know 112 (.bool false) rfl (congrArg Value.bool (nbqq_of (by rw [sameL_eq, q88]; simp))) ?_
                refine (ow_nil (pn_then (cw_cond_f rfl (cw_skip (pn_then (cw_seq (cw_region ?_)))))))
                refine o_p rfl rfl rfl ?_
                refine o_p rfl rfl rfl ?_
                refine o_p rfl rfl rfl ?_
                refine o_p rfl rfl rfl ?_
                refine o_p rfl rfl rfl ?_
                refine ow_call rfl (ec_call rfl) rfl ((Join_spec h2 h1 (by (try simp only [pickL_len, List.length_nil]); omega) (by (try simp only [pickL_len, List.length_nil]); omega)).mono ?_)
                rintro _ w118 ⟨v118, rfl, m118, e118⟩
                replace hE := hE.trans e118
                replace h1 := h1.ext e118
                replace h2 := h2.ext e118
                replace h3 := h3.ext e118
                replace h27 := h27.ext e118
                replace h30 := h30.ext e118
                have h118 : IL w118 v118 (joinL v u) := Mine.sl m118
                refine ⟨_, rfl, ?_⟩
                refine ow_call rfl (ec_call rfl) rfl (((SameInts_spec h27 h118)).mono ?_)
                rintro _ w119 ⟨rfl, e119⟩
                replace hE := hE.trans e119
                replace h1 := h1.ext e119
                replace h2 := h2.ext e119
                replace h3 := h3.ext e119
                replace h27 := h27.ext e119
                replace h30 := h30.ext e119
                replace h118 := h118.ext e119
                refine ⟨_, rfl, ?_⟩
                refine o_p rfl rfl rfl ?_
                refine o_p rfl rfl rfl ?_
                refine o_know 121 (.bool true) rfl (congrArg Value.bool (decide_eq_true (join_comm _ _))) ?_
                refine o_p rfl rfl rfl ?_
                refine o_p rfl rfl rfl ?_
                refine o_p rfl rfl rfl ?_
                refine ow_call rfl (ec_call rfl) rfl ((Meet_spec h2 h1 (by (try simp only [pickL_len, List.length_nil]); omega) (by (try simp only [pickL_len, List.length_nil]); omega)).mono ?_)
                rintro _ w125 ⟨v125, rfl, m125, e125⟩
                replace hE := hE.trans e125
                replace h1 := h1.ext e125
                replace h2 := h2.ext e125
                replace h3 := h3.ext e125
                replace h27 := h27.ext e125
                replace h30 := h30.ext e125
                replace h118 := h118.ext e125
                have h125 : IL w125 v125 (meetL v u) := Mine.sl m125
                refine ⟨_, rfl, ?_⟩
                refine ow_call rfl (ec_call rfl) rfl (((SameInts_spec h30 h125)).mono ?_)
                rintro _ w126 ⟨rfl, e126⟩
                replace hE := hE.trans e126
                replace h1 := h1.ext e126
                replace h2 := h2.ext e126
                replace h3 := h3.ext e126
                replace h27 := h27.ext e126
                replace h30 := h30.ext e126
                replace h118 := h118.ext e126
                replace h125 := h125.ext e126
                refine ⟨_, rfl, ?_⟩
                refine o_p rfl rfl rfl ?_
                refine o_p rfl rfl rfl ?_
                refine o_know 128 (.bool true) rfl (congrArg Value.bool (decide_eq_true (meet_comm _ _))) ?_
                refine o_p rfl rfl rfl ?_
                refine o_p rfl rfl rfl ?_
                refine ow_call rfl (ec_call rfl) rfl ((Join_spec h27 h3 (by (try simp only [pickL_len, List.length_nil]); omega) (by (try simp only [pickL_len, List.length_nil]); omega)).mono ?_)
                rintro _ w131 ⟨v131, rfl, m131, e131⟩
                replace hE := hE.trans e131
                replace h1 := h1.ext e131
                replace h2 := h2.ext e131
                replace h3 := h3.ext e131
                replace h27 := h27.ext e131
                replace h30 := h30.ext e131
                replace h118 := h118.ext e131
                replace h125 := h125.ext e131
                have h131 : IL w131 v131 (joinL (joinL u v) x) := Mine.sl m131
                refine ⟨_, rfl, ?_⟩
                refine o_p rfl rfl rfl ?_
                refine o_p rfl rfl rfl ?_
                refine o_p rfl rfl rfl ?_
                refine ow_call rfl (ec_call rfl) rfl ((Join_spec h2 h3 (by (try simp only [pickL_len, List.length_nil]); omega) (by (try simp only [pickL_len, List.length_nil]); omega)).mono ?_)
                rintro _ w135 ⟨v135, rfl, m135, e135⟩
                replace hE := hE.trans e135
                replace h1 := h1.ext e135
                replace h2 := h2.ext e135
                replace h3 := h3.ext e135
                replace h27 := h27.ext e135
                replace h30 := h30.ext e135
                replace h118 := h118.ext e135
                replace h125 := h125.ext e135
                replace h131 := h131.ext e135
                have h135 : IL w135 v135 (joinL v x) := Mine.sl m135
                refine ⟨_, rfl, ?_⟩
                refine ow_call rfl (ec_call rfl) rfl ((Join_spec h1 h135 (by (try simp only [pickL_len, List.length_nil]); omega) (by (try simp only [pickL_len, List.length_nil]); omega)).mono ?_)
                rintro _ w136 ⟨v136, rfl, m136, e136⟩
                replace hE := hE.trans e136
                replace h1 := h1.ext e136
                replace h2 := h2.ext e136
                replace h3 := h3.ext e136
                replace h27 := h27.ext e136
                replace h30 := h30.ext e136
                replace h118 := h118.ext e136
                replace h125 := h125.ext e136
                replace h131 := h131.ext e136
                replace h135 := h135.ext e136
                have h136 : IL w136 v136 (joinL u (joinL v x)) := Mine.sl m136
                refine ⟨_, rfl, ?_⟩
                refine ow_call rfl (ec_call rfl) rfl (((SameInts_spec h131 h136)).mono ?_)
                rintro _ w137 ⟨rfl, e137⟩
                replace hE := hE.trans e137
                replace h1 := h1.ext e137
                replace h2 := h2.ext e137
                replace h3 := h3.ext e137
                replace h27 := h27.ext e137
                replace h30 := h30.ext e137
                replace h118 := h118.ext e137
                replace h125 := h125.ext e137
                replace h131 := h131.ext e137
                replace h135 := h135.ext e137
                replace h136 := h136.ext e137
                refine ⟨_, rfl, ?_⟩
                refine o_p rfl rfl rfl ?_
                refine o_p rfl rfl rfl ?_
                refine o_know 139 (.bool true) rfl (congrArg Value.bool (decide_eq_true (join_assoc _ _ _))) ?_
                refine o_p rfl rfl rfl ?_
                refine o_p rfl rfl rfl ?_
                refine ow_call rfl (ec_call rfl) rfl ((Meet_spec h30 h3 (by (try simp only [pickL_len, List.length_nil]); omega) (by (try simp only [pickL_len, List.length_nil]); omega)).mono ?_)
                rintro _ w142 ⟨v142, rfl, m142, e142⟩
                replace hE := hE.trans e142
                replace h1 := h1.ext e142
                replace h2 := h2.ext e142
                replace h3 := h3.ext e142
                replace h27 := h27.ext e142
                replace h30 := h30.ext e142
                replace h118 := h118.ext e142
                replace h125 := h125.ext e142
                replace h131 := h131.ext e142
                replace h135 := h135.ext e142
                replace h136 := h136.ext e142
                have h142 : IL w142 v142 (meetL (meetL u v) x) := Mine.sl m142
                refine ⟨_, rfl, ?_⟩
                refine o_p rfl rfl rfl ?_
                refine o_p rfl rfl rfl ?_
                refine o_p rfl rfl rfl ?_
                refine ow_call rfl (ec_call rfl) rfl ((Meet_spec h2 h3 (by (try simp only [pickL_len, List.length_nil]); omega) (by (try simp only [pickL_len, List.length_nil]); omega)).mono ?_)
                rintro _ w146 ⟨v146, rfl, m146, e146⟩
                replace hE := hE.trans e146
                replace h1 := h1.ext e146
                replace h2 := h2.ext e146
                replace h3 := h3.ext e146
                replace h27 := h27.ext e146
                replace h30 := h30.ext e146
                replace h118 := h118.ext e146
                replace h125 := h125.ext e146
                replace h131 := h131.ext e146
                replace h135 := h135.ext e146
                replace h136 := h136.ext e146
                replace h142 := h142.ext e146
                have h146 : IL w146 v146 (meetL v x) := Mine.sl m146
                refine ⟨_, rfl, ?_⟩
                refine ow_call rfl (ec_call rfl) rfl ((Meet_spec h1 h146 (by (try simp only [pickL_len, List.length_nil]); omega) (by (try simp only [pickL_len, List.length_nil]); omega)).mono ?_)
                rintro _ w147 ⟨v147, rfl, m147, e147⟩
                replace hE := hE.trans e147
                replace h1 := h1.ext e147
                replace h2 := h2.ext e147
                replace h3 := h3.ext e147
                replace h27 := h27.ext e147
                replace h30 := h30.ext e147
                replace h118 := h118.ext e147
                replace h125 := h125.ext e147
                replace h131 := h131.ext e147
                replace h135 := h135.ext e147
                replace h136 := h136.ext e147
                replace h142 := h142.ext e147
                replace h146 := h146.ext e147
                have h147 : IL w147 v147 (meetL u (meetL v x)) := Mine.sl m147
                refine ⟨_, rfl, ?_⟩
                refine ow_call rfl (ec_call rfl) rfl (((SameInts_spec h142 h147)).mono ?_)
                rintro _ w148 ⟨rfl, e148⟩
                replace hE := hE.trans e148
                replace h1 := h1.ext e148
                replace h2 := h2.ext e148
                replace h3 := h3.ext e148
                replace h27 := h27.ext e148
                replace h30 := h30.ext e148
                replace h118 := h118.ext e148
                replace h125 := h125.ext e148
                replace h131 := h131.ext e148
                replace h135 := h135.ext e148
                replace h136 := h136.ext e148
                replace h142 := h142.ext e148
                replace h146 := h146.ext e148
                replace h147 := h147.ext e148
                refine ⟨_, rfl, ?_⟩
                refine o_p rfl rfl rfl ?_
                refine o_p rfl rfl rfl ?_
                refine o_know 6 (.bool true) rfl (congrArg Value.bool (decide_eq_true (meet_assoc _ _ _))) ?_
                refine (ow_nil (pn_then (cw_ret (pn_ret rfl rfl ⟨rfl, hE⟩))))
              · have q93 := s93
                refine ow_skip rfl rfl ?_
                refine ow_skip rfl rfl ?_
                refine ow_skip rfl rfl ?_
                refine ow_skip rfl rfl ?_
                refine o_p rfl rfl rfl ?_
                refine o_p rfl rfl rfl ?_
                refine o_p rfl rfl rfl ?_
                refine o_p rfl rfl rfl ?_
                refine ow_call rfl (ec_call rfl) rfl ((Same_spec h1 h2).mono ?_)
                rintro _ w102 ⟨rfl, e102⟩
                replace hE := hE.trans e102
                replace h1 := h1.ext e102
                replace h2 := h2.ext e102
                replace h3 := h3.ext e102
                replace h27 := h27.ext e102
                replace h30 := h30.ext e102
                refine ⟨_, rfl, ?_⟩
                refine o_p rfl rfl rfl ?_
                refine o_p rfl rfl rfl ?_
                refine ow_call rfl (ec_call rfl) rfl ((Leq_spec h1 h2).mono ?_)
                rintro _ w105 ⟨rfl, e105⟩
                replace hE := hE.trans e105
                replace h1 := h1.ext e105
                replace h2 := h2.ext e105
                replace h3 := h3.ext e105
                replace h27 := h27.ext e105
                replace h30 := h30.ext e105
                refine ⟨_, rfl, ?_⟩
                refine o_p rfl rfl rfl ?_
                refine o_know 106 (.bool true) rfl (congrArg Value.bool q88) ?_
                refine o_p rfl rfl rfl ?_
                refine o_p rfl rfl rfl ?_
                refine ow_call rfl (ec_call rfl) rfl ((Leq_spec h2 h1).mono ?_)
                rintro _ w109 ⟨rfl, e109⟩
                replace hE := hE.trans e109
                replace h1 := h1.ext e109
                replace h2 := h2.ext e109
                replace h3 := h3.ext e109
                replace h27 := h27.ext e109
                replace h30 := h30.ext e109
                refine ⟨_, rfl, ?_⟩
                refine o_p rfl rfl rfl ?_
                refine o_p rfl rfl rfl ?_
                refine o_p rfl rfl rfl ?_
                refine o_know 112 (.bool false) rfl (congrArg Value.bool (nbqq_of (by rw [sameL_eq, q88]; simp))) ?_
                refine (ow_nil (pn_then (cw_cond_f rfl (cw_skip (pn_then (cw_seq (cw_region ?_)))))))
                refine o_p rfl rfl rfl ?_
                refine o_p rfl rfl rfl ?_
                refine o_p rfl rfl rfl ?_
                refine o_p rfl rfl rfl ?_
                refine o_p rfl rfl rfl ?_
                refine ow_call rfl (ec_call rfl) rfl ((Join_spec h2 h1 (by (try simp only [pickL_len, List.length_nil]); omega) (by (try simp only [pickL_len, List.length_nil]); omega)).mono ?_)
                rintro _ w118 ⟨v118, rfl, m118, e118⟩
                replace hE := hE.trans e118
                replace h1 := h1.ext e118
                replace h2 := h2.ext e118
                replace h3 := h3.ext e118
                replace h27 := h27.ext e118
                replace h30 := h30.ext e118
                have h118 : IL w118 v118 (joinL v u) := Mine.sl m118
                refine ⟨_, rfl, ?_⟩
                refine ow_call rfl (ec_call rfl) rfl (((SameInts_spec h27 h118)).mono ?_)
                rintro _ w119 ⟨rfl, e119⟩
                replace hE := hE.trans e119
                replace h1 := h1.ext e119
                replace h2 := h2.ext e119
                replace h3 := h3.ext e119
                replace h27 := h27.ext e119
                replace h30 := h30.ext e119
                replace h118 := h118.ext e119
                refine ⟨_, rfl, ?_⟩
                refine o_p rfl rfl rfl ?_
                refine o_p rfl rfl rfl ?_
                refine o_know 121 (.bool true) rfl (congrArg Value.bool (decide_eq_true (join_comm _ _))) ?_
                refine o_p rfl rfl rfl ?_
                refine o_p rfl rfl rfl ?_
                refine o_p rfl rfl rfl ?_
                refine ow_call rfl (ec_call rfl) rfl ((Meet_spec h2 h1 (by (try simp only [pickL_len, List.length_nil]); omega) (by (try simp only [pickL_len, List.length_nil]); omega)).mono ?_)
                rintro _ w125 ⟨v125, rfl, m125, e125⟩
                replace hE := hE.trans e125
                replace h1 := h1.ext e125
                replace h2 := h2.ext e125
                replace h3 := h3.ext e125
                replace h27 := h27.ext e125
                replace h30 := h30.ext e125
                replace h118 := h118.ext e125
                have h125 : IL w125 v125 (meetL v u) := Mine.sl m125
                refine ⟨_, rfl, ?_⟩
                refine ow_call rfl (ec_call rfl) rfl (((SameInts_spec h30 h125)).mono ?_)
                rintro _ w126 ⟨rfl, e126⟩
                replace hE := hE.trans e126
                replace h1 := h1.ext e126
                replace h2 := h2.ext e126
                replace h3 := h3.ext e126
                replace h27 := h27.ext e126
                replace h30 := h30.ext e126
                replace h118 := h118.ext e126
                replace h125 := h125.ext e126
                refine ⟨_, rfl, ?_⟩
                refine o_p rfl rfl rfl ?_
                refine o_p rfl rfl rfl ?_
                refine o_know 128 (.bool true) rfl (congrArg Value.bool (decide_eq_true (meet_comm _ _))) ?_
                refine o_p rfl rfl rfl ?_
                refine o_p rfl rfl rfl ?_
                refine ow_call rfl (ec_call rfl) rfl ((Join_spec h27 h3 (by (try simp only [pickL_len, List.length_nil]); omega) (by (try simp only [pickL_len, List.length_nil]); omega)).mono ?_)
                rintro _ w131 ⟨v131, rfl, m131, e131⟩
                replace hE := hE.trans e131
                replace h1 := h1.ext e131
                replace h2 := h2.ext e131
                replace h3 := h3.ext e131
                replace h27 := h27.ext e131
                replace h30 := h30.ext e131
                replace h118 := h118.ext e131
                replace h125 := h125.ext e131
                have h131 : IL w131 v131 (joinL (joinL u v) x) := Mine.sl m131
                refine ⟨_, rfl, ?_⟩
                refine o_p rfl rfl rfl ?_
                refine o_p rfl rfl rfl ?_
                refine o_p rfl rfl rfl ?_
                refine ow_call rfl (ec_call rfl) rfl ((Join_spec h2 h3 (by (try simp only [pickL_len, List.length_nil]); omega) (by (try simp only [pickL_len, List.length_nil]); omega)).mono ?_)
                rintro _ w135 ⟨v135, rfl, m135, e135⟩
                replace hE := hE.trans e135
                replace h1 := h1.ext e135
                replace h2 := h2.ext e135
                replace h3 := h3.ext e135
                replace h27 := h27.ext e135
                replace h30 := h30.ext e135
                replace h118 := h118.ext e135
                replace h125 := h125.ext e135
                replace h131 := h131.ext e135
                have h135 : IL w135 v135 (joinL v x) := Mine.sl m135
                refine ⟨_, rfl, ?_⟩
                refine ow_call rfl (ec_call rfl) rfl ((Join_spec h1 h135 (by (try simp only [pickL_len, List.length_nil]); omega) (by (try simp only [pickL_len, List.length_nil]); omega)).mono ?_)
                rintro _ w136 ⟨v136, rfl, m136, e136⟩
                replace hE := hE.trans e136
                replace h1 := h1.ext e136
                replace h2 := h2.ext e136
                replace h3 := h3.ext e136
                replace h27 := h27.ext e136
                replace h30 := h30.ext e136
                replace h118 := h118.ext e136
                replace h125 := h125.ext e136
                replace h131 := h131.ext e136
                replace h135 := h135.ext e136
                have h136 : IL w136 v136 (joinL u (joinL v x)) := Mine.sl m136
                refine ⟨_, rfl, ?_⟩
                refine ow_call rfl (ec_call rfl) rfl (((SameInts_spec h131 h136)).mono ?_)
                rintro _ w137 ⟨rfl, e137⟩
                replace hE := hE.trans e137
                replace h1 := h1.ext e137
                replace h2 := h2.ext e137
                replace h3 := h3.ext e137
                replace h27 := h27.ext e137
                replace h30 := h30.ext e137
                replace h118 := h118.ext e137
                replace h125 := h125.ext e137
                replace h131 := h131.ext e137
                replace h135 := h135.ext e137
                replace h136 := h136.ext e137
                refine ⟨_, rfl, ?_⟩
                refine o_p rfl rfl rfl ?_
                refine o_p rfl rfl rfl ?_
                refine o_know 139 (.bool true) rfl (congrArg Value.bool (decide_eq_true (join_assoc _ _ _))) ?_
                refine o_p rfl rfl rfl ?_
                refine o_p rfl rfl rfl ?_
                refine ow_call rfl (ec_call rfl) rfl ((Meet_spec h30 h3 (by (try simp only [pickL_len, List.length_nil]); omega) (by (try simp only [pickL_len, List.length_nil]); omega)).mono ?_)
                rintro _ w142 ⟨v142, rfl, m142, e142⟩
                replace hE := hE.trans e142
                replace h1 := h1.ext e142
                replace h2 := h2.ext e142
                replace h3 := h3.ext e142
                replace h27 := h27.ext e142
                replace h30 := h30.ext e142
                replace h118 := h118.ext e142
                replace h125 := h125.ext e142
                replace h131 := h131.ext e142
                replace h135 := h135.ext e142
                replace h136 := h136.ext e142
                have h142 : IL w142 v142 (meetL (meetL u v) x) := Mine.sl m142
                refine ⟨_, rfl, ?_⟩
                refine o_p rfl rfl rfl ?_
                refine o_p rfl rfl rfl ?_
                refine o_p rfl rfl rfl ?_
                refine ow_call rfl (ec_call rfl) rfl ((Meet_spec h2 h3 (by (try simp only [pickL_len, List.length_nil]); omega) (by (try simp only [pickL_len, List.length_nil]); omega)).mono ?_)
                rintro _ w146 ⟨v146, rfl, m146, e146⟩
                replace hE := hE.trans e146
                replace h1 := h1.ext e146
                replace h2 := h2.ext e146
                replace h3 := h3.ext e146
                replace h27 := h27.ext e146
                replace h30 := h30.ext e146
                replace h118 := h118.ext e146
                replace h125 := h125.ext e146
                replace h131 := h131.ext e146
                replace h135 := h135.ext e146
                replace h136 := h136.ext e146
                replace h142 := h142.ext e146
                have h146 : IL w146 v146 (meetL v x) := Mine.sl m146
                refine ⟨_, rfl, ?_⟩
                refine ow_call rfl (ec_call rfl) rfl ((Meet_spec h1 h146 (by (try simp only [pickL_len, List.length_nil]); omega) (by (try simp only [pickL_len, List.length_nil]); omega)).mono ?_)
                rintro _ w147 ⟨v147, rfl, m147, e147⟩
                replace hE := hE.trans e147
                replace h1 := h1.ext e147
                replace h2 := h2.ext e147
                replace h3 := h3.ext e147
                replace h27 := h27.ext e147
                replace h30 := h30.ext e147
                replace h118 := h118.ext e147
                replace h125 := h125.ext e147
                replace h131 := h131.ext e147
                replace h135 := h135.ext e147
                replace h136 := h136.ext e147
                replace h142 := h142.ext e147
                replace h146 := h146.ext e147
                have h147 : IL w147 v147 (meetL u (meetL v x)) := Mine.sl m147
                refine ⟨_, rfl, ?_⟩
                refine ow_call rfl (ec_call rfl) rfl (((SameInts_spec h142 h147)).mono ?_)
                rintro _ w148 ⟨rfl, e148⟩
                replace hE := hE.trans e148
                replace h1 := h1.ext e148
                replace h2 := h2.ext e148
                replace h3 := h3.ext e148
                replace h27 := h27.ext e148
                replace h30 := h30.ext e148
                replace h118 := h118.ext e148
                replace h125 := h125.ext e148
                replace h131 := h131.ext e148
                replace h135 := h135.ext e148
                replace h136 := h136.ext e148
                replace h142 := h142.ext e148
                replace h146 := h146.ext e148
                replace h147 := h147.ext e148
                refine ⟨_, rfl, ?_⟩
                refine o_p rfl rfl rfl ?_
                refine o_p rfl rfl rfl ?_
                refine o_know 6 (.bool true) rfl (congrArg Value.bool (decide_eq_true (meet_assoc _ _ _))) ?_
                refine (ow_nil (pn_then (cw_ret (pn_ret rfl rfl ⟨rfl, hE⟩))))
            · have q88 := s88
              refine ow_skip rfl rfl ?_
              refine ow_skip rfl rfl ?_
              refine ow_skip rfl rfl ?_
              refine o_p rfl rfl rfl ?_
              refine o_p rfl rfl rfl ?_
              refine ow_skip rfl rfl ?_
              refine ow_skip rfl rfl ?_
              refine ow_skip rfl rfl ?_
              refine ow_skip rfl rfl ?_
              refine o_p rfl rfl rfl ?_
              refine o_p rfl rfl rfl ?_
              refine o_p rfl rfl rfl ?_
              refine o_p rfl rfl rfl ?_
              refine ow_call rfl (ec_call rfl) rfl ((Same_spec h1 h2).mono ?_)
              rintro _ w102 ⟨rfl, e102⟩
              replace hE := hE.trans e102
              replace h1 := h1.ext e102
              replace h2 := h2.ext e102
              replace h3 := h3.ext e102
              replace h27 := h27.ext e102
              replace h30 := h30.ext e102
              refine ⟨_, rfl, ?_⟩
              refine o_p rfl rfl rfl ?_
              refine o_p rfl rfl rfl ?_
              refine ow_call rfl (ec_call rfl) rfl ((Leq_spec h1 h2).mono ?_)
              rintro _ w105 ⟨rfl, e105⟩
              replace hE := hE.trans e105
              replace h1 := h1.ext e105
              replace h2 := h2.ext e105
              replace h3 := h3.ext e105
              replace h27 := h27.ext e105
              replace h30 := h30.ext e105
              refine ⟨_, rfl, ?_⟩
              refine o_p rfl rfl rfl ?_
              refine o_know 106 (.bool false) rfl (congrArg Value.bool q88) ?_
              refine ow_skip rfl rfl ?_
              refine ow_skip rfl rfl ?_
              refine ow_skip rfl rfl ?_
              refine o_p rfl rfl rfl ?_
              refine o_p rfl rfl rfl ?_
              refine o_p rfl rfl rfl ?_
              refine o_know 112 (.bool false) rfl (congrArg Value.bool (nbqq_of (by rw [sameL_eq, q88]; simp))) ?_
              refine (ow_nil (pn_then (cw_cond_f rfl (cw_skip (pn_then (cw_seq (cw_region ?_)))))))
              refine o_p rfl rfl rfl ?_
              refine o_p rfl rfl rfl ?_
              refine o_p rfl rfl rfl ?_
              refine o_p rfl rfl rfl ?_
              refine o_p rfl rfl rfl ?_
              refine ow_call rfl (ec_call rfl) rfl ((Join_spec h2 h1 (by (try simp only [pickL_len, List.length_nil]); omega) (by (try simp only [pickL_len, List.length_nil]); omega)).mono ?_)
              rintro _ w118 ⟨v118, rfl, m118, e118⟩
              replace hE := hE.trans e118
              replace h1 := h1.ext e118
              replace h2 := h2.ext e118
              replace h3 := h3.ext e118
              replace h27 := h27.ext e118
              replace h30 := h30.ext e118
              have h118 : IL w118 v118 (joinL v u) := Mine.sl m118
              refine ⟨_, rfl, ?_⟩
              refine ow_call rfl (ec_call rfl) rfl (((SameInts_spec h27 h118)).mono ?_)
              rintro _ w119 ⟨rfl, e119⟩
              replace hE := hE.trans e119
              replace h1 := h1.ext e119
              replace h2 := h2.ext e119
              replace h3 := h3.ext e119
              replace h27 := h27.ext e119
              replace h30 := h30.ext e119
              replace h118 := h118.ext e119
              refine ⟨_, rfl, ?_⟩
              refine o_p rfl rfl rfl ?_
              refine o_p rfl rfl rfl ?_
              refine o_know 121 (.bool true) rfl (congrArg Value.bool (decide_eq_true (join_comm _ _))) ?_
              refine o_p rfl rfl rfl ?_
              refine o_p rfl rfl rfl ?_
              refine o_p rfl rfl rfl ?_
              refine ow_call rfl (ec_call rfl) rfl ((Meet_spec h2 h1 (by (try simp only [pickL_len, List.length_nil]); omega) (by (try simp only [pickL_len, List.length_nil]); omega)).mono ?_)
              rintro _ w125 ⟨v125, rfl, m125, e125⟩
              replace hE := hE.trans e125
              replace h1 := h1.ext e125
              replace h2 := h2.ext e125
              replace h3 := h3.ext e125
              replace h27 := h27.ext e125
              replace h30 := h30.ext e125
              replace h118 := h118.ext e125
              have h125 : IL w125 v125 (meetL v u) := Mine.sl m125
              refine ⟨_, rfl, ?_⟩
              refine ow_call rfl (ec_call rfl) rfl (((SameInts_spec h30 h125)).mono ?_)
              rintro _ w126 ⟨rfl, e126⟩
              replace hE := hE.trans e126
              replace h1 := h1.ext e126
              replace h2 := h2.ext e126
              replace h3 := h3.ext e126
              replace h27 := h27.ext e126
              replace h30 := h30.ext e126
              replace h118 := h118.ext e126
              replace h125 := h125.ext e126
              refine ⟨_, rfl, ?_⟩
              refine o_p rfl rfl rfl ?_
              refine o_p rfl rfl rfl ?_
              refine o_know 128 (.bool true) rfl (congrArg Value.bool (decide_eq_true (meet_comm _ _))) ?_
              refine o_p rfl rfl rfl ?_
              refine o_p rfl rfl rfl ?_
              refine ow_call rfl (ec_call rfl) rfl ((Join_spec h27 h3 (by (try simp only [pickL_len, List.length_nil]); omega) (by (try simp only [pickL_len, List.length_nil]); omega)).mono ?_)
              rintro _ w131 ⟨v131, rfl, m131, e131⟩
              replace hE := hE.trans e131
              replace h1 := h1.ext e131
              replace h2 := h2.ext e131
              replace h3 := h3.ext e131
              replace h27 := h27.ext e131
              replace h30 := h30.ext e131
              replace h118 := h118.ext e131
              replace h125 := h125.ext e131
              have h131 : IL w131 v131 (joinL (joinL u v) x) := Mine.sl m131
              refine ⟨_, rfl, ?_⟩
              refine o_p rfl rfl rfl ?_
              refine o_p rfl rfl rfl ?_
              refine o_p rfl rfl rfl ?_
              refine ow_call rfl (ec_call rfl) rfl ((Join_spec h2 h3 (by (try simp only [pickL_len, List.length_nil]); omega) (by (try simp only [pickL_len, List.length_nil]); omega)).mono ?_)
              rintro _ w135 ⟨v135, rfl, m135, e135⟩
              replace hE := hE.trans e135
              replace h1 := h1.ext e135
              replace h2 := h2.ext e135
              replace h3 := h3.ext e135
              replace h27 := h27.ext e135
              replace h30 := h30.ext e135
              replace h118 := h118.ext e135
              replace h125 := h125.ext e135
              replace h131 := h131.ext e135
              have h135 : IL w135 v135 (joinL v x) := Mine.sl m135
              refine ⟨_, rfl, ?_⟩
              refine ow_call rfl (ec_call rfl) rfl ((Join_spec h1 h135 (by (try simp only [pickL_len, List.length_nil]); omega) (by (try simp only [pickL_len, List.length_nil]); omega)).mono ?_)
              rintro _ w136 ⟨v136, rfl, m136, e136⟩
              replace hE := hE.trans e136
              replace h1 := h1.ext e136
              replace h2 := h2.ext e136
              replace h3 := h3.ext e136
              replace h27 := h27.ext e136
              replace h30 := h30.ext e136
              replace h118 := h118.ext e136
              replace h125 := h125.ext e136
              replace h131 := h131.ext e136
              replace h135 := h135.ext e136
              have h136 : IL w136 v136 (joinL u (joinL v x)) := Mine.sl m136
              refine ⟨_, rfl, ?_⟩
              refine ow_call rfl (ec_call rfl) rfl (((SameInts_spec h131 h136)).mono ?_)
              rintro _ w137 ⟨rfl, e137⟩
              replace hE := hE.trans e137
              replace h1 := h1.ext e137
              replace h2 := h2.ext e137
              replace h3 := h3.ext e137
              replace h27 := h27.ext e137
              replace h30 := h30.ext e137
              replace h118 := h118.ext e137
              replace h125 := h125.ext e137
              replace h131 := h131.ext e137
              replace h135 := h135.ext e137
              replace h136 := h136.ext e137
              refine ⟨_, rfl, ?_⟩
              refine o_p rfl rfl rfl ?_
              refine o_p rfl rfl rfl ?_
              refine o_know 139 (.bool true) rfl (congrArg Value.bool (decide_eq_true (join_assoc _ _ _))) ?_
              refine o_p rfl rfl rfl ?_
              refine o_p rfl rfl rfl ?_
              refine ow_call rfl (ec_call rfl) rfl ((Meet_spec h30 h3 (by (try simp only [pickL_len, List.length_nil]); omega) (by (try simp only [pickL_len, List.length_nil]); omega)).mono ?_)
              rintro _ w142 ⟨v142, rfl, m142, e142⟩
              replace hE := hE.trans e142
              replace h1 := h1.ext e142
              replace h2 := h2.ext e142
              replace h3 := h3.ext e142
              replace h27 := h27.ext e142
              replace h30 := h30.ext e142
              replace h118 := h118.ext e142
              replace h125 := h125.ext e142
              replace h131 := h131.ext e142
              replace h135 := h135.ext e142
              replace h136 := h136.ext e142
              have h142 : IL w142 v142 (meetL (meetL u v) x) := Mine.sl m142
              refine ⟨_, rfl, ?_⟩
              refine o_p rfl rfl rfl ?_
              refine o_p rfl rfl rfl ?_
              refine o_p rfl rfl rfl ?_
              refine ow_call rfl (ec_call rfl) rfl ((Meet_spec h2 h3 (by (try simp only [pickL_len, List.length_nil]); omega) (by (try simp only [pickL_len, List.length_nil]); omega)).mono ?_)
              rintro _ w146 ⟨v146, rfl, m146, e146⟩
              replace hE := hE.trans e146
              replace h1 := h1.ext e146
              replace h2 := h2.ext e146
              replace h3 := h3.ext e146
              replace h27 := h27.ext e146
              replace h30 := h30.ext e146
              replace h118 := h118.ext e146
              replace h125 := h125.ext e146
              replace h131 := h131.ext e146
              replace h135 := h135.ext e146
              replace h136 := h136.ext e146
              replace h142 := h142.ext e146
              have h146 : IL w146 v146 (meetL v x) := Mine.sl m146
              refine ⟨_, rfl, ?_⟩
              refine ow_call rfl (ec_call rfl) rfl ((Meet_spec h1 h146 (by (try simp only [pickL_len, List.length_nil]); omega) (by (try simp only [pickL_len, List.length_nil]); omega)).mono ?_)
              rintro _ w147 ⟨v147, rfl, m147, e147⟩
              replace hE := hE.trans e147
              replace h1 := h1.ext e147
              replace h2 := h2.ext e147
              replace h3 := h3.ext e147
              replace h27 := h27.ext e147
              replace h30 := h30.ext e147
              replace h118 := h118.ext e147
              replace h125 := h125.ext e147
              replace h131 := h131.ext e147
              replace h135 := h135.ext e147
              replace h136 := h136.ext e147
              replace h142 := h142.ext e147
              replace h146 := h146.ext e147
              have h147 : IL w147 v147 (meetL u (meetL v x)) := Mine.sl m147
              refine ⟨_, rfl, ?_⟩
              refine ow_call rfl (ec_call rfl) rfl (((SameInts_spec h142 h147)).mono ?_)
              rintro _ w148 ⟨rfl, e148⟩
              replace hE := hE.trans e148
              replace h1 := h1.ext e148
              replace h2 := h2.ext e148
              replace h3 := h3.ext e148
              replace h27 := h27.ext e148
              replace h30 := h30.ext e148
              replace h118 := h118.ext e148
              replace h125 := h125.ext e148
              replace h131 := h131.ext e148
              replace h135 := h135.ext e148
              replace h136 := h136.ext e148
              replace h142 := h142.ext e148
              replace h146 := h146.ext e148
              replace h147 := h147.ext e148
              refine ⟨_, rfl, ?_⟩
              refine o_p rfl rfl rfl ?_
              refine o_p rfl rfl rfl ?_
              refine o_know 6 (.bool true) rfl (congrArg Value.bool (decide_eq_true (meet_assoc _ _ _))) ?_
              refine (ow_nil (pn_then (cw_ret (pn_ret rfl rfl ⟨rfl, hE⟩))))
          · have q75 := s75
            refine ow_skip rfl rfl ?_
            refine ow_skip rfl rfl ?_
            refine ow_skip rfl rfl ?_
            refine ow_skip rfl rfl ?_
            refine ow_skip rfl rfl ?_
            refine ow_skip rfl rfl ?_
            refine ow_skip rfl rfl ?_
            refine o_p rfl rfl rfl ?_
            refine o_p rfl rfl rfl ?_
            refine (ow_nil (pn_then (cw_cond_f rfl (cw_skip (pn_then (cw_seq (cw_seq (cw_region ?_))))))))
            refine o_p rfl rfl rfl ?_
            refine o_p rfl rfl rfl ?_
            refine ow_call rfl (ec_call rfl) rfl ((Leq_spec h1 h2).mono ?_)
            rintro _ w87 ⟨rfl, e87⟩
            replace hE := hE.trans e87
            replace h1 := h1.ext e87
            replace h2 := h2.ext e87
            replace h3 := h3.ext e87
            replace h27 := h27.ext e87
            replace h30 := h30.ext e87
            refine ⟨_, rfl, ?_⟩
            refine o_p rfl rfl rfl ?_
            refine o_split 88 rfl (fun s88 => ?_) (fun s88 => ?_)
            · have q88 := s88
              refine o_p rfl rfl rfl ?_
              refine o_p rfl rfl rfl ?_
              refine ow_call rfl (ec_call rfl) rfl ((Leq_spec h2 h3).mono ?_)
              rintro _ w91 ⟨rfl, e91⟩
              replace hE := hE.trans e91
              replace h1 := h1.ext e91
              replace h2 := h2.ext e91
              replace h3 := h3.ext e91
              replace h27 := h27.ext e91
              replace h30 := h30.ext e91
              refine ⟨_, rfl, ?_⟩
              refine o_p rfl rfl rfl ?_
              refine o_p rfl rfl rfl ?_
              refine o_split 93 rfl (fun s93 => ?_) (fun s93 => ?_)
              · have q93 := s93
                refine o_p rfl rfl rfl ?_
                refine o_p rfl rfl rfl ?_
                refine ow_call rfl (ec_call rfl) rfl ((Leq_spec h1 h3).mono ?_)
                rintro _ w96 ⟨rfl, e96⟩
                replace hE := hE.trans e96
                replace h1 := h1.ext e96
                replace h2 := h2.ext e96
                replace h3 := h3.ext e96
                replace h27 := h27.ext e96
                replace h30 := h30.ext e96
                refine ⟨_, rfl, ?_⟩
                refine o_p rfl rfl rfl ?_
                refine o_p rfl rfl rfl ?_
                refine o_p rfl rfl rfl ?_
                refine o_know 99 (.bool false) rfl (congrArg Value.bool (by rw [leq_trans q88 q93]; rfl)) ?_
                refine o_p rfl rfl rfl ?_
                refine o_p rfl rfl rfl ?_
                refine ow_call rfl (ec_call rfl) rfl ((Same_spec h1 h2).mono ?_)
                rintro _ w102 ⟨rfl, e102⟩
                replace hE := hE.trans e102
                replace h1 := h1.ext e102
                replace h2 := h2.ext e102
                replace h3 := h3.ext e102
                replace h27 := h27.ext e102
                replace h30 := h30.ext e102
                refine ⟨_, rfl, ?_⟩
                refine o_p rfl rfl rfl ?_
                refine o_p rfl rfl rfl ?_
                refine ow_call rfl (ec_call rfl) rfl ((Leq_spec h1 h2).mono ?_)
                rintro _ w105 ⟨rfl, e105⟩
                replace hE := hE.trans e105
                replace h1 := h1.ext e105
                replace h2 := h2.ext e105
                replace h3 := h3.ext e105
                replace h27 := h27.ext e105
                replace h30 := h30.ext e105
                refine ⟨_, rfl, ?_⟩
                refine o_p rfl rfl rfl ?_
                refine o_know 106 (.bool true) rfl (congrArg Value.bool q88) ?_
                refine o_p rfl rfl rfl ?_
                refine o_p rfl rfl rfl ?_
                refine ow_call rfl (ec_call rfl) rfl ((Leq_spec h2 h1).mono ?_)
                rintro _ w109 ⟨rfl, e109⟩
                replace hE := hE.trans e109
                replace h1 := h1.ext e109
                replace h2 := h2.ext e109
                replace h3 := h3.ext e109
                replace h27 := h27.ext e109
                replace h30 := h30.ext e109
                refine ⟨_, rfl, ?_⟩
                refine o_p rfl rfl rfl ?_
                refine o_p rfl rfl rfl ?_
                refine o_p rfl rfl rfl ?_
                refine o_know 112 (.bool false) rfl (congrArg Value.bool (nbqq_of (by rw [sameL_eq, q88]; simp))) ?_
                refine (ow_nil (pn_then (cw_cond_f rfl (cw_skip (pn_then (cw_seq (cw_region ?_)))))))
                refine o_p rfl rfl rfl ?_
                refine o_p rfl rfl rfl ?_
                refine o_p rfl rfl rfl ?_
                refine o_p rfl rfl rfl ?_
                refine o_p rfl rfl rfl ?_
                refine ow_call rfl (ec_call rfl) rfl ((Join_spec h2 h1 (by (try simp only [pickL_len, List.length_nil]); omega) (by (try simp only [pickL_len, List.length_nil]); omega)).mono ?_)
                rintro _ w118 ⟨v118, rfl, m118, e118⟩
                replace hE := hE.trans e118
                replace h1 := h1.ext e118
                replace h2 := h2.ext e118
                replace h3 := h3.ext e118
                replace h27 := h27.ext e118
                replace h30 := h30.ext e118
                have h118 : IL w118 v118 (joinL v u) := Mine.sl m118
                refine ⟨_, rfl, ?_⟩
                refine ow_call rfl (ec_call rfl) rfl (((SameInts_spec h27 h118)).mono ?_)
                rintro _ w119 ⟨rfl, e119⟩
                replace hE := hE.trans e119
                replace h1 := h1.ext e119
                replace h2 := h2.ext e119
                replace h3 := h3.ext e119
                replace h27 := h27.ext e119
                replace h30 := h30.ext e119
                replace h118 := h118.ext e119
                refine ⟨_, rfl, ?_⟩
                refine o_p rfl rfl rfl ?_
                refine o_p rfl rfl rfl ?_
                refine o_know 121 (.bool true) rfl (congrArg Value.bool (decide_eq_true (join_comm _ _))) ?_
                refine o_p rfl rfl rfl ?_
                refine o_p rfl rfl rfl ?_
                refine o_p rfl rfl rfl ?_
                refine ow_call rfl (ec_call rfl) rfl ((Meet_spec h2 h1 (by (try simp only [pickL_len, List.length_nil]); omega) (by (try simp only [pickL_len, List.length_nil]); omega)).mono ?_)
                rintro _ w125 ⟨v125, rfl, m125, e125⟩
                replace hE := hE.trans e125
                replace h1 := h1.ext e125
                replace h2 := h2.ext e125
                replace h3 := h3.ext e125
                replace h27 := h27.ext e125
                replace h30 := h30.ext e125
                replace h118 := h118.ext e125
                have h125 : IL w125 v125 (meetL v u) := Mine.sl m125
                refine ⟨_, rfl, ?_⟩
                refine ow_call rfl (ec_call rfl) rfl (((SameInts_spec h30 h125)).mono ?_)
                rintro _ w126 ⟨rfl, e126⟩
                replace hE := hE.trans e126
                replace h1 := h1.ext e126
                replace h2 := h2.ext e126
                replace h3 := h3.ext e126
                replace h27 := h27.ext e126
                replace h30 := h30.ext e126
                replace h118 := h118.ext e126
                replace h125 := h125.ext e126
                refine ⟨_, rfl, ?_⟩
                refine o_p rfl rfl rfl ?_
                refine o_p rfl rfl rfl ?_
                refine o_know 128 (.bool true) rfl (congrArg Value.bool (decide_eq_true (meet_comm _ _))) ?_
                refine o_p rfl rfl rfl ?_
                refine o_p rfl rfl rfl ?_
                refine ow_call rfl (ec_call rfl) rfl ((Join_spec h27 h3 (by (try simp only [pickL_len, List.length_nil]); omega) (by (try simp only [pickL_len, List.length_nil]); omega)).mono ?_)
                rintro _ w131 ⟨v131, rfl, m131, e131⟩
                replace hE := hE.trans e131
                replace h1 := h1.ext e131
                replace h2 := h2.ext e131
                replace h3 := h3.ext e131
                replace h27 := h27.ext e131
                replace h30 := h30.ext e131
                replace h118 := h118.ext e131
                replace h125 := h125.ext e131
                have h131 : IL w131 v131 (joinL (joinL u v) x) := Mine.sl m131
                refine ⟨_, rfl, ?_⟩
                refine o_p rfl rfl rfl ?_
                refine o_p rfl rfl rfl ?_
                refine o_p rfl rfl rfl ?_
                refine ow_call rfl (ec_call rfl) rfl ((Join_spec h2 h3 (by (try simp only [pickL_len, List.length_nil]); omega) (by (try simp only [pickL_len, List.length_nil]); omega)).mono ?_)
                rintro _ w135 ⟨v135, rfl, m135, e135⟩
                replace hE := hE.trans e135
                replace h1 := h1.ext e135
                replace h2 := h2.ext e135
                replace h3 := h3.ext e135
                replace h27 := h27.ext e135
                replace h30 := h30.ext e135
                replace h118 := h118.ext e135
                replace h125 := h125.ext e135
                replace h131 := h131.ext e135
                have h135 : IL w135 v135 (joinL v x) := Mine.sl m135
                refine ⟨_, rfl, ?_⟩
                refine ow_call rfl (ec_call rfl) rfl ((Join_spec h1 h135 (by (try simp only [pickL_len, List.length_nil]); omega) (by (try simp only [pickL_len, List.length_nil]); omega)).mono ?_)
                rintro _ w136 ⟨v136, rfl, m136, e136⟩
                replace hE := hE.trans e136
                replace h1 := h1.ext e136
                replace h2 := h2.ext e136
                replace h3 := h3.ext e136
                replace h27 := h27.ext e136
                replace h30 := h30.ext e136
                replace h118 := h118.ext e136
                replace h125 := h125.ext e136
                replace h131 := h131.ext e136
                replace h135 := h135.ext e136
                have h136 : IL w136 v136 (joinL u (joinL v x)) := Mine.sl m136
                refine ⟨_, rfl, ?_⟩
                refine ow_call rfl (ec_call rfl) rfl (((SameInts_spec h131 h136)).mono ?_)
                rintro _ w137 ⟨rfl, e137⟩
                replace hE := hE.trans e137
                replace h1 := h1.ext e137
                replace h2 := h2.ext e137
                replace h3 := h3.ext e137
                replace h27 := h27.ext e137
                replace h30 := h30.ext e137
                replace h118 := h118.ext e137
                replace h125 := h125.ext e137
                replace h131 := h131.ext e137
                replace h135 := h135.ext e137
                replace h136 := h136.ext e137
                refine ⟨_, rfl, ?_⟩
                refine o_p rfl rfl rfl ?_
                refine o_p rfl rfl rfl ?_
                refine o_know 139 (.bool true) rfl (congrArg Value.bool (decide_eq_true (join_assoc _ _ _))) ?_
                refine o_p rfl rfl rfl ?_
                refine o_p rfl rfl rfl ?_
                refine ow_call rfl (ec_call rfl) rfl ((Meet_spec h30 h3 (by (try simp only [pickL_len, List.length_nil]); omega) (by (try simp only [pickL_len, List.length_nil]); omega)).mono ?_)
                rintro _ w142 ⟨v142, rfl, m142, e142⟩
                replace hE := hE.trans e142
                replace h1 := h1.ext e142
                replace h2 := h2.ext e142
                replace h3 := h3.ext e142
                replace h27 := h27.ext e142
                replace h30 := h30.ext e142
                replace h118 := h118.ext e142
                replace h125 := h125.ext e142
                replace h131 := h131.ext e142
                replace h135 := h135.ext e142
                replace h136 := h136.ext e142
                have h142 : IL w142 v142 (meetL (meetL u v) x) := Mine.sl m142
                refine ⟨_, rfl, ?_⟩
                refine o_p rfl rfl rfl ?_
                refine o_p rfl rfl rfl ?_
                refine o_p rfl rfl rfl ?_
                refine ow_call rfl (ec_call rfl) rfl ((Meet_spec h2 h3 (by (try simp only [pickL_len, List.length_nil]); omega) (by (try simp only [pickL_len, List.length_nil]); omega)).mono ?_)
                rintro _ w146 ⟨v146, rfl, m146, e146⟩
                replace hE := hE.trans e146
                replace h1 := h1.ext e146
                replace h2 := h2.ext e146
                replace h3 := h3.ext e146
                replace h27 := h27.ext e146
                replace h30 := h30.ext e146
                replace h118 := h118.ext e146
                replace h125 := h125.ext e146
                replace h131 := h131.ext e146
                replace h135 := h135.ext e146
                replace h136 := h136.ext e146
                replace h142 := h142.ext e146
                have h146 : IL w146 v146 (meetL v x) := Mine.sl m146
                refine ⟨_, rfl, ?_⟩
                refine ow_call rfl (ec_call rfl) rfl ((Meet_spec h1 h146 (by (try simp only [pickL_len, List.length_nil]); omega) (by (try simp only [pickL_len, List.length_nil]); omega)).mono ?_)
                rintro _ w147 ⟨v147, rfl, m147, e147⟩
                replace hE := hE.trans e147
                replace h1 := h1.ext e147
                replace h2 := h2.ext e147
                replace h3 := h3.ext e147
                replace h27 := h27.ext e147
                replace h30 := h30.ext e147
                replace h118 := h118.ext e147
                replace h125 := h125.ext e147
                replace h131 := h131.ext e147
                replace h135 := h135.ext e147
                replace h136 := h136.ext e147
                replace h142 := h142.ext e147
                replace h146 := h146.ext e147
                have h147 : IL w147 v147 (meetL u (meetL v x)) := Mine.sl m147
                refine ⟨_, rfl, ?_⟩
                refine ow_call rfl (ec_call rfl) rfl (((SameInts_spec h142 h147)).mono ?_)
                rintro _ w148 ⟨rfl, e148⟩
                replace hE := hE.trans e148
                replace h1 := h1.ext e148
                replace h2 := h2.ext e148
                replace h3 := h3.ext e148
                replace h27 := h27.ext e148
                replace h30 := h30.ext e148
                replace h118 := h118.ext e148
                replace h125 := h125.ext e148
                replace h131 := h131.ext e148
                replace h135 := h135.ext e148
                replace h136 := h136.ext e148
                replace h142 := h142.ext e148
                replace h146 := h146.ext e148
                replace h147 := h147.ext e148
                refine ⟨_, rfl, ?_⟩
                refine o_p rfl rfl rfl ?_
                refine o_p rfl rfl rfl ?_
                refine o_know 6 (.bool true) rfl (congrArg Value.bool (decide_eq_true (meet_assoc _ _ _))) ?_
                refine (ow_nil (pn_then (cw_ret (pn_ret rfl rfl ⟨rfl, hE⟩))))
              · have q93 := s93
                refine ow_skip rfl rfl ?_
                refine ow_skip rfl rfl ?_
                refine ow_skip rfl rfl ?_
                refine ow_skip rfl rfl ?_
                refine o_p rfl rfl rfl ?_
                refine o_p rfl rfl rfl ?_
                refine o_p rfl rfl rfl ?_
                refine o_p rfl rfl rfl ?_
                refine ow_call rfl (ec_call rfl) rfl ((Same_spec h1 h2).mono ?_)
                rintro _ w102 ⟨rfl, e102⟩
                replace hE := hE.trans e102
                replace h1 := h1.ext e102
                replace h2 := h2.ext e102
                replace h3 := h3.ext e102
                replace h27 := h27.ext e102
                replace h30 := h30.ext e102
                refine ⟨_, rfl, ?_⟩
                refine o_p rfl rfl rfl ?_
                refine o_p rfl rfl rfl ?_
                refine ow_call rfl (ec_call rfl) rfl ((Leq_spec h1 h2).mono ?_)
                rintro _ w105 ⟨rfl, e105⟩
                replace hE := hE.trans e105
                replace h1 := h1.ext e105
                replace h2 := h2.ext e105
                replace h3 := h3.ext e105
                replace h27 := h27.ext e105
                replace h30 := h30.ext e105
                refine ⟨_, rfl, ?_⟩
                refine o_p rfl rfl rfl ?_
                refine o_know 106 (.bool true) rfl (congrArg Value.bool q88) ?_
                refine o_p rfl rfl rfl ?_
                refine o_p rfl rfl rfl ?_
                refine ow_call rfl (ec_call rfl) rfl ((Leq_spec h2 h1).mono ?_)
                rintro _ w109 ⟨rfl, e109⟩
                replace hE := hE.trans e109
                replace h1 := h1.ext e109
                replace h2 := h2.ext e109
                replace h3 := h3.ext e109
                replace h27 := h27.ext e109
                replace h30 := h30.ext e109
                refine ⟨_, rfl, ?_⟩
                refine o_p rfl rfl rfl ?_
                refine o_p rfl rfl rfl ?_
                refine o_p rfl rfl rfl ?_
                refine o_know 112 (.bool false) rfl (congrArg Value.bool (nbqq_of (by rw [sameL_eq, q88]; simp))) ?_
                refine (ow_nil (pn_then (cw_cond_f rfl (cw_skip (pn_then (cw_seq (cw_region ?_)))))))
                refine o_p rfl rfl rfl ?_
                refine o_p rfl rfl rfl ?_
                refine o_p rfl rfl rfl ?_
                refine o_p rfl rfl rfl ?_
                refine o_p rfl rfl rfl ?_
                refine ow_call rfl (ec_call rfl) rfl ((Join_spec h2 h1 (by (try simp only [pickL_len, List.length_nil]); omega) (by (try simp only [pickL_len, List.length_nil]); omega)).mono ?_)
                rintro _ w118 ⟨v118, rfl, m118, e118⟩
                replace hE := hE.trans e118
                replace h1 := h1.ext e118
                replace h2 := h2.ext e118
                replace h3 := h3.ext e118
                replace h27 := h27.ext e118
                replace h30 := h30.ext e118
                have h118 : IL w118 v118 (joinL v u) := Mine.sl m118
                refine ⟨_, rfl, ?_⟩
                refine ow_call rfl (ec_call rfl) rfl (((SameInts_spec h27 h118)).mono ?_)
                rintro _ w119 ⟨rfl, e119⟩
                replace hE := hE.trans e119
                replace h1 := h1.ext e119
                replace h2 := h2.ext e119
                replace h3 := h3.ext e119
                replace h27 := h27.ext e119
                replace h30 := h30.ext e119
                replace h118 := h118.ext e119
                refine ⟨_, rfl, ?_⟩
                refine o_p rfl rfl rfl ?_
                refine o_p rfl rfl rfl ?_
                refine o_know 121 (.bool true) rfl (congrArg Value.bool (decide_eq_true (join_comm _ _))) ?_
                refine o_p rfl rfl rfl ?_
                refine o_p rfl rfl rfl ?_
                refine o_p rfl rfl rfl ?_
                refine ow_call rfl (ec_call rfl) rfl ((Meet_spec h2 h1 (by (try simp only [pickL_len, List.length_nil]); omega) (by (try simp only [pickL_len, List.length_nil]); omega)).mono ?_)
                rintro _ w125 ⟨v125, rfl, m125, e125⟩
                replace hE := hE.trans e125
                replace h1 := h1.ext e125
                replace h2 := h2.ext e125
                replace h3 := h3.ext e125
                replace h27 := h27.ext e125
                replace h30 := h30.ext e125
                replace h118 := h118.ext e125
                have h125 : IL w125 v125 (meetL v u) := Mine.sl m125
                refine ⟨_, rfl, ?_⟩
                refine ow_call rfl (ec_call rfl) rfl (((SameInts_spec h30 h125)).mono ?_)
                rintro _ w126 ⟨rfl, e126⟩
                replace hE := hE.trans e126
                replace h1 := h1.ext e126
                replace h2 := h2.ext e126
                replace h3 := h3.ext e126
                replace h27 := h27.ext e126
                replace h30 := h30.ext e126
                replace h118 := h118.ext e126
                replace h125 := h125.ext e126
                refine ⟨_, rfl, ?_⟩
                refine o_p rfl rfl rfl ?_
                refine o_p rfl rfl rfl ?_
                refine o_know 128 (.bool true) rfl (congrArg Value.bool (decide_eq_true (meet_comm _ _))) ?_
                refine o_p rfl rfl rfl ?_
                refine o_p rfl rfl rfl ?_
                refine ow_call rfl (ec_call rfl) rfl ((Join_spec h27 h3 (by (try simp only [pickL_len, List.length_nil]); omega) (by (try simp only [pickL_len, List.length_nil]); omega)).mono ?_)
                rintro _ w131 ⟨v131, rfl, m131, e131⟩
                replace hE := hE.trans e131
                replace h1 := h1.ext e131
                replace h2 := h2.ext e131
                replace h3 := h3.ext e131
                replace h27 := h27.ext e131
                replace h30 := h30.ext e131
                replace h118 := h118.ext e131
                replace h125 := h125.ext e131
                have h131 : IL w131 v131 (joinL (joinL u v) x) := Mine.sl m131
                refine ⟨_, rfl, ?_⟩
                refine o_p rfl rfl rfl ?_
                refine o_p rfl rfl rfl ?_
                refine o_p rfl rfl rfl ?_
                refine ow_call rfl (ec_call rfl) rfl ((Join_spec h2 h3 (by (try simp only [pickL_len, List.length_nil]); omega) (by (try simp only [pickL_len, List.length_nil]); omega)).mono ?_)
                rintro _ w135 ⟨v135, rfl, m135, e135⟩
                replace hE := hE.trans e135
                replace h1 := h1.ext e135
                replace h2 := h2.ext e135
                replace h3 := h3.ext e135
                replace h27 := h27.ext e135
                replace h30 := h30.ext e135
                replace h118 := h118.ext e135
                replace h125 := h125.ext e135
                replace h131 := h131.ext e135
                have h135 : IL w135 v135 (joinL v x) := Mine.sl m135
                refine ⟨_, rfl, ?_⟩
                refine ow_call rfl (ec_call rfl) rfl ((Join_spec h1 h135 (by (try simp only [pickL_len, List.length_nil]); omega) (by (try simp only [pickL_len, List.length_nil]); omega)).mono ?_)
                rintro _ w136 ⟨v136, rfl, m136, e136⟩
                replace hE := hE.trans e136
                replace h1 := h1.ext e136
                replace h2 := h2.ext e136
                replace h3 := h3.ext e136
                replace h27 := h27.ext e136
                replace h30 := h30.ext e136
                replace h118 := h118.ext e136
                replace h125 := h125.ext e136
                replace h131 := h131.ext e136
                replace h135 := h135.ext e136
                have h136 : IL w136 v136 (joinL u (joinL v x)) := Mine.sl m136
                refine ⟨_, rfl, ?_⟩
                refine ow_call rfl (ec_call rfl) rfl (((SameInts_spec h131 h136)).mono ?_)
                rintro _ w137 ⟨rfl, e137⟩
                replace hE := hE.trans e137
                replace h1 := h1.ext e137
                replace h2 := h2.ext e137
                replace h3 := h3.ext e137
                replace h27 := h27.ext e137
                replace h30 := h30.ext e137
                replace h118 := h118.ext e137
                replace h125 := h125.ext e137
                replace h131 := h131.ext e137
                replace h135 := h135.ext e137
                replace h136 := h136.ext e137
                refine ⟨_, rfl, ?_⟩
                refine o_p rfl rfl rfl ?_
                refine o_p rfl rfl rfl ?_
                refine o_know 139 (.bool true) rfl (congrArg Value.bool (decide_eq_true (join_assoc _ _ _))) ?_
                refine o_p rfl rfl rfl ?_
                refine o_p rfl rfl rfl ?_
                refine ow_call rfl (ec_call rfl) rfl ((Meet_spec h30 h3 (by (try simp only [pickL_len, List.length_nil]); omega) (by (try simp only [pickL_len, List.length_nil]); omega)).mono ?_)
                rintro _ w142 ⟨v142, rfl, m142, e142⟩
                replace hE := hE.trans e142
                replace h1 := h1.ext e142
                replace h2 := h2.ext e142
                replace h3 := h3.ext e142
                replace h27 := h27.ext e142
                replace h30 := h30.ext e142
                replace h118 := h118.ext e142
                replace h125 := h125.ext e142
                replace h131 := h131.ext e142
                replace h135 := h135.ext e142
                replace h136 := h136.ext e142
                have h142 : IL w142 v142 (meetL (meetL u v) x) := Mine.sl m142
                refine ⟨_, rfl, ?_⟩
                refine o_p rfl rfl rfl ?_
                refine o_p rfl rfl rfl ?_
                refine o_p rfl rfl rfl ?_
                refine ow_call rfl (ec_call rfl) rfl ((Meet_spec h2 h3 (by (try simp only [pickL_len, List.length_nil]); omega) (by (try simp only [pickL_len, List.length_nil]); omega)).mono ?_)
                rintro _ w146 ⟨v146, rfl, m146, e146⟩
                replace hE := hE.trans e146
                replace h1 := h1.ext e146
                replace h2 := h2.ext e146
                replace h3 := h3.ext e146
                replace h27 := h27.ext e146
                replace h30 := h30.ext e146
                replace h118 := h118.ext e146
                replace h125 := h125.ext e146
                replace h131 := h131.ext e146
                replace h135 := h135.ext e146
                replace h136 := h136.ext e146
                replace h142 := h142.ext e146
                have h146 : IL w146 v146 (meetL v x) := Mine.sl m146
                refine ⟨_, rfl, ?_⟩
                refine ow_call rfl (ec_call rfl) rfl ((Meet_spec h1 h146 (by (try simp only [pickL_len, List.length_nil]); omega) (by (try simp only [pickL_len, List.length_nil]); omega)).mono ?_)
                rintro _ w147 ⟨v147, rfl, m147, e147⟩
                replace hE := hE.trans e147
                replace h1 := h1.ext e147
                replace h2 := h2.ext e147
                replace h3 := h3.ext e147
                replace h27 := h27.ext e147
                replace h30 := h30.ext e147
                replace h118 := h118.ext e147
                replace h125 := h125.ext e147
                replace h131 := h131.ext e147
                replace h135 := h135.ext e147
                replace h136 := h136.ext e147
                replace h142 := h142.ext e147
                replace h146 := h146.ext e147
                have h147 : IL w147 v147 (meetL u (meetL v x)) := Mine.sl m147
                refine ⟨_, rfl, ?_⟩
                refine ow_call rfl (ec_call rfl) rfl (((SameInts_spec h142 h147)).mono ?_)
                rintro _ w148 ⟨rfl, e148⟩
                replace hE := hE.trans e148
                replace h1 := h1.ext e148
                replace h2 := h2.ext e148
                replace h3 := h3.ext e148
                replace h27 := h27.ext e148
                replace h30 := h30.ext e148
                replace h118 := h118.ext e148
                replace h125 := h125.ext e148
                replace h131 := h131.ext e148
                replace h135 := h135.ext e148
                replace h136 := h136.ext e148
                replace h142 := h142.ext e148
                replace h146 := h146.ext e148
                replace h147 := h147.ext e148
                refine ⟨_, rfl, ?_⟩
                refine o_p rfl rfl rfl ?_
                refine o_p rfl rfl rfl ?_
                refine o_know 6 (.bool true) rfl (congrArg Value.bool (decide_eq_true (meet_assoc _ _ _))) ?_
                refine (ow_nil (pn_then (cw_ret (pn_ret rfl rfl ⟨rfl, hE⟩))))
            · have q88 := s88
              refine ow_skip rfl rfl ?_
              refine ow_skip rfl rfl ?_
              refine ow_skip rfl rfl ?_
              refine o_p rfl rfl rfl ?_
              refine o_p rfl rfl rfl ?_
              refine ow_skip rfl rfl ?_
              refine ow_skip rfl rfl ?_
              refine ow_skip rfl rfl ?_
              refine ow_skip rfl rfl ?_
              refine o_p rfl rfl rfl ?_
              refine o_p rfl rfl rfl ?_
              refine o_p rfl rfl rfl ?_
              refine o_p rfl rfl rfl ?_
              refine ow_call rfl (ec_call rfl) rfl ((Same_spec h1 h2).mono ?_)
              rintro _ w102 ⟨rfl, e102⟩
              replace hE := hE.trans e102
              replace h1 := h1.ext e102
              replace h2 := h2.ext e102
              replace h3 := h3.ext e102
              replace h27 := h27.ext e102
              replace h30 := h30.ext e102
              refine ⟨_, rfl, ?_⟩
              refine o_p rfl rfl rfl ?_
              refine o_p rfl rfl rfl ?_
              refine ow_call rfl (ec_call rfl) rfl ((Leq_spec h1 h2).mono ?_)
              rintro _ w105 ⟨rfl, e105⟩
              replace hE := hE.trans e105
              replace h1 := h1.ext e105
              replace h2 := h2.ext e105
              replace h3 := h3.ext e105
              replace h27 := h27.ext e105
              replace h30 := h30.ext e105
              refine ⟨_, rfl, ?_⟩
              refine o_p rfl rfl rfl ?_
              refine o_know 106 (.bool false) rfl (congrArg Value.bool q88) ?_
              refine ow_skip rfl rfl ?_
              refine ow_skip rfl rfl ?_
              refine ow_skip rfl rfl ?_
              refine o_p rfl rfl rfl ?_
              refine o_p rfl rfl rfl ?_
              refine o_p rfl rfl rfl ?_
              refine o_know 112 (.bool false) rfl (congrArg Value.bool (nbqq_of (by rw [sameL_eq, q88]; simp))) ?_
              refine (ow_nil (pn_then (cw_cond_f rfl (cw_skip (pn_then (cw_seq (cw_region ?_)))))))
              refine o_p rfl rfl rfl ?_
              refine o_p rfl rfl rfl ?_
              refine o_p rfl rfl rfl ?_
              refine o_p rfl rfl rfl ?_
              refine o_p rfl rfl rfl ?_
              refine ow_call rfl (ec_call rfl) rfl ((Join_spec h2 h1 (by (try simp only [pickL_len, List.length_nil]); omega) (by (try simp only [pickL_len, List.length_nil]); omega)).mono ?_)
              rintro _ w118 ⟨v118, rfl, m118, e118⟩
              replace hE := hE.trans e118
              replace h1 := h1.ext e118
              replace h2 := h2.ext e118
              replace h3 := h3.ext e118
              replace h27 := h27.ext e118
              replace h30 := h30.ext e118
              have h118 : IL w118 v118 (joinL v u) := Mine.sl m118
              refine ⟨_, rfl, ?_⟩
              refine ow_call rfl (ec_call rfl) rfl (((SameInts_spec h27 h118)).mono ?_)
              rintro _ w119 ⟨rfl, e119⟩
              replace hE := hE.trans e119
              replace h1 := h1.ext e119
              replace h2 := h2.ext e119
              replace h3 := h3.ext e119
              replace h27 := h27.ext e119
              replace h30 := h30.ext e119
              replace h118 := h118.ext e119
              refine ⟨_, rfl, ?_⟩
              refine o_p rfl rfl rfl ?_
              refine o_p rfl rfl rfl ?_
              refine o_know 121 (.bool true) rfl (congrArg Value.bool (decide_eq_true (join_comm _ _))) ?_
              refine o_p rfl rfl rfl ?_
              refine o_p rfl rfl rfl ?_
              refine o_p rfl rfl rfl ?_
              refine ow_call rfl (ec_call rfl) rfl ((Meet_spec h2 h1 (by (try simp only [pickL_len, List.length_nil]); omega) (by (try simp only [pickL_len, List.length_nil]); omega)).mono ?_)
              rintro _ w125 ⟨v125, rfl, m125, e125⟩
              replace hE := hE.trans e125
              replace h1 := h1.ext e125
              replace h2 := h2.ext e125
              replace h3 := h3.ext e125
              replace h27 := h27.ext e125
              replace h30 := h30.ext e125
              replace h118 := h118.ext e125
              have h125 : IL w125 v125 (meetL v u) := Mine.sl m125
              refine ⟨_, rfl, ?_⟩
              refine ow_call rfl (ec_call rfl) rfl (((SameInts_spec h30 h125)).mono ?_)
              rintro _ w126 ⟨rfl, e126⟩
              replace hE := hE.trans e126
              replace h1 := h1.ext e126
              replace h2 := h2.ext e126
              replace h3 := h3.ext e126
              replace h27 := h27.ext e126
              replace h30 := h30.ext e126
              replace h118 := h118.ext e126
              replace h125 := h125.ext e126
              refine ⟨_, rfl, ?_⟩
              refine o_p rfl rfl rfl ?_
              refine o_p rfl rfl rfl ?_
              refine o_know 128 (.bool true) rfl (congrArg Value.bool (decide_eq_true (meet_comm _ _))) ?_
              refine o_p rfl rfl rfl ?_
              refine o_p rfl rfl rfl ?_
              refine ow_call rfl (ec_call rfl) rfl ((Join_spec h27 h3 (by (try simp only [pickL_len, List.length_nil]); omega) (by (try simp only [pickL_len, List.length_nil]); omega)).mono ?_)
              rintro _ w131 ⟨v131, rfl, m131, e131⟩
              replace hE := hE.trans e131
              replace h1 := h1.ext e131
              replace h2 := h2.ext e131
              replace h3 := h3.ext e131
              replace h27 := h27.ext e131
              replace h30 := h30.ext e131
              replace h118 := h118.ext e131
              replace h125 := h125.ext e131
              have h131 : IL w131 v131 (joinL (joinL u v) x) := Mine.sl m131
              refine ⟨_, rfl, ?_⟩
              refine o_p rfl rfl rfl ?_
              refine o_p rfl rfl rfl ?_
              refine o_p rfl rfl rfl ?_
              refine ow_call rfl (ec_call rfl) rfl ((Join_spec h2 h3 (by (try simp only [pickL_len, List.length_nil]); omega) (by (try simp only [pickL_len, List.length_nil]); omega)).mono ?_)
              rintro _ w135 ⟨v135, rfl, m135, e135⟩
              replace hE := hE.trans e135
              replace h1 := h1.ext e135
              replace h2 := h2.ext e135
              replace h3 := h3.ext e135
              replace h27 := h27.ext e135
              replace h30 := h30.ext e135
              replace h118 := h118.ext e135
              replace h125 := h125.ext e135
              replace h131 := h131.ext e135
              have h135 : IL w135 v135 (joinL v x) := Mine.sl m135
              refine ⟨_, rfl, ?_⟩
              refine ow_call rfl (ec_call rfl) rfl ((Join_spec h1 h135 (by (try simp only [pickL_len, List.length_nil]); omega) (by (try simp only [pickL_len, List.length_nil]); omega)).mono ?_)
              rintro _ w136 ⟨v136, rfl, m136, e136⟩
              replace hE := hE.trans e136
              replace h1 := h1.ext e136
              replace h2 := h2.ext e136
              replace h3 := h3.ext e136
              replace h27 := h27.ext e136
              replace h30 := h30.ext e136
              replace h118 := h118.ext e136
              replace h125 := h125.ext e136
              replace h131 := h131.ext e136
              replace h135 := h135.ext e136
              have h136 : IL w136 v136 (joinL u (joinL v x)) := Mine.sl m136
              refine ⟨_, rfl, ?_⟩
              refine ow_call rfl (ec_call rfl) rfl (((SameInts_spec h131 h136)).mono ?_)
              rintro _ w137 ⟨rfl, e137⟩
              replace hE := hE.trans e137
              replace h1 := h1.ext e137
              replace h2 := h2.ext e137
              replace h3 := h3.ext e137
              replace h27 := h27.ext e137
              replace h30 := h30.ext e137
              replace h118 := h118.ext e137
              replace h125 := h125.ext e137
              replace h131 := h131.ext e137
              replace h135 := h135.ext e137
              replace h136 := h136.ext e137
              refine ⟨_, rfl, ?_⟩
              refine o_p rfl rfl rfl ?_
              refine o_p rfl rfl rfl ?_
              refine o_know 139 (.bool true) rfl (congrArg Value.bool (decide_eq_true (join_assoc _ _ _))) ?_
              refine o_p rfl rfl rfl ?_
              refine o_p rfl rfl rfl ?_
              refine ow_call rfl (ec_call rfl) rfl ((Meet_spec h30 h3 (by (try simp only [pickL_len, List.length_nil]); omega) (by (try simp only [pickL_len, List.length_nil]); omega)).mono ?_)
              rintro _ w142 ⟨v142, rfl, m142, e142⟩
              replace hE := hE.trans e142
              replace h1 := h1.ext e142
              replace h2 := h2.ext e142
              replace h3 := h3.ext e142
              replace h27 := h27.ext e142
              replace h30 := h30.ext e142
              replace h118 := h118.ext e142
              replace h125 := h125.ext e142
              replace h131 := h131.ext e142
              replace h135 := h135.ext e142
              replace h136 := h136.ext e142
              have h142 : IL w142 v142 (meetL (meetL u v) x) := Mine.sl m142
              refine ⟨_, rfl, ?_⟩
              refine o_p rfl rfl rfl ?_
              refine o_p rfl rfl rfl ?_
              refine o_p rfl rfl rfl ?_
              refine ow_call rfl (ec_call rfl) rfl ((Meet_spec h2 h3 (by (try simp only [pickL_len, List.length_nil]); omega) (by (try simp only [pickL_len, List.length_nil]); omega)).mono ?_)
              rintro _ w146 ⟨v146, rfl, m146, e146⟩
              replace hE := hE.trans e146
              replace h1 := h1.ext e146
              replace h2 := h2.ext e146
              replace h3 := h3.ext e146
              replace h27 := h27.ext e146
              replace h30 := h30.ext e146
              replace h118 := h118.ext e146
              replace h125 := h125.ext e146
              replace h131 := h131.ext e146
              replace h135 := h135.ext e146
              replace h136 := h136.ext e146
              replace h142 := h142.ext e146
              have h146 : IL w146 v146 (meetL v x) := Mine.sl m146
              refine ⟨_, rfl, ?_⟩
              refine ow_call rfl (ec_call rfl) rfl ((Meet_spec h1 h146 (by (try simp only [pickL_len, List.length_nil]); omega) (by (try simp only [pickL_len, List.length_nil]); omega)).mono ?_)
              rintro _ w147 ⟨v147, rfl, m147, e147⟩
              replace hE := hE.trans e147
              replace h1 := h1.ext e147
              replace h2 := h2.ext e147
              replace h3 := h3.ext e147
              replace h27 := h27.ext e147
              replace h30 := h30.ext e147
              replace h118 := h118.ext e147
              replace h125 := h125.ext e147
              replace h131 := h131.ext e147
              replace h135 := h135.ext e147
              replace h136 := h136.ext e147
              replace h142 := h142.ext e147
              replace h146 := h146.ext e147
              have h147 : IL w147 v147 (meetL u (meetL v x)) := Mine.sl m147
              refine ⟨_, rfl, ?_⟩
              refine ow_call rfl (ec_call rfl) rfl (((SameInts_spec h142 h147)).mono ?_)
              rintro _ w148 ⟨rfl, e148⟩
              replace hE := hE.trans e148
              replace h1 := h1.ext e148
              replace h2 := h2.ext e148
              replace h3 := h3.ext e148
              replace h27 := h27.ext e148
              replace h30 := h30.ext e148
              replace h118 := h118.ext e148
              replace h125 := h125.ext e148
              replace h131 := h131.ext e148
              replace h135 := h135.ext e148
              replace h136 := h136.ext e148
              replace h142 := h142.ext e148
              replace h146 := h146.ext e148
              replace h147 := h147.ext e148
              refine ⟨_, rfl, ?_⟩
              refine o_p rfl rfl rfl ?_
              refine o_p rfl rfl rfl ?_
              refine o_know 6 (.bool true) rfl (congrArg Value.bool (decide_eq_true (meet_assoc _ _ _))) ?_
              refine (ow_nil (pn_then (cw_ret (pn_ret rfl rfl ⟨rfl, hE⟩))))
end Go.Proofs.Ytplkinnaccpomaa
