/- Vectors: the law VectorDots, as a program printed its walk (lawwalk.py). Conditions: none. -/
import Derived.Test.YtplkinnaccpomaaVecG
import Derived.Test.YtplkinnaccpomaaVecM
namespace Go.Proofs.Ytplkinnaccpomaa
open Go.Eng Go.RowKit
theorem walk_VectorDots {r n k : Int} {v1 v2 : Value} {u v : List Int} {w : World} (h1 : IL w v1 u) (h2 : IL w v2 v) :
    Calls Try.prog n_entrepotlaw14_VectorDots #[v1, v2, dotV r n, .int .i64 k] w fun e w' => e = .returned (.bool true) ∧ Ext w w' := by
  have hE : Ext w w := Fr.refl _ _
  obtain ⟨A1, c1, rfl, _⟩ := VL.op h1
  obtain ⟨A2, c2, rfl, _⟩ := VL.op h2
  have hpk := pickI_range k
  have h16 : 1 + pickI k 16 ≤ 16 := by omega
  refine enter4 F_entrepotlaw14_VectorDots rfl rfl ?_
  refine (cw_seq (cw_region ?_))
  refine ow_box rfl rfl rfl rfl ?_
  intro w6 B6 e6 _
  replace hE := hE.trans e6
  replace h1 := h1.ext e6
  replace h2 := h2.ext e6
  refine o_p rfl rfl rfl ?_
  refine (ow_nil (pn_then (cw_seq (cw_region ?_))))
  refine ow_call rfl (ec_call rfl) rfl ((walk_VectorKnown).mono ?_)
  rintro _ w14 ⟨rfl, e14⟩
  replace hE := hE.trans e14
  replace h1 := h1.ext e14
  replace h2 := h2.ext e14
  replace B6 := B6.ext e14
  refine ⟨_, rfl, ?_⟩
  refine o_p rfl rfl rfl ?_
  refine (ow_nil (pn_then (cw_seq (cw_seq (cw_region ?_)))))
  refine o_p rfl rfl rfl ?_
  refine o_p rfl rfl rfl ?_
  refine o_p rfl rfl rfl ?_
  refine o_p rfl rfl rfl ?_
  refine o_split 18 rfl (fun s18 => ?_) (fun s18 => ?_)
  · have q18 := of_decide_eq_true s18
    refine ow_skip rfl rfl ?_
    refine ow_skip rfl rfl ?_
    refine ow_skip rfl rfl ?_
    refine o_p rfl rfl rfl ?_
    refine (ow_nil (pn_then (cw_cond_t rfl (cw_seq (cw_region ?_)))))
    refine o_p rfl rfl rfl ?_
    refine o_p rfl rfl rfl ?_
    refine (ow_nil (pn_then (cw_ret (pn_then_ret (pn_ret rfl rfl ⟨rfl, hE⟩)))))
  · have q18 := of_decide_eq_false s18
    refine o_p rfl rfl rfl ?_
    refine o_p rfl rfl rfl ?_
    refine o_p rfl rfl rfl ?_
    refine o_p rfl rfl rfl ?_
    refine o_split 22 rfl (fun s22 => ?_) (fun s22 => ?_)
    · have q22 := of_decide_eq_true s22
      refine (ow_nil (pn_then (cw_cond_t rfl (cw_seq (cw_region ?_)))))
      refine o_p rfl rfl rfl ?_
      refine o_p rfl rfl rfl ?_
      refine (ow_nil (pn_then (cw_ret (pn_then_ret (pn_ret rfl rfl ⟨rfl, hE⟩)))))
    · have q22 := of_decide_eq_false s22
      refine (ow_nil (pn_then (cw_cond_f rfl (cw_skip (pn_then (cw_seq (cw_draw flo (fun W' => Ext w14 W') (by decide +kernel) (Fr.drew _) ?_)))))))
      have B6d := B6
      have hD : Ext w14 w14 := Fr.refl _ _
      have eD4 : Ext w14 w14.drew := Fr.drew _
      replace hE := hE.trans eD4
      replace hD := hD.trans eD4
      replace h1 := h1.ext eD4
      replace h2 := h2.ext eD4
      replace B6 := B6.ext eD4
      generalize w14.drew = wD4 at *
      refine d_p rfl rfl rfl rfl ?_
      refine dw_rd rfl rfl (fun W' hW' => ex_loadN (cs := [.int .i64 r, .int .i64 n]) rfl rfl rfl rfl (fun j _ => by rw [Nat.zero_add]; exact (Blk.ext B6d hW').cell j)) rfl ?_
      refine dw_call rfl rfl (ec_call rfl) rfl ((Has_spec_vector_Has h1).mono ?_)
      rintro _ w26 ⟨rfl, e26⟩
      replace hE := hE.trans e26
      replace hD := hD.trans e26
      replace h1 := h1.ext e26
      replace h2 := h2.ext e26
      replace B6 := B6.ext e26
      refine ⟨_, rfl, hD, ?_⟩
      refine d_p rfl rfl rfl rfl ?_
      refine dw_rd rfl rfl (fun W' hW' => ex_loadN (cs := [.int .i64 r, .int .i64 n]) rfl rfl rfl rfl (fun j _ => by rw [Nat.zero_add]; exact (Blk.ext B6d hW').cell j)) rfl ?_
      refine dw_call rfl rfl (ec_call rfl) rfl ((Has_spec_vector_Has h2).mono ?_)
      rintro _ w29 ⟨rfl, e29⟩
      replace hE := hE.trans e29
      replace hD := hD.trans e29
      replace h1 := h1.ext e29
      replace h2 := h2.ext e29
      replace B6 := B6.ext e29
      refine ⟨_, rfl, hD, ?_⟩
      refine d_p rfl rfl rfl rfl ?_
      refine d_p rfl rfl rfl rfl ?_
      clear hD
      refine (dw_nil (pn_then (cw_seq (cw_seq (cw_draw flo (fun W' => Ext w29 W') (by decide +kernel) (Fr.drew _) ?_)))))
      have B6d := B6
      have hD : Ext w29 w29 := Fr.refl _ _
      have eD5 : Ext w29 w29.drew := Fr.drew _
      replace hE := hE.trans eD5
      replace hD := hD.trans eD5
      replace h1 := h1.ext eD5
      replace h2 := h2.ext eD5
      replace B6 := B6.ext eD5
      generalize w29.drew = wD5 at *
      refine d_p rfl rfl rfl rfl ?_
      refine d_p rfl rfl rfl rfl ?_
      refine dw_call rfl rfl (ec_call rfl) rfl ((Join_spec h1 h2 (by (try simp only [pickL_len, List.length_nil]); omega) (by (try simp only [pickL_len, List.length_nil]); omega)).mono ?_)
      rintro _ w32 ⟨v32, rfl, m32, e32⟩
      replace hE := hE.trans e32
      replace hD := hD.trans e32
      replace h1 := h1.ext e32
      replace h2 := h2.ext e32
      replace B6 := B6.ext e32
      have h32 : IL w32 v32 (joinL u v) := Mine.sl m32
      refine ⟨_, rfl, hD, ?_⟩
      refine dw_rd rfl rfl (fun W' hW' => ex_loadN (cs := [.int .i64 r, .int .i64 n]) rfl rfl rfl rfl (fun j _ => by rw [Nat.zero_add]; exact (Blk.ext B6d hW').cell j)) rfl ?_
      refine dw_call rfl rfl (ec_call rfl) rfl ((Has_spec_vector_Has h32).mono ?_)
      rintro _ w34 ⟨rfl, e34⟩
      replace hE := hE.trans e34
      replace hD := hD.trans e34
      replace h1 := h1.ext e34
      replace h2 := h2.ext e34
      replace B6 := B6.ext e34
      replace h32 := h32.ext e34
      refine ⟨_, rfl, hD, ?_⟩
      refine d_p rfl rfl rfl rfl ?_
      refine d_p rfl rfl rfl rfl ?_
      refine d_split 36 rfl (fun s36 => ?_) (fun s36 => ?_)
      · have q36 := s36
        refine dw_skip rfl rfl ?_
        refine d_p rfl rfl rfl rfl ?_
        refine d_p rfl rfl rfl rfl ?_
        refine d_p rfl rfl rfl rfl ?_
        refine d_know 40 (.bool false) rfl (congrArg Value.bool (nbqq_of (by rw [has_join, q36]; rfl))) ?_
        refine d_p rfl rfl rfl rfl ?_
        refine d_p rfl rfl rfl rfl ?_
        refine dw_call rfl rfl (ec_call rfl) rfl ((Meet_spec h1 h2 (by (try simp only [pickL_len, List.length_nil]); omega) (by (try simp only [pickL_len, List.length_nil]); omega)).mono ?_)
        rintro _ w43 ⟨v43, rfl, m43, e43⟩
        replace hE := hE.trans e43
        replace hD := hD.trans e43
        replace h1 := h1.ext e43
        replace h2 := h2.ext e43
        replace B6 := B6.ext e43
        replace h32 := h32.ext e43
        have h43 : IL w43 v43 (meetL u v) := Mine.sl m43
        refine ⟨_, rfl, hD, ?_⟩
        refine dw_rd rfl rfl (fun W' hW' => ex_loadN (cs := [.int .i64 r, .int .i64 n]) rfl rfl rfl rfl (fun j _ => by rw [Nat.zero_add]; exact (Blk.ext B6d hW').cell j)) rfl ?_
        refine dw_call rfl rfl (ec_call rfl) rfl ((Has_spec_vector_Has h43).mono ?_)
        rintro _ w45 ⟨rfl, e45⟩
        replace hE := hE.trans e45
        replace hD := hD.trans e45
        replace h1 := h1.ext e45
        replace h2 := h2.ext e45
        replace B6 := B6.ext e45
        replace h32 := h32.ext e45
        replace h43 := h43.ext e45
        refine ⟨_, rfl, hD, ?_⟩
        refine d_p rfl rfl rfl rfl ?_
        refine d_p rfl rfl rfl rfl ?_
        refine d_know 47 (.bool true) rfl (congrArg Value.bool q36) ?_
        refine d_p rfl rfl rfl rfl ?_
        refine d_p rfl rfl rfl rfl ?_
        refine d_p rfl rfl rfl rfl ?_
        refine d_p rfl rfl rfl rfl ?_
        refine d_p rfl rfl rfl rfl ?_
        refine d_know 52 (.bool false) rfl (congrArg Value.bool (nbqq_of (by rw [has_meet, q36]; rfl))) ?_
        refine d_p rfl rfl rfl rfl ?_
        refine d_p rfl rfl rfl rfl ?_
        refine dw_call rfl rfl (ec_call rfl) rfl ((Leq_spec h1 h2).mono ?_)
        rintro _ w55 ⟨rfl, e55⟩
        replace hE := hE.trans e55
        replace hD := hD.trans e55
        replace h1 := h1.ext e55
        replace h2 := h2.ext e55
        replace B6 := B6.ext e55
        replace h32 := h32.ext e55
        replace h43 := h43.ext e55
        refine ⟨_, rfl, hD, ?_⟩
        refine d_p rfl rfl rfl rfl ?_
        refine d_split 56 rfl (fun s56 => ?_) (fun s56 => ?_)
        · have q56 := s56
          refine d_p rfl rfl rfl rfl ?_
          refine d_p rfl rfl rfl rfl ?_
          refine d_p rfl rfl rfl rfl ?_
          refine d_know 59 (.bool true) rfl (congrArg Value.bool q36) ?_
          refine d_p rfl rfl rfl rfl ?_
          refine d_p rfl rfl rfl rfl ?_
          refine d_p rfl rfl rfl rfl ?_
          refine d_p rfl rfl rfl rfl ?_
          refine d_know 63 (.bool false) rfl (congrArg Value.bool (by rw [has_mono q56 q36]; rfl)) ?_
          clear hD
          refine (dw_nil (pn_then (cw_cond_f rfl (cw_skip (pn_then (cw_seq (cw_region ?_)))))))
          refine o_p rfl rfl rfl ?_
          refine ow_call rfl (ec_call rfl) rfl ((Pick_spec k 16 (by unfold I64; omega) _).mono ?_)
          rintro _ w65 ⟨rfl, rfl⟩; refine ⟨_, rfl, ?_⟩
          refine o_c rfl rfl rfl (by unfold I64; omega) ?_
          refine o_p rfl rfl rfl ?_
          refine (ow_nil (pn_then (cw_seq (cw_region ?_))))
          refine o_p rfl rfl rfl ?_
          refine o_p rfl rfl rfl ?_
          refine ow_call rfl (ec_call rfl) rfl ((Next_spec_vector h1).mono ?_)
          rintro _ w69 ⟨rfl, e69⟩
          replace hE := hE.trans e69
          replace h1 := h1.ext e69
          replace h2 := h2.ext e69
          replace B6 := B6.ext e69
          replace h32 := h32.ext e69
          replace h43 := h43.ext e69
          refine ⟨_, rfl, ?_⟩
          refine ow_new rfl rfl rfl rfl ?_
          intro wa12 Ba12 ea12 _
          refine ow_eu rfl (eu_storeB (vs := [.int .i64 (nextL u (1 + (pickI k 16))).1, .int .i64 (nextL u (1 + (pickI k 16))).2]) rfl rfl rfl rfl rfl (hone2 _ _) Ba12 rfl) ?_
          have e12 := ea12.trans' (Fr.setRow wa12 w69.heap.size (spl [.int .i64 0, .int .i64 0] 0 [.int .i64 (nextL u (1 + (pickI k 16))).1, .int .i64 (nextL u (1 + (pickI k 16))).2]).toArray) (fun j hj h => absurd h (by omega))
          have B12 : Blk _ _ _ [.int .i64 (nextL u (1 + (pickI k 16))).1, .int .i64 (nextL u (1 + (pickI k 16))).2] := Ba12.setRow (ds := spl [.int .i64 0, .int .i64 0] 0 [.int .i64 (nextL u (1 + (pickI k 16))).1, .int .i64 (nextL u (1 + (pickI k 16))).2])
          change OW _ _ _ _ _ _ _ _ (wa12.setRow w69.heap.size (spl [.int .i64 0, .int .i64 0] 0 [.int .i64 (nextL u (1 + (pickI k 16))).1, .int .i64 (nextL u (1 + (pickI k 16))).2]).toArray)
          generalize wa12.setRow w69.heap.size (spl [.int .i64 0, .int .i64 0] 0 [.int .i64 (nextL u (1 + (pickI k 16))).1, .int .i64 (nextL u (1 + (pickI k 16))).2]).toArray = w12 at *
          change Ext w69 w12 at e12
          replace hE := hE.trans e12
          replace h1 := h1.ext e12
          replace h2 := h2.ext e12
          replace B6 := B6.ext e12
          replace h32 := h32.ext e12
          replace h43 := h43.ext e12
          refine (ow_nil (pn_then (cw_seq (cw_seq (cw_region ?_)))))
          refine ow_ex rfl (ex_loadN (cs := [.int .i64 (nextL u (1 + (pickI k 16))).1, .int .i64 (nextL u (1 + (pickI k 16))).2]) rfl rfl rfl rfl (fun j _ => by rw [Nat.zero_add]; exact B12.cell j)) rfl ?_
          refine o_b rfl rfl rfl ?_
          refine ow_pu rfl (pu_eqA rfl rfl (eq_dot _ _ _ _)) rfl ?_
          refine o_split 72 rfl (fun s72 => ?_) (fun s72 => ?_)
          · have q72 := of_decide_eq_true s72
            refine (ow_nil (pn_then (cw_cond_t rfl (cw_seq (cw_region ?_)))))
            refine o_p rfl rfl rfl ?_
            refine o_p rfl rfl rfl ?_
            refine o_p rfl rfl rfl ?_
            refine o_p rfl rfl rfl ?_
            refine ow_call rfl (ec_call rfl) rfl ((At_spec_vector_At h1).mono ?_)
            rintro _ w77 ⟨rfl, rfl⟩; refine ⟨_, rfl, ?_⟩
            refine o_p rfl rfl rfl ?_
            refine o_p rfl rfl rfl ?_
            refine o_p rfl rfl rfl ?_
            refine o_know 8 (.bool true) rfl (congrArg Value.bool (decide_eq_true (next_none (by omega) q72))) ?_
            refine (ow_nil (pn_then (cw_ret (pn_then_ret (pn_ret rfl rfl ⟨rfl, hE⟩)))))
          · have q72 := of_decide_eq_false s72
            refine (ow_nil (pn_then (cw_cond_f rfl (cw_skip (pn_then (cw_seq (cw_region ?_)))))))
            refine o_p rfl rfl rfl ?_
            refine ow_ex rfl (ex_loadN (cs := [.int .i64 (nextL u (1 + (pickI k 16))).1, .int .i64 (nextL u (1 + (pickI k 16))).2]) rfl rfl rfl rfl (fun j _ => by rw [Nat.zero_add]; exact B12.cell j)) rfl ?_
            refine ow_call rfl (ec_call rfl) rfl ((With_spec_vector h1 (by (try simp only [pickL_len, List.length_nil]); omega)).mono ?_)
            rintro _ w82 ⟨v82, rfl, m82, e82⟩
            replace hE := hE.trans e82
            replace h1 := h1.ext e82
            replace h2 := h2.ext e82
            replace B6 := B6.ext e82
            replace h32 := h32.ext e82
            replace h43 := h43.ext e82
            replace B12 := B12.ext e82
            have h82 : IL w82 v82 (withL u (nextL u (1 + (pickI k 16))).1 (nextL u (1 + (pickI k 16))).2) := Mine.sl m82
            refine ⟨_, rfl, ?_⟩
            refine o_p rfl rfl rfl ?_
            refine (ow_nil (pn_then (cw_seq (cw_draw flo (fun W' => Ext w82 W') (by decide +kernel) (Fr.drew _) ?_))))
            have B6d := B6
            have B12d := B12
            have hD : Ext w82 w82 := Fr.refl _ _
            have eD12 : Ext w82 w82.drew := Fr.drew _
            replace hE := hE.trans eD12
            replace hD := hD.trans eD12
            replace h1 := h1.ext eD12
            replace h2 := h2.ext eD12
            replace B6 := B6.ext eD12
            replace h32 := h32.ext eD12
            replace h43 := h43.ext eD12
            replace B12 := B12.ext eD12
            replace h82 := h82.ext eD12
            generalize w82.drew = wD12 at *
            refine d_p rfl rfl rfl rfl ?_
            refine d_p rfl rfl rfl rfl ?_
            refine d_p rfl rfl rfl rfl ?_
            refine dw_rd rfl rfl (fun W' hW' => ex_loadN (cs := [.int .i64 (nextL u (1 + (pickI k 16))).1, .int .i64 (nextL u (1 + (pickI k 16))).2]) rfl rfl rfl rfl (fun j _ => by rw [Nat.zero_add]; exact (Blk.ext B12d hW').cell j)) rfl ?_
            refine dw_call rfl rfl (ec_call rfl) rfl ((Has_spec_vector_Has h1).mono ?_)
            rintro _ w87 ⟨rfl, e87⟩
            replace hE := hE.trans e87
            replace hD := hD.trans e87
            replace h1 := h1.ext e87
            replace h2 := h2.ext e87
            replace B6 := B6.ext e87
            replace h32 := h32.ext e87
            replace h43 := h43.ext e87
            replace B12 := B12.ext e87
            replace h82 := h82.ext e87
            refine ⟨_, rfl, hD, ?_⟩
            refine d_p rfl rfl rfl rfl ?_
            refine d_p rfl rfl rfl rfl ?_
            refine d_p rfl rfl rfl rfl ?_
            refine d_know 90 (.bool true) rfl (congrArg Value.bool (dots1 q72)) ?_
            refine d_p rfl rfl rfl rfl ?_
            refine dw_rd rfl rfl (fun W' hW' => ex_loadN (cs := [.int .i64 (nextL u (1 + (pickI k 16))).1, .int .i64 (nextL u (1 + (pickI k 16))).2]) rfl rfl rfl rfl (fun j _ => by rw [Nat.zero_add]; exact (Blk.ext B12d hW').cell j)) rfl ?_
            refine dw_call rfl rfl (ec_call rfl) rfl ((Has_spec_vector_Has h82).mono ?_)
            rintro _ w93 ⟨rfl, e93⟩
            replace hE := hE.trans e93
            replace hD := hD.trans e93
            replace h1 := h1.ext e93
            replace h2 := h2.ext e93
            replace B6 := B6.ext e93
            replace h32 := h32.ext e93
            replace h43 := h43.ext e93
            replace B12 := B12.ext e93
            replace h82 := h82.ext e93
            refine ⟨_, rfl, hD, ?_⟩
            refine d_p rfl rfl rfl rfl ?_
            refine d_p rfl rfl rfl rfl ?_
            refine d_know 95 (.bool true) rfl (congrArg Value.bool (dots2 q72 h16)) ?_
            refine d_p rfl rfl rfl rfl ?_
            refine d_p rfl rfl rfl rfl ?_
            refine dw_call rfl rfl (ec_call rfl) rfl ((Leq_spec h1 h82).mono ?_)
            rintro _ w98 ⟨rfl, e98⟩
            replace hE := hE.trans e98
            replace hD := hD.trans e98
            replace h1 := h1.ext e98
            replace h2 := h2.ext e98
            replace B6 := B6.ext e98
            replace h32 := h32.ext e98
            replace h43 := h43.ext e98
            replace B12 := B12.ext e98
            replace h82 := h82.ext e98
            refine ⟨_, rfl, hD, ?_⟩
            refine d_p rfl rfl rfl rfl ?_
            refine d_p rfl rfl rfl rfl ?_
            refine d_know 100 (.bool true) rfl (congrArg Value.bool (dots3 q72 h16)) ?_
            refine d_p rfl rfl rfl rfl ?_
            refine d_p rfl rfl rfl rfl ?_
            refine dw_call rfl rfl (ec_call rfl) rfl ((Leq_spec h82 h1).mono ?_)
            rintro _ w103 ⟨rfl, e103⟩
            replace hE := hE.trans e103
            replace hD := hD.trans e103
            replace h1 := h1.ext e103
            replace h2 := h2.ext e103
            replace B6 := B6.ext e103
            replace h32 := h32.ext e103
            replace h43 := h43.ext e103
            replace B12 := B12.ext e103
            replace h82 := h82.ext e103
            refine ⟨_, rfl, hD, ?_⟩
            refine d_p rfl rfl rfl rfl ?_
            refine d_p rfl rfl rfl rfl ?_
            refine d_p rfl rfl rfl rfl ?_
            refine d_know 106 (.bool true) rfl (congrArg Value.bool (dots4 q72 h16)) ?_
            refine d_p rfl rfl rfl rfl ?_
            refine dw_rd rfl rfl (fun W' hW' => ex_loadN (cs := [.int .i64 r, .int .i64 n]) rfl rfl rfl rfl (fun j _ => by rw [Nat.zero_add]; exact (Blk.ext B6d hW').cell j)) rfl ?_
            refine dw_call rfl rfl (ec_call rfl) rfl ((Has_spec_vector_Has h82).mono ?_)
            rintro _ w109 ⟨rfl, e109⟩
            replace hE := hE.trans e109
            replace hD := hD.trans e109
            replace h1 := h1.ext e109
            replace h2 := h2.ext e109
            replace B6 := B6.ext e109
            replace h32 := h32.ext e109
            replace h43 := h43.ext e109
            replace B12 := B12.ext e109
            replace h82 := h82.ext e109
            refine ⟨_, rfl, hD, ?_⟩
            refine d_p rfl rfl rfl rfl ?_
            refine d_p rfl rfl rfl rfl ?_
            refine d_know 111 (.bool true) rfl (congrArg Value.bool q36) ?_
            refine dw_skip rfl rfl ?_
            refine dw_skip rfl rfl ?_
            refine dw_skip rfl rfl ?_
            refine d_p rfl rfl rfl rfl ?_
            refine d_p rfl rfl rfl rfl ?_
            refine d_p rfl rfl rfl rfl ?_
            refine d_p rfl rfl rfl rfl ?_
            refine d_know 118 (.bool true) rfl (congrArg Value.bool (bqq_of (by rw [dots5 q72 h16, q36]; rfl))) ?_
            refine d_p rfl rfl rfl rfl ?_
            refine dw_rd rfl rfl (fun W' hW' => ex_load rfl rfl rfl (hW'.cell (B12d.cell 0))) rfl ?_
            refine d_p rfl rfl rfl rfl ?_
            refine d_p rfl rfl rfl rfl ?_
            refine d_p rfl rfl rfl rfl ?_
            refine d_p rfl rfl rfl rfl ?_
            refine d_know 124 (.bool true) rfl (congrArg Value.bool (decide_eq_true (next_some q72).2.2.1)) ?_
            refine d_p rfl rfl rfl rfl ?_
            refine dw_rd rfl rfl (fun W' hW' => ex_load rfl rfl rfl (hW'.cell (B12d.cell 1))) rfl ?_
            refine d_p rfl rfl rfl rfl ?_
            refine d_p rfl rfl rfl rfl ?_
            refine dw_call rfl rfl (ec_call rfl) rfl ((At_spec_vector_At h1).mono ?_)
            rintro _ w129 ⟨rfl, rfl⟩; refine ⟨_, rfl, hD, ?_⟩
            refine d_c rfl rfl rfl rfl (by have := (next_some q72).2.1; have := atL_nonneg u (1 + pickI k 16); unfold capI at *; unfold I64; omega) ?_
            refine d_p rfl rfl rfl rfl ?_
            refine d_p rfl rfl rfl rfl ?_
            refine d_p rfl rfl rfl rfl ?_
            refine d_know 8 (.bool true) rfl (congrArg Value.bool (decide_eq_true (next_some q72).2.2.2)) ?_
            clear hD
            refine (dw_nil (pn_then (cw_ret (pn_ret rfl rfl ⟨rfl, hE⟩))))
        · have q56 := s56
          refine dw_skip rfl rfl ?_
          refine d_p rfl rfl rfl rfl ?_
          refine d_p rfl rfl rfl rfl ?_
          refine dw_skip rfl rfl ?_
          refine dw_skip rfl rfl ?_
          refine d_p rfl rfl rfl rfl ?_
          refine d_p rfl rfl rfl rfl ?_
          clear hD
          refine (dw_nil (pn_then (cw_cond_f rfl (cw_skip (pn_then (cw_seq (cw_region ?_)))))))
          refine o_p rfl rfl rfl ?_
          refine ow_call rfl (ec_call rfl) rfl ((Pick_spec k 16 (by unfold I64; omega) _).mono ?_)
          rintro _ w65 ⟨rfl, rfl⟩; refine ⟨_, rfl, ?_⟩
          refine o_c rfl rfl rfl (by unfold I64; omega) ?_
          refine o_p rfl rfl rfl ?_
          refine (ow_nil (pn_then (cw_seq (cw_region ?_))))
          refine o_p rfl rfl rfl ?_
          refine o_p rfl rfl rfl ?_
          refine ow_call rfl (ec_call rfl) rfl ((Next_spec_vector h1).mono ?_)
          rintro _ w69 ⟨rfl, e69⟩
          replace hE := hE.trans e69
          replace h1 := h1.ext e69
          replace h2 := h2.ext e69
          replace B6 := B6.ext e69
          replace h32 := h32.ext e69
          replace h43 := h43.ext e69
          refine ⟨_, rfl, ?_⟩
          refine ow_new rfl rfl rfl rfl ?_
          intro wa12 Ba12 ea12 _
          refine ow_eu rfl (eu_storeB (vs := [.int .i64 (nextL u (1 + (pickI k 16))).1, .int .i64 (nextL u (1 + (pickI k 16))).2]) rfl rfl rfl rfl rfl (hone2 _ _) Ba12 rfl) ?_
          have e12 := ea12.trans' (Fr.setRow wa12 w69.heap.size (spl [.int .i64 0, .int .i64 0] 0 [.int .i64 (nextL u (1 + (pickI k 16))).1, .int .i64 (nextL u (1 + (pickI k 16))).2]).toArray) (fun j hj h => absurd h (by omega))
          have B12 : Blk _ _ _ [.int .i64 (nextL u (1 + (pickI k 16))).1, .int .i64 (nextL u (1 + (pickI k 16))).2] := Ba12.setRow (ds := spl [.int .i64 0, .int .i64 0] 0 [.int .i64 (nextL u (1 + (pickI k 16))).1, .int .i64 (nextL u (1 + (pickI k 16))).2])
          change OW _ _ _ _ _ _ _ _ (wa12.setRow w69.heap.size (spl [.int .i64 0, .int .i64 0] 0 [.int .i64 (nextL u (1 + (pickI k 16))).1, .int .i64 (nextL u (1 + (pickI k 16))).2]).toArray)
          generalize wa12.setRow w69.heap.size (spl [.int .i64 0, .int .i64 0] 0 [.int .i64 (nextL u (1 + (pickI k 16))).1, .int .i64 (nextL u (1 + (pickI k 16))).2]).toArray = w12 at *
          change Ext w69 w12 at e12
          replace hE := hE.trans e12
          replace h1 := h1.ext e12
          replace h2 := h2.ext e12
          replace B6 := B6.ext e12
          replace h32 := h32.ext e12
          replace h43 := h43.ext e12
          refine (ow_nil (pn_then (cw_seq (cw_seq (cw_region ?_)))))
          refine ow_ex rfl (ex_loadN (cs := [.int .i64 (nextL u (1 + (pickI k 16))).1, .int .i64 (nextL u (1 + (pickI k 16))).2]) rfl rfl rfl rfl (fun j _ => by rw [Nat.zero_add]; exact B12.cell j)) rfl ?_
          refine o_b rfl rfl rfl ?_
          refine ow_pu rfl (pu_eqA rfl rfl (eq_dot _ _ _ _)) rfl ?_
          refine o_split 72 rfl (fun s72 => ?_) (fun s72 => ?_)
          · have q72 := of_decide_eq_true s72
            refine (ow_nil (pn_then (cw_cond_t rfl (cw_seq (cw_region ?_)))))
            refine o_p rfl rfl rfl ?_
            refine o_p rfl rfl rfl ?_
            refine o_p rfl rfl rfl ?_
            refine o_p rfl rfl rfl ?_
            refine ow_call rfl (ec_call rfl) rfl ((At_spec_vector_At h1).mono ?_)
            rintro _ w77 ⟨rfl, rfl⟩; refine ⟨_, rfl, ?_⟩
            refine o_p rfl rfl rfl ?_
            refine o_p rfl rfl rfl ?_
            refine o_p rfl rfl rfl ?_
            refine o_know 8 (.bool true) rfl (congrArg Value.bool (decide_eq_true (next_none (by omega) q72))) ?_
            refine (ow_nil (pn_then (cw_ret (pn_then_ret (pn_ret rfl rfl ⟨rfl, hE⟩)))))
          · have q72 := of_decide_eq_false s72
            refine (ow_nil (pn_then (cw_cond_f rfl (cw_skip (pn_then (cw_seq (cw_region ?_)))))))
            refine o_p rfl rfl rfl ?_
            refine ow_ex rfl (ex_loadN (cs := [.int .i64 (nextL u (1 + (pickI k 16))).1, .int .i64 (nextL u (1 + (pickI k 16))).2]) rfl rfl rfl rfl (fun j _ => by rw [Nat.zero_add]; exact B12.cell j)) rfl ?_
            refine ow_call rfl (ec_call rfl) rfl ((With_spec_vector h1 (by (try simp only [pickL_len, List.length_nil]); omega)).mono ?_)
            rintro _ w82 ⟨v82, rfl, m82, e82⟩
            replace hE := hE.trans e82
            replace h1 := h1.ext e82
            replace h2 := h2.ext e82
            replace B6 := B6.ext e82
            replace h32 := h32.ext e82
            replace h43 := h43.ext e82
            replace B12 := B12.ext e82
            have h82 : IL w82 v82 (withL u (nextL u (1 + (pickI k 16))).1 (nextL u (1 + (pickI k 16))).2) := Mine.sl m82
            refine ⟨_, rfl, ?_⟩
            refine o_p rfl rfl rfl ?_
            refine (ow_nil (pn_then (cw_seq (cw_draw flo (fun W' => Ext w82 W') (by decide +kernel) (Fr.drew _) ?_))))
            have B6d := B6
            have B12d := B12
            have hD : Ext w82 w82 := Fr.refl _ _
            have eD12 : Ext w82 w82.drew := Fr.drew _
            replace hE := hE.trans eD12
            replace hD := hD.trans eD12
            replace h1 := h1.ext eD12
            replace h2 := h2.ext eD12
            replace B6 := B6.ext eD12
            replace h32 := h32.ext eD12
            replace h43 := h43.ext eD12
            replace B12 := B12.ext eD12
            replace h82 := h82.ext eD12
            generalize w82.drew = wD12 at *
            refine d_p rfl rfl rfl rfl ?_
            refine d_p rfl rfl rfl rfl ?_
            refine d_p rfl rfl rfl rfl ?_
            refine dw_rd rfl rfl (fun W' hW' => ex_loadN (cs := [.int .i64 (nextL u (1 + (pickI k 16))).1, .int .i64 (nextL u (1 + (pickI k 16))).2]) rfl rfl rfl rfl (fun j _ => by rw [Nat.zero_add]; exact (Blk.ext B12d hW').cell j)) rfl ?_
            refine dw_call rfl rfl (ec_call rfl) rfl ((Has_spec_vector_Has h1).mono ?_)
            rintro _ w87 ⟨rfl, e87⟩
            replace hE := hE.trans e87
            replace hD := hD.trans e87
            replace h1 := h1.ext e87
            replace h2 := h2.ext e87
            replace B6 := B6.ext e87
            replace h32 := h32.ext e87
            replace h43 := h43.ext e87
            replace B12 := B12.ext e87
            replace h82 := h82.ext e87
            refine ⟨_, rfl, hD, ?_⟩
            refine d_p rfl rfl rfl rfl ?_
            refine d_p rfl rfl rfl rfl ?_
            refine d_p rfl rfl rfl rfl ?_
            refine d_know 90 (.bool true) rfl (congrArg Value.bool (dots1 q72)) ?_
            refine d_p rfl rfl rfl rfl ?_
            refine dw_rd rfl rfl (fun W' hW' => ex_loadN (cs := [.int .i64 (nextL u (1 + (pickI k 16))).1, .int .i64 (nextL u (1 + (pickI k 16))).2]) rfl rfl rfl rfl (fun j _ => by rw [Nat.zero_add]; exact (Blk.ext B12d hW').cell j)) rfl ?_
            refine dw_call rfl rfl (ec_call rfl) rfl ((Has_spec_vector_Has h82).mono ?_)
            rintro _ w93 ⟨rfl, e93⟩
            replace hE := hE.trans e93
            replace hD := hD.trans e93
            replace h1 := h1.ext e93
            replace h2 := h2.ext e93
            replace B6 := B6.ext e93
            replace h32 := h32.ext e93
            replace h43 := h43.ext e93
            replace B12 := B12.ext e93
            replace h82 := h82.ext e93
            refine ⟨_, rfl, hD, ?_⟩
            refine d_p rfl rfl rfl rfl ?_
            refine d_p rfl rfl rfl rfl ?_
            refine d_know 95 (.bool true) rfl (congrArg Value.bool (dots2 q72 h16)) ?_
            refine d_p rfl rfl rfl rfl ?_
            refine d_p rfl rfl rfl rfl ?_
            refine dw_call rfl rfl (ec_call rfl) rfl ((Leq_spec h1 h82).mono ?_)
            rintro _ w98 ⟨rfl, e98⟩
            replace hE := hE.trans e98
            replace hD := hD.trans e98
            replace h1 := h1.ext e98
            replace h2 := h2.ext e98
            replace B6 := B6.ext e98
            replace h32 := h32.ext e98
            replace h43 := h43.ext e98
            replace B12 := B12.ext e98
            replace h82 := h82.ext e98
            refine ⟨_, rfl, hD, ?_⟩
            refine d_p rfl rfl rfl rfl ?_
            refine d_p rfl rfl rfl rfl ?_
            refine d_know 100 (.bool true) rfl (congrArg Value.bool (dots3 q72 h16)) ?_
            refine d_p rfl rfl rfl rfl ?_
            refine d_p rfl rfl rfl rfl ?_
            refine dw_call rfl rfl (ec_call rfl) rfl ((Leq_spec h82 h1).mono ?_)
            rintro _ w103 ⟨rfl, e103⟩
            replace hE := hE.trans e103
            replace hD := hD.trans e103
            replace h1 := h1.ext e103
            replace h2 := h2.ext e103
            replace B6 := B6.ext e103
            replace h32 := h32.ext e103
            replace h43 := h43.ext e103
            replace B12 := B12.ext e103
            replace h82 := h82.ext e103
            refine ⟨_, rfl, hD, ?_⟩
            refine d_p rfl rfl rfl rfl ?_
            refine d_p rfl rfl rfl rfl ?_
            refine d_p rfl rfl rfl rfl ?_
            refine d_know 106 (.bool true) rfl (congrArg Value.bool (dots4 q72 h16)) ?_
            refine d_p rfl rfl rfl rfl ?_
            refine dw_rd rfl rfl (fun W' hW' => ex_loadN (cs := [.int .i64 r, .int .i64 n]) rfl rfl rfl rfl (fun j _ => by rw [Nat.zero_add]; exact (Blk.ext B6d hW').cell j)) rfl ?_
            refine dw_call rfl rfl (ec_call rfl) rfl ((Has_spec_vector_Has h82).mono ?_)
            rintro _ w109 ⟨rfl, e109⟩
            replace hE := hE.trans e109
            replace hD := hD.trans e109
            replace h1 := h1.ext e109
            replace h2 := h2.ext e109
            replace B6 := B6.ext e109
            replace h32 := h32.ext e109
            replace h43 := h43.ext e109
            replace B12 := B12.ext e109
            replace h82 := h82.ext e109
            refine ⟨_, rfl, hD, ?_⟩
            refine d_p rfl rfl rfl rfl ?_
            refine d_p rfl rfl rfl rfl ?_
            refine d_know 111 (.bool true) rfl (congrArg Value.bool q36) ?_
            refine dw_skip rfl rfl ?_
            refine dw_skip rfl rfl ?_
            refine dw_skip rfl rfl ?_
            refine d_p rfl rfl rfl rfl ?_
            refine d_p rfl rfl rfl rfl ?_
            refine d_p rfl rfl rfl rfl ?_
            refine d_p rfl rfl rfl rfl ?_
            refine d_know 118 (.bool true) rfl (congrArg Value.bool (bqq_of (by rw [dots5 q72 h16, q36]; rfl))) ?_
            refine d_p rfl rfl rfl rfl ?_
            refine dw_rd rfl rfl (fun W' hW' => ex_load rfl rfl rfl (hW'.cell (B12d.cell 0))) rfl ?_
            refine d_p rfl rfl rfl rfl ?_
            refine d_p rfl rfl rfl rfl ?_
            refine d_p rfl rfl rfl rfl ?_
            refine d_p rfl rfl rfl rfl ?_
            refine d_know 124 (.bool true) rfl (congrArg Value.bool (decide_eq_true (next_some q72).2.2.1)) ?_
            refine d_p rfl rfl rfl rfl ?_
            refine dw_rd rfl rfl (fun W' hW' => ex_load rfl rfl rfl (hW'.cell (B12d.cell 1))) rfl ?_
            refine d_p rfl rfl rfl rfl ?_
            refine d_p rfl rfl rfl rfl ?_
            refine dw_call rfl rfl (ec_call rfl) rfl ((At_spec_vector_At h1).mono ?_)
            rintro _ w129 ⟨rfl, rfl⟩; refine ⟨_, rfl, hD, ?_⟩
            refine d_c rfl rfl rfl rfl (by have := (next_some q72).2.1; have := atL_nonneg u (1 + pickI k 16); unfold capI at *; unfold I64; omega) ?_
            refine d_p rfl rfl rfl rfl ?_
            refine d_p rfl rfl rfl rfl ?_
            refine d_p rfl rfl rfl rfl ?_
            refine d_know 8 (.bool true) rfl (congrArg Value.bool (decide_eq_true (next_some q72).2.2.2)) ?_
            clear hD
            refine (dw_nil (pn_then (cw_ret (pn_ret rfl rfl ⟨rfl, hE⟩))))
      · have q36 := s36
        refine d_p rfl rfl rfl rfl ?_
        refine d_p rfl rfl rfl rfl ?_
        refine d_p rfl rfl rfl rfl ?_
        refine d_p rfl rfl rfl rfl ?_
        refine d_know 40 (.bool false) rfl (congrArg Value.bool (nbqq_of (by rw [has_join, q36]; rfl))) ?_
        refine d_p rfl rfl rfl rfl ?_
        refine d_p rfl rfl rfl rfl ?_
        refine dw_call rfl rfl (ec_call rfl) rfl ((Meet_spec h1 h2 (by (try simp only [pickL_len, List.length_nil]); omega) (by (try simp only [pickL_len, List.length_nil]); omega)).mono ?_)
        rintro _ w43 ⟨v43, rfl, m43, e43⟩
        replace hE := hE.trans e43
        replace hD := hD.trans e43
        replace h1 := h1.ext e43
        replace h2 := h2.ext e43
        replace B6 := B6.ext e43
        replace h32 := h32.ext e43
        have h43 : IL w43 v43 (meetL u v) := Mine.sl m43
        refine ⟨_, rfl, hD, ?_⟩
        refine dw_rd rfl rfl (fun W' hW' => ex_loadN (cs := [.int .i64 r, .int .i64 n]) rfl rfl rfl rfl (fun j _ => by rw [Nat.zero_add]; exact (Blk.ext B6d hW').cell j)) rfl ?_
        refine dw_call rfl rfl (ec_call rfl) rfl ((Has_spec_vector_Has h43).mono ?_)
        rintro _ w45 ⟨rfl, e45⟩
        replace hE := hE.trans e45
        replace hD := hD.trans e45
        replace h1 := h1.ext e45
        replace h2 := h2.ext e45
        replace B6 := B6.ext e45
        replace h32 := h32.ext e45
        replace h43 := h43.ext e45
        refine ⟨_, rfl, hD, ?_⟩
        refine d_p rfl rfl rfl rfl ?_
        refine d_p rfl rfl rfl rfl ?_
        refine d_know 47 (.bool false) rfl (congrArg Value.bool q36) ?_
        refine dw_skip rfl rfl ?_
        refine d_p rfl rfl rfl rfl ?_
        refine d_p rfl rfl rfl rfl ?_
        refine d_p rfl rfl rfl rfl ?_
        refine d_p rfl rfl rfl rfl ?_
        refine d_know 52 (.bool false) rfl (congrArg Value.bool (nbqq_of (by rw [has_meet, q36]; rfl))) ?_
        refine d_p rfl rfl rfl rfl ?_
        refine d_p rfl rfl rfl rfl ?_
        refine dw_call rfl rfl (ec_call rfl) rfl ((Leq_spec h1 h2).mono ?_)
        rintro _ w55 ⟨rfl, e55⟩
        replace hE := hE.trans e55
        replace hD := hD.trans e55
        replace h1 := h1.ext e55
        replace h2 := h2.ext e55
        replace B6 := B6.ext e55
        replace h32 := h32.ext e55
        replace h43 := h43.ext e55
        refine ⟨_, rfl, hD, ?_⟩
        refine d_p rfl rfl rfl rfl ?_
        refine d_split 56 rfl (fun s56 => ?_) (fun s56 => ?_)
        · have q56 := s56
          refine d_p rfl rfl rfl rfl ?_
          refine d_p rfl rfl rfl rfl ?_
          refine d_p rfl rfl rfl rfl ?_
          refine d_know 59 (.bool false) rfl (congrArg Value.bool q36) ?_
          refine dw_skip rfl rfl ?_
          refine dw_skip rfl rfl ?_
          refine d_p rfl rfl rfl rfl ?_
          refine d_p rfl rfl rfl rfl ?_
          clear hD
          refine (dw_nil (pn_then (cw_cond_f rfl (cw_skip (pn_then (cw_seq (cw_region ?_)))))))
          refine o_p rfl rfl rfl ?_
          refine ow_call rfl (ec_call rfl) rfl ((Pick_spec k 16 (by unfold I64; omega) _).mono ?_)
          rintro _ w65 ⟨rfl, rfl⟩; refine ⟨_, rfl, ?_⟩
          refine o_c rfl rfl rfl (by unfold I64; omega) ?_
          refine o_p rfl rfl rfl ?_
          refine (ow_nil (pn_then (cw_seq (cw_region ?_))))
          refine o_p rfl rfl rfl ?_
          refine o_p rfl rfl rfl ?_
          refine ow_call rfl (ec_call rfl) rfl ((Next_spec_vector h1).mono ?_)
          rintro _ w69 ⟨rfl, e69⟩
          replace hE := hE.trans e69
          replace h1 := h1.ext e69
          replace h2 := h2.ext e69
          replace B6 := B6.ext e69
          replace h32 := h32.ext e69
          replace h43 := h43.ext e69
          refine ⟨_, rfl, ?_⟩
          refine ow_new rfl rfl rfl rfl ?_
          intro wa12 Ba12 ea12 _
          refine ow_eu rfl (eu_storeB (vs := [.int .i64 (nextL u (1 + (pickI k 16))).1, .int .i64 (nextL u (1 + (pickI k 16))).2]) rfl rfl rfl rfl rfl (hone2 _ _) Ba12 rfl) ?_
          have e12 := ea12.trans' (Fr.setRow wa12 w69.heap.size (spl [.int .i64 0, .int .i64 0] 0 [.int .i64 (nextL u (1 + (pickI k 16))).1, .int .i64 (nextL u (1 + (pickI k 16))).2]).toArray) (fun j hj h => absurd h (by omega))
          have B12 : Blk _ _ _ [.int .i64 (nextL u (1 + (pickI k 16))).1, .int .i64 (nextL u (1 + (pickI k 16))).2] := Ba12.setRow (ds := spl [.int .i64 0, .int .i64 0] 0 [.int .i64 (nextL u (1 + (pickI k 16))).1, .int .i64 (nextL u (1 + (pickI k 16))).2])
          change OW _ _ _ _ _ _ _ _ (wa12.setRow w69.heap.size (spl [.int .i64 0, .int .i64 0] 0 [.int .i64 (nextL u (1 + (pickI k 16))).1, .int .i64 (nextL u (1 + (pickI k 16))).2]).toArray)
          generalize wa12.setRow w69.heap.size (spl [.int .i64 0, .int .i64 0] 0 [.int .i64 (nextL u (1 + (pickI k 16))).1, .int .i64 (nextL u (1 + (pickI k 16))).2]).toArray = w12 at *
          change Ext w69 w12 at e12
          replace hE := hE.trans e12
          replace h1 := h1.ext e12
          replace h2 := h2.ext e12
          replace B6 := B6.ext e12
          replace h32 := h32.ext e12
          replace h43 := h43.ext e12
          refine (ow_nil (pn_then (cw_seq (cw_seq (cw_region ?_)))))
          refine ow_ex rfl (ex_loadN (cs := [.int .i64 (nextL u (1 + (pickI k 16))).1, .int .i64 (nextL u (1 + (pickI k 16))).2]) rfl rfl rfl rfl (fun j _ => by rw [Nat.zero_add]; exact B12.cell j)) rfl ?_
          refine o_b rfl rfl rfl ?_
          refine ow_pu rfl (pu_eqA rfl rfl (eq_dot _ _ _ _)) rfl ?_
          refine o_split 72 rfl (fun s72 => ?_) (fun s72 => ?_)
          · have q72 := of_decide_eq_true s72
            refine (ow_nil (pn_then (cw_cond_t rfl (cw_seq (cw_region ?_)))))
            refine o_p rfl rfl rfl ?_
            refine o_p rfl rfl rfl ?_
            refine o_p rfl rfl rfl ?_
            refine o_p rfl rfl rfl ?_
            refine ow_call rfl (ec_call rfl) rfl ((At_spec_vector_At h1).mono ?_)
            rintro _ w77 ⟨rfl, rfl⟩; refine ⟨_, rfl, ?_⟩
            refine o_p rfl rfl rfl ?_
            refine o_p rfl rfl rfl ?_
            refine o_p rfl rfl rfl ?_
            refine o_know 8 (.bool true) rfl (congrArg Value.bool (decide_eq_true (next_none (by omega) q72))) ?_
            refine (ow_nil (pn_then (cw_ret (pn_then_ret (pn_ret rfl rfl ⟨rfl, hE⟩)))))
          · have q72 := of_decide_eq_false s72
            refine (ow_nil (pn_then (cw_cond_f rfl (cw_skip (pn_then (cw_seq (cw_region ?_)))))))
            refine o_p rfl rfl rfl ?_
            refine ow_ex rfl (ex_loadN (cs := [.int .i64 (nextL u (1 + (pickI k 16))).1, .int .i64 (nextL u (1 + (pickI k 16))).2]) rfl rfl rfl rfl (fun j _ => by rw [Nat.zero_add]; exact B12.cell j)) rfl ?_
            refine ow_call rfl (ec_call rfl) rfl ((With_spec_vector h1 (by (try simp only [pickL_len, List.length_nil]); omega)).mono ?_)
            rintro _ w82 ⟨v82, rfl, m82, e82⟩
            replace hE := hE.trans e82
            replace h1 := h1.ext e82
            replace h2 := h2.ext e82
            replace B6 := B6.ext e82
            replace h32 := h32.ext e82
            replace h43 := h43.ext e82
            replace B12 := B12.ext e82
            have h82 : IL w82 v82 (withL u (nextL u (1 + (pickI k 16))).1 (nextL u (1 + (pickI k 16))).2) := Mine.sl m82
            refine ⟨_, rfl, ?_⟩
            refine o_p rfl rfl rfl ?_
            refine (ow_nil (pn_then (cw_seq (cw_draw flo (fun W' => Ext w82 W') (by decide +kernel) (Fr.drew _) ?_))))
            have B6d := B6
            have B12d := B12
            have hD : Ext w82 w82 := Fr.refl _ _
            have eD12 : Ext w82 w82.drew := Fr.drew _
            replace hE := hE.trans eD12
            replace hD := hD.trans eD12
            replace h1 := h1.ext eD12
            replace h2 := h2.ext eD12
            replace B6 := B6.ext eD12
            replace h32 := h32.ext eD12
            replace h43 := h43.ext eD12
            replace B12 := B12.ext eD12
            replace h82 := h82.ext eD12
            generalize w82.drew = wD12 at *
            refine d_p rfl rfl rfl rfl ?_
            refine d_p rfl rfl rfl rfl ?_
            refine d_p rfl rfl rfl rfl ?_
            refine dw_rd rfl rfl (fun W' hW' => ex_loadN (cs := [.int .i64 (nextL u (1 + (pickI k 16))).1, .int .i64 (nextL u (1 + (pickI k 16))).2]) rfl rfl rfl rfl (fun j _ => by rw [Nat.zero_add]; exact (Blk.ext B12d hW').cell j)) rfl ?_
            refine dw_call rfl rfl (ec_call rfl) rfl ((Has_spec_vector_Has h1).mono ?_)
            rintro _ w87 ⟨rfl, e87⟩
            replace hE := hE.trans e87
            replace hD := hD.trans e87
            replace h1 := h1.ext e87
            replace h2 := h2.ext e87
            replace B6 := B6.ext e87
            replace h32 := h32.ext e87
            replace h43 := h43.ext e87
            replace B12 := B12.ext e87
            replace h82 := h82.ext e87
            refine ⟨_, rfl, hD, ?_⟩
            refine d_p rfl rfl rfl rfl ?_
            refine d_p rfl rfl rfl rfl ?_
            refine d_p rfl rfl rfl rfl ?_
            refine d_know 90 (.bool true) rfl (congrArg Value.bool (dots1 q72)) ?_
            refine d_p rfl rfl rfl rfl ?_
            refine dw_rd rfl rfl (fun W' hW' => ex_loadN (cs := [.int .i64 (nextL u (1 + (pickI k 16))).1, .int .i64 (nextL u (1 + (pickI k 16))).2]) rfl rfl rfl rfl (fun j _ => by rw [Nat.zero_add]; exact (Blk.ext B12d hW').cell j)) rfl ?_
            refine dw_call rfl rfl (ec_call rfl) rfl ((Has_spec_vector_Has h82).mono ?_)
            rintro _ w93 ⟨rfl, e93⟩
            replace hE := hE.trans e93
            replace hD := hD.trans e93
            replace h1 := h1.ext e93
            replace h2 := h2.ext e93
            replace B6 := B6.ext e93
            replace h32 := h32.ext e93
            replace h43 := h43.ext e93
            replace B12 := B12.ext e93
            replace h82 := h82.ext e93
            refine ⟨_, rfl, hD, ?_⟩
            refine d_p rfl rfl rfl rfl ?_
            refine d_p rfl rfl rfl rfl ?_
            refine d_know 95 (.bool true) rfl (congrArg Value.bool (dots2 q72 h16)) ?_
            refine d_p rfl rfl rfl rfl ?_
            refine d_p rfl rfl rfl rfl ?_
            refine dw_call rfl rfl (ec_call rfl) rfl ((Leq_spec h1 h82).mono ?_)
            rintro _ w98 ⟨rfl, e98⟩
            replace hE := hE.trans e98
            replace hD := hD.trans e98
            replace h1 := h1.ext e98
            replace h2 := h2.ext e98
            replace B6 := B6.ext e98
            replace h32 := h32.ext e98
            replace h43 := h43.ext e98
            replace B12 := B12.ext e98
            replace h82 := h82.ext e98
            refine ⟨_, rfl, hD, ?_⟩
            refine d_p rfl rfl rfl rfl ?_
            refine d_p rfl rfl rfl rfl ?_
            refine d_know 100 (.bool true) rfl (congrArg Value.bool (dots3 q72 h16)) ?_
            refine d_p rfl rfl rfl rfl ?_
            refine d_p rfl rfl rfl rfl ?_
            refine dw_call rfl rfl (ec_call rfl) rfl ((Leq_spec h82 h1).mono ?_)
            rintro _ w103 ⟨rfl, e103⟩
            replace hE := hE.trans e103
            replace hD := hD.trans e103
            replace h1 := h1.ext e103
            replace h2 := h2.ext e103
            replace B6 := B6.ext e103
            replace h32 := h32.ext e103
            replace h43 := h43.ext e103
            replace B12 := B12.ext e103
            replace h82 := h82.ext e103
            refine ⟨_, rfl, hD, ?_⟩
            refine d_p rfl rfl rfl rfl ?_
            refine d_p rfl rfl rfl rfl ?_
            refine d_p rfl rfl rfl rfl ?_
            refine d_know 106 (.bool true) rfl (congrArg Value.bool (dots4 q72 h16)) ?_
            refine d_p rfl rfl rfl rfl ?_
            refine dw_rd rfl rfl (fun W' hW' => ex_loadN (cs := [.int .i64 r, .int .i64 n]) rfl rfl rfl rfl (fun j _ => by rw [Nat.zero_add]; exact (Blk.ext B6d hW').cell j)) rfl ?_
            refine dw_call rfl rfl (ec_call rfl) rfl ((Has_spec_vector_Has h82).mono ?_)
            rintro _ w109 ⟨rfl, e109⟩
            replace hE := hE.trans e109
            replace hD := hD.trans e109
            replace h1 := h1.ext e109
            replace h2 := h2.ext e109
            replace B6 := B6.ext e109
            replace h32 := h32.ext e109
            replace h43 := h43.ext e109
            replace B12 := B12.ext e109
            replace h82 := h82.ext e109
            refine ⟨_, rfl, hD, ?_⟩
            refine d_p rfl rfl rfl rfl ?_
            refine d_p rfl rfl rfl rfl ?_
            refine d_know 111 (.bool false) rfl (congrArg Value.bool q36) ?_
            refine dw_rd rfl rfl (fun W' hW' => ex_loadN (cs := [.int .i64 r, .int .i64 n]) rfl rfl rfl rfl (fun j _ => by rw [Nat.zero_add]; exact (Blk.ext B6d hW').cell j)) rfl ?_
            refine dw_rd rfl rfl (fun W' hW' => ex_loadN (cs := [.int .i64 (nextL u (1 + (pickI k 16))).1, .int .i64 (nextL u (1 + (pickI k 16))).2]) rfl rfl rfl rfl (fun j _ => by rw [Nat.zero_add]; exact (Blk.ext B12d hW').cell j)) rfl ?_
            refine dw_rd rfl rfl (fun W' _ => pu_eqA rfl rfl (eq_dot _ _ _ _) W') rfl ?_
            refine d_p rfl rfl rfl rfl ?_
            refine d_p rfl rfl rfl rfl ?_
            refine d_p rfl rfl rfl rfl ?_
            refine d_p rfl rfl rfl rfl ?_
            refine d_know 118 (.bool true) rfl (congrArg Value.bool (bqq_of (by rw [dots5 q72 h16, q36]; rfl))) ?_
            refine d_p rfl rfl rfl rfl ?_
            refine dw_rd rfl rfl (fun W' hW' => ex_load rfl rfl rfl (hW'.cell (B12d.cell 0))) rfl ?_
            refine d_p rfl rfl rfl rfl ?_
            refine d_p rfl rfl rfl rfl ?_
            refine d_p rfl rfl rfl rfl ?_
            refine d_p rfl rfl rfl rfl ?_
            refine d_know 124 (.bool true) rfl (congrArg Value.bool (decide_eq_true (next_some q72).2.2.1)) ?_
            refine d_p rfl rfl rfl rfl ?_
            refine dw_rd rfl rfl (fun W' hW' => ex_load rfl rfl rfl (hW'.cell (B12d.cell 1))) rfl ?_
            refine d_p rfl rfl rfl rfl ?_
            refine d_p rfl rfl rfl rfl ?_
            refine dw_call rfl rfl (ec_call rfl) rfl ((At_spec_vector_At h1).mono ?_)
            rintro _ w129 ⟨rfl, rfl⟩; refine ⟨_, rfl, hD, ?_⟩
            refine d_c rfl rfl rfl rfl (by have := (next_some q72).2.1; have := atL_nonneg u (1 + pickI k 16); unfold capI at *; unfold I64; omega) ?_
            refine d_p rfl rfl rfl rfl ?_
            refine d_p rfl rfl rfl rfl ?_
            refine d_p rfl rfl rfl rfl ?_
            refine d_know 8 (.bool true) rfl (congrArg Value.bool (decide_eq_true (next_some q72).2.2.2)) ?_
            clear hD
            refine (dw_nil (pn_then (cw_ret (pn_ret rfl rfl ⟨rfl, hE⟩))))
        · have q56 := s56
          refine dw_skip rfl rfl ?_
          refine d_p rfl rfl rfl rfl ?_
          refine d_p rfl rfl rfl rfl ?_
          refine dw_skip rfl rfl ?_
          refine dw_skip rfl rfl ?_
          refine d_p rfl rfl rfl rfl ?_
          refine d_p rfl rfl rfl rfl ?_
          clear hD
          refine (dw_nil (pn_then (cw_cond_f rfl (cw_skip (pn_then (cw_seq (cw_region ?_)))))))
          refine o_p rfl rfl rfl ?_
          refine ow_call rfl (ec_call rfl) rfl ((Pick_spec k 16 (by unfold I64; omega) _).mono ?_)
          rintro _ w65 ⟨rfl, rfl⟩; refine ⟨_, rfl, ?_⟩
          refine o_c rfl rfl rfl (by unfold I64; omega) ?_
          refine o_p rfl rfl rfl ?_
          refine (ow_nil (pn_then (cw_seq (cw_region ?_))))
          refine o_p rfl rfl rfl ?_
          refine o_p rfl rfl rfl ?_
          refine ow_call rfl (ec_call rfl) rfl ((Next_spec_vector h1).mono ?_)
          rintro _ w69 ⟨rfl, e69⟩
          replace hE := hE.trans e69
          replace h1 := h1.ext e69
          replace h2 := h2.ext e69
          replace B6 := B6.ext e69
          replace h32 := h32.ext e69
          replace h43 := h43.ext e69
          refine ⟨_, rfl, ?_⟩
          refine ow_new rfl rfl rfl rfl ?_
          intro wa12 Ba12 ea12 _
          refine ow_eu rfl (eu_storeB (vs := [.int .i64 (nextL u (1 + (pickI k 16))).1, .int .i64 (nextL u (1 + (pickI k 16))).2]) rfl rfl rfl rfl rfl (hone2 _ _) Ba12 rfl) ?_
          have e12 := ea12.trans' (Fr.setRow wa12 w69.heap.size (spl [.int .i64 0, .int .i64 0] 0 [.int .i64 (nextL u (1 + (pickI k 16))).1, .int .i64 (nextL u (1 + (pickI k 16))).2]).toArray) (fun j hj h => absurd h (by omega))
          have B12 : Blk _ _ _ [.int .i64 (nextL u (1 + (pickI k 16))).1, .int .i64 (nextL u (1 + (pickI k 16))).2] := Ba12.setRow (ds := spl [.int .i64 0, .int .i64 0] 0 [.int .i64 (nextL u (1 + (pickI k 16))).1, .int .i64 (nextL u (1 + (pickI k 16))).2])
          change OW _ _ _ _ _ _ _ _ (wa12.setRow w69.heap.size (spl [.int .i64 0, .int .i64 0] 0 [.int .i64 (nextL u (1 + (pickI k 16))).1, .int .i64 (nextL u (1 + (pickI k 16))).2]).toArray)
          generalize wa12.setRow w69.heap.size (spl [.int .i64 0, .int .i64 0] 0 [.int .i64 (nextL u (1 + (pickI k 16))).1, .int .i64 (nextL u (1 + (pickI k 16))).2]).toArray = w12 at *
          change Ext w69 w12 at e12
          replace hE := hE.trans e12
          replace h1 := h1.ext e12
          replace h2 := h2.ext e12
          replace B6 := B6.ext e12
          replace h32 := h32.ext e12
          replace h43 := h43.ext e12
          refine (ow_nil (pn_then (cw_seq (cw_seq (cw_region ?_)))))
          refine ow_ex rfl (ex_loadN (cs := [.int .i64 (nextL u (1 + (pickI k 16))).1, .int .i64 (nextL u (1 + (pickI k 16))).2]) rfl rfl rfl rfl (fun j _ => by rw [Nat.zero_add]; exact B12.cell j)) rfl ?_
          refine o_b rfl rfl rfl ?_
          refine ow_pu rfl (pu_eqA rfl rfl (eq_dot _ _ _ _)) rfl ?_
          refine o_split 72 rfl (fun s72 => ?_) (fun s72 => ?_)
          · have q72 := of_decide_eq_true s72
            refine (ow_nil (pn_then (cw_cond_t rfl (cw_seq (cw_region ?_)))))
            refine o_p rfl rfl rfl ?_
            refine o_p rfl rfl rfl ?_
            refine o_p rfl rfl rfl ?_
            refine o_p rfl rfl rfl ?_
            refine ow_call rfl (ec_call rfl) rfl ((At_spec_vector_At h1).mono ?_)
            rintro _ w77 ⟨rfl, rfl⟩; refine ⟨_, rfl, ?_⟩
            refine o_p rfl rfl rfl ?_
            refine o_p rfl rfl rfl ?_
            refine o_p rfl rfl rfl ?_
            refine o_know 8 (.bool true) rfl (congrArg Value.bool (decide_eq_true (next_none (by omega) q72))) ?_
            refine (ow_nil (pn_then (cw_ret (pn_then_ret (pn_ret rfl rfl ⟨rfl, hE⟩)))))
          · have q72 := of_decide_eq_false s72
            refine (ow_nil (pn_then (cw_cond_f rfl (cw_skip (pn_then (cw_seq (cw_region ?_)))))))
            refine o_p rfl rfl rfl ?_
            refine ow_ex rfl (ex_loadN (cs := [.int .i64 (nextL u (1 + (pickI k 16))).1, .int .i64 (nextL u (1 + (pickI k 16))).2]) rfl rfl rfl rfl (fun j _ => by rw [Nat.zero_add]; exact B12.cell j)) rfl ?_
            refine ow_call rfl (ec_call rfl) rfl ((With_spec_vector h1 (by (try simp only [pickL_len, List.length_nil]); omega)).mono ?_)
            rintro _ w82 ⟨v82, rfl, m82, e82⟩
            replace hE := hE.trans e82
            replace h1 := h1.ext e82
            replace h2 := h2.ext e82
            replace B6 := B6.ext e82
            replace h32 := h32.ext e82
            replace h43 := h43.ext e82
            replace B12 := B12.ext e82
            have h82 : IL w82 v82 (withL u (nextL u (1 + (pickI k 16))).1 (nextL u (1 + (pickI k 16))).2) := Mine.sl m82
            refine ⟨_, rfl, ?_⟩
            refine o_p rfl rfl rfl ?_
            refine (ow_nil (pn_then (cw_seq (cw_draw flo (fun W' => Ext w82 W') (by decide +kernel) (Fr.drew _) ?_))))
            have B6d := B6
            have B12d := B12
            have hD : Ext w82 w82 := Fr.refl _ _
            have eD12 : Ext w82 w82.drew := Fr.drew _
            replace hE := hE.trans eD12
            replace hD := hD.trans eD12
            replace h1 := h1.ext eD12
            replace h2 := h2.ext eD12
            replace B6 := B6.ext eD12
            replace h32 := h32.ext eD12
            replace h43 := h43.ext eD12
            replace B12 := B12.ext eD12
            replace h82 := h82.ext eD12
            generalize w82.drew = wD12 at *
            refine d_p rfl rfl rfl rfl ?_
            refine d_p rfl rfl rfl rfl ?_
            refine d_p rfl rfl rfl rfl ?_
            refine dw_rd rfl rfl (fun W' hW' => ex_loadN (cs := [.int .i64 (nextL u (1 + (pickI k 16))).1, .int .i64 (nextL u (1 + (pickI k 16))).2]) rfl rfl rfl rfl (fun j _ => by rw [Nat.zero_add]; exact (Blk.ext B12d hW').cell j)) rfl ?_
            refine dw_call rfl rfl (ec_call rfl) rfl ((Has_spec_vector_Has h1).mono ?_)
            rintro _ w87 ⟨rfl, e87⟩
            replace hE := hE.trans e87
            replace hD := hD.trans e87
            replace h1 := h1.ext e87
            replace h2 := h2.ext e87
            replace B6 := B6.ext e87
            replace h32 := h32.ext e87
            replace h43 := h43.ext e87
            replace B12 := B12.ext e87
            replace h82 := h82.ext e87
            refine ⟨_, rfl, hD, ?_⟩
            refine d_p rfl rfl rfl rfl ?_
            refine d_p rfl rfl rfl rfl ?_
            refine d_p rfl rfl rfl rfl ?_
            refine d_know 90 (.bool true) rfl (congrArg Value.bool (dots1 q72)) ?_
            refine d_p rfl rfl rfl rfl ?_
            refine dw_rd rfl rfl (fun W' hW' => ex_loadN (cs := [.int .i64 (nextL u (1 + (pickI k 16))).1, .int .i64 (nextL u (1 + (pickI k 16))).2]) rfl rfl rfl rfl (fun j _ => by rw [Nat.zero_add]; exact (Blk.ext B12d hW').cell j)) rfl ?_
            refine dw_call rfl rfl (ec_call rfl) rfl ((Has_spec_vector_Has h82).mono ?_)
            rintro _ w93 ⟨rfl, e93⟩
            replace hE := hE.trans e93
            replace hD := hD.trans e93
            replace h1 := h1.ext e93
            replace h2 := h2.ext e93
            replace B6 := B6.ext e93
            replace h32 := h32.ext e93
            replace h43 := h43.ext e93
            replace B12 := B12.ext e93
            replace h82 := h82.ext e93
            refine ⟨_, rfl, hD, ?_⟩
            refine d_p rfl rfl rfl rfl ?_
            refine d_p rfl rfl rfl rfl ?_
            refine d_know 95 (.bool true) rfl (congrArg Value.bool (dots2 q72 h16)) ?_
            refine d_p rfl rfl rfl rfl ?_
            refine d_p rfl rfl rfl rfl ?_
            refine dw_call rfl rfl (ec_call rfl) rfl ((Leq_spec h1 h82).mono ?_)
            rintro _ w98 ⟨rfl, e98⟩
            replace hE := hE.trans e98
            replace hD := hD.trans e98
            replace h1 := h1.ext e98
            replace h2 := h2.ext e98
            replace B6 := B6.ext e98
            replace h32 := h32.ext e98
            replace h43 := h43.ext e98
            replace B12 := B12.ext e98
            replace h82 := h82.ext e98
            refine ⟨_, rfl, hD, ?_⟩
            refine d_p rfl rfl rfl rfl ?_
            refine d_p rfl rfl rfl rfl ?_
            refine d_know 100 (.bool true) rfl (congrArg Value.bool (dots3 q72 h16)) ?_
            refine d_p rfl rfl rfl rfl ?_
            refine d_p rfl rfl rfl rfl ?_
            refine dw_call rfl rfl (ec_call rfl) rfl ((Leq_spec h82 h1).mono ?_)
            rintro _ w103 ⟨rfl, e103⟩
            replace hE := hE.trans e103
            replace hD := hD.trans e103
            replace h1 := h1.ext e103
            replace h2 := h2.ext e103
            replace B6 := B6.ext e103
            replace h32 := h32.ext e103
            replace h43 := h43.ext e103
            replace B12 := B12.ext e103
            replace h82 := h82.ext e103
            refine ⟨_, rfl, hD, ?_⟩
            refine d_p rfl rfl rfl rfl ?_
            refine d_p rfl rfl rfl rfl ?_
            refine d_p rfl rfl rfl rfl ?_
            refine d_know 106 (.bool true) rfl (congrArg Value.bool (dots4 q72 h16)) ?_
            refine d_p rfl rfl rfl rfl ?_
            refine dw_rd rfl rfl (fun W' hW' => ex_loadN (cs := [.int .i64 r, .int .i64 n]) rfl rfl rfl rfl (fun j _ => by rw [Nat.zero_add]; exact (Blk.ext B6d hW').cell j)) rfl ?_
            refine dw_call rfl rfl (ec_call rfl) rfl ((Has_spec_vector_Has h82).mono ?_)
            rintro _ w109 ⟨rfl, e109⟩
            replace hE := hE.trans e109
            replace hD := hD.trans e109
            replace h1 := h1.ext e109
            replace h2 := h2.ext e109
            replace B6 := B6.ext e109
            replace h32 := h32.ext e109
            replace h43 := h43.ext e109
            replace B12 := B12.ext e109
            replace h82 := h82.ext e109
            refine ⟨_, rfl, hD, ?_⟩
            refine d_p rfl rfl rfl rfl ?_
            refine d_p rfl rfl rfl rfl ?_
            refine d_know 111 (.bool false) rfl (congrArg Value.bool q36) ?_
            refine dw_rd rfl rfl (fun W' hW' => ex_loadN (cs := [.int .i64 r, .int .i64 n]) rfl rfl rfl rfl (fun j _ => by rw [Nat.zero_add]; exact (Blk.ext B6d hW').cell j)) rfl ?_
            refine dw_rd rfl rfl (fun W' hW' => ex_loadN (cs := [.int .i64 (nextL u (1 + (pickI k 16))).1, .int .i64 (nextL u (1 + (pickI k 16))).2]) rfl rfl rfl rfl (fun j _ => by rw [Nat.zero_add]; exact (Blk.ext B12d hW').cell j)) rfl ?_
            refine dw_rd rfl rfl (fun W' _ => pu_eqA rfl rfl (eq_dot _ _ _ _) W') rfl ?_
            refine d_p rfl rfl rfl rfl ?_
            refine d_p rfl rfl rfl rfl ?_
            refine d_p rfl rfl rfl rfl ?_
            refine d_p rfl rfl rfl rfl ?_
            refine d_know 118 (.bool true) rfl (congrArg Value.bool (bqq_of (by rw [dots5 q72 h16, q36]; rfl))) ?_
            refine d_p rfl rfl rfl rfl ?_
            refine dw_rd rfl rfl (fun W' hW' => ex_load rfl rfl rfl (hW'.cell (B12d.cell 0))) rfl ?_
            refine d_p rfl rfl rfl rfl ?_
            refine d_p rfl rfl rfl rfl ?_
            refine d_p rfl rfl rfl rfl ?_
            refine d_p rfl rfl rfl rfl ?_
            refine d_know 124 (.bool true) rfl (congrArg Value.bool (decide_eq_true (next_some q72).2.2.1)) ?_
            refine d_p rfl rfl rfl rfl ?_
            refine dw_rd rfl rfl (fun W' hW' => ex_load rfl rfl rfl (hW'.cell (B12d.cell 1))) rfl ?_
            refine d_p rfl rfl rfl rfl ?_
            refine d_p rfl rfl rfl rfl ?_
            refine dw_call rfl rfl (ec_call rfl) rfl ((At_spec_vector_At h1).mono ?_)
            rintro _ w129 ⟨rfl, rfl⟩; refine ⟨_, rfl, hD, ?_⟩
            refine d_c rfl rfl rfl rfl (by have := (next_some q72).2.1; have := atL_nonneg u (1 + pickI k 16); unfold capI at *; unfold I64; omega) ?_
            refine d_p rfl rfl rfl rfl ?_
            refine d_p rfl rfl rfl rfl ?_
            refine d_p rfl rfl rfl rfl ?_
            refine d_know 8 (.bool true) rfl (congrArg Value.bool (decide_eq_true (next_some q72).2.2.2)) ?_
            clear hD
            refine (dw_nil (pn_then (cw_ret (pn_ret rfl rfl ⟨rfl, hE⟩))))
end Go.Proofs.Ytplkinnaccpomaa
