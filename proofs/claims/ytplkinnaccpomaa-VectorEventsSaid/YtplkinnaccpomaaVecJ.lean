/- Vectors: the law VectorEvents, as a program printed its walk (lawwalk.py). Conditions: none. -/
import Derived.Test.YtplkinnaccpomaaVecG
import Derived.Test.YtplkinnaccpomaaVecM
namespace Go.Proofs.Ytplkinnaccpomaa
open Go.Eng Go.RowKit
theorem walk_VectorEvents {r1 n1 r2 n2 r3 n3 : Int} {v1 v2 v3 : Value} {u v x : List Int} {w : World} (h1 : IL w v1 u) (h2 : IL w v2 v) (h3 : IL w v3 x) :
    Calls Try.prog n_entrepotlaw14_VectorEvents #[dotV r1 n1, v1, dotV r2 n2, v2, dotV r3 n3, v3] w fun e w' => e = .returned (.bool true) ∧ Ext w w' := by
  have hE : Ext w w := Fr.refl _ _
  obtain ⟨A1, c1, rfl, _⟩ := VL.op h1
  obtain ⟨A2, c2, rfl, _⟩ := VL.op h2
  obtain ⟨A3, c3, rfl, _⟩ := VL.op h3
  refine enter6 F_entrepotlaw14_VectorEvents rfl rfl ?_
  refine (cw_seq (cw_region ?_))
  refine ow_box rfl rfl rfl rfl ?_
  intro w6 B6 e6 _
  replace hE := hE.trans e6
  replace h1 := h1.ext e6
  replace h2 := h2.ext e6
  replace h3 := h3.ext e6
  refine ow_box rfl rfl rfl rfl ?_
  intro w8 B8 e8 _
  replace hE := hE.trans e8
  replace h1 := h1.ext e8
  replace h2 := h2.ext e8
  replace h3 := h3.ext e8
  replace B6 := B6.ext e8
  refine ow_box rfl rfl rfl rfl ?_
  intro w10 B10 e10 _
  replace hE := hE.trans e10
  replace h1 := h1.ext e10
  replace h2 := h2.ext e10
  replace h3 := h3.ext e10
  replace B6 := B6.ext e10
  replace B8 := B8.ext e10
  refine o_p rfl rfl rfl ?_
  refine (ow_nil (pn_then (cw_seq (cw_region ?_))))
  refine ow_call rfl (ec_call rfl) rfl ((walk_VectorKnown).mono ?_)
  rintro _ w17 ⟨rfl, e17⟩
  replace hE := hE.trans e17
  replace h1 := h1.ext e17
  replace h2 := h2.ext e17
  replace h3 := h3.ext e17
  replace B6 := B6.ext e17
  replace B8 := B8.ext e17
  replace B10 := B10.ext e17
  refine ⟨_, rfl, ?_⟩
  refine o_p rfl rfl rfl ?_
  refine (ow_nil (pn_then (cw_seq (cw_seq (cw_region ?_)))))
  refine o_p rfl rfl rfl ?_
  refine o_p rfl rfl rfl ?_
  refine o_p rfl rfl rfl ?_
  refine o_p rfl rfl rfl ?_
  refine o_split 21 rfl (fun s21 => ?_) (fun s21 => ?_)
  · have q21 := of_decide_eq_true s21
    refine ow_skip rfl rfl ?_
    refine ow_skip rfl rfl ?_
    refine ow_skip rfl rfl ?_
    refine o_p rfl rfl rfl ?_
    refine o_p rfl rfl rfl ?_
    refine ow_skip rfl rfl ?_
    refine ow_skip rfl rfl ?_
    refine ow_skip rfl rfl ?_
    refine o_p rfl rfl rfl ?_
    refine o_p rfl rfl rfl ?_
    refine ow_skip rfl rfl ?_
    refine ow_skip rfl rfl ?_
    refine o_p rfl rfl rfl ?_
    refine o_p rfl rfl rfl ?_
    refine ow_skip rfl rfl ?_
    refine ow_skip rfl rfl ?_
    refine o_p rfl rfl rfl ?_
    refine o_p rfl rfl rfl ?_
    refine ow_skip rfl rfl ?_
    refine ow_skip rfl rfl ?_
    refine o_p rfl rfl rfl ?_
    refine (ow_nil (pn_then (cw_cond_t rfl (cw_seq (cw_region ?_)))))
    refine o_p rfl rfl rfl ?_
    refine o_p rfl rfl rfl ?_
    refine (ow_nil (pn_then (cw_ret (pn_then_ret (pn_ret rfl rfl ⟨rfl, hE⟩)))))
  · have q21 := of_decide_eq_false s21
    refine o_p rfl rfl rfl ?_
    refine o_p rfl rfl rfl ?_
    refine o_p rfl rfl rfl ?_
    refine o_p rfl rfl rfl ?_
    refine o_p rfl rfl rfl ?_
    refine o_split 26 rfl (fun s26 => ?_) (fun s26 => ?_)
    · have q26 := of_decide_eq_true s26
      refine ow_skip rfl rfl ?_
      refine ow_skip rfl rfl ?_
      refine ow_skip rfl rfl ?_
      refine o_p rfl rfl rfl ?_
      refine o_p rfl rfl rfl ?_
      refine ow_skip rfl rfl ?_
      refine ow_skip rfl rfl ?_
      refine o_p rfl rfl rfl ?_
      refine o_p rfl rfl rfl ?_
      refine ow_skip rfl rfl ?_
      refine ow_skip rfl rfl ?_
      refine o_p rfl rfl rfl ?_
      refine o_p rfl rfl rfl ?_
      refine ow_skip rfl rfl ?_
      refine ow_skip rfl rfl ?_
      refine o_p rfl rfl rfl ?_
      refine (ow_nil (pn_then (cw_cond_t rfl (cw_seq (cw_region ?_)))))
      refine o_p rfl rfl rfl ?_
      refine o_p rfl rfl rfl ?_
      refine (ow_nil (pn_then (cw_ret (pn_then_ret (pn_ret rfl rfl ⟨rfl, hE⟩)))))
    · have q26 := of_decide_eq_false s26
      refine o_p rfl rfl rfl ?_
      refine o_p rfl rfl rfl ?_
      refine o_p rfl rfl rfl ?_
      refine o_p rfl rfl rfl ?_
      refine o_p rfl rfl rfl ?_
      refine o_split 31 rfl (fun s31 => ?_) (fun s31 => ?_)
      · have q31 := of_decide_eq_true s31
        refine ow_skip rfl rfl ?_
        refine ow_skip rfl rfl ?_
        refine o_p rfl rfl rfl ?_
        refine o_p rfl rfl rfl ?_
        refine ow_skip rfl rfl ?_
        refine ow_skip rfl rfl ?_
        refine o_p rfl rfl rfl ?_
        refine o_p rfl rfl rfl ?_
        refine ow_skip rfl rfl ?_
        refine ow_skip rfl rfl ?_
        refine o_p rfl rfl rfl ?_
        refine (ow_nil (pn_then (cw_cond_t rfl (cw_seq (cw_region ?_)))))
        refine o_p rfl rfl rfl ?_
        refine o_p rfl rfl rfl ?_
        refine (ow_nil (pn_then (cw_ret (pn_then_ret (pn_ret rfl rfl ⟨rfl, hE⟩)))))
      · have q31 := of_decide_eq_false s31
        refine o_p rfl rfl rfl ?_
        refine ow_call rfl (ec_call rfl) rfl ((wide_spec h1).mono ?_)
        rintro _ w33 ⟨rfl, rfl⟩; refine ⟨_, rfl, ?_⟩
        refine o_p rfl rfl rfl ?_
        refine o_p rfl rfl rfl ?_
        refine o_split 35 rfl (fun s35 => ?_) (fun s35 => ?_)
        · have q35 := s35
          refine ow_skip rfl rfl ?_
          refine ow_skip rfl rfl ?_
          refine o_p rfl rfl rfl ?_
          refine o_p rfl rfl rfl ?_
          refine ow_skip rfl rfl ?_
          refine ow_skip rfl rfl ?_
          refine o_p rfl rfl rfl ?_
          refine (ow_nil (pn_then (cw_cond_t rfl (cw_seq (cw_region ?_)))))
          refine o_p rfl rfl rfl ?_
          refine o_p rfl rfl rfl ?_
          refine (ow_nil (pn_then (cw_ret (pn_then_ret (pn_ret rfl rfl ⟨rfl, hE⟩)))))
        · have q35 := s35
          refine o_p rfl rfl rfl ?_
          refine ow_call rfl (ec_call rfl) rfl ((wide_spec h2).mono ?_)
          rintro _ w37 ⟨rfl, rfl⟩; refine ⟨_, rfl, ?_⟩
          refine o_p rfl rfl rfl ?_
          refine o_p rfl rfl rfl ?_
          refine o_split 39 rfl (fun s39 => ?_) (fun s39 => ?_)
          · have q39 := s39
            refine ow_skip rfl rfl ?_
            refine ow_skip rfl rfl ?_
            refine o_p rfl rfl rfl ?_
            refine (ow_nil (pn_then (cw_cond_t rfl (cw_seq (cw_region ?_)))))
            refine o_p rfl rfl rfl ?_
            refine o_p rfl rfl rfl ?_
            refine (ow_nil (pn_then (cw_ret (pn_then_ret (pn_ret rfl rfl ⟨rfl, hE⟩)))))
          · have q39 := s39
            refine o_p rfl rfl rfl ?_
            refine ow_call rfl (ec_call rfl) rfl ((wide_spec h3).mono ?_)
            rintro _ w41 ⟨rfl, rfl⟩; refine ⟨_, rfl, ?_⟩
            refine o_p rfl rfl rfl ?_
            refine o_split 42 rfl (fun s42 => ?_) (fun s42 => ?_)
            · have q42 := s42
              refine (ow_nil (pn_then (cw_cond_t rfl (cw_seq (cw_region ?_)))))
              refine o_p rfl rfl rfl ?_
              refine o_p rfl rfl rfl ?_
              refine (ow_nil (pn_then (cw_ret (pn_then_ret (pn_ret rfl rfl ⟨rfl, hE⟩)))))
            · have q42 := s42
              refine (ow_nil (pn_then (cw_cond_f rfl (cw_skip (pn_then (cw_seq (cw_draw flo (fun W' => Ext w17 W') (by decide +kernel) (Fr.drew _) ?_)))))))
              have B6d := B6
              have B8d := B8
              have B10d := B10
              have hD : Ext w17 w17 := Fr.refl _ _
              have eD4 : Ext w17 w17.drew := Fr.drew _
              replace hE := hE.trans eD4
              replace hD := hD.trans eD4
              replace h1 := h1.ext eD4
              replace h2 := h2.ext eD4
              replace h3 := h3.ext eD4
              replace B6 := B6.ext eD4
              replace B8 := B8.ext eD4
              replace B10 := B10.ext eD4
              generalize w17.drew = wD4 at *
              refine dw_rd rfl rfl (fun W' hW' => ex_loadN (cs := [.int .i64 r1, .int .i64 n1]) rfl rfl rfl rfl (fun j _ => by rw [Nat.zero_add]; exact (Blk.ext B6d hW').cell j)) rfl ?_
              refine d_p rfl rfl rfl rfl ?_
              refine dw_rd rfl rfl (fun W' hW' => ex_loadN (cs := [.int .i64 r2, .int .i64 n2]) rfl rfl rfl rfl (fun j _ => by rw [Nat.zero_add]; exact (Blk.ext B8d hW').cell j)) rfl ?_
              refine d_p rfl rfl rfl rfl ?_
              refine dw_call rfl rfl (ec_call rfl) rfl ((Less_spec h1 h2).mono ?_)
              rintro _ w48 ⟨rfl, e48⟩
              replace hE := hE.trans e48
              replace hD := hD.trans e48
              replace h1 := h1.ext e48
              replace h2 := h2.ext e48
              replace h3 := h3.ext e48
              replace B6 := B6.ext e48
              replace B8 := B8.ext e48
              replace B10 := B10.ext e48
              refine ⟨_, rfl, hD, ?_⟩
              refine dw_rd rfl rfl (fun W' hW' => ex_loadN (cs := [.int .i64 r2, .int .i64 n2]) rfl rfl rfl rfl (fun j _ => by rw [Nat.zero_add]; exact (Blk.ext B8d hW').cell j)) rfl ?_
              refine d_p rfl rfl rfl rfl ?_
              refine dw_rd rfl rfl (fun W' hW' => ex_loadN (cs := [.int .i64 r1, .int .i64 n1]) rfl rfl rfl rfl (fun j _ => by rw [Nat.zero_add]; exact (Blk.ext B6d hW').cell j)) rfl ?_
              refine d_p rfl rfl rfl rfl ?_
              refine dw_call rfl rfl (ec_call rfl) rfl ((Less_spec h2 h1).mono ?_)
              rintro _ w53 ⟨rfl, e53⟩
              replace hE := hE.trans e53
              replace hD := hD.trans e53
              replace h1 := h1.ext e53
              replace h2 := h2.ext e53
              replace h3 := h3.ext e53
              replace B6 := B6.ext e53
              replace B8 := B8.ext e53
              replace B10 := B10.ext e53
              refine ⟨_, rfl, hD, ?_⟩
              refine dw_rd rfl rfl (fun W' hW' => ex_loadN (cs := [.int .i64 r2, .int .i64 n2]) rfl rfl rfl rfl (fun j _ => by rw [Nat.zero_add]; exact (Blk.ext B8d hW').cell j)) rfl ?_
              refine d_p rfl rfl rfl rfl ?_
              refine dw_rd rfl rfl (fun W' hW' => ex_loadN (cs := [.int .i64 r3, .int .i64 n3]) rfl rfl rfl rfl (fun j _ => by rw [Nat.zero_add]; exact (Blk.ext B10d hW').cell j)) rfl ?_
              refine d_p rfl rfl rfl rfl ?_
              refine dw_call rfl rfl (ec_call rfl) rfl ((Less_spec h2 h3).mono ?_)
              rintro _ w58 ⟨rfl, e58⟩
              replace hE := hE.trans e58
              replace hD := hD.trans e58
              replace h1 := h1.ext e58
              replace h2 := h2.ext e58
              replace h3 := h3.ext e58
              replace B6 := B6.ext e58
              replace B8 := B8.ext e58
              replace B10 := B10.ext e58
              refine ⟨_, rfl, hD, ?_⟩
              refine d_p rfl rfl rfl rfl ?_
              refine d_p rfl rfl rfl rfl ?_
              refine d_p rfl rfl rfl rfl ?_
              clear hD
              refine (dw_nil (pn_then (cw_seq (cw_seq (cw_region ?_)))))
              refine o_p rfl rfl rfl ?_
              refine o_p rfl rfl rfl ?_
              refine o_split 60 rfl (fun s60 => ?_) (fun s60 => ?_)
              · have q60 := s60
                refine o_p rfl rfl rfl ?_
                refine o_p rfl rfl rfl ?_
                refine o_p rfl rfl rfl ?_
                refine o_know 63 (.bool false) rfl (congrArg Value.bool (less_asym q60)) ?_
                refine o_p rfl rfl rfl ?_
                refine o_p rfl rfl rfl ?_
                refine o_know 65 (.bool true) rfl (congrArg Value.bool q60) ?_
                refine o_p rfl rfl rfl ?_
                refine o_p rfl rfl rfl ?_
                refine o_p rfl rfl rfl ?_
                refine o_split 68 rfl (fun s68 => ?_) (fun s68 => ?_)
                · have q68 := s68
                  refine ow_ex rfl (ex_loadN (cs := [.int .i64 r1, .int .i64 n1]) rfl rfl rfl rfl (fun j _ => by rw [Nat.zero_add]; exact B6.cell j)) rfl ?_
                  refine o_p rfl rfl rfl ?_
                  refine ow_ex rfl (ex_loadN (cs := [.int .i64 r3, .int .i64 n3]) rfl rfl rfl rfl (fun j _ => by rw [Nat.zero_add]; exact B10.cell j)) rfl ?_
                  refine o_p rfl rfl rfl ?_
                  refine ow_call rfl (ec_call rfl) rfl ((Less_spec h1 h3).mono ?_)
                  rintro _ w73 ⟨rfl, e73⟩
                  replace hE := hE.trans e73
                  replace h1 := h1.ext e73
                  replace h2 := h2.ext e73
                  replace h3 := h3.ext e73
                  replace B6 := B6.ext e73
                  replace B8 := B8.ext e73
                  replace B10 := B10.ext e73
                  refine ⟨_, rfl, ?_⟩
                  refine o_p rfl rfl rfl ?_
                  refine o_p rfl rfl rfl ?_
                  refine o_p rfl rfl rfl ?_
                  refine o_p rfl rfl rfl ?_
                  refine o_know 77 (.bool false) rfl (congrArg Value.bool (by rw [less_trans q60 q68]; rfl)) ?_
                  refine ow_ex rfl (ex_loadN (cs := [.int .i64 r1, .int .i64 n1]) rfl rfl rfl rfl (fun j _ => by rw [Nat.zero_add]; exact B6.cell j)) rfl ?_
                  refine o_p rfl rfl rfl ?_
                  refine ow_ex rfl (ex_loadN (cs := [.int .i64 r1, .int .i64 n1]) rfl rfl rfl rfl (fun j _ => by rw [Nat.zero_add]; exact B6.cell j)) rfl ?_
                  refine o_p rfl rfl rfl ?_
                  refine ow_call rfl (ec_call rfl) rfl ((Less_spec h1 h1).mono ?_)
                  rintro _ w82 ⟨rfl, e82⟩
                  replace hE := hE.trans e82
                  replace h1 := h1.ext e82
                  replace h2 := h2.ext e82
                  replace h3 := h3.ext e82
                  replace B6 := B6.ext e82
                  replace B8 := B8.ext e82
                  replace B10 := B10.ext e82
                  refine ⟨_, rfl, ?_⟩
                  refine o_p rfl rfl rfl ?_
                  refine o_p rfl rfl rfl ?_
                  refine o_know 84 (.bool false) rfl (congrArg Value.bool (less_irrefl _ _ _)) ?_
                  refine ow_ex rfl (ex_loadN (cs := [.int .i64 r1, .int .i64 n1]) rfl rfl rfl rfl (fun j _ => by rw [Nat.zero_add]; exact B6.cell j)) rfl ?_
                  refine ow_ex rfl (ex_loadN (cs := [.int .i64 r2, .int .i64 n2]) rfl rfl rfl rfl (fun j _ => by rw [Nat.zero_add]; exact B8.cell j)) rfl ?_
                  refine ow_pu rfl (pu_neA rfl rfl (eq_dot _ _ _ _)) rfl ?_
                  refine o_p rfl rfl rfl ?_
                  refine o_split 88 rfl (fun s88 => ?_) (fun s88 => ?_)
                  · have q88 := s88
                    refine o_p rfl rfl rfl ?_
                    refine o_p rfl rfl rfl ?_
                    refine o_p rfl rfl rfl ?_
                    refine o_p rfl rfl rfl ?_
                    refine o_know 92 (.bool false) rfl (congrArg Value.bool (by rw [q60]; rfl)) ?_
                    refine ow_skip rfl rfl ?_
                    refine ow_skip rfl rfl ?_
                    refine o_p rfl rfl rfl ?_
                    refine o_p rfl rfl rfl ?_
                    refine (ow_nil (pn_then (cw_cond_f rfl (cw_skip (pn_then (cw_seq (cw_region ?_)))))))
                    refine o_p rfl rfl rfl ?_
                    refine o_p rfl rfl rfl ?_
                    refine o_p rfl rfl rfl ?_
                    refine o_p rfl rfl rfl ?_
                    refine ow_call rfl (ec_call rfl) rfl ((Leq_spec h1 h2).mono ?_)
                    rintro _ w101 ⟨rfl, e101⟩
                    replace hE := hE.trans e101
                    replace h1 := h1.ext e101
                    replace h2 := h2.ext e101
                    replace h3 := h3.ext e101
                    replace B6 := B6.ext e101
                    replace B8 := B8.ext e101
                    replace B10 := B10.ext e101
                    refine ⟨_, rfl, ?_⟩
                    refine o_p rfl rfl rfl ?_
                    refine o_p rfl rfl rfl ?_
                    refine o_split 103 rfl (fun s103 => ?_) (fun s103 => ?_)
                    · have q103 := s103
                      refine ow_skip rfl rfl ?_
                      refine ow_skip rfl rfl ?_
                      refine ow_skip rfl rfl ?_
                      refine o_p rfl rfl rfl ?_
                      refine o_p rfl rfl rfl ?_
                      refine ow_skip rfl rfl ?_
                      refine o_p rfl rfl rfl ?_
                      refine o_p rfl rfl rfl ?_
                      refine o_p rfl rfl rfl ?_
                      refine (ow_nil (pn_then (cw_ret (pn_ret rfl rfl ⟨rfl, hE⟩))))
                    · have q103 := s103
                      refine o_p rfl rfl rfl ?_
                      refine o_p rfl rfl rfl ?_
                      refine ow_call rfl (ec_call rfl) rfl ((Leq_spec h2 h1).mono ?_)
                      rintro _ w106 ⟨rfl, e106⟩
                      replace hE := hE.trans e106
                      replace h1 := h1.ext e106
                      replace h2 := h2.ext e106
                      replace h3 := h3.ext e106
                      replace B6 := B6.ext e106
                      replace B8 := B8.ext e106
                      replace B10 := B10.ext e106
                      refine ⟨_, rfl, ?_⟩
                      refine o_p rfl rfl rfl ?_
                      refine o_p rfl rfl rfl ?_
                      refine o_split 108 rfl (fun s108 => ?_) (fun s108 => ?_)
                      · have q108 := s108
                        refine ow_skip rfl rfl ?_
                        refine o_p rfl rfl rfl ?_
                        refine o_p rfl rfl rfl ?_
                        refine o_p rfl rfl rfl ?_
                        refine (ow_nil (pn_then (cw_ret (pn_ret rfl rfl ⟨rfl, hE⟩))))
                      · have q108 := s108
                        refine o_p rfl rfl rfl ?_
                        refine o_p rfl rfl rfl ?_
                        refine o_p rfl rfl rfl ?_
                        refine o_p rfl rfl rfl ?_
                        refine o_know 12 (.bool true) rfl (congrArg Value.bool (less_of_leq q35 q39 (by omega) (by omega) (by simpa using q103) q108)) ?_
                        refine (ow_nil (pn_then (cw_ret (pn_ret rfl rfl ⟨rfl, hE⟩))))
                  · have q88 := s88
                    refine ow_skip rfl rfl ?_
                    refine ow_skip rfl rfl ?_
                    refine o_p rfl rfl rfl ?_
                    refine o_p rfl rfl rfl ?_
                    refine ow_skip rfl rfl ?_
                    refine ow_skip rfl rfl ?_
                    refine o_p rfl rfl rfl ?_
                    refine o_p rfl rfl rfl ?_
                    refine (ow_nil (pn_then (cw_cond_f rfl (cw_skip (pn_then (cw_seq (cw_region ?_)))))))
                    refine o_p rfl rfl rfl ?_
                    refine o_p rfl rfl rfl ?_
                    refine o_p rfl rfl rfl ?_
                    refine o_p rfl rfl rfl ?_
                    refine ow_call rfl (ec_call rfl) rfl ((Leq_spec h1 h2).mono ?_)
                    rintro _ w101 ⟨rfl, e101⟩
                    replace hE := hE.trans e101
                    replace h1 := h1.ext e101
                    replace h2 := h2.ext e101
                    replace h3 := h3.ext e101
                    replace B6 := B6.ext e101
                    replace B8 := B8.ext e101
                    replace B10 := B10.ext e101
                    refine ⟨_, rfl, ?_⟩
                    refine o_p rfl rfl rfl ?_
                    refine o_p rfl rfl rfl ?_
                    refine o_split 103 rfl (fun s103 => ?_) (fun s103 => ?_)
                    · have q103 := s103
                      refine ow_skip rfl rfl ?_
                      refine ow_skip rfl rfl ?_
                      refine ow_skip rfl rfl ?_
                      refine o_p rfl rfl rfl ?_
                      refine o_p rfl rfl rfl ?_
                      refine ow_skip rfl rfl ?_
                      refine o_p rfl rfl rfl ?_
                      refine o_p rfl rfl rfl ?_
                      refine o_p rfl rfl rfl ?_
                      refine (ow_nil (pn_then (cw_ret (pn_ret rfl rfl ⟨rfl, hE⟩))))
                    · have q103 := s103
                      refine o_p rfl rfl rfl ?_
                      refine o_p rfl rfl rfl ?_
                      refine ow_call rfl (ec_call rfl) rfl ((Leq_spec h2 h1).mono ?_)
                      rintro _ w106 ⟨rfl, e106⟩
                      replace hE := hE.trans e106
                      replace h1 := h1.ext e106
                      replace h2 := h2.ext e106
                      replace h3 := h3.ext e106
                      replace B6 := B6.ext e106
                      replace B8 := B8.ext e106
                      replace B10 := B10.ext e106
                      refine ⟨_, rfl, ?_⟩
                      refine o_p rfl rfl rfl ?_
                      refine o_p rfl rfl rfl ?_
                      refine o_split 108 rfl (fun s108 => ?_) (fun s108 => ?_)
                      · have q108 := s108
                        refine ow_skip rfl rfl ?_
                        refine o_p rfl rfl rfl ?_
                        refine o_p rfl rfl rfl ?_
                        refine o_p rfl rfl rfl ?_
                        refine (ow_nil (pn_then (cw_ret (pn_ret rfl rfl ⟨rfl, hE⟩))))
                      · have q108 := s108
                        refine o_p rfl rfl rfl ?_
                        refine o_p rfl rfl rfl ?_
                        refine o_p rfl rfl rfl ?_
                        refine o_p rfl rfl rfl ?_
                        refine o_know 12 (.bool true) rfl (congrArg Value.bool (less_of_leq q35 q39 (by omega) (by omega) (by simpa using q103) q108)) ?_
                        refine (ow_nil (pn_then (cw_ret (pn_ret rfl rfl ⟨rfl, hE⟩))))
                · have q68 := s68
                  refine ow_skip rfl rfl ?_
                  refine ow_skip rfl rfl ?_
                  refine ow_skip rfl rfl ?_
                  refine ow_skip rfl rfl ?_
                  refine ow_skip rfl rfl ?_
                  refine ow_skip rfl rfl ?_
                  refine o_p rfl rfl rfl ?_
                  refine o_p rfl rfl rfl ?_
                  refine o_p rfl rfl rfl ?_
                  refine ow_ex rfl (ex_loadN (cs := [.int .i64 r1, .int .i64 n1]) rfl rfl rfl rfl (fun j _ => by rw [Nat.zero_add]; exact B6.cell j)) rfl ?_
                  refine o_p rfl rfl rfl ?_
                  refine ow_ex rfl (ex_loadN (cs := [.int .i64 r1, .int .i64 n1]) rfl rfl rfl rfl (fun j _ => by rw [Nat.zero_add]; exact B6.cell j)) rfl ?_
                  refine o_p rfl rfl rfl ?_
                  refine ow_call rfl (ec_call rfl) rfl ((Less_spec h1 h1).mono ?_)
                  rintro _ w82 ⟨rfl, e82⟩
                  replace hE := hE.trans e82
                  replace h1 := h1.ext e82
                  replace h2 := h2.ext e82
                  replace h3 := h3.ext e82
                  replace B6 := B6.ext e82
                  replace B8 := B8.ext e82
                  replace B10 := B10.ext e82
                  refine ⟨_, rfl, ?_⟩
                  refine o_p rfl rfl rfl ?_
                  refine o_p rfl rfl rfl ?_
                  refine o_know 84 (.bool false) rfl (congrArg Value.bool (less_irrefl _ _ _)) ?_
                  refine ow_ex rfl (ex_loadN (cs := [.int .i64 r1, .int .i64 n1]) rfl rfl rfl rfl (fun j _ => by rw [Nat.zero_add]; exact B6.cell j)) rfl ?_
                  refine ow_ex rfl (ex_loadN (cs := [.int .i64 r2, .int .i64 n2]) rfl rfl rfl rfl (fun j _ => by rw [Nat.zero_add]; exact B8.cell j)) rfl ?_
                  refine ow_pu rfl (pu_neA rfl rfl (eq_dot _ _ _ _)) rfl ?_
                  refine o_p rfl rfl rfl ?_
                  refine o_split 88 rfl (fun s88 => ?_) (fun s88 => ?_)
                  · have q88 := s88
                    refine o_p rfl rfl rfl ?_
                    refine o_p rfl rfl rfl ?_
                    refine o_p rfl rfl rfl ?_
                    refine o_p rfl rfl rfl ?_
                    refine o_know 92 (.bool false) rfl (congrArg Value.bool (by rw [q60]; rfl)) ?_
                    refine ow_skip rfl rfl ?_
                    refine ow_skip rfl rfl ?_
                    refine o_p rfl rfl rfl ?_
                    refine o_p rfl rfl rfl ?_
                    refine (ow_nil (pn_then (cw_cond_f rfl (cw_skip (pn_then (cw_seq (cw_region ?_)))))))
                    refine o_p rfl rfl rfl ?_
                    refine o_p rfl rfl rfl ?_
                    refine o_p rfl rfl rfl ?_
                    refine o_p rfl rfl rfl ?_
                    refine ow_call rfl (ec_call rfl) rfl ((Leq_spec h1 h2).mono ?_)
                    rintro _ w101 ⟨rfl, e101⟩
                    replace hE := hE.trans e101
                    replace h1 := h1.ext e101
                    replace h2 := h2.ext e101
                    replace h3 := h3.ext e101
                    replace B6 := B6.ext e101
                    replace B8 := B8.ext e101
                    replace B10 := B10.ext e101
                    refine ⟨_, rfl, ?_⟩
                    refine o_p rfl rfl rfl ?_
                    refine o_p rfl rfl rfl ?_
                    refine o_split 103 rfl (fun s103 => ?_) (fun s103 => ?_)
                    · have q103 := s103
                      refine ow_skip rfl rfl ?_
                      refine ow_skip rfl rfl ?_
                      refine ow_skip rfl rfl ?_
                      refine o_p rfl rfl rfl ?_
                      refine o_p rfl rfl rfl ?_
                      refine ow_skip rfl rfl ?_
                      refine o_p rfl rfl rfl ?_
                      refine o_p rfl rfl rfl ?_
                      refine o_p rfl rfl rfl ?_
                      refine (ow_nil (pn_then (cw_ret (pn_ret rfl rfl ⟨rfl, hE⟩))))
                    · have q103 := s103
                      refine o_p rfl rfl rfl ?_
                      refine o_p rfl rfl rfl ?_
                      refine ow_call rfl (ec_call rfl) rfl ((Leq_spec h2 h1).mono ?_)
                      rintro _ w106 ⟨rfl, e106⟩
                      replace hE := hE.trans e106
                      replace h1 := h1.ext e106
                      replace h2 := h2.ext e106
                      replace h3 := h3.ext e106
                      replace B6 := B6.ext e106
                      replace B8 := B8.ext e106
                      replace B10 := B10.ext e106
                      refine ⟨_, rfl, ?_⟩
                      refine o_p rfl rfl rfl ?_
                      refine o_p rfl rfl rfl ?_
                      refine o_split 108 rfl (fun s108 => ?_) (fun s108 => ?_)
                      · have q108 := s108
                        refine ow_skip rfl rfl ?_
                        refine o_p rfl rfl rfl ?_
                        refine o_p rfl rfl rfl ?_
                        refine o_p rfl rfl rfl ?_
                        refine (ow_nil (pn_then (cw_ret (pn_ret rfl rfl ⟨rfl, hE⟩))))
                      · have q108 := s108
                        refine o_p rfl rfl rfl ?_
                        refine o_p rfl rfl rfl ?_
                        refine o_p rfl rfl rfl ?_
                        refine o_p rfl rfl rfl ?_
                        refine o_know 12 (.bool true) rfl (congrArg Value.bool (less_of_leq q35 q39 (by omega) (by omega) (by simpa using q103) q108)) ?_
                        refine (ow_nil (pn_then (cw_ret (pn_ret rfl rfl ⟨rfl, hE⟩))))
                  · have q88 := s88
                    refine ow_skip rfl rfl ?_
                    refine ow_skip rfl rfl ?_
                    refine o_p rfl rfl rfl ?_
                    refine o_p rfl rfl rfl ?_
                    refine ow_skip rfl rfl ?_
                    refine ow_skip rfl rfl ?_
                    refine o_p rfl rfl rfl ?_
                    refine o_p rfl rfl rfl ?_
                    refine (ow_nil (pn_then (cw_cond_f rfl (cw_skip (pn_then (cw_seq (cw_region ?_)))))))
                    refine o_p rfl rfl rfl ?_
                    refine o_p rfl rfl rfl ?_
                    refine o_p rfl rfl rfl ?_
                    refine o_p rfl rfl rfl ?_
                    refine ow_call rfl (ec_call rfl) rfl ((Leq_spec h1 h2).mono ?_)
                    rintro _ w101 ⟨rfl, e101⟩
                    replace hE := hE.trans e101
                    replace h1 := h1.ext e101
                    replace h2 := h2.ext e101
                    replace h3 := h3.ext e101
                    replace B6 := B6.ext e101
                    replace B8 := B8.ext e101
                    replace B10 := B10.ext e101
                    refine ⟨_, rfl, ?_⟩
                    refine o_p rfl rfl rfl ?_
                    refine o_p rfl rfl rfl ?_
                    refine o_split 103 rfl (fun s103 => ?_) (fun s103 => ?_)
                    · have q103 := s103
                      refine ow_skip rfl rfl ?_
                      refine ow_skip rfl rfl ?_
                      refine ow_skip rfl rfl ?_
                      refine o_p rfl rfl rfl ?_
                      refine o_p rfl rfl rfl ?_
                      refine ow_skip rfl rfl ?_
                      refine o_p rfl rfl rfl ?_
                      refine o_p rfl rfl rfl ?_
                      refine o_p rfl rfl rfl ?_
                      refine (ow_nil (pn_then (cw_ret (pn_ret rfl rfl ⟨rfl, hE⟩))))
                    · have q103 := s103
                      refine o_p rfl rfl rfl ?_
                      refine o_p rfl rfl rfl ?_
                      refine ow_call rfl (ec_call rfl) rfl ((Leq_spec h2 h1).mono ?_)
                      rintro _ w106 ⟨rfl, e106⟩
                      replace hE := hE.trans e106
                      replace h1 := h1.ext e106
                      replace h2 := h2.ext e106
                      replace h3 := h3.ext e106
                      replace B6 := B6.ext e106
                      replace B8 := B8.ext e106
                      replace B10 := B10.ext e106
                      refine ⟨_, rfl, ?_⟩
                      refine o_p rfl rfl rfl ?_
                      refine o_p rfl rfl rfl ?_
                      refine o_split 108 rfl (fun s108 => ?_) (fun s108 => ?_)
                      · have q108 := s108
                        refine ow_skip rfl rfl ?_
                        refine o_p rfl rfl rfl ?_
                        refine o_p rfl rfl rfl ?_
                        refine o_p rfl rfl rfl ?_
                        refine (ow_nil (pn_then (cw_ret (pn_ret rfl rfl ⟨rfl, hE⟩))))
                      · have q108 := s108
                        refine o_p rfl rfl rfl ?_
                        refine o_p rfl rfl rfl ?_
                        refine o_p rfl rfl rfl ?_
                        refine o_p rfl rfl rfl ?_
                        refine o_know 12 (.bool true) rfl (congrArg Value.bool (less_of_leq q35 q39 (by omega) (by omega) (by simpa using q103) q108)) ?_
                        refine (ow_nil (pn_then (cw_ret (pn_ret rfl rfl ⟨rfl, hE⟩))))
              · have q60 := s60
                refine ow_skip rfl rfl ?_
                refine o_p rfl rfl rfl ?_
                refine o_p rfl rfl rfl ?_
                refine o_p rfl rfl rfl ?_
                refine o_p rfl rfl rfl ?_
                refine o_know 65 (.bool false) rfl (congrArg Value.bool q60) ?_
                refine ow_skip rfl rfl ?_
                refine o_p rfl rfl rfl ?_
                refine o_p rfl rfl rfl ?_
                refine ow_skip rfl rfl ?_
                refine ow_skip rfl rfl ?_
                refine ow_skip rfl rfl ?_
                refine ow_skip rfl rfl ?_
                refine ow_skip rfl rfl ?_
                refine ow_skip rfl rfl ?_
                refine o_p rfl rfl rfl ?_
                refine o_p rfl rfl rfl ?_
                refine o_p rfl rfl rfl ?_
                refine ow_ex rfl (ex_loadN (cs := [.int .i64 r1, .int .i64 n1]) rfl rfl rfl rfl (fun j _ => by rw [Nat.zero_add]; exact B6.cell j)) rfl ?_
                refine o_p rfl rfl rfl ?_
                refine ow_ex rfl (ex_loadN (cs := [.int .i64 r1, .int .i64 n1]) rfl rfl rfl rfl (fun j _ => by rw [Nat.zero_add]; exact B6.cell j)) rfl ?_
                refine o_p rfl rfl rfl ?_
                refine ow_call rfl (ec_call rfl) rfl ((Less_spec h1 h1).mono ?_)
                rintro _ w82 ⟨rfl, e82⟩
                replace hE := hE.trans e82
                replace h1 := h1.ext e82
                replace h2 := h2.ext e82
                replace h3 := h3.ext e82
                replace B6 := B6.ext e82
                replace B8 := B8.ext e82
                replace B10 := B10.ext e82
                refine ⟨_, rfl, ?_⟩
                refine o_p rfl rfl rfl ?_
                refine o_p rfl rfl rfl ?_
                refine o_know 84 (.bool false) rfl (congrArg Value.bool (less_irrefl _ _ _)) ?_
                refine ow_ex rfl (ex_loadN (cs := [.int .i64 r1, .int .i64 n1]) rfl rfl rfl rfl (fun j _ => by rw [Nat.zero_add]; exact B6.cell j)) rfl ?_
                refine ow_ex rfl (ex_loadN (cs := [.int .i64 r2, .int .i64 n2]) rfl rfl rfl rfl (fun j _ => by rw [Nat.zero_add]; exact B8.cell j)) rfl ?_
                refine ow_pu rfl (pu_neA rfl rfl (eq_dot _ _ _ _)) rfl ?_
                refine o_p rfl rfl rfl ?_
                refine o_split 88 rfl (fun s88 => ?_) (fun s88 => ?_)
                · have q88 := s88
                  refine o_p rfl rfl rfl ?_
                  refine o_p rfl rfl rfl ?_
                  refine o_p rfl rfl rfl ?_
                  refine o_p rfl rfl rfl ?_
                  refine o_know 92 (.bool true) rfl (congrArg Value.bool (by rw [q60]; rfl)) ?_
                  refine o_p rfl rfl rfl ?_
                  refine o_p rfl rfl rfl ?_
                  refine o_p rfl rfl rfl ?_
                  refine o_p rfl rfl rfl ?_
                  refine o_know 96 (.bool false) rfl (congrArg Value.bool (by rw [less_total (by simpa only [Bool.not_eq_true', decide_eq_false_iff_not] using q88) q60]; rfl)) ?_
                  refine (ow_nil (pn_then (cw_cond_f rfl (cw_skip (pn_then (cw_seq (cw_region ?_)))))))
                  refine o_p rfl rfl rfl ?_
                  refine o_p rfl rfl rfl ?_
                  refine o_p rfl rfl rfl ?_
                  refine o_p rfl rfl rfl ?_
                  refine ow_call rfl (ec_call rfl) rfl ((Leq_spec h1 h2).mono ?_)
                  rintro _ w101 ⟨rfl, e101⟩
                  replace hE := hE.trans e101
                  replace h1 := h1.ext e101
                  replace h2 := h2.ext e101
                  replace h3 := h3.ext e101
                  replace B6 := B6.ext e101
                  replace B8 := B8.ext e101
                  replace B10 := B10.ext e101
                  refine ⟨_, rfl, ?_⟩
                  refine o_p rfl rfl rfl ?_
                  refine o_p rfl rfl rfl ?_
                  refine o_split 103 rfl (fun s103 => ?_) (fun s103 => ?_)
                  · have q103 := s103
                    refine ow_skip rfl rfl ?_
                    refine ow_skip rfl rfl ?_
                    refine ow_skip rfl rfl ?_
                    refine o_p rfl rfl rfl ?_
                    refine o_p rfl rfl rfl ?_
                    refine ow_skip rfl rfl ?_
                    refine o_p rfl rfl rfl ?_
                    refine o_p rfl rfl rfl ?_
                    refine o_p rfl rfl rfl ?_
                    refine (ow_nil (pn_then (cw_ret (pn_ret rfl rfl ⟨rfl, hE⟩))))
                  · have q103 := s103
                    refine o_p rfl rfl rfl ?_
                    refine o_p rfl rfl rfl ?_
                    refine ow_call rfl (ec_call rfl) rfl ((Leq_spec h2 h1).mono ?_)
                    rintro _ w106 ⟨rfl, e106⟩
                    replace hE := hE.trans e106
                    replace h1 := h1.ext e106
                    replace h2 := h2.ext e106
                    replace h3 := h3.ext e106
                    replace B6 := B6.ext e106
                    replace B8 := B8.ext e106
                    replace B10 := B10.ext e106
                    refine ⟨_, rfl, ?_⟩
                    refine o_p rfl rfl rfl ?_
                    refine o_p rfl rfl rfl ?_
                    refine o_split 108 rfl (fun s108 => ?_) (fun s108 => ?_)
                    · have q108 := s108
                      refine ow_skip rfl rfl ?_
                      refine o_p rfl rfl rfl ?_
                      refine o_p rfl rfl rfl ?_
                      refine o_p rfl rfl rfl ?_
                      refine (ow_nil (pn_then (cw_ret (pn_ret rfl rfl ⟨rfl, hE⟩))))
                    · have q108 := s108
                      refine o_p rfl rfl rfl ?_
                      refine o_p rfl rfl rfl ?_
                      refine o_p rfl rfl rfl ?_
                      refine o_p rfl rfl rfl ?_
                      refine o_know 12 (.bool true) rfl (congrArg Value.bool (less_of_leq q35 q39 (by omega) (by omega) (by simpa using q103) q108)) ?_
                      refine (ow_nil (pn_then (cw_ret (pn_ret rfl rfl ⟨rfl, hE⟩))))
                · have q88 := s88
                  refine ow_skip rfl rfl ?_
                  refine ow_skip rfl rfl ?_
                  refine o_p rfl rfl rfl ?_
                  refine o_p rfl rfl rfl ?_
                  refine ow_skip rfl rfl ?_
                  refine ow_skip rfl rfl ?_
                  refine o_p rfl rfl rfl ?_
                  refine o_p rfl rfl rfl ?_
                  refine (ow_nil (pn_then (cw_cond_f rfl (cw_skip (pn_then (cw_seq (cw_region ?_)))))))
                  refine o_p rfl rfl rfl ?_
                  refine o_p rfl rfl rfl ?_
                  refine o_p rfl rfl rfl ?_
                  refine o_p rfl rfl rfl ?_
                  refine ow_call rfl (ec_call rfl) rfl ((Leq_spec h1 h2).mono ?_)
                  rintro _ w101 ⟨rfl, e101⟩
                  replace hE := hE.trans e101
                  replace h1 := h1.ext e101
                  replace h2 := h2.ext e101
                  replace h3 := h3.ext e101
                  replace B6 := B6.ext e101
                  replace B8 := B8.ext e101
                  replace B10 := B10.ext e101
                  refine ⟨_, rfl, ?_⟩
                  refine o_p rfl rfl rfl ?_
                  refine o_p rfl rfl rfl ?_
                  refine o_split 103 rfl (fun s103 => ?_) (fun s103 => ?_)
                  · have q103 := s103
                    refine ow_skip rfl rfl ?_
                    refine ow_skip rfl rfl ?_
                    refine ow_skip rfl rfl ?_
                    refine o_p rfl rfl rfl ?_
                    refine o_p rfl rfl rfl ?_
                    refine ow_skip rfl rfl ?_
                    refine o_p rfl rfl rfl ?_
                    refine o_p rfl rfl rfl ?_
                    refine o_p rfl rfl rfl ?_
                    refine (ow_nil (pn_then (cw_ret (pn_ret rfl rfl ⟨rfl, hE⟩))))
                  · have q103 := s103
                    refine o_p rfl rfl rfl ?_
                    refine o_p rfl rfl rfl ?_
                    refine ow_call rfl (ec_call rfl) rfl ((Leq_spec h2 h1).mono ?_)
                    rintro _ w106 ⟨rfl, e106⟩
                    replace hE := hE.trans e106
                    replace h1 := h1.ext e106
                    replace h2 := h2.ext e106
                    replace h3 := h3.ext e106
                    replace B6 := B6.ext e106
                    replace B8 := B8.ext e106
                    replace B10 := B10.ext e106
                    refine ⟨_, rfl, ?_⟩
                    refine o_p rfl rfl rfl ?_
                    refine o_p rfl rfl rfl ?_
                    refine o_split 108 rfl (fun s108 => ?_) (fun s108 => ?_)
                    · have q108 := s108
                      refine ow_skip rfl rfl ?_
                      refine o_p rfl rfl rfl ?_
                      refine o_p rfl rfl rfl ?_
                      refine o_p rfl rfl rfl ?_
                      refine (ow_nil (pn_then (cw_ret (pn_ret rfl rfl ⟨rfl, hE⟩))))
                    · have q108 := s108
                      refine o_p rfl rfl rfl ?_
                      refine o_p rfl rfl rfl ?_
                      refine o_p rfl rfl rfl ?_
                      refine o_p rfl rfl rfl ?_
                      refine o_know 12 (.bool true) rfl (congrArg Value.bool (less_of_leq q35 q39 (by omega) (by omega) (by simpa using q103) q108)) ?_
                      refine (ow_nil (pn_then (cw_ret (pn_ret rfl rfl ⟨rfl, hE⟩))))
end Go.Proofs.Ytplkinnaccpomaa
