/- Vectors, part four: the document's answers (entrepotref14): Leq, Same, Join, Meet, Has, Next, Weight. Conditions: the vectors may be read, and are not too long. -/
import Derived.Test.YtplkinnaccpomaaVecC
namespace Go.Proofs.Ytplkinnaccpomaa
open Go.Eng Go.RowKit

theorem refLeq_spec {va vb : Value} {xs ys : List Int} {w : World} (ha : IL w va xs) (hb : IL w vb ys) (hx : xs.length ≤ 1048576) : Calls Try.prog n_entrepotref14_Leq #[va, vb] w fun e w' => e = .returned (.bool (leqL xs ys)) ∧ Ext w w' := by
  obtain ⟨A, c, rfl, hnc, hcm, hz, hcell⟩ := id ha
  refine enter2 F_entrepotref14_Leq rfl rfl ?_
  repeat (first | refine o_p rfl rfl rfl ?_ | refine on ?_ | refine sr ?_ | refine ss ?_)
  refine cw_block (cw_loop (G := Nat) (fun i => [(0, .slice A xs.length c), (1, vb), (5, .int .i64 ((i : Int) + 1))]) (fun i W => Ext w W ∧ i ≤ xs.length ∧ ∀ j, j < i → nn xs j ≤ nn ys j) (fun i => xs.length - i) ?_ ?_)
  · exact ⟨0, ⟨rfl, rfl, rfl, trivial⟩, Fr.refl _ _, Nat.zero_le _, fun j hj => by omega⟩
  rintro i W ⟨hE, hi, hJ⟩
  try dsimp only
  repeat (first | refine o_p rfl rfl rfl ?_ | refine on ?_ | refine sr ?_ | refine ss ?_)
  refine cw_if rfl (fun h => ?_) (fun h => ?_)
  · refine (cw_skip (pn_then (cw_seq (cw_block (cw_seq (cw_region ?_))))))
    repeat refine o_p rfl rfl rfl ?_
    refine ow_call rfl (ec_call rfl) rfl ((At_spec_entrepotref14_At (ha.ext hE)).mono ?_)
    rintro _ w1 ⟨rfl, rfl⟩; refine ⟨_, rfl, ?_⟩
    repeat refine o_p rfl rfl rfl ?_
    refine ow_call rfl (ec_call rfl) rfl ((At_spec_entrepotref14_At (hb.ext hE)).mono ?_)
    rintro _ w1 ⟨rfl, rfl⟩; refine ⟨_, rfl, ?_⟩
    repeat refine o_p rfl rfl rfl ?_
    rw [atL_succ, atL_succ]
    refine (ow_nil (pn_then (cw_if rfl (fun h2 => ?_) (fun h2 => ?_))))
    · refine (cw_seq (cw_region ?_))
      repeat refine o_p rfl rfl rfl ?_
      refine (ow_nil (pn_then (cw_ret (pn_block_ret (pn_then_ret (pn_loop_ret (pn_block_ret (pn_then_ret (pn_ret rfl rfl ⟨?_, hE⟩)))))))))
      have : ¬ leqL xs ys = true := fun hh => by have := (leqL_iff xs ys).1 hh i; omega
      simp [this]
    · refine (cw_skip (pn_block (pn_then (cw_region ?_))))
      repeat refine o_p rfl rfl rfl ?_
      refine o_c rfl rfl rfl (by unfold I64; omega) ?_
      repeat refine o_p rfl rfl rfl ?_
      refine (ow_nil (pn_round (i + 1) ?_ ?_ ?_))
      · exact ⟨rfl, rfl, rfl, trivial⟩
      · refine ⟨hE, by omega, fun j hj => ?_⟩
        rcases Nat.lt_or_ge j i with h3 | h3
        · exact hJ j h3
        · obtain rfl : j = i := by omega
          omega
      · show xs.length - (i + 1) < xs.length - i; omega
  · refine (cw_exit (pn_then_exit (pn_loop_exit (pn_block_exit (pn_then (cw_seq (cw_region ?_)))))))
    repeat refine o_p rfl rfl rfl ?_
    refine (ow_nil (pn_then (cw_ret (pn_ret rfl rfl ⟨?_, hE⟩))))
    have : leqL xs ys = true := (leqL_iff xs ys).2 fun j => by
      rcases Nat.lt_or_ge j i with h3 | h3
      · exact hJ j h3
      · rw [nn_out (xs := xs) (by omega)]; exact nn_nonneg _ _
    rw [this]

theorem refSame_spec {va vb : Value} {xs ys : List Int} {w : World} (ha : IL w va xs) (hb : IL w vb ys) (hx : xs.length ≤ 1048576) (hy : ys.length ≤ 1048576) : Calls Try.prog n_entrepotref14_Same #[va, vb] w fun e w' => e = .returned (.bool (sameL xs ys)) ∧ Ext w w' := by
  refine enter2 F_entrepotref14_Same rfl rfl ?_
  repeat (first | refine o_p rfl rfl rfl ?_ | refine on ?_ | refine sr ?_ | refine ss ?_)
  refine ow_call rfl (ec_call rfl) rfl ((refLeq_spec ha hb hx).mono ?_)
  rintro _ w1 ⟨rfl, e1⟩; refine ⟨_, rfl, ?_⟩
  repeat refine o_p rfl rfl rfl ?_
  rw [sameL_eq]
  refine o_split 8 rfl (fun h1 => ?_) (fun h1 => ?_)
  · repeat refine o_p rfl rfl rfl ?_
    refine ow_call rfl (ec_call rfl) rfl ((refLeq_spec (hb.ext e1) (ha.ext e1) hy).mono ?_)
    rintro _ w2 ⟨rfl, e2⟩; refine ⟨_, rfl, ?_⟩
    repeat refine o_p rfl rfl rfl ?_
    refine (ow_nil (pn_then (cw_ret (pn_ret rfl rfl ⟨?_, e1.trans e2⟩))))
    simp [h1]
  · repeat (first | refine o_p rfl rfl rfl ?_ | refine ow_skip rfl rfl ?_)
    refine (ow_nil (pn_then (cw_ret (pn_ret rfl rfl ⟨?_, e1⟩))))
    simp [h1]

theorem refHas_spec {va : Value} {xs : List Int} {r n : Int} {w : World} (ha : IL w va xs) : Calls Try.prog n_entrepotref14_Has #[va, dotV r n] w fun e w' => e = .returned (.bool (hasL xs r n)) ∧ Ext w w' := by
  refine enter2 F_entrepotref14_Has rfl rfl ?_
  refine (cw_seq (cw_region ?_))
  refine ow_ex rfl (ex_box rfl) rfl ?_
  have B : Blk (w.alloc (.cells (dotV r n).cells t_api_Dot)) w.heap.size t_api_Dot [.int .i64 r, .int .i64 n] := Blk.new w _ _
  have e1 : Ext w (w.alloc (.cells (dotV r n).cells t_api_Dot)) := Fr.alloc _ _
  generalize w.alloc (.cells (dotV r n).cells t_api_Dot) = w1 at *
  have hR := B.cell 0
  have hN := B.cell 1
  repeat refine o_p rfl rfl rfl ?_
  refine (ow_nil (pn_then (cw_seq (cw_draw flo (fun W' => Ext w1 W') (by decide) (Fr.drew _) ?_))))
  repeat refine d_p rfl rfl rfl rfl ?_
  refine dw_rd rfl rfl (fun W' hW' => ex_load rfl rfl rfl (hW'.cell hR)) rfl ?_
  repeat refine d_p rfl rfl rfl rfl ?_
  refine d_if 8 rfl (fun h1 => ?_) (fun h1 => ?_)
  · repeat refine d_p rfl rfl rfl rfl ?_
    refine dw_rd rfl rfl (fun W' hW' => ex_load rfl rfl rfl (hW'.cell hN)) rfl ?_
    repeat refine d_p rfl rfl rfl rfl ?_
    refine d_if 13 rfl (fun h2 => ?_) (fun h2 => ?_)
    · repeat refine d_p rfl rfl rfl rfl ?_
      refine dw_rd rfl rfl (fun W' hW' => ex_load rfl rfl rfl (hW'.cell hN)) rfl ?_
      repeat refine d_p rfl rfl rfl rfl ?_
      refine dw_rd rfl rfl (fun W' hW' => ex_load rfl rfl rfl (hW'.cell hR)) rfl ?_
      refine dw_call rfl rfl (ec_call rfl) rfl ((At_spec_entrepotref14_At (ha.ext (e1.trans (Fr.drew _)))).mono ?_)
      rintro _ w2 ⟨rfl, rfl⟩; refine ⟨_, rfl, Fr.drew _, ?_⟩
      repeat refine d_p rfl rfl rfl rfl ?_
      refine (dw_nil (pn_then (cw_ret (pn_ret rfl rfl ⟨?_, e1.trans (Fr.drew _)⟩))))
      simp [hasL, h1, h2]
    · repeat (first | refine d_p rfl rfl rfl rfl ?_ | refine dw_skip rfl rfl ?_)
      refine (dw_nil (pn_then (cw_ret (pn_ret rfl rfl ⟨?_, e1.trans (Fr.drew _)⟩))))
      simp [hasL, h2]
  · repeat (first | refine d_p rfl rfl rfl rfl ?_ | refine dw_skip rfl rfl ?_)
    refine (dw_nil (pn_then (cw_ret (pn_ret rfl rfl ⟨?_, e1.trans (Fr.drew _)⟩))))
    simp [hasL, h1]

theorem refNext_spec {va : Value} {xs : List Int} {r : Int} {w : World} (ha : IL w va xs) : Calls Try.prog n_entrepotref14_Next #[va, .int .i64 r] w fun e w' => e = .returned (dotV (nextL xs r).1 (nextL xs r).2) ∧ Ext w w' := by
  have hone : ∀ a b : Int, ∀ u ∈ [Value.int .i64 a, .int .i64 b], u.oneCell' = true := by intro a b u hu; simp at hu; rcases hu with rfl | rfl <;> rfl
  refine enter2 F_entrepotref14_Next rfl rfl ?_
  refine (cw_seq (cw_region ?_))
  refine ow_ex rfl (ex_alloc rfl) rfl ?_
  have B : Blk (w.alloc (.cells (dotV 0 0).cells t_api_Dot)) w.heap.size t_api_Dot [.int .i64 0, .int .i64 0] := Blk.new w _ _
  have e1 : Ext w (w.alloc (.cells (dotV 0 0).cells t_api_Dot)) := Fr.alloc _ _
  change OW _ _ _ _ _ _ _ _ (w.alloc (.cells (dotV 0 0).cells t_api_Dot))
  generalize w.alloc (.cells (dotV 0 0).cells t_api_Dot) = w1 at *
  repeat (first | refine o_p rfl rfl rfl ?_ | refine on ?_ | refine sr ?_ | refine ss ?_)
  refine o_if 7 rfl (fun h1 => ?_) (fun h1 => ?_)
  · repeat (first | refine o_p rfl rfl rfl ?_ | refine ow_skip rfl rfl ?_)
    refine on (cw_cond_t rfl ?_)
    refine sr ?_
    refine o_b rfl rfl rfl ?_
    refine ow_eu rfl (eu_storeB (vs := [.int .i64 0, .int .i64 0]) rfl rfl rfl rfl rfl (hone _ _) B rfl) ?_
    refine (ow_nil (pn_then (cw_ret (pn_then_ret (pn_retC rfl rfl rfl rfl rfl (B.setRow) ⟨?_, ?_⟩)))))
    · simp [nextL, h1, spl]
    · exact e1.trans' (Fr.setRow _ _ _) (fun j hj h => by omega)
  · repeat refine o_p rfl rfl rfl ?_
    refine ow_call rfl (ec_call rfl) rfl ((At_spec_entrepotref14_At (ha.ext e1)).mono ?_)
    rintro _ w2 ⟨rfl, rfl⟩; refine ⟨_, rfl, ?_⟩
    repeat refine o_p rfl rfl rfl ?_
    refine on (cw_if rfl (fun h2 => ?_) (fun h2 => ?_))
    · refine sr ?_
      refine o_b rfl rfl rfl ?_
      refine ow_eu rfl (eu_storeB (vs := [.int .i64 0, .int .i64 0]) rfl rfl rfl rfl rfl (hone _ _) B rfl) ?_
      refine (ow_nil (pn_then (cw_ret (pn_then_ret (pn_retC rfl rfl rfl rfl rfl (B.setRow) ⟨?_, ?_⟩)))))
      · have : capI ≤ atL xs r := h2
        simp [nextL, this, spl]
      · exact e1.trans' (Fr.setRow _ _ _) (fun j hj h => by omega)
    · refine (cw_skip (pn_then (cw_seq (cw_region ?_))))
      repeat refine o_p rfl rfl rfl ?_
      refine ow_call rfl (ec_call rfl) rfl ((At_spec_entrepotref14_At (ha.ext e1)).mono ?_)
      rintro _ w2 ⟨rfl, rfl⟩; refine ⟨_, rfl, ?_⟩
      have h3 : ¬ capI ≤ atL xs r := h2
      refine o_c rfl rfl rfl (by have := atL_nonneg xs r; unfold capI at h3; unfold I64; omega) ?_
      refine o_b rfl rfl rfl ?_
      refine ow_eu rfl (eu_storeB (vs := [.int .i64 r, .int .i64 (atL xs r + 1)]) rfl rfl rfl rfl rfl (hone _ _) B rfl) ?_
      refine (ow_nil (pn_then (cw_ret (pn_retC rfl rfl rfl rfl rfl (B.setRow) ⟨?_, ?_⟩))))
      · simp [nextL, h1, h3, spl]
      · exact e1.trans' (Fr.setRow _ _ _) (fun j hj h => by omega)

theorem refWeight_spec {va : Value} {xs : List Int} {w : World} (ha : IL w va xs) (hx : xs.length ≤ 1048576) : Calls Try.prog n_entrepotref14_Weight #[va] w fun e w' => e = .returned (.int .i64 (weightL xs)) ∧ Ext w w' := by
  obtain ⟨A, c, rfl, hnc, hcm, hz, hcell⟩ := id ha
  refine enter1 F_entrepotref14_Weight rfl rfl ?_
  repeat (first | refine o_p rfl rfl rfl ?_ | refine on ?_ | refine sr ?_ | refine ss ?_)
  refine cw_block (cw_loop (G := Nat) (fun i => [(0, .slice A xs.length c), (3, .int .i64 (weightF xs i)), (4, .int .i64 ((i : Int) + 1))]) (fun i W => Ext w W ∧ i ≤ xs.length) (fun i => xs.length - i) ?_ ?_)
  · exact ⟨0, ⟨rfl, rfl, rfl, trivial⟩, Fr.refl _ _, Nat.zero_le _⟩
  rintro i W ⟨hE, hi⟩
  try dsimp only
  have hwb := weightF_bound xs i
  have hnn := nn_nonneg xs i
  unfold capI at hwb
  repeat (first | refine o_p rfl rfl rfl ?_ | refine on ?_ | refine sr ?_ | refine ss ?_)
  refine cw_if rfl (fun h => ?_) (fun h => ?_)
  · refine (cw_skip (pn_then (cw_seq (cw_block (cw_seq (cw_region ?_))))))
    repeat refine o_p rfl rfl rfl ?_
    refine ow_call rfl (ec_call rfl) rfl ((At_spec_entrepotref14_At (ha.ext hE)).mono ?_)
    rintro _ w1 ⟨rfl, rfl⟩; refine ⟨_, rfl, ?_⟩
    rw [atL_succ]
    repeat (first | refine o_p rfl rfl rfl ?_ | refine on ?_ | refine sr ?_ | refine ss ?_)
    refine o_c rfl rfl rfl (by unfold I64; omega) ?_
    repeat refine o_p rfl rfl rfl ?_
    refine on (cw_if rfl (fun h2 => ?_) (fun h2 => ?_))
    · refine (cw_seq (cw_region ?_))
      repeat refine o_p rfl rfl rfl ?_
      refine (ow_nil (pn_then (cw_ret (pn_then_ret (pn_block_ret (pn_then_ret (pn_loop_ret (pn_block_ret (pn_then_ret (pn_ret rfl rfl ⟨?_, hE⟩))))))))))
      have h3 : weightF xs (i + 1) = capI := by simp only [weightF]; unfold capI; omega
      have := weightF_cap xs (i + 1) (xs.length - (i + 1)) h3
      rw [show i + 1 + (xs.length - (i + 1)) = xs.length from by omega] at this
      rw [weightL, this]; rfl
    · refine (cw_skip (pn_then (cw_region ?_)))
      repeat refine o_p rfl rfl rfl ?_
      refine o_c rfl rfl rfl (by unfold I64; omega) ?_
      repeat refine o_p rfl rfl rfl ?_
      refine (ow_nil (pn_block (pn_then (cw_region ?_))))
      repeat refine o_p rfl rfl rfl ?_
      refine o_c rfl rfl rfl (by unfold I64; omega) ?_
      repeat refine o_p rfl rfl rfl ?_
      have h3 : weightF xs i + nn xs i = weightF xs (i + 1) := by simp only [weightF]; unfold capI; omega
      rw [h3]
      refine (ow_nil (pn_round (i + 1) ?_ ?_ ?_))
      · exact ⟨rfl, rfl, rfl, trivial⟩
      · exact ⟨hE, by omega⟩
      · show xs.length - (i + 1) < xs.length - i; omega
  · refine (cw_exit (pn_then_exit (pn_loop_exit (pn_block_exit (pn_then (cw_seq (cw_region ?_)))))))
    repeat refine o_p rfl rfl rfl ?_
    refine (ow_nil (pn_then (cw_ret (pn_ret rfl rfl ⟨?_, hE⟩))))
    obtain rfl : i = xs.length := by omega
    rfl

theorem refJoin_spec {va vb : Value} {xs ys : List Int} {w : World} (ha : IL w va xs) (hb : IL w vb ys) (hx : xs.length ≤ 1048576) (hy : ys.length ≤ 1048576) :
    Calls Try.prog n_entrepotref14_Join #[va, vb] w fun e w' => ∃ v, e = .returned v ∧ Mine w' w.heap.size t_int 1 v (joinL xs ys).length ((joinL xs ys).map (Value.int .i64)) ∧ Ext w w' := by
  obtain ⟨A, c, rfl, hnc, hcm, hz, hcell⟩ := ha.op
  obtain ⟨A', c', rfl, hnc', hcm', hz', hcell'⟩ := hb.op
  have hlen : (joinL xs ys).length = max xs.length ys.length := by simp [pickL]
  have hmax : max (xs.length : Int) (ys.length : Int) = ((max xs.length ys.length : Nat) : Int) := by omega
  refine enter2 F_entrepotref14_Join rfl rfl ?_
  repeat (first | refine o_p rfl rfl rfl ?_ | refine on ?_ | refine sr ?_ | refine ss ?_)
  refine cw_block (cw_loop (G := Nat × Value) (fun g => [(0, .slice A xs.length c), (1, .slice A' ys.length c'), (5, g.2), (6, .int .i64 ((g.1 : Int) + 1))])
    (fun g W => Ext w W ∧ g.1 ≤ max xs.length ys.length ∧ Mine W w.heap.size t_int 1 g.2 g.1 (((joinL xs ys).take g.1).map (Value.int .i64))) (fun g => max xs.length ys.length - g.1) ?_ ?_)
  · exact ⟨(0, .slice none 0 0), ⟨rfl, rfl, rfl, rfl, trivial⟩, Fr.refl _ _, Nat.zero_le _, by simpa using Mine.nil _ _ _ _⟩
  rintro ⟨i, v⟩ W ⟨hE, hi, hM⟩
  dsimp only at hi hM ⊢
  repeat (first | refine o_p rfl rfl rfl ?_ | refine on ?_ | refine sr ?_ | refine ss ?_)
  refine cw_if rfl (fun h => ?_) (fun h => ?_)
  · refine (cw_skip (pn_then (cw_seq (cw_block (cw_region ?_)))))
    repeat refine o_p rfl rfl rfl ?_
    refine ow_call rfl (ec_call rfl) rfl ((At_spec_entrepotref14_At (ha.ext hE)).mono ?_)
    rintro _ w1 ⟨rfl, rfl⟩; refine ⟨_, rfl, ?_⟩
    repeat refine o_p rfl rfl rfl ?_
    refine ow_call rfl (ec_call rfl) rfl ((At_spec_entrepotref14_At (hb.ext hE)).mono ?_)
    rintro _ w1 ⟨rfl, rfl⟩; refine ⟨_, rfl, ?_⟩
    rw [atL_succ, atL_succ]
    repeat refine o_p rfl rfl rfl ?_
    refine ow_ex rfl (ex_buildSlice (vs := [(0, .int .i64 (max (nn xs i) (nn ys i)))]) (cells := [.int .i64 (max (nn xs i) (nn ys i))]) rfl rfl rfl rfl (by decide) (fun z hz => by
      match z, hz with
      | [y], _ => rfl)) rfl ?_
    have B := Blk.new W t_int [.int .i64 (max (nn xs i) (nn ys i))]
    refine ow_append rfl rfl rfl rfl rfl rfl rfl rfl (Mine.ext hM (Fr.alloc _ _)) (B.sl (n := 1) (sz := 1) rfl (by decide)) (by simp; rfl) (by omega) (by have := hE.size; simp; omega) ?_; intro v' w' own fr
    repeat refine o_p rfl rfl rfl ?_
    refine (ow_nil (pn_block (pn_then (cw_region ?_))))
    repeat refine o_p rfl rfl rfl ?_
    refine o_c rfl rfl rfl (by unfold I64; omega) ?_
    repeat refine o_p rfl rfl rfl ?_
    refine (ow_nil (pn_round (i + 1, v') ?_ ?_ ?_))
    · exact ⟨rfl, rfl, rfl, rfl, trivial⟩
    · have hi' : i < (joinL xs ys).length := by omega
      refine ⟨?_, by simp only; omega, ?_⟩
      · exact (hE.trans (Fr.alloc _ _)).trans' fr (fun j hj h => by have := (Mine.block hM h).1; omega)
      · dsimp only
        rw [List.take_succ_eq_append_getElem hi']
        have : (joinL xs ys)[i] = max (nn xs i) (nn ys i) := by simp [pickL]
        rw [List.map_append, List.map_singleton, this]
        exact own
    · show max xs.length ys.length - (i + 1) < max xs.length ys.length - i; omega
  · refine (cw_exit (pn_then_exit (pn_loop_exit (pn_block_exit (pn_then (cw_seq (cw_region ?_)))))))
    repeat refine o_p rfl rfl rfl ?_
    refine (ow_nil (pn_then (cw_ret (pn_ret rfl rfl ⟨v, rfl, ?_, hE⟩))))
    obtain rfl : i = (joinL xs ys).length := by omega
    rwa [List.take_length] at hM
theorem refMeet_spec {va vb : Value} {xs ys : List Int} {w : World} (ha : IL w va xs) (hb : IL w vb ys) (hx : xs.length ≤ 1048576) (hy : ys.length ≤ 1048576) :
    Calls Try.prog n_entrepotref14_Meet #[va, vb] w fun e w' => ∃ v, e = .returned v ∧ Mine w' w.heap.size t_int 1 v (meetL xs ys).length ((meetL xs ys).map (Value.int .i64)) ∧ Ext w w' := by
  obtain ⟨A, c, rfl, hnc, hcm, hz, hcell⟩ := ha.op
  obtain ⟨A', c', rfl, hnc', hcm', hz', hcell'⟩ := hb.op
  have hlen : (meetL xs ys).length = max xs.length ys.length := by simp [pickL]
  have hmax : max (xs.length : Int) (ys.length : Int) = ((max xs.length ys.length : Nat) : Int) := by omega
  refine enter2 F_entrepotref14_Meet rfl rfl ?_
  repeat (first | refine o_p rfl rfl rfl ?_ | refine on ?_ | refine sr ?_ | refine ss ?_)
  refine cw_block (cw_loop (G := Nat × Value) (fun g => [(0, .slice A xs.length c), (1, .slice A' ys.length c'), (5, g.2), (6, .int .i64 ((g.1 : Int) + 1))])
    (fun g W => Ext w W ∧ g.1 ≤ max xs.length ys.length ∧ Mine W w.heap.size t_int 1 g.2 g.1 (((meetL xs ys).take g.1).map (Value.int .i64))) (fun g => max xs.length ys.length - g.1) ?_ ?_)
  · exact ⟨(0, .slice none 0 0), ⟨rfl, rfl, rfl, rfl, trivial⟩, Fr.refl _ _, Nat.zero_le _, by simpa using Mine.nil _ _ _ _⟩
  rintro ⟨i, v⟩ W ⟨hE, hi, hM⟩
  dsimp only at hi hM ⊢
  repeat (first | refine o_p rfl rfl rfl ?_ | refine on ?_ | refine sr ?_ | refine ss ?_)
  refine cw_if rfl (fun h => ?_) (fun h => ?_)
  · refine (cw_skip (pn_then (cw_seq (cw_block (cw_region ?_)))))
    repeat refine o_p rfl rfl rfl ?_
    refine ow_call rfl (ec_call rfl) rfl ((At_spec_entrepotref14_At (ha.ext hE)).mono ?_)
    rintro _ w1 ⟨rfl, rfl⟩; refine ⟨_, rfl, ?_⟩
    repeat refine o_p rfl rfl rfl ?_
    refine ow_call rfl (ec_call rfl) rfl ((At_spec_entrepotref14_At (hb.ext hE)).mono ?_)
    rintro _ w1 ⟨rfl, rfl⟩; refine ⟨_, rfl, ?_⟩
    rw [atL_succ, atL_succ]
    repeat refine o_p rfl rfl rfl ?_
    refine ow_ex rfl (ex_buildSlice (vs := [(0, .int .i64 (min (nn xs i) (nn ys i)))]) (cells := [.int .i64 (min (nn xs i) (nn ys i))]) rfl rfl rfl rfl (by decide) (fun z hz => by
      match z, hz with
      | [y], _ => rfl)) rfl ?_
    have B := Blk.new W t_int [.int .i64 (min (nn xs i) (nn ys i))]
    refine ow_append rfl rfl rfl rfl rfl rfl rfl rfl (Mine.ext hM (Fr.alloc _ _)) (B.sl (n := 1) (sz := 1) rfl (by decide)) (by simp; rfl) (by omega) (by have := hE.size; simp; omega) ?_; intro v' w' own fr
    repeat refine o_p rfl rfl rfl ?_
    refine (ow_nil (pn_block (pn_then (cw_region ?_))))
    repeat refine o_p rfl rfl rfl ?_
    refine o_c rfl rfl rfl (by unfold I64; omega) ?_
    repeat refine o_p rfl rfl rfl ?_
    refine (ow_nil (pn_round (i + 1, v') ?_ ?_ ?_))
    · exact ⟨rfl, rfl, rfl, rfl, trivial⟩
    · have hi' : i < (meetL xs ys).length := by omega
      refine ⟨?_, by simp only; omega, ?_⟩
      · exact (hE.trans (Fr.alloc _ _)).trans' fr (fun j hj h => by have := (Mine.block hM h).1; omega)
      · dsimp only
        rw [List.take_succ_eq_append_getElem hi']
        have : (meetL xs ys)[i] = min (nn xs i) (nn ys i) := by simp [pickL]
        rw [List.map_append, List.map_singleton, this]
        exact own
    · show max xs.length ys.length - (i + 1) < max xs.length ys.length - i; omega
  · refine (cw_exit (pn_then_exit (pn_loop_exit (pn_block_exit (pn_then (cw_seq (cw_region ?_)))))))
    repeat refine o_p rfl rfl rfl ?_
    refine (ow_nil (pn_then (cw_ret (pn_ret rfl rfl ⟨v, rfl, ?_, hE⟩))))
    obtain rfl : i = (meetL xs ys).length := by omega
    rwa [List.take_length] at hM
end Go.Proofs.Ytplkinnaccpomaa
