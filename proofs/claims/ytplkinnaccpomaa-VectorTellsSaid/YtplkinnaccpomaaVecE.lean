/- Vectors, part five: With of both packages, Less of both packages, and what the laws use besides. Conditions: the vectors may be read, and are not too long. -/
import Derived.Test.YtplkinnaccpomaaVecD
namespace Go.Proofs.Ytplkinnaccpomaa
open Go.Eng Go.RowKit

abbrev MI (w : World) (base : Nat) (v : Value) (xs : List Int) : Prop := Mine w base t_int 1 v xs.length (xs.map (Value.int .i64))
theorem MI.il {w : World} {base : Nat} {v : Value} {xs : List Int} (h : MI w base v xs) : IL w v xs := Mine.sl h
theorem madeCells_one (v : Value) (n : Nat) : (madeCells #[v] n).toList = List.replicate n v := by
  apply List.ext_getElem
  · simp [madeCells]
  · intro i h1 h2
    simp [madeCells, Nat.mod_one]

def oneL (r n : Int) : List Int := (List.replicate r.toNat 0).set (r - 1).toNat n
def withL (xs : List Int) (r n : Int) : List Int := if r < 1 ∨ 16 < r ∨ n < 1 ∨ n ≤ atL xs r then joinL xs [] else joinL xs (oneL r n)

theorem With_spec_vector {va : Value} {xs : List Int} {r n : Int} {w : World} (ha : IL w va xs) (hx : xs.length ≤ 1048576) :
    Calls Try.prog n_vector_With #[va, dotV r n] w fun e w' => ∃ v, e = .returned v ∧ MI w' w.heap.size v (withL xs r n) ∧ Ext w w' := by
  refine enter2 F_vector_With rfl rfl ?_
  refine (cw_seq (cw_region ?_))
  refine ow_ex rfl (ex_box rfl) rfl ?_
  have B : Blk (w.alloc (.cells (dotV r n).cells t_api_Dot)) w.heap.size t_api_Dot [.int .i64 r, .int .i64 n] := Blk.new w _ _
  have e1 : Ext w (w.alloc (.cells (dotV r n).cells t_api_Dot)) := Fr.alloc _ _
  generalize w.alloc (.cells (dotV r n).cells t_api_Dot) = w1 at *
  have hR := B.cell 0
  have hN := B.cell 1
  repeat (first | refine o_p rfl rfl rfl ?_ | refine on ?_ | refine sr ?_ | refine ss ?_)
  refine ow_ex rfl (ex_load rfl rfl rfl hR) rfl ?_
  repeat refine o_p rfl rfl rfl ?_
  have out : ∀ W, Ext w1 W → (r < 1 ∨ 16 < r ∨ n < 1 ∨ n ≤ atL xs r) → Calls Try.prog n_vector_Join #[va, .slice none 0 0] W fun e w' => ∃ v, e = .returned v ∧ MI w' w.heap.size v (withL xs r n) ∧ Ext w w' := by
    intro W hW hc
    refine (Join_spec (ha.ext (e1.trans hW)) (VL.nil _ _) hx (by simp)).mono ?_
    rintro e w2 ⟨v, rfl, hM, hE⟩
    refine ⟨v, rfl, ?_, (e1.trans hW).trans hE⟩
    rw [withL, if_pos hc]
    exact hM.weaken (e1.trans hW).size
  refine o_split 9 rfl (fun h1 => ?_) (fun h1 => ?_)
  · have h1 := of_decide_eq_true h1
    repeat (first | refine o_p rfl rfl rfl ?_ | refine ow_skip rfl rfl ?_)
    refine on (cw_cond_t rfl (sr ?_))
    repeat refine o_p rfl rfl rfl ?_
    refine ow_call rfl (ec_call rfl) rfl ((out w1 (Fr.refl _ _) (.inl h1)).mono ?_)
    rintro _ w2 ⟨v, rfl, hM, hE⟩; refine ⟨_, rfl, ?_⟩
    repeat refine o_p rfl rfl rfl ?_
    exact (ow_nil (pn_then (cw_ret (pn_then_ret (pn_ret rfl rfl ⟨v, rfl, hM, hE⟩)))))
  · have h1 := of_decide_eq_false h1
    repeat refine o_p rfl rfl rfl ?_
    refine ow_ex rfl (ex_load rfl rfl rfl hR) rfl ?_
    repeat refine o_p rfl rfl rfl ?_
    refine o_split 14 rfl (fun h2 => ?_) (fun h2 => ?_)
    · have h2 := of_decide_eq_true h2
      repeat (first | refine o_p rfl rfl rfl ?_ | refine ow_skip rfl rfl ?_)
      refine on (cw_cond_t rfl (sr ?_))
      repeat refine o_p rfl rfl rfl ?_
      refine ow_call rfl (ec_call rfl) rfl ((out w1 (Fr.refl _ _) (.inr (.inl h2))).mono ?_)
      rintro _ w2 ⟨v, rfl, hM, hE⟩; refine ⟨_, rfl, ?_⟩
      repeat refine o_p rfl rfl rfl ?_
      exact (ow_nil (pn_then (cw_ret (pn_then_ret (pn_ret rfl rfl ⟨v, rfl, hM, hE⟩)))))
    · have h2 := of_decide_eq_false h2
      repeat refine o_p rfl rfl rfl ?_
      refine ow_ex rfl (ex_load rfl rfl rfl hN) rfl ?_
      repeat refine o_p rfl rfl rfl ?_
      refine on (cw_if rfl (fun h3 => ?_) (fun h3 => ?_))
      · refine sr ?_
        repeat refine o_p rfl rfl rfl ?_
        refine ow_call rfl (ec_call rfl) rfl ((out w1 (Fr.refl _ _) (.inr (.inr (.inl h3)))).mono ?_)
        rintro _ w2 ⟨v, rfl, hM, hE⟩; refine ⟨_, rfl, ?_⟩
        repeat refine o_p rfl rfl rfl ?_
        exact (ow_nil (pn_then (cw_ret (pn_then_ret (pn_ret rfl rfl ⟨v, rfl, hM, hE⟩)))))
      · refine (cw_skip (pn_then (cw_seq (cw_seq (cw_draw flo (fun W' => Ext w1 W') (by decide) (Fr.drew _) ?_)))))
        repeat refine d_p rfl rfl rfl rfl ?_
        refine dw_rd rfl rfl (fun W' hW' => ex_load rfl rfl rfl (hW'.cell hN)) rfl ?_
        repeat refine d_p rfl rfl rfl rfl ?_
        refine dw_rd rfl rfl (fun W' hW' => ex_load rfl rfl rfl (hW'.cell hR)) rfl ?_
        refine dw_call rfl rfl (ec_call rfl) rfl ((At_spec_vector_At (ha.ext (e1.trans (Fr.drew _)))).mono ?_)
        rintro _ w2 ⟨rfl, rfl⟩; refine ⟨_, rfl, Fr.drew _, ?_⟩
        repeat refine d_p rfl rfl rfl rfl ?_
        refine (dw_nil (pn_then (cw_if rfl (fun h4 => ?_) (fun h4 => ?_))))
        · refine sr ?_
          repeat refine o_p rfl rfl rfl ?_
          refine ow_call rfl (ec_call rfl) rfl ((out _ (Fr.drew _) (.inr (.inr (.inr h4)))).mono ?_)
          rintro _ w2 ⟨v, rfl, hM, hE⟩; refine ⟨_, rfl, ?_⟩
          repeat refine o_p rfl rfl rfl ?_
          exact (ow_nil (pn_then (cw_ret (pn_then_ret (pn_ret rfl rfl ⟨v, rfl, hM, hE⟩)))))
        · have e2 : Ext w1 w1.drew := Fr.drew _
          generalize w1.drew = w2 at *
          refine (cw_skip (pn_then (cw_seq (cw_region ?_))))
          repeat refine o_p rfl rfl rfl ?_
          refine ow_ex rfl (ex_load rfl rfl rfl (e2.cell hR)) rfl ?_
          refine ow_make (n := r.toNat) (base := w2.heap.size) (sz := 1) rfl rfl rfl rfl rfl rfl rfl rfl (by omega) (by omega) (Nat.le_refl _) ?_
          intro w3 own e3
          have hz3 := Mine.block own rfl
          rw [Nat.mul_one] at own
          change Mine w3 _ _ _ _ _ (madeCells #[.int .i64 0] r.toNat).toList at own
          rw [madeCells_one] at own
          repeat (first | refine o_p rfl rfl rfl ?_ | refine on ?_ | refine sr ?_ | refine ss ?_)
          refine ow_ex rfl (ex_load rfl rfl rfl (Ext.cell (e2.trans e3) hR)) rfl ?_
          refine o_c rfl rfl rfl (by unfold I64; omega) ?_
          repeat refine o_p rfl rfl rfl ?_
          refine ow_ex rfl (ex_load rfl rfl rfl (Ext.cell (e2.trans e3) hN)) rfl ?_
          refine o_ix (r - 1).toNat rfl rfl rfl (by omega) (by omega) ?_
          obtain ⟨g, cap, cur, hv, hbg, hg3, hh, hcl, htk⟩ := Mine.row own (by omega)
          simp only [Value.slice.injEq, Option.some.injEq, Addr.mk.injEq, and_true, true_and] at hv
          obtain ⟨rfl, rfl⟩ := hv
          have hcell := cell_of_row w3 _ (r - 1).toNat cur _ (0, 0) hh
          have hlt : (r - 1).toNat < cur.size := by simp at hcl; omega
          obtain ⟨x0, hx0⟩ : ∃ u, cur[(r - 1).toNat]? = some u := ⟨_, Array.getElem?_eq_getElem hlt⟩; rw [hx0] at hcell
          have h0 : 0 + (r - 1).toNat = (r - 1).toNat := Nat.zero_add _
          have hfr := frozen_of_row w3 w2.heap.size (r - 1).toNat cur t_int hh
          rw [← h0] at hcell hfr
          refine ow_eu rfl (eu_store rfl rfl rfl rfl rfl hcell hfr) ?_
          have st := (World.ownsRow.stored (w := w3) own (r - 1).toNat (.int .i64 n)).1
          have f4 := Fr.setCell w3 ⟨w2.heap.size, (r - 1).toNat, none⟩ (.int .i64 n)
          have e4 : Ext w1 (w3.setCell ⟨w2.heap.size, (r - 1).toNat, none⟩ (.int .i64 n)) := (e2.trans e3).trans' f4 (fun j hj h => by have := e2.size; simp at h; omega)
          change OW _ _ _ _ _ _ _ _ (w3.setCell ⟨w2.heap.size, 0 + (r - 1).toNat, none⟩ (.int .i64 n))
          rw [h0]
          generalize w3.setCell ⟨w2.heap.size, (r - 1).toNat, none⟩ (.int .i64 n) = w4 at *
          have hone : IL w4 (.slice (some ⟨w2.heap.size, 0, none⟩) r.toNat r.toNat) (oneL r n) := by
            have := Mine.sl st
            unfold IL VL oneL
            simp only [List.length_set, List.length_replicate, List.map_set, List.map_replicate]
            exact this
          repeat (first | refine o_p rfl rfl rfl ?_ | refine on ?_ | refine sr ?_ | refine ss ?_)
          refine ow_call rfl (ec_call rfl) rfl ((Join_spec (ha.ext (e1.trans e4)) hone hx (by simp [oneL]; omega)).mono ?_)
          rintro _ w5 ⟨v, rfl, hM, hE⟩; refine ⟨_, rfl, ?_⟩
          repeat refine o_p rfl rfl rfl ?_
          refine (ow_nil (pn_then (cw_ret (pn_ret rfl rfl ⟨v, rfl, ?_, (e1.trans e4).trans hE⟩))))
          rw [withL, if_neg (by omega)]
          exact hM.weaken (e1.trans e4).size

theorem with_ref {xs : List Int} {r n : Int} (h1 : 1 ≤ r) (h4 : atL xs r < n) :
    joinL xs (oneL r n) = (joinL xs [] ++ List.replicate (r.toNat - (joinL xs []).length) 0).set (r - 1).toNat n := by
  have hl : (joinL xs []).length = xs.length := by simp [pickL]
  apply List.ext_getElem
  · simp [pickL, oneL]; omega
  · intro i hi1 hi2
    rw [List.getElem_set]
    have e1 : (joinL xs (oneL r n))[i] = max (nn xs i) (nn (oneL r n) i) := by simp [pickL]
    have hat : atL xs r = nn xs (r - 1).toNat := by
      have := atL_succ xs (r - 1).toNat
      rwa [show (((r - 1).toNat : Nat) : Int) + 1 = r from by omega] at this
    have hn0 := nn_nonneg xs (r - 1).toNat
    rw [e1]
    split
    · rename_i h; subst h
      have : nn (oneL r n) (r - 1).toNat = max n 0 := by
        have hlt : (r - 1).toNat < (oneL r n).length := by simp [oneL]; omega
        rw [nn_in hlt]; simp [oneL]
      rw [this]; omega
    · rename_i h
      have h0 : nn (oneL r n) i = 0 := by
        by_cases hlt : i < (oneL r n).length
        · have e0 : (oneL r n)[i] = 0 := by simp only [oneL]; rw [List.getElem_set_ne h]; simp
          rw [nn_in hlt, e0]; rfl
        · exact nn_out (by omega)
      rw [h0]
      have := nn_nonneg xs i
      by_cases hi : i < xs.length
      · rw [List.getElem_append_left (by omega)]
        have : (joinL xs [])[i]'(by omega) = max (nn xs i) (nn [] i) := by simp [pickL]
        rw [this, nn_out (xs := []) (by simp)]
      · rw [List.getElem_append_right (by omega), nn_out (by omega)]
        simp

theorem refWith_spec {va : Value} {xs : List Int} {r n : Int} {w : World} (ha : IL w va xs) (hx : xs.length ≤ 1048576) :
    Calls Try.prog n_entrepotref14_With #[va, dotV r n] w fun e w' => ∃ v, e = .returned v ∧ MI w' w.heap.size v (withL xs r n) ∧ Ext w w' := by
  refine enter2 F_entrepotref14_With rfl rfl ?_
  refine (cw_seq (cw_region ?_))
  refine ow_ex rfl (ex_box rfl) rfl ?_
  have B : Blk (w.alloc (.cells (dotV r n).cells t_api_Dot)) w.heap.size t_api_Dot [.int .i64 r, .int .i64 n] := Blk.new w _ _
  have e1 : Ext w (w.alloc (.cells (dotV r n).cells t_api_Dot)) := Fr.alloc _ _
  have z1 : (w.alloc (.cells (dotV r n).cells t_api_Dot)).heap.size = w.heap.size + 1 := by simp
  generalize w.alloc (.cells (dotV r n).cells t_api_Dot) = w1 at *
  repeat (first | refine o_p rfl rfl rfl ?_ | refine on ?_ | refine sr ?_ | refine ss ?_)
  refine ow_call rfl (ec_call rfl) rfl ((refJoin_spec (ha.ext e1) (VL.nil _ _) hx (by simp)).mono ?_)
  rintro _ w2 ⟨v, rfl, hM, e2⟩; refine ⟨_, rfl, ?_⟩
  rw [z1] at hM
  have hl : (joinL xs []).length = xs.length := by simp [pickL]
  have hR := (B.ext e2).cell 0
  have hN := (B.ext e2).cell 1
  have e02 := e1.trans e2
  clear B e1 e2
  repeat refine o_p rfl rfl rfl ?_
  have e3 : Ext w2 w2.drew := Fr.drew _
  refine (ow_nil (pn_then (cw_seq (cw_seq (cw_draw flo (fun W' => Ext w2 W') (by decide) (Fr.drew _) ?_)))))
  repeat refine d_p rfl rfl rfl rfl ?_
  refine dw_rd rfl rfl (fun W' hW' => ex_load rfl rfl rfl (hW'.cell hR)) rfl ?_
  repeat refine d_p rfl rfl rfl rfl ?_
  refine d_split 11 rfl (fun h1 => ?_) (fun h1 => ?_)
  · have h1 := of_decide_eq_true h1
    repeat (first | refine d_p rfl rfl rfl rfl ?_ | refine dw_skip rfl rfl ?_)
    refine (dw_nil (pn_then (cw_cond_t rfl (sr ?_))))
    repeat refine o_p rfl rfl rfl ?_
    refine (ow_nil (pn_then (cw_ret (pn_then_ret (pn_ret rfl rfl ⟨v, rfl, ?_, e02.trans e3⟩)))))
    rw [withL, if_pos (.inl h1)]
    exact (Mine.ext hM e3).weaken (by omega)
  have h1 := of_decide_eq_false h1
  repeat refine d_p rfl rfl rfl rfl ?_
  refine dw_rd rfl rfl (fun W' hW' => ex_load rfl rfl rfl (hW'.cell hR)) rfl ?_
  repeat refine d_p rfl rfl rfl rfl ?_
  refine d_split 16 rfl (fun h2 => ?_) (fun h2 => ?_)
  · have h2 := of_decide_eq_true h2
    repeat (first | refine d_p rfl rfl rfl rfl ?_ | refine dw_skip rfl rfl ?_)
    refine (dw_nil (pn_then (cw_cond_t rfl (sr ?_))))
    repeat refine o_p rfl rfl rfl ?_
    refine (ow_nil (pn_then (cw_ret (pn_then_ret (pn_ret rfl rfl ⟨v, rfl, ?_, e02.trans e3⟩)))))
    rw [withL, if_pos (.inr (.inl h2))]
    exact (Mine.ext hM e3).weaken (by omega)
  have h2 := of_decide_eq_false h2
  repeat refine d_p rfl rfl rfl rfl ?_
  refine dw_rd rfl rfl (fun W' hW' => ex_load rfl rfl rfl (hW'.cell hN)) rfl ?_
  repeat refine d_p rfl rfl rfl rfl ?_
  refine dw_rd rfl rfl (fun W' hW' => ex_load rfl rfl rfl (hW'.cell hR)) rfl ?_
  refine dw_call rfl rfl (ec_call rfl) rfl ((At_spec_entrepotref14_At (ha.ext (e02.trans e3))).mono ?_)
  rintro _ w4 ⟨rfl, rfl⟩; refine ⟨_, rfl, e3, ?_⟩
  repeat refine d_p rfl rfl rfl rfl ?_
  refine (dw_nil (pn_then (cw_if rfl (fun h4 => ?_) (fun h4 => ?_))))
  · refine sr ?_
    repeat refine o_p rfl rfl rfl ?_
    refine (ow_nil (pn_then (cw_ret (pn_then_ret (pn_ret rfl rfl ⟨v, rfl, ?_, e02.trans e3⟩)))))
    rw [withL, if_pos (.inr (.inr (.inr h4)))]
    exact (Mine.ext hM e3).weaken (by omega)
  have hM := Mine.ext hM e3
  have e03 := e02.trans e3
  have hR := e3.cell hR
  have hN := e3.cell hN
  clear e3 e02
  generalize w2.drew = w3 at *
  refine (cw_skip (pn_then (cw_seq (cw_block (cw_loop (G := Nat × Value) (fun g => [(3, .pointer (some ⟨w.heap.size, 0, none⟩)), (5, g.2)])
    (fun g W => Ext w W ∧ W.cell? ⟨w.heap.size, 0, none⟩ = some (.int .i64 r) ∧ W.cell? ⟨w.heap.size, 1, none⟩ = some (.int .i64 n) ∧ g.1 ≤ r.toNat - xs.length ∧ MI W (w.heap.size + 1) g.2 (joinL xs [] ++ List.replicate g.1 0)) (fun g => r.toNat - xs.length - g.1) ?_ ?_)))))
  · refine ⟨(0, v), ⟨rfl, rfl, trivial⟩, e03, hR, hN, Nat.zero_le _, ?_⟩
    simpa using hM
  rintro ⟨k, u⟩ W ⟨hE, hR, hN, hk, hM⟩
  dsimp only at hk hM ⊢
  have hul : ∃ A c, u = .slice A (xs.length + k) c := by
    have hle : (joinL xs [] ++ List.replicate k 0).length = xs.length + k := by simp [hl]
    rw [← hle]
    rcases hM.2 with ⟨rfl, h⟩ | ⟨g, cap, cur, rfl, _⟩
    · exact ⟨_, _, by rw [h]⟩
    · exact ⟨_, _, rfl⟩
  obtain ⟨A, c, rfl⟩ := hul
  repeat (first | refine o_p rfl rfl rfl ?_ | refine on ?_ | refine sr ?_ | refine ss ?_)
  refine ow_ex rfl (ex_load rfl rfl rfl hR) rfl ?_
  repeat refine o_p rfl rfl rfl ?_
  refine (ow_nil (pn_then (cw_if rfl (fun h => ?_) (fun h => ?_))))
  · refine (cw_skip (pn_then (cw_block (cw_region ?_))))
    repeat refine o_p rfl rfl rfl ?_
    refine ow_ex rfl (ex_buildSlice (vs := [(0, .int .i64 0)]) (cells := [.int .i64 0]) rfl rfl rfl rfl (by decide) (fun z hz => by
      match z, hz with
      | [y], _ => rfl)) rfl ?_
    have B := Blk.new W t_int [.int .i64 0]
    refine ow_append rfl rfl rfl rfl rfl rfl rfl rfl (Mine.ext hM (Fr.alloc _ _)) (B.sl (n := 1) (sz := 1) rfl (by decide)) (by simp; rfl) (by simp [hl]; omega) (by have := e03.size; have := hE.size; have := (World.block_lt_of_cell? W _ hR); simp; omega) ?_; intro v' w' own fr
    repeat refine o_p rfl rfl rfl ?_
    have hb : ∀ j, Value.ownBlock (.slice A (xs.length + k) c) = some j → w.heap.size + 1 ≤ j := fun j hj => (Mine.block hM hj).1
    refine (ow_nil (pn_block (pn_round (k + 1, v') ?_ ?_ ?_)))
    · exact ⟨rfl, rfl, trivial⟩
    · have fE : Fr (fun j => Value.ownBlock (.slice A (xs.length + k) c) = some j) W w' := Fr.trans (Fr.alloc _ _) fr
      refine ⟨hE.trans' fE (fun j hj h => by have := hb j h; omega), fE.cell' hR (fun h => absurd (hb _ h) (Nat.lt_irrefl _)), fE.cell' hN (fun h => absurd (hb _ h) (Nat.lt_irrefl _)), by simp only; omega, ?_⟩
      have e9 : (joinL xs [] ++ List.replicate (k + 1) 0).length = (joinL xs [] ++ List.replicate k 0).length + 1 := by simp; omega
      unfold MI
      dsimp only
      rw [e9, List.replicate_succ', ← List.append_assoc, List.map_append (l₂ := [0]), List.map_singleton]
      exact own
    · show r.toNat - xs.length - (k + 1) < r.toNat - xs.length - k; omega
  · refine (cw_exit (pn_then_exit (pn_loop_exit (pn_block_exit (pn_then (cw_seq (cw_region ?_)))))))
    repeat refine o_p rfl rfl rfl ?_
    refine ow_ex rfl (ex_load rfl rfl rfl hR) rfl ?_
    refine o_c rfl rfl rfl (by unfold I64; omega) ?_
    repeat refine o_p rfl rfl rfl ?_
    refine ow_ex rfl (ex_load rfl rfl rfl hN) rfl ?_
    obtain ⟨g, cap, cur, hv, hbg, hg3, hh, hcl, htk⟩ := Mine.row hM (by simp [hl]; omega)
    simp only [Value.slice.injEq] at hv
    obtain ⟨rfl, _, rfl⟩ := hv
    have hle : (joinL xs [] ++ List.replicate k 0).length = xs.length + k := by simp [hl]
    refine o_ix (r - 1).toNat rfl rfl rfl (by omega) (by omega) ?_
    have hcell := cell_of_row W g (r - 1).toNat cur _ (0, 0) hh
    have hlt : (r - 1).toNat < cur.size := by rw [List.length_map, hle] at hcl; omega
    obtain ⟨x0, hx0⟩ : ∃ u, cur[(r - 1).toNat]? = some u := ⟨_, Array.getElem?_eq_getElem hlt⟩; rw [hx0] at hcell
    have h0 : 0 + (r - 1).toNat = (r - 1).toNat := Nat.zero_add _
    have hfr := frozen_of_row W g (r - 1).toNat cur t_int hh
    rw [← h0] at hcell hfr
    refine ow_eu rfl (eu_store rfl rfl rfl rfl rfl hcell hfr) ?_
    unfold MI at hM
    rw [hle] at hM
    have st := (World.ownsRow.stored (w := W) hM (r - 1).toNat (.int .i64 n)).1
    have f4 := Fr.setCell W ⟨g, (r - 1).toNat, none⟩ (.int .i64 n)
    change OW _ _ _ _ _ _ _ _ (W.setCell ⟨g, 0 + (r - 1).toNat, none⟩ (.int .i64 n))
    rw [h0]
    repeat (first | refine o_p rfl rfl rfl ?_ | refine on ?_ | refine sr ?_ | refine ss ?_)
    refine (cw_ret (pn_ret rfl rfl ⟨_, rfl, ?_, hE.trans' f4 (fun j hj h => by simp at h; omega)⟩))
    have hc : ¬ (r < 1 ∨ 16 < r ∨ n < 1 ∨ n ≤ atL xs r) := by have := atL_nonneg xs r; omega
    rw [withL, if_neg hc, with_ref (by omega) (by omega)]
    rw [← List.map_set] at st
    have hk2 : k = r.toNat - (joinL xs []).length := by omega
    rw [← hk2]
    unfold MI
    rw [List.length_set, hle]
    exact Mine.weaken st (by omega)
end Go.Proofs.Ytplkinnaccpomaa
