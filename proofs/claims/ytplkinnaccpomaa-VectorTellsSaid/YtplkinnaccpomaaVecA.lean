/- Vectors, part one: what the walks of package vector's inner functions come to: a region's number, the numbers of two vectors side by side, a fold over them. Conditions: the vectors may be read. -/
import Derived.Test.YtplkinnaccpomaaKitA
namespace Go.Proofs.Ytplkinnaccpomaa
open Go.Eng Go.RowKit

/-- The number of the region i + 1. -/
def nn (xs : List Int) (i : Nat) : Int := max (xs.getD i 0) 0
def atL (xs : List Int) (r : Int) : Int := if 1 ≤ r ∧ r ≤ xs.length then nn xs (r - 1).toNat else 0

theorem nn_in {xs : List Int} {i : Nat} (h : i < xs.length) : nn xs i = max xs[i] 0 := by
  unfold nn
  rw [List.getD_eq_getElem?_getD, List.getElem?_eq_getElem h]
  rfl
theorem nn_out {xs : List Int} {i : Nat} (h : xs.length ≤ i) : nn xs i = 0 := by
  unfold nn
  rw [List.getD_eq_getElem?_getD, List.getElem?_eq_none h]
  rfl
theorem atL_succ (xs : List Int) (i : Nat) : atL xs ((i : Int) + 1) = nn xs i := by
  unfold atL
  by_cases h : i < xs.length
  · rw [if_pos (by omega)]
    congr 1
    omega
  · rw [if_neg (by omega), nn_out (by omega)]

theorem At_spec_vector_At {v : Value} {xs : List Int} {r : Int} {w : World} (hv : IL w v xs) :
    Calls Try.prog n_vector_At #[v, .int .i64 r] w fun e w' => e = .returned (.int .i64 (atL xs r)) ∧ w = w' := by
  obtain ⟨A, c, rfl, hnc, hcm, hz, hcell⟩ := hv.op
  refine enter2 F_vector_At rfl rfl ?_
  refine sr ?_
  refine o_p rfl rfl rfl ?_
  refine on ?_
  refine cw_seq (sr ?_)
  repeat refine o_p rfl rfl rfl ?_
  refine o_if 7 rfl (fun h1 => ?_) (fun h1 => ?_)
  · repeat refine ow_skip rfl rfl ?_
    repeat refine o_p rfl rfl rfl ?_
    refine on (cw_cond_t rfl (sr ?_))
    repeat refine o_p rfl rfl rfl ?_
    refine on (cw_ret (pn_then_ret (pn_ret rfl rfl ⟨?_, rfl⟩)))
    rw [atL, if_neg (by omega)]
  · repeat refine o_p rfl rfl rfl ?_
    refine on (cw_if rfl (fun h2 => sr ?_) (fun h2 => cw_skip (pn_then (sr ?_))))
    · repeat refine o_p rfl rfl rfl ?_
      refine on (cw_ret (pn_then_ret (pn_ret rfl rfl ⟨?_, rfl⟩)))
      rw [atL, if_neg (by omega)]
    · obtain ⟨b, off, rfl, hb, hc⟩ := hcell 0 (by omega)
      have hlt : (r - 1).toNat < xs.length := by omega
      have hck := hc (r - 1).toNat hlt
      repeat refine o_p rfl rfl rfl ?_
      refine o_c rfl rfl rfl (by unfold I64; omega) ?_
      refine o_ix (r - 1).toNat rfl rfl rfl (by omega) hlt ?_
      refine ow_ex rfl (ex_load rfl rfl rfl hck) rfl ?_
      repeat refine o_p rfl rfl rfl ?_
      refine on (cw_ret (pn_ret rfl rfl ⟨?_, rfl⟩))
      rw [atL, if_pos (by omega), nn_in hlt]

theorem At_spec_entrepotref14_At {v : Value} {xs : List Int} {r : Int} {w : World} (hv : IL w v xs) :
    Calls Try.prog n_entrepotref14_At #[v, .int .i64 r] w fun e w' => e = .returned (.int .i64 (atL xs r)) ∧ w = w' := by
  obtain ⟨A, c, rfl, hnc, hcm, hz, hcell⟩ := hv.op
  refine enter2 F_entrepotref14_At rfl rfl ?_
  refine sr ?_
  refine o_p rfl rfl rfl ?_
  refine on ?_
  refine cw_seq (sr ?_)
  repeat refine o_p rfl rfl rfl ?_
  refine o_if 7 rfl (fun h1 => ?_) (fun h1 => ?_)
  · repeat refine ow_skip rfl rfl ?_
    repeat refine o_p rfl rfl rfl ?_
    refine on (cw_cond_t rfl (sr ?_))
    repeat refine o_p rfl rfl rfl ?_
    refine on (cw_ret (pn_then_ret (pn_ret rfl rfl ⟨?_, rfl⟩)))
    rw [atL, if_neg (by omega)]
  · repeat refine o_p rfl rfl rfl ?_
    refine on (cw_if rfl (fun h2 => sr ?_) (fun h2 => cw_skip (pn_then (sr ?_))))
    · repeat refine o_p rfl rfl rfl ?_
      refine on (cw_ret (pn_then_ret (pn_ret rfl rfl ⟨?_, rfl⟩)))
      rw [atL, if_neg (by omega)]
    · obtain ⟨b, off, rfl, hb, hc⟩ := hcell 0 (by omega)
      have hlt : (r - 1).toNat < xs.length := by omega
      have hck := hc (r - 1).toNat hlt
      repeat refine o_p rfl rfl rfl ?_
      refine o_c rfl rfl rfl (by unfold I64; omega) ?_
      refine o_ix (r - 1).toNat rfl rfl rfl (by omega) hlt ?_
      refine ow_ex rfl (ex_load rfl rfl rfl hck) rfl ?_
      repeat refine o_p rfl rfl rfl ?_
      refine on (cw_ret (pn_ret rfl rfl ⟨?_, rfl⟩))
      rw [atL, if_pos (by omega), nn_in hlt]

abbrev pbox (b : Nat) : Value := .pointer (some ⟨b, 0, none⟩)

/-- The numbers of both, side by side: each pair is handed to yield, in turn. -/
theorem sides_1_spec {l b1 b2 : Nat} {va vb : Value} {xs ys : List Int} {We W : World} (J : Nat → World → Prop) (h1 : We.cell? ⟨b1, 0, none⟩ = some va) (h2 : We.cell? ⟨b2, 0, none⟩ = some vb)
    (ha : IL We va xs) (hb : IL We vb ys) (hE : ∀ i W, J i W → Ext We W) (hst : ∀ i W W', J i W → Ext W W' → J i W')
    (hY : ∀ i, i < max xs.length ys.length → ∀ W, J i W → Yld Try.prog l #[.int .i64 (nn xs i), .int .i64 (nn ys i)] W fun e W' => e = .returned (.bool true) ∧ J (i + 1) W') (h0 : J 0 W) :
    Calls Try.prog n_vector_sides_1 #[.func (.yield l) #[] #[], pbox b1, pbox b2] W fun e W' => (∃ v, e = .returned v) ∧ J (max xs.length ys.length) W' := by
  obtain ⟨A, c, rfl, hnc, hcm, hz, hcell⟩ := ha.op
  obtain ⟨A', c', rfl, hnc', hcm', hz', hcell'⟩ := hb.op
  refine enter3 F_vector_sides_1 rfl rfl ?_
  refine (cw_seq (cw_region ?_))
  refine ow_ex rfl (ex_load rfl rfl rfl ((hE _ _ h0).cell h1)) rfl ?_
  repeat refine o_p rfl rfl rfl ?_
  refine ow_ex rfl (ex_load rfl rfl rfl ((hE _ _ h0).cell h2)) rfl ?_
  repeat refine o_p rfl rfl rfl ?_
  have hmax : max (xs.length : Int) (ys.length : Int) = ((max xs.length ys.length : Nat) : Int) := by omega
  refine (ow_nil (pn_then (cw_block (cw_loop (G := Nat) (fun i => [(0, .func (.yield l) #[] #[]), (1, pbox b1), (2, pbox b2), (9, .int .i64 ((max xs.length ys.length : Nat) : Int)), (10, .int .i64 (i : Int))])
    (fun i W => J i W ∧ i ≤ max xs.length ys.length) (fun i => max xs.length ys.length - i) ?_ ?_))))
  · exact ⟨0, ⟨rfl, rfl, rfl, by rw [← hmax]; rfl, rfl, trivial⟩, h0, by omega⟩
  rintro i W ⟨hJ, hi⟩
  refine (cw_seq (cw_region ?_))
  repeat refine o_p rfl rfl rfl ?_
  refine (ow_nil (pn_then (cw_seq (cw_if rfl (fun h => ?_) (fun h => ?_)))))  -- IF t11
  · refine (cw_skip (pn_then (cw_seq (cw_block (cw_seq (cw_region ?_))))))
    repeat refine o_p rfl rfl rfl ?_
    have hJd := hst _ _ _ hJ (Fr.drew W)
    have hEd := hE _ _ hJd
    refine (ow_nil (pn_then (cw_seq (cw_draw flo (fun W' => Ext We W') (by decide) hEd ?_))))
    repeat refine d_p rfl rfl rfl rfl ?_
    refine dw_rd rfl rfl (fun W' hW' => ex_load rfl rfl rfl (hW'.cell h1)) rfl ?_
    repeat refine d_p rfl rfl rfl rfl ?_
    refine d_c rfl rfl rfl rfl (by unfold I64; omega) ?_
    refine dw_call rfl rfl (ec_call rfl) rfl ((At_spec_vector_At (ha.ext hEd)).mono ?_)
    rintro _ w1 ⟨rfl, rfl⟩; refine ⟨_, rfl, hEd, ?_⟩
    rw [atL_succ]
    refine dw_rd rfl rfl (fun W' hW' => ex_load rfl rfl rfl (hW'.cell h2)) rfl ?_
    repeat refine d_p rfl rfl rfl rfl ?_
    refine d_c rfl rfl rfl rfl (by unfold I64; omega) ?_
    refine dw_call rfl rfl (ec_call rfl) rfl ((At_spec_vector_At (hb.ext hEd)).mono ?_)
    rintro _ w1 ⟨rfl, rfl⟩; refine ⟨_, rfl, hEd, ?_⟩
    rw [atL_succ]
    refine dw_yield rfl rfl rfl rfl ((hY i (by omega) _ hJd).mono ?_)
    rintro _ w1 ⟨rfl, hJ1⟩; refine ⟨_, rfl, hE _ _ hJ1, ?_⟩
    repeat refine d_p rfl rfl rfl rfl ?_
    refine dw_nil (pn_then (cw_cond_f rfl (cw_skip (pn_block (pn_then (cw_region ?_))))))
    refine o_c rfl rfl rfl (by unfold I64; omega) ?_
    repeat refine o_p rfl rfl rfl ?_
    refine (ow_nil (pn_round (i + 1) ?_ ?_ ?_))
    · exact ⟨rfl, rfl, rfl, rfl, rfl, trivial⟩
    · exact ⟨hJ1, by omega⟩
    · show max xs.length ys.length - (i + 1) < max xs.length ys.length - i; omega
  · obtain rfl : i = max xs.length ys.length := by omega
    exact cw_exit (pn_then_exit (pn_loop_exit (pn_block_exit (pn_end0 rfl ⟨⟨_, rfl⟩, hJ⟩))))

/-- A value of the iterator's type. -/
theorem sides_spec {va vb : Value} {w : World} :
    Calls Try.prog n_vector_sides #[va, vb] w fun e w' => e = .returned (.func (.func n_vector_sides_1) ⟨[]⟩ ⟨[pbox w.heap.size, pbox (w.heap.size + 1)]⟩) ∧ w' = (w.alloc (.cells va.cells t_sl_int)).alloc (.cells vb.cells t_sl_int) := by
  refine enter2 F_vector_sides rfl rfl ?_
  refine (cw_seq (cw_region ?_))
  refine ow_ex rfl (ex_box rfl) rfl ?_
  refine ow_ex rfl (ex_box rfl) rfl ?_
  repeat (first | refine o_p rfl rfl rfl ?_ | refine on ?_ | refine sr ?_ | refine ss ?_)
  refine cw_ret (pn_ret rfl rfl ⟨?_, rfl⟩)
  simp

theorem fold_bool_spec {b1 b2 : Nat} {va vb : Value} {xs ys : List Int} {w : World} (I : Nat → Value → World → Prop) (g : FuncId) (gc : List Value) [Bodied Try.prog g] (v0 : Value)
    (h1 : w.cell? ⟨b1, 0, none⟩ = some va) (h2 : w.cell? ⟨b2, 0, none⟩ = some vb) (ha : IL w va xs) (hb : IL w vb ys) (hI0 : I 0 v0 w) (hone : ∀ i v W, I i v W → v.oneCell' = true)
    (hst : ∀ i v W W' S, I i v W → Fr S W W' → (∀ k, S k → w.heap.size ≤ k ∧ k < w.heap.size + 4) → I i v W')
    (hstep : ∀ i v W, i < max xs.length ys.length → I i v W → Ext w W → w.heap.size + 4 ≤ W.heap.size → Calls Try.prog g ([v, .int .i64 (nn xs i), .int .i64 (nn ys i)] ++ gc).toArray W fun e W' =>
      ∃ v', e = .returned v' ∧ I (i + 1) v' W' ∧ Fr (fun k => w.heap.size + 4 ≤ k) W W') :
    Calls Try.prog n_vector_fold_bool #[.func (.func n_vector_sides_1) ⟨[]⟩ ⟨[pbox b1, pbox b2]⟩, v0, .func (.func g) ⟨[]⟩ ⟨gc⟩] w fun e W' => ∃ v, e = .returned v ∧ I (max xs.length ys.length) v W' ∧ Ext w W' := by
  have c0 : v0.cells = #[v0] := by have := hone _ _ _ hI0; cases v0 <;> first | rfl | (simp [Value.oneCell'] at this)
  refine enterM3 F_vector_fold_bool rfl rfl ?_
  refine (cw_seq (cw_region ?_))
  refine ow_ex rfl (ex_box rfl) rfl ?_
  refine ow_ex rfl (ex_box rfl) rfl ?_
  rw [c0]
  obtain ⟨w1, hw1⟩ : ∃ w1, (w.alloc (.cells #[v0] t_bool)).alloc (.cells (Value.func (.func g) ⟨[]⟩ ⟨gc⟩).cells t_func_bool_int_int_bool) = w1 := ⟨_, rfl⟩
  have B0 : Blk w1 w.heap.size t_bool [v0] := by rw [← hw1]; exact (Blk.new w _ [v0]).ext (Fr.alloc _ _)
  have B1 : Blk w1 (w.heap.size + 1) t_func_bool_int_int_bool [.func (.func g) ⟨[]⟩ ⟨gc⟩] := by
    rw [← hw1]
    have := Blk.new (w.alloc (.cells #[v0] t_bool)) t_func_bool_int_int_bool [.func (.func g) ⟨[]⟩ ⟨gc⟩]
    rwa [World.size_alloc] at this
  have e1 : Ext w w1 := by rw [← hw1]; exact (Fr.alloc _ _).trans (Fr.alloc _ _)
  have z1 : w1.heap.size = w.heap.size + 2 := by rw [← hw1]; simp
  have I1 : I 0 v0 w1 := hst _ _ _ _ None hI0 e1 (fun k h => h.elim)
  rw [World.size_alloc, hw1]
  clear hw1
  repeat refine o_p rfl rfl rfl ?_
  refine (ow_nil (pn_then (cw_seq (cw_seq (cw_region ?_)))))
  repeat refine o_p rfl rfl rfl ?_
  refine (ow_nil (pn_then (cw_block (cw_rangeFunc rfl ?_))))
  intro r hr1 hr2 hr3 hr4 hr5 hr6 hkn
  obtain ⟨w2, hw2⟩ : ∃ w2, (w1.alloc (.deferred (some []))).alloc (.loop r) = w2 := ⟨_, rfl⟩
  have e2 : Ext w1 w2 := by rw [← hw2]; exact (Fr.alloc _ _).trans (Fr.alloc _ _)
  have D2 : w2.heap[w.heap.size + 2]? = some (.deferred (some [])) := by
    rw [← hw2, ← z1]; exact (Below.heap_alloc _ _ _ (by simp)).trans (World.alloc_heap_new w1 _)
  have L2 : w2.heap[w.heap.size + 3]? = some (.loop r) := by
    rw [← hw2]; have := World.alloc_heap_new (w1.alloc (.deferred (some []))) (.loop r); rwa [World.size_alloc, z1] at this
  have z2 : w2.heap.size = w.heap.size + 4 := by rw [← hw2]; simp [z1]
  rw [hw2]
  rw [z1]
  let J : Nat → World → Prop := fun i W => ∃ v, Blk W w.heap.size t_bool [v] ∧ Blk W (w.heap.size + 1) t_func_bool_int_int_bool [.func (.func g) ⟨[]⟩ ⟨gc⟩] ∧ I i v W ∧ W.heap[w.heap.size + 2]? = some (.deferred (some [])) ∧
    W.heap[w.heap.size + 3]? = some (.loop r) ∧ Ext w W ∧ w.heap.size + 4 ≤ W.heap.size
  have hJ0 : J 0 w2 := ⟨v0, B0.ext e2, B1.ext e2, hst _ _ _ _ None I1 e2 (fun k h => h.elim), D2, L2, e1.trans e2, by omega⟩
  refine (sides_1_spec J h1 h2 ha hb (fun i W ⟨v, _, _, _, _, _, h, _⟩ => h) ?_ ?_ hJ0).mono ?_
  · rintro i W W' ⟨v, hb0, hb1, hI, hD, hL, hE, hz⟩ hW
    exact ⟨v, hb0.ext hW, hb1.ext hW, hst _ _ _ _ None hI hW (fun k h => h.elim), (hW.blk (by omega)).trans hD, (hW.blk (by omega)).trans hL, hE.trans hW, Nat.le_trans hz hW.size⟩
  · rintro i hi W ⟨v, hb0, hb1, hI, hD, hL, hE, hz⟩
    -- A ROUND
    refine yield_of hL (by rw [hr3]; rfl) (by rw [hr3]; decide) hkn ?_
    rw [hr3, hr4, hr5]
    refine (cw_seq (cw_region ?_))
    repeat refine o_p rfl rfl rfl ?_
    refine (ow_nil (pn_then (cw_region ?_)))
    repeat refine o_p rfl rfl rfl ?_
    refine (ow_nil (pn_asg hL hr1 ?_))
    obtain ⟨W1, hW1⟩ : ∃ W1, W.putObj (w.heap.size + 3) (.loop { r with state := .busy }) = W1 := ⟨_, rfl⟩
    have f1 : Fr (· = w.heap.size + 3) W W1 := by rw [← hW1]; exact Fr.putObj _ _ _
    have hL1 : W1.heap[w.heap.size + 3]? = some (.loop { r with state := .busy }) := by rw [← hW1]; exact World.putObj_heap_same (by omega)
    have hb0' := hb0.fr f1 (by omega)
    have hb1' := hb1.fr f1 (by omega)
    have hI' := hst _ _ _ _ _ hI f1 (fun k h => by omega)
    have hD' := (f1.keep (w.heap.size + 2) (by omega) (by omega)).trans hD
    have hE' : Ext w W1 := hE.trans' f1 (fun j hj h => by omega)
    have hz' : w.heap.size + 4 ≤ W1.heap.size := Nat.le_trans hz f1.size
    rw [hW1]
    refine (cw_block (cw_region ?_))
    refine ow_ex rfl (ex_load rfl rfl rfl (hb1'.cell 0)) rfl ?_
    refine ow_ex rfl (ex_load rfl rfl rfl (hb0'.cell 0)) rfl ?_
    repeat refine o_p rfl rfl rfl ?_
    refine ow_call rfl (ec_call rfl) rfl ((hstep i v W1 hi hI' hE' hz').mono ?_)
    rintro _ W2 ⟨v', rfl, hI2, f2⟩; refine ⟨_, rfl, ?_⟩
    have hb0'' := hb0'.fr f2 (by omega)
    have hb1'' := hb1'.fr f2 (by omega)
    have hD'' := (f2.keep (w.heap.size + 2) (by omega) (by omega)).trans hD'
    have hL'' := (f2.keep (w.heap.size + 3) (by omega) (by omega)).trans hL1
    have hE'' : Ext w W2 := hE'.trans' f2 (fun j hj h => by omega)
    have hz'' : w.heap.size + 4 ≤ W2.heap.size := Nat.le_trans hz' f2.size
    refine ow_eu rfl (eu_store rfl rfl rfl rfl (hone _ _ _ hI2) (hb0''.cell 0) (hb0''.frozen 0)) ?_  -- 5: store from
    have f3 := Fr.setCell W2 ⟨w.heap.size, 0, none⟩ v'
    have hL3 := (f3.keep (w.heap.size + 3) (by omega) (by simp)).trans hL''
    have hrr : ({ r with state := .ready, pending := none } : Loop) = r := by cases r; simp_all
    have hL4 : ∀ r', r' = r → ((W2.setCell ⟨w.heap.size, 0, none⟩ v').putObj (w.heap.size + 3) (.loop r')).heap[w.heap.size + 3]? = some (.loop r) := fun r' e => by
      rw [World.putObj_heap_same (by simp; omega), e]
    refine (ow_nil (pn_block (pn_round_go hL3 ⟨rfl, v', ?_⟩)))
    have hL5 := hL4 _ hrr
    generalize hW4 : (W2.setCell ⟨w.heap.size, 0, none⟩ v').putObj (w.heap.size + 3) _ = W4 at hL5
    have f4 : Fr (· = w.heap.size + 3) (W2.setCell ⟨w.heap.size, 0, none⟩ v') W4 := by rw [← hW4]; exact Fr.putObj _ _ _
    show Blk _ _ _ _ ∧ _
    refine ⟨?_, ?_, ?_, ?_, ?_, ?_, ?_⟩
    · exact ((hb0''.set 0 v').fr f4 (by omega))
    · exact (hb1''.fr f3 (by simp)).fr f4 (by omega)
    · exact hst _ _ _ _ _ (hst _ _ _ _ _ hI2 f3 (fun k h => by simp at h; omega)) f4 (fun k h => by omega)
    · exact (f4.keep _ (by simp; omega) (by omega)).trans ((f3.keep _ (by omega) (by simp)).trans hD'')
    · exact hL5
    · exact (hE''.trans' f3 (fun j hj h => by simp at h; omega)).trans' f4 (fun j hj h => by omega)
    · have := f3.size; have := f4.size; omega
  · rintro e W ⟨⟨u, rfl⟩, v, hb0, hb1, hI, hD, hL, hE, hz⟩
    refine ⟨⟨_, rfl⟩, r, hL, by rw [hr1]; decide, ?_⟩
    rw [hr2]
    -- BEHIND
    dsimp only
    generalize hW4 : W.putObj (w.heap.size + 2 + 1) _ = W4
    have f1 : Fr (· = w.heap.size + 3) W W4 := by rw [← hW4]; exact Fr.putObj _ _ _
    refine (pn_block (pn_then (cw_seq (cw_region ?_))))
    refine ow_ex rfl (ex_load rfl rfl rfl ((hb0.fr f1 (by omega)).cell 0)) rfl ?_
    repeat refine o_p rfl rfl rfl ?_
    have hD1 := (f1.keep (w.heap.size + 2) (by omega) (by omega)).trans hD
    refine (ow_nil (pn_then (cw_ret (pn_retM rfl rfl hD1 ⟨v, rfl, ?_, ?_⟩))))
    · exact hst _ _ _ _ _ (hst _ _ _ _ _ hI f1 (fun k h => by omega)) (Fr.putObj _ _ _) (fun k h => by omega)
    · exact (hE.trans' f1 (fun j hj h => by omega)).trans' (Fr.putObj _ _ _) (fun j hj h => by omega)

theorem fold_int_spec {b1 b2 : Nat} {va vb : Value} {xs ys : List Int} {w : World} (I : Nat → Value → World → Prop) (g : FuncId) (gc : List Value) [Bodied Try.prog g] (v0 : Value)
    (h1 : w.cell? ⟨b1, 0, none⟩ = some va) (h2 : w.cell? ⟨b2, 0, none⟩ = some vb) (ha : IL w va xs) (hb : IL w vb ys) (hI0 : I 0 v0 w) (hone : ∀ i v W, I i v W → v.oneCell' = true)
    (hst : ∀ i v W W' S, I i v W → Fr S W W' → (∀ k, S k → w.heap.size ≤ k ∧ k < w.heap.size + 4) → I i v W')
    (hstep : ∀ i v W, i < max xs.length ys.length → I i v W → Ext w W → w.heap.size + 4 ≤ W.heap.size → Calls Try.prog g ([v, .int .i64 (nn xs i), .int .i64 (nn ys i)] ++ gc).toArray W fun e W' =>
      ∃ v', e = .returned v' ∧ I (i + 1) v' W' ∧ Fr (fun k => w.heap.size + 4 ≤ k) W W') :
    Calls Try.prog n_vector_fold_int #[.func (.func n_vector_sides_1) ⟨[]⟩ ⟨[pbox b1, pbox b2]⟩, v0, .func (.func g) ⟨[]⟩ ⟨gc⟩] w fun e W' => ∃ v, e = .returned v ∧ I (max xs.length ys.length) v W' ∧ Ext w W' := by
  have c0 : v0.cells = #[v0] := by have := hone _ _ _ hI0; cases v0 <;> first | rfl | (simp [Value.oneCell'] at this)
  refine enterM3 F_vector_fold_int rfl rfl ?_
  refine (cw_seq (cw_region ?_))
  refine ow_ex rfl (ex_box rfl) rfl ?_
  refine ow_ex rfl (ex_box rfl) rfl ?_
  rw [c0]
  obtain ⟨w1, hw1⟩ : ∃ w1, (w.alloc (.cells #[v0] t_int)).alloc (.cells (Value.func (.func g) ⟨[]⟩ ⟨gc⟩).cells t_func_int_int_int_int) = w1 := ⟨_, rfl⟩
  have B0 : Blk w1 w.heap.size t_int [v0] := by rw [← hw1]; exact (Blk.new w _ [v0]).ext (Fr.alloc _ _)
  have B1 : Blk w1 (w.heap.size + 1) t_func_int_int_int_int [.func (.func g) ⟨[]⟩ ⟨gc⟩] := by
    rw [← hw1]
    have := Blk.new (w.alloc (.cells #[v0] t_int)) t_func_int_int_int_int [.func (.func g) ⟨[]⟩ ⟨gc⟩]
    rwa [World.size_alloc] at this
  have e1 : Ext w w1 := by rw [← hw1]; exact (Fr.alloc _ _).trans (Fr.alloc _ _)
  have z1 : w1.heap.size = w.heap.size + 2 := by rw [← hw1]; simp
  have I1 : I 0 v0 w1 := hst _ _ _ _ None hI0 e1 (fun k h => h.elim)
  rw [World.size_alloc, hw1]
  clear hw1
  repeat refine o_p rfl rfl rfl ?_
  refine (ow_nil (pn_then (cw_seq (cw_seq (cw_region ?_)))))
  repeat refine o_p rfl rfl rfl ?_
  refine (ow_nil (pn_then (cw_block (cw_rangeFunc rfl ?_))))
  intro r hr1 hr2 hr3 hr4 hr5 hr6 hkn
  obtain ⟨w2, hw2⟩ : ∃ w2, (w1.alloc (.deferred (some []))).alloc (.loop r) = w2 := ⟨_, rfl⟩
  have e2 : Ext w1 w2 := by rw [← hw2]; exact (Fr.alloc _ _).trans (Fr.alloc _ _)
  have D2 : w2.heap[w.heap.size + 2]? = some (.deferred (some [])) := by
    rw [← hw2, ← z1]; exact (Below.heap_alloc _ _ _ (by simp)).trans (World.alloc_heap_new w1 _)
  have L2 : w2.heap[w.heap.size + 3]? = some (.loop r) := by
    rw [← hw2]; have := World.alloc_heap_new (w1.alloc (.deferred (some []))) (.loop r); rwa [World.size_alloc, z1] at this
  have z2 : w2.heap.size = w.heap.size + 4 := by rw [← hw2]; simp [z1]
  rw [hw2]
  rw [z1]
  let J : Nat → World → Prop := fun i W => ∃ v, Blk W w.heap.size t_int [v] ∧ Blk W (w.heap.size + 1) t_func_int_int_int_int [.func (.func g) ⟨[]⟩ ⟨gc⟩] ∧ I i v W ∧ W.heap[w.heap.size + 2]? = some (.deferred (some [])) ∧
    W.heap[w.heap.size + 3]? = some (.loop r) ∧ Ext w W ∧ w.heap.size + 4 ≤ W.heap.size
  have hJ0 : J 0 w2 := ⟨v0, B0.ext e2, B1.ext e2, hst _ _ _ _ None I1 e2 (fun k h => h.elim), D2, L2, e1.trans e2, by omega⟩
  refine (sides_1_spec J h1 h2 ha hb (fun i W ⟨v, _, _, _, _, _, h, _⟩ => h) ?_ ?_ hJ0).mono ?_
  · rintro i W W' ⟨v, hb0, hb1, hI, hD, hL, hE, hz⟩ hW
    exact ⟨v, hb0.ext hW, hb1.ext hW, hst _ _ _ _ None hI hW (fun k h => h.elim), (hW.blk (by omega)).trans hD, (hW.blk (by omega)).trans hL, hE.trans hW, Nat.le_trans hz hW.size⟩
  · rintro i hi W ⟨v, hb0, hb1, hI, hD, hL, hE, hz⟩
    -- A ROUND
    refine yield_of hL (by rw [hr3]; rfl) (by rw [hr3]; decide) hkn ?_
    rw [hr3, hr4, hr5]
    refine (cw_seq (cw_region ?_))
    repeat refine o_p rfl rfl rfl ?_
    refine (ow_nil (pn_then (cw_region ?_)))
    repeat refine o_p rfl rfl rfl ?_
    refine (ow_nil (pn_asg hL hr1 ?_))
    obtain ⟨W1, hW1⟩ : ∃ W1, W.putObj (w.heap.size + 3) (.loop { r with state := .busy }) = W1 := ⟨_, rfl⟩
    have f1 : Fr (· = w.heap.size + 3) W W1 := by rw [← hW1]; exact Fr.putObj _ _ _
    have hL1 : W1.heap[w.heap.size + 3]? = some (.loop { r with state := .busy }) := by rw [← hW1]; exact World.putObj_heap_same (by omega)
    have hb0' := hb0.fr f1 (by omega)
    have hb1' := hb1.fr f1 (by omega)
    have hI' := hst _ _ _ _ _ hI f1 (fun k h => by omega)
    have hD' := (f1.keep (w.heap.size + 2) (by omega) (by omega)).trans hD
    have hE' : Ext w W1 := hE.trans' f1 (fun j hj h => by omega)
    have hz' : w.heap.size + 4 ≤ W1.heap.size := Nat.le_trans hz f1.size
    rw [hW1]
    refine (cw_block (cw_region ?_))
    refine ow_ex rfl (ex_load rfl rfl rfl (hb1'.cell 0)) rfl ?_
    refine ow_ex rfl (ex_load rfl rfl rfl (hb0'.cell 0)) rfl ?_
    repeat refine o_p rfl rfl rfl ?_
    refine ow_call rfl (ec_call rfl) rfl ((hstep i v W1 hi hI' hE' hz').mono ?_)
    rintro _ W2 ⟨v', rfl, hI2, f2⟩; refine ⟨_, rfl, ?_⟩
    have hb0'' := hb0'.fr f2 (by omega)
    have hb1'' := hb1'.fr f2 (by omega)
    have hD'' := (f2.keep (w.heap.size + 2) (by omega) (by omega)).trans hD'
    have hL'' := (f2.keep (w.heap.size + 3) (by omega) (by omega)).trans hL1
    have hE'' : Ext w W2 := hE'.trans' f2 (fun j hj h => by omega)
    have hz'' : w.heap.size + 4 ≤ W2.heap.size := Nat.le_trans hz' f2.size
    refine ow_eu rfl (eu_store rfl rfl rfl rfl (hone _ _ _ hI2) (hb0''.cell 0) (hb0''.frozen 0)) ?_  -- 5: store from
    have f3 := Fr.setCell W2 ⟨w.heap.size, 0, none⟩ v'
    have hL3 := (f3.keep (w.heap.size + 3) (by omega) (by simp)).trans hL''
    have hrr : ({ r with state := .ready, pending := none } : Loop) = r := by cases r; simp_all
    have hL4 : ∀ r', r' = r → ((W2.setCell ⟨w.heap.size, 0, none⟩ v').putObj (w.heap.size + 3) (.loop r')).heap[w.heap.size + 3]? = some (.loop r) := fun r' e => by
      rw [World.putObj_heap_same (by simp; omega), e]
    refine (ow_nil (pn_block (pn_round_go hL3 ⟨rfl, v', ?_⟩)))
    have hL5 := hL4 _ hrr
    generalize hW4 : (W2.setCell ⟨w.heap.size, 0, none⟩ v').putObj (w.heap.size + 3) _ = W4 at hL5
    have f4 : Fr (· = w.heap.size + 3) (W2.setCell ⟨w.heap.size, 0, none⟩ v') W4 := by rw [← hW4]; exact Fr.putObj _ _ _
    show Blk _ _ _ _ ∧ _
    refine ⟨?_, ?_, ?_, ?_, ?_, ?_, ?_⟩
    · exact ((hb0''.set 0 v').fr f4 (by omega))
    · exact (hb1''.fr f3 (by simp)).fr f4 (by omega)
    · exact hst _ _ _ _ _ (hst _ _ _ _ _ hI2 f3 (fun k h => by simp at h; omega)) f4 (fun k h => by omega)
    · exact (f4.keep _ (by simp; omega) (by omega)).trans ((f3.keep _ (by omega) (by simp)).trans hD'')
    · exact hL5
    · exact (hE''.trans' f3 (fun j hj h => by simp at h; omega)).trans' f4 (fun j hj h => by omega)
    · have := f3.size; have := f4.size; omega
  · rintro e W ⟨⟨u, rfl⟩, v, hb0, hb1, hI, hD, hL, hE, hz⟩
    refine ⟨⟨_, rfl⟩, r, hL, by rw [hr1]; decide, ?_⟩
    rw [hr2]
    -- BEHIND
    dsimp only
    generalize hW4 : W.putObj (w.heap.size + 2 + 1) _ = W4
    have f1 : Fr (· = w.heap.size + 3) W W4 := by rw [← hW4]; exact Fr.putObj _ _ _
    refine (pn_block (pn_then (cw_seq (cw_region ?_))))
    refine ow_ex rfl (ex_load rfl rfl rfl ((hb0.fr f1 (by omega)).cell 0)) rfl ?_
    repeat refine o_p rfl rfl rfl ?_
    have hD1 := (f1.keep (w.heap.size + 2) (by omega) (by omega)).trans hD
    refine (ow_nil (pn_then (cw_ret (pn_retM rfl rfl hD1 ⟨v, rfl, ?_, ?_⟩))))
    · exact hst _ _ _ _ _ (hst _ _ _ _ _ hI f1 (fun k h => by omega)) (Fr.putObj _ _ _) (fun k h => by omega)
    · exact (hE.trans' f1 (fun j hj h => by omega)).trans' (Fr.putObj _ _ _) (fun j hj h => by omega)

theorem fold_sl_int_spec {b1 b2 : Nat} {va vb : Value} {xs ys : List Int} {w : World} (I : Nat → Value → World → Prop) (g : FuncId) (gc : List Value) [Bodied Try.prog g] (v0 : Value)
    (h1 : w.cell? ⟨b1, 0, none⟩ = some va) (h2 : w.cell? ⟨b2, 0, none⟩ = some vb) (ha : IL w va xs) (hb : IL w vb ys) (hI0 : I 0 v0 w) (hone : ∀ i v W, I i v W → v.oneCell' = true)
    (hst : ∀ i v W W' S, I i v W → Fr S W W' → (∀ k, S k → w.heap.size ≤ k ∧ k < w.heap.size + 4) → I i v W')
    (hstep : ∀ i v W, i < max xs.length ys.length → I i v W → Ext w W → w.heap.size + 4 ≤ W.heap.size → Calls Try.prog g ([v, .int .i64 (nn xs i), .int .i64 (nn ys i)] ++ gc).toArray W fun e W' =>
      ∃ v', e = .returned v' ∧ I (i + 1) v' W' ∧ Fr (fun k => w.heap.size + 4 ≤ k) W W') :
    Calls Try.prog n_vector_fold_sl_int #[.func (.func n_vector_sides_1) ⟨[]⟩ ⟨[pbox b1, pbox b2]⟩, v0, .func (.func g) ⟨[]⟩ ⟨gc⟩] w fun e W' => ∃ v, e = .returned v ∧ I (max xs.length ys.length) v W' ∧ Ext w W' := by
  have c0 : v0.cells = #[v0] := by have := hone _ _ _ hI0; cases v0 <;> first | rfl | (simp [Value.oneCell'] at this)
  refine enterM3 F_vector_fold_sl_int rfl rfl ?_
  refine (cw_seq (cw_region ?_))
  refine ow_ex rfl (ex_box rfl) rfl ?_
  refine ow_ex rfl (ex_box rfl) rfl ?_
  rw [c0]
  obtain ⟨w1, hw1⟩ : ∃ w1, (w.alloc (.cells #[v0] t_sl_int)).alloc (.cells (Value.func (.func g) ⟨[]⟩ ⟨gc⟩).cells t_func_sl_int_int_int_sl_int) = w1 := ⟨_, rfl⟩
  have B0 : Blk w1 w.heap.size t_sl_int [v0] := by rw [← hw1]; exact (Blk.new w _ [v0]).ext (Fr.alloc _ _)
  have B1 : Blk w1 (w.heap.size + 1) t_func_sl_int_int_int_sl_int [.func (.func g) ⟨[]⟩ ⟨gc⟩] := by
    rw [← hw1]
    have := Blk.new (w.alloc (.cells #[v0] t_sl_int)) t_func_sl_int_int_int_sl_int [.func (.func g) ⟨[]⟩ ⟨gc⟩]
    rwa [World.size_alloc] at this
  have e1 : Ext w w1 := by rw [← hw1]; exact (Fr.alloc _ _).trans (Fr.alloc _ _)
  have z1 : w1.heap.size = w.heap.size + 2 := by rw [← hw1]; simp
  have I1 : I 0 v0 w1 := hst _ _ _ _ None hI0 e1 (fun k h => h.elim)
  rw [World.size_alloc, hw1]
  clear hw1
  repeat refine o_p rfl rfl rfl ?_
  refine (ow_nil (pn_then (cw_seq (cw_seq (cw_region ?_)))))
  repeat refine o_p rfl rfl rfl ?_
  refine (ow_nil (pn_then (cw_block (cw_rangeFunc rfl ?_))))
  intro r hr1 hr2 hr3 hr4 hr5 hr6 hkn
  obtain ⟨w2, hw2⟩ : ∃ w2, (w1.alloc (.deferred (some []))).alloc (.loop r) = w2 := ⟨_, rfl⟩
  have e2 : Ext w1 w2 := by rw [← hw2]; exact (Fr.alloc _ _).trans (Fr.alloc _ _)
  have D2 : w2.heap[w.heap.size + 2]? = some (.deferred (some [])) := by
    rw [← hw2, ← z1]; exact (Below.heap_alloc _ _ _ (by simp)).trans (World.alloc_heap_new w1 _)
  have L2 : w2.heap[w.heap.size + 3]? = some (.loop r) := by
    rw [← hw2]; have := World.alloc_heap_new (w1.alloc (.deferred (some []))) (.loop r); rwa [World.size_alloc, z1] at this
  have z2 : w2.heap.size = w.heap.size + 4 := by rw [← hw2]; simp [z1]
  rw [hw2]
  rw [z1]
  let J : Nat → World → Prop := fun i W => ∃ v, Blk W w.heap.size t_sl_int [v] ∧ Blk W (w.heap.size + 1) t_func_sl_int_int_int_sl_int [.func (.func g) ⟨[]⟩ ⟨gc⟩] ∧ I i v W ∧ W.heap[w.heap.size + 2]? = some (.deferred (some [])) ∧
    W.heap[w.heap.size + 3]? = some (.loop r) ∧ Ext w W ∧ w.heap.size + 4 ≤ W.heap.size
  have hJ0 : J 0 w2 := ⟨v0, B0.ext e2, B1.ext e2, hst _ _ _ _ None I1 e2 (fun k h => h.elim), D2, L2, e1.trans e2, by omega⟩
  refine (sides_1_spec J h1 h2 ha hb (fun i W ⟨v, _, _, _, _, _, h, _⟩ => h) ?_ ?_ hJ0).mono ?_
  · rintro i W W' ⟨v, hb0, hb1, hI, hD, hL, hE, hz⟩ hW
    exact ⟨v, hb0.ext hW, hb1.ext hW, hst _ _ _ _ None hI hW (fun k h => h.elim), (hW.blk (by omega)).trans hD, (hW.blk (by omega)).trans hL, hE.trans hW, Nat.le_trans hz hW.size⟩
  · rintro i hi W ⟨v, hb0, hb1, hI, hD, hL, hE, hz⟩
    -- A ROUND
    refine yield_of hL (by rw [hr3]; rfl) (by rw [hr3]; decide) hkn ?_
    rw [hr3, hr4, hr5]
    refine (cw_seq (cw_region ?_))
    repeat refine o_p rfl rfl rfl ?_
    refine (ow_nil (pn_then (cw_region ?_)))
    repeat refine o_p rfl rfl rfl ?_
    refine (ow_nil (pn_asg hL hr1 ?_))
    obtain ⟨W1, hW1⟩ : ∃ W1, W.putObj (w.heap.size + 3) (.loop { r with state := .busy }) = W1 := ⟨_, rfl⟩
    have f1 : Fr (· = w.heap.size + 3) W W1 := by rw [← hW1]; exact Fr.putObj _ _ _
    have hL1 : W1.heap[w.heap.size + 3]? = some (.loop { r with state := .busy }) := by rw [← hW1]; exact World.putObj_heap_same (by omega)
    have hb0' := hb0.fr f1 (by omega)
    have hb1' := hb1.fr f1 (by omega)
    have hI' := hst _ _ _ _ _ hI f1 (fun k h => by omega)
    have hD' := (f1.keep (w.heap.size + 2) (by omega) (by omega)).trans hD
    have hE' : Ext w W1 := hE.trans' f1 (fun j hj h => by omega)
    have hz' : w.heap.size + 4 ≤ W1.heap.size := Nat.le_trans hz f1.size
    rw [hW1]
    refine (cw_block (cw_region ?_))
    refine ow_ex rfl (ex_load rfl rfl rfl (hb1'.cell 0)) rfl ?_
    refine ow_ex rfl (ex_load rfl rfl rfl (hb0'.cell 0)) rfl ?_
    repeat refine o_p rfl rfl rfl ?_
    refine ow_call rfl (ec_call rfl) rfl ((hstep i v W1 hi hI' hE' hz').mono ?_)
    rintro _ W2 ⟨v', rfl, hI2, f2⟩; refine ⟨_, rfl, ?_⟩
    have hb0'' := hb0'.fr f2 (by omega)
    have hb1'' := hb1'.fr f2 (by omega)
    have hD'' := (f2.keep (w.heap.size + 2) (by omega) (by omega)).trans hD'
    have hL'' := (f2.keep (w.heap.size + 3) (by omega) (by omega)).trans hL1
    have hE'' : Ext w W2 := hE'.trans' f2 (fun j hj h => by omega)
    have hz'' : w.heap.size + 4 ≤ W2.heap.size := Nat.le_trans hz' f2.size
    refine ow_eu rfl (eu_store rfl rfl rfl rfl (hone _ _ _ hI2) (hb0''.cell 0) (hb0''.frozen 0)) ?_  -- 5: store from
    have f3 := Fr.setCell W2 ⟨w.heap.size, 0, none⟩ v'
    have hL3 := (f3.keep (w.heap.size + 3) (by omega) (by simp)).trans hL''
    have hrr : ({ r with state := .ready, pending := none } : Loop) = r := by cases r; simp_all
    have hL4 : ∀ r', r' = r → ((W2.setCell ⟨w.heap.size, 0, none⟩ v').putObj (w.heap.size + 3) (.loop r')).heap[w.heap.size + 3]? = some (.loop r) := fun r' e => by
      rw [World.putObj_heap_same (by simp; omega), e]
    refine (ow_nil (pn_block (pn_round_go hL3 ⟨rfl, v', ?_⟩)))
    have hL5 := hL4 _ hrr
    generalize hW4 : (W2.setCell ⟨w.heap.size, 0, none⟩ v').putObj (w.heap.size + 3) _ = W4 at hL5
    have f4 : Fr (· = w.heap.size + 3) (W2.setCell ⟨w.heap.size, 0, none⟩ v') W4 := by rw [← hW4]; exact Fr.putObj _ _ _
    show Blk _ _ _ _ ∧ _
    refine ⟨?_, ?_, ?_, ?_, ?_, ?_, ?_⟩
    · exact ((hb0''.set 0 v').fr f4 (by omega))
    · exact (hb1''.fr f3 (by simp)).fr f4 (by omega)
    · exact hst _ _ _ _ _ (hst _ _ _ _ _ hI2 f3 (fun k h => by simp at h; omega)) f4 (fun k h => by omega)
    · exact (f4.keep _ (by simp; omega) (by omega)).trans ((f3.keep _ (by omega) (by simp)).trans hD'')
    · exact hL5
    · exact (hE''.trans' f3 (fun j hj h => by simp at h; omega)).trans' f4 (fun j hj h => by omega)
    · have := f3.size; have := f4.size; omega
  · rintro e W ⟨⟨u, rfl⟩, v, hb0, hb1, hI, hD, hL, hE, hz⟩
    refine ⟨⟨_, rfl⟩, r, hL, by rw [hr1]; decide, ?_⟩
    rw [hr2]
    -- BEHIND
    dsimp only
    generalize hW4 : W.putObj (w.heap.size + 2 + 1) _ = W4
    have f1 : Fr (· = w.heap.size + 3) W W4 := by rw [← hW4]; exact Fr.putObj _ _ _
    refine (pn_block (pn_then (cw_seq (cw_region ?_))))
    refine ow_ex rfl (ex_load rfl rfl rfl ((hb0.fr f1 (by omega)).cell 0)) rfl ?_
    repeat refine o_p rfl rfl rfl ?_
    have hD1 := (f1.keep (w.heap.size + 2) (by omega) (by omega)).trans hD
    refine (ow_nil (pn_then (cw_ret (pn_retM rfl rfl hD1 ⟨v, rfl, ?_, ?_⟩))))
    · exact hst _ _ _ _ _ (hst _ _ _ _ _ hI f1 (fun k h => by omega)) (Fr.putObj _ _ _) (fun k h => by omega)
    · exact (hE.trans' f1 (fun j hj h => by omega)).trans' (Fr.putObj _ _ _) (fun j hj h => by omega)

end Go.Proofs.Ytplkinnaccpomaa
