/- Vectors, part three: Leq, Same, Weight, Has, Next of both packages. Conditions: the vectors may be read, and are not too long. -/
import Derived.Test.YtplkinnaccpomaaVecB
namespace Go.Proofs.Ytplkinnaccpomaa
open Go.Eng Go.RowKit

theorem nn_nonneg (xs : List Int) (i : Nat) : 0 ≤ nn xs i := by unfold nn; omega
theorem atL_nonneg (xs : List Int) (r : Int) : 0 ≤ atL xs r := by unfold atL; split <;> first | exact nn_nonneg _ _ | omega

def leqL (xs ys : List Int) : Bool := (List.range (max xs.length ys.length)).all fun i => decide (nn xs i ≤ nn ys i)
def sameL (xs ys : List Int) : Bool := (List.range (max xs.length ys.length)).all fun i => decide (nn xs i = nn ys i)
theorem leqL_iff (xs ys : List Int) : leqL xs ys = true ↔ ∀ i, nn xs i ≤ nn ys i := by
  simp only [leqL, List.all_eq_true, List.mem_range, decide_eq_true_eq]
  refine ⟨fun h i => ?_, fun h i _ => h i⟩
  by_cases hi : i < max xs.length ys.length
  · exact h i hi
  · rw [nn_out (by omega), nn_out (by omega)]; omega
theorem sameL_iff (xs ys : List Int) : sameL xs ys = true ↔ ∀ i, nn xs i = nn ys i := by
  simp only [sameL, List.all_eq_true, List.mem_range, decide_eq_true_eq]
  refine ⟨fun h i => ?_, fun h i _ => h i⟩
  by_cases hi : i < max xs.length ys.length
  · exact h i hi
  · rw [nn_out (by omega), nn_out (by omega)]
theorem sameL_eq (xs ys : List Int) : sameL xs ys = (leqL xs ys && leqL ys xs) := by
  rw [Bool.eq_iff_iff, Bool.and_eq_true, sameL_iff, leqL_iff, leqL_iff]
  refine ⟨fun h => ⟨fun i => by rw [h i]; omega, fun i => by rw [h i]; omega⟩, fun ⟨h1, h2⟩ i => by have := h1 i; have := h2 i; omega⟩

def weightF (xs : List Int) : Nat → Int
  | 0 => 0
  | i + 1 => weightF xs i + min (nn xs i) (capI - weightF xs i)
def weightL (xs : List Int) : Int := weightF xs xs.length
theorem weightF_bound (xs : List Int) (i : Nat) : 0 ≤ weightF xs i ∧ weightF xs i ≤ capI := by
  induction i with
  | zero => simp [weightF, capI]
  | succ i ih => have := nn_nonneg xs i; simp only [weightF]; omega
theorem weightF_cap (xs : List Int) (i k : Nat) (h : weightF xs i = capI) : weightF xs (i + k) = capI := by
  induction k with
  | zero => exact h
  | succ k ih => have := nn_nonneg xs (i + k); rw [← Nat.add_assoc]; simp only [weightF, ih]; omega

/-- Both vectors in cells, and then a fold of bools. -/
theorem foldB_spec (q : Int → Int → Bool) (g : FuncId) [Bodied Try.prog g] (hg : ∀ b x y w, Calls Try.prog g #[.bool b, .int .i64 x, .int .i64 y] w fun e w' => e = .returned (.bool (b && q x y)) ∧ w = w')
    {va vb : Value} {xs ys : List Int} {w : World} (ha : IL w va xs) (hb : IL w vb ys) :
    Calls Try.prog n_vector_fold_bool #[.func (.func n_vector_sides_1) ⟨[]⟩ ⟨[pbox w.heap.size, pbox (w.heap.size + 1)]⟩, .bool true, .func (.func g) ⟨[]⟩ ⟨[]⟩] ((w.alloc (.cells va.cells t_sl_int)).alloc (.cells vb.cells t_sl_int))
      fun e w' => e = .returned (.bool ((List.range (max xs.length ys.length)).all fun i => q (nn xs i) (nn ys i))) ∧ Ext w w' := by
  have ca : va.cells = #[va] := by obtain ⟨A, c, rfl, _⟩ := ha.op; rfl
  have cb : vb.cells = #[vb] := by obtain ⟨A, c, rfl, _⟩ := hb.op; rfl
  rw [ca, cb]
  have B1 : Blk (w.alloc (.cells #[va] t_sl_int)) w.heap.size t_sl_int [va] := Blk.new w _ [va]
  have e1 : Ext w (w.alloc (.cells #[va] t_sl_int)) := Fr.alloc _ _
  have z1 : (w.alloc (.cells #[va] t_sl_int)).heap.size = w.heap.size + 1 := by simp
  generalize w.alloc (.cells #[va] t_sl_int) = w1 at *
  have B2 : Blk (w1.alloc (.cells #[vb] t_sl_int)) w1.heap.size t_sl_int [vb] := Blk.new w1 _ [vb]
  have e2 : Ext w1 (w1.alloc (.cells #[vb] t_sl_int)) := Fr.alloc _ _
  generalize w1.alloc (.cells #[vb] t_sl_int) = w2 at *
  have eE : Ext w w2 := e1.trans e2
  rw [z1] at B2
  refine (fold_bool_spec (fun i v _ => v = .bool ((List.range i).all fun i => q (nn xs i) (nn ys i))) g [] (.bool true) ((B1.ext e2).cell 0) (B2.cell 0) (ha.ext eE) (hb.ext eE) rfl ?_ ?_ ?_).mono ?_
  · rintro i v W rfl; rfl
  · rintro i v W W' S rfl _ _; rfl
  · rintro i v W hi rfl hE hz
    refine (hg _ _ _ _).mono ?_
    rintro e W' ⟨rfl, rfl⟩
    exact ⟨_, rfl, by simp [List.range_succ], Fr.refl _ _⟩
  · rintro e w3 ⟨v, rfl, rfl, hE⟩
    exact ⟨rfl, eE.trans hE⟩

theorem Leq_spec {va vb : Value} {xs ys : List Int} {w : World} (ha : IL w va xs) (hb : IL w vb ys) : Calls Try.prog n_vector_Leq #[va, vb] w fun e w' => e = .returned (.bool (leqL xs ys)) ∧ Ext w w' := by
  refine enter2 F_vector_Leq rfl rfl ?_
  repeat (first | refine o_p rfl rfl rfl ?_ | refine on ?_ | refine sr ?_ | refine ss ?_)
  refine ow_call rfl (ec_call rfl) rfl (sides_spec.mono ?_)
  rintro _ w1 ⟨rfl, rfl⟩; refine ⟨_, rfl, ?_⟩
  refine ow_call rfl (ec_call rfl) rfl ((foldB_spec (fun x y => decide (x ≤ y)) n_vector_Leq_1 Leq_1_spec ha hb).mono ?_)
  rintro _ w1 ⟨rfl, e1⟩; refine ⟨_, rfl, ?_⟩
  repeat (first | refine o_p rfl rfl rfl ?_ | refine on ?_ | refine sr ?_ | refine ss ?_)
  exact cw_ret (pn_ret rfl rfl ⟨rfl, e1⟩)
theorem Same_spec {va vb : Value} {xs ys : List Int} {w : World} (ha : IL w va xs) (hb : IL w vb ys) : Calls Try.prog n_vector_Same #[va, vb] w fun e w' => e = .returned (.bool (sameL xs ys)) ∧ Ext w w' := by
  refine enter2 F_vector_Same rfl rfl ?_
  repeat (first | refine o_p rfl rfl rfl ?_ | refine on ?_ | refine sr ?_ | refine ss ?_)
  refine ow_call rfl (ec_call rfl) rfl (sides_spec.mono ?_)
  rintro _ w1 ⟨rfl, rfl⟩; refine ⟨_, rfl, ?_⟩
  refine ow_call rfl (ec_call rfl) rfl ((foldB_spec (fun x y => decide (x = y)) n_vector_Same_1 Same_1_spec ha hb).mono ?_)
  rintro _ w1 ⟨rfl, e1⟩; refine ⟨_, rfl, ?_⟩
  repeat (first | refine o_p rfl rfl rfl ?_ | refine on ?_ | refine sr ?_ | refine ss ?_)
  exact cw_ret (pn_ret rfl rfl ⟨rfl, e1⟩)

theorem Weight_spec {va : Value} {xs : List Int} {w : World} (ha : IL w va xs) : Calls Try.prog n_vector_Weight #[va] w fun e w' => e = .returned (.int .i64 (weightL xs)) ∧ Ext w w' := by
  have ca : va.cells = #[va] := by obtain ⟨A, c, rfl, _⟩ := ha.op; rfl
  have hb : IL w (.slice none 0 0) ([] : List Int) := VL.nil _ _
  have cb : (Value.slice none 0 0).cells = #[.slice none 0 0] := rfl
  refine enter1 F_vector_Weight rfl rfl ?_
  repeat (first | refine o_p rfl rfl rfl ?_ | refine on ?_ | refine sr ?_ | refine ss ?_)
  refine ow_call rfl (ec_call rfl) rfl (sides_spec.mono ?_)
  rintro _ w1 ⟨rfl, rfl⟩; refine ⟨_, rfl, ?_⟩
  rw [ca, cb]
  have B1 : Blk (w.alloc (.cells #[va] t_sl_int)) w.heap.size t_sl_int [va] := Blk.new w _ [va]
  have e1 : Ext w (w.alloc (.cells #[va] t_sl_int)) := Fr.alloc _ _
  have z1 : (w.alloc (.cells #[va] t_sl_int)).heap.size = w.heap.size + 1 := by simp
  generalize w.alloc (.cells #[va] t_sl_int) = w1 at *
  have B2 : Blk (w1.alloc (.cells #[.slice none 0 0] t_sl_int)) w1.heap.size t_sl_int [.slice none 0 0] := Blk.new w1 _ _
  have e2 : Ext w1 (w1.alloc (.cells #[.slice none 0 0] t_sl_int)) := Fr.alloc _ _
  generalize w1.alloc (.cells #[.slice none 0 0] t_sl_int) = w2 at *
  have eE : Ext w w2 := e1.trans e2
  rw [z1] at B2
  refine ow_call rfl (ec_call rfl) rfl ((fold_int_spec (fun i v _ => v = .int .i64 (weightF xs i)) n_vector_Weight_1 [] (.int .i64 0) ((B1.ext e2).cell 0) (B2.cell 0) (ha.ext eE) (hb.ext eE) rfl ?_ ?_ ?_).mono ?_)
  · rintro i v W rfl; rfl
  · rintro i v W W' S rfl _ _; rfl
  · rintro i v W hi rfl hE hz
    refine (Weight_1_spec _ _ _ _ (weightF_bound xs i) (nn_nonneg xs i)).mono ?_
    rintro e W' ⟨rfl, rfl⟩
    exact ⟨_, rfl, rfl, Fr.refl _ _⟩
  · rintro e w3 ⟨v, rfl, rfl, hE⟩
    refine ⟨_, rfl, ?_⟩
    repeat (first | refine o_p rfl rfl rfl ?_ | refine on ?_ | refine sr ?_ | refine ss ?_)
    have hm : max xs.length ([] : List Int).length = xs.length := by simp
    rw [hm]
    exact cw_ret (pn_ret rfl rfl ⟨rfl, eE.trans hE⟩)

/-! ## A dot -/
abbrev dotV (r n : Int) : Value := .agg #[.int .i64 r, .int .i64 n]
def hasL (xs : List Int) (r n : Int) : Bool := decide (1 ≤ r) && decide (1 ≤ n) && decide (n ≤ atL xs r)

theorem Has_spec_vector_Has {va : Value} {xs : List Int} {r n : Int} {w : World} (ha : IL w va xs) : Calls Try.prog n_vector_Has #[va, dotV r n] w fun e w' => e = .returned (.bool (hasL xs r n)) ∧ Ext w w' := by
  refine enter2 F_vector_Has rfl rfl ?_
  refine (cw_seq (cw_region ?_))
  refine ow_ex rfl (ex_box rfl) rfl ?_
  have B : Blk (w.alloc (.cells (dotV r n).cells t_api_Dot)) w.heap.size t_api_Dot [.int .i64 r, .int .i64 n] := Blk.new w _ _
  have e1 : Ext w (w.alloc (.cells (dotV r n).cells t_api_Dot)) := Fr.alloc _ _
  generalize w.alloc (.cells (dotV r n).cells t_api_Dot) = w1 at *
  have hR := B.cell 0
  have hN := B.cell 1
  repeat refine o_p rfl rfl rfl ?_
  refine (ow_nil (pn_then (cw_seq (cw_draw flo (fun W' => Ext w1 W') (by decide) (Fr.drew _) ?_))))
  repeat refine d_p rfl rfl rfl rfl ?_
  refine dw_rd rfl rfl (fun W' hW' => ex_load rfl rfl rfl (hW'.cell hR)) rfl ?_
  repeat refine d_p rfl rfl rfl rfl ?_
  refine d_if 8 rfl (fun h1 => ?_) (fun h1 => ?_)
  · repeat refine d_p rfl rfl rfl rfl ?_
    refine dw_rd rfl rfl (fun W' hW' => ex_load rfl rfl rfl (hW'.cell hN)) rfl ?_
    repeat refine d_p rfl rfl rfl rfl ?_
    refine d_if 13 rfl (fun h2 => ?_) (fun h2 => ?_)
    · repeat refine d_p rfl rfl rfl rfl ?_
      refine dw_rd rfl rfl (fun W' hW' => ex_load rfl rfl rfl (hW'.cell hN)) rfl ?_
      repeat refine d_p rfl rfl rfl rfl ?_
      refine dw_rd rfl rfl (fun W' hW' => ex_load rfl rfl rfl (hW'.cell hR)) rfl ?_
      refine dw_call rfl rfl (ec_call rfl) rfl ((At_spec_vector_At (ha.ext (e1.trans (Fr.drew _)))).mono ?_)
      rintro _ w2 ⟨rfl, rfl⟩; refine ⟨_, rfl, Fr.drew _, ?_⟩
      repeat refine d_p rfl rfl rfl rfl ?_
      refine (dw_nil (pn_then (cw_ret (pn_ret rfl rfl ⟨?_, e1.trans (Fr.drew _)⟩))))
      simp [hasL, h1, h2]
    · repeat (first | refine d_p rfl rfl rfl rfl ?_ | refine dw_skip rfl rfl ?_)
      refine (dw_nil (pn_then (cw_ret (pn_ret rfl rfl ⟨?_, e1.trans (Fr.drew _)⟩))))
      simp [hasL, h2]
  · repeat (first | refine d_p rfl rfl rfl rfl ?_ | refine dw_skip rfl rfl ?_)
    refine (dw_nil (pn_then (cw_ret (pn_ret rfl rfl ⟨?_, e1.trans (Fr.drew _)⟩))))
    simp [hasL, h1]

def nextL (xs : List Int) (r : Int) : Int × Int := if r < 1 ∨ capI ≤ atL xs r then (0, 0) else (r, atL xs r + 1)

theorem Next_spec_vector {va : Value} {xs : List Int} {r : Int} {w : World} (ha : IL w va xs) : Calls Try.prog n_vector_Next #[va, .int .i64 r] w fun e w' => e = .returned (dotV (nextL xs r).1 (nextL xs r).2) ∧ Ext w w' := by
  refine enter2 F_vector_Next rfl rfl ?_
  refine (cw_seq (cw_region ?_))
  refine ow_ex rfl (ex_alloc rfl) rfl ?_
  have B : Blk (w.alloc (.cells (dotV 0 0).cells t_api_Dot)) w.heap.size t_api_Dot [.int .i64 0, .int .i64 0] := Blk.new w _ _
  have e1 : Ext w (w.alloc (.cells (dotV 0 0).cells t_api_Dot)) := Fr.alloc _ _
  change OW _ _ _ _ _ _ _ _ (w.alloc (.cells (dotV 0 0).cells t_api_Dot))
  have z1 : (w.alloc (.cells (dotV 0 0).cells t_api_Dot)).heap.size = w.heap.size + 1 := by simp
  generalize w.alloc (.cells (dotV 0 0).cells t_api_Dot) = w1 at *
  repeat (first | refine o_p rfl rfl rfl ?_ | refine on ?_ | refine sr ?_ | refine ss ?_)
  refine ow_call rfl (ec_call rfl) rfl ((At_spec_vector_At (ha.ext e1)).mono ?_)
  rintro _ w2 ⟨rfl, rfl⟩; refine ⟨_, rfl, ?_⟩
  repeat (first | refine o_p rfl rfl rfl ?_ | refine on ?_ | refine sr ?_ | refine ss ?_)
  refine o_w rfl rfl rfl ?_
  refine o_b rfl rfl rfl ?_
  refine ow_ex rfl (ex_alloc rfl) rfl ?_
  have B2 : Blk (w1.alloc (.cells (dotV 0 0).cells t_api_Dot)) w1.heap.size t_api_Dot [.int .i64 0, .int .i64 0] := Blk.new w1 _ _
  have e2 : Ext w1 (w1.alloc (.cells (dotV 0 0).cells t_api_Dot)) := Fr.alloc _ _
  change OW _ _ _ _ _ _ _ _ (w1.alloc (.cells (dotV 0 0).cells t_api_Dot))
  have z2 : (w1.alloc (.cells (dotV 0 0).cells t_api_Dot)).heap.size = w1.heap.size + 1 := by simp
  generalize w1.alloc (.cells (dotV 0 0).cells t_api_Dot) = w2 at *
  have hone : ∀ a b : Int, ∀ u ∈ [Value.int .i64 a, .int .i64 b], u.oneCell' = true := by intro a b u hu; simp at hu; rcases hu with rfl | rfl <;> rfl
  refine ow_eu rfl (eu_storeB (vs := [.int .i64 r, .int .i64 (IntKind.i64.wrap (atL xs r + 1))]) rfl rfl rfl rfl rfl (hone _ _) B2 rfl) ?_
  have B3 := B2.setRow (ds := spl [.int .i64 0, .int .i64 0] 0 [.int .i64 r, .int .i64 (IntKind.i64.wrap (atL xs r + 1))])
  have f3 := Fr.setRow w2 w1.heap.size (spl [.int .i64 0, .int .i64 0] 0 [.int .i64 r, .int .i64 (IntKind.i64.wrap (atL xs r + 1))]).toArray
  generalize World.setRow w2 _ _ = w3 at *
  have e3 : Ext w w3 := (e1.trans e2).trans' f3 (fun j hj h => by omega)
  have B' := (B.ext e2).fr f3 (by omega)
  refine on (ss ?_)
  repeat (first | refine o_p rfl rfl rfl ?_ | refine on ?_ | refine sr ?_ | refine ss ?_)
  refine o_if 16 rfl (fun h1 => ?_) (fun h1 => ?_)
  · repeat (first | refine o_p rfl rfl rfl ?_ | refine ow_skip rfl rfl ?_)
    refine on (cw_cond_t rfl ?_)
    refine sr ?_
    refine o_b rfl rfl rfl ?_
    refine ow_eu rfl (eu_storeB (vs := [.int .i64 0, .int .i64 0]) rfl rfl rfl rfl rfl (hone _ _) B' rfl) ?_
    refine (ow_nil (pn_then (cw_ret (pn_then_ret (pn_retC rfl rfl rfl rfl rfl (B'.setRow) ⟨?_, ?_⟩)))))
    · simp [nextL, h1, spl]
    · exact e3.trans' (Fr.setRow _ _ _) (fun j hj h => by omega)
  · repeat (first | refine o_p rfl rfl rfl ?_ | refine ow_skip rfl rfl ?_)
    refine on (cw_if rfl (fun h2 => ?_) (fun h2 => ?_))
    · refine sr ?_
      refine o_b rfl rfl rfl ?_
      refine ow_eu rfl (eu_storeB (vs := [.int .i64 0, .int .i64 0]) rfl rfl rfl rfl rfl (hone _ _) B' rfl) ?_
      refine (ow_nil (pn_then (cw_ret (pn_then_ret (pn_retC rfl rfl rfl rfl rfl (B'.setRow) ⟨?_, ?_⟩)))))
      · have : capI ≤ atL xs r := h2
        simp [nextL, this, spl]
      · exact e3.trans' (Fr.setRow _ _ _) (fun j hj h => by omega)
    · refine (cw_skip (pn_then (cw_seq (cw_region ?_))))
      refine ow_ex rfl (ex_loadN (cs := [.int .i64 r, .int .i64 (IntKind.i64.wrap (atL xs r + 1))]) rfl rfl rfl rfl (fun j _ => by rw [Nat.zero_add]; exact B3.cell j)) rfl ?_
      refine ow_eu rfl (eu_storeB (vs := [.int .i64 r, .int .i64 (IntKind.i64.wrap (atL xs r + 1))]) rfl rfl rfl rfl rfl (hone _ _) B' rfl) ?_
      refine (ow_nil (pn_then (cw_ret (pn_retC rfl rfl rfl rfl rfl (B'.setRow) ⟨?_, ?_⟩))))
      · have h3 : ¬ capI ≤ atL xs r := h2
        have h4 : IntKind.i64.wrap (atL xs r + 1) = atL xs r + 1 := I64.wrap (by have := atL_nonneg xs r; unfold capI at h3; unfold I64; omega)
        simp [nextL, h1, h3, h4, spl]
      · exact e3.trans' (Fr.setRow _ _ _) (fun j hj h => by omega)
end Go.Proofs.Ytplkinnaccpomaa
