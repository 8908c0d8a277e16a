/- Vectors, the plain law: joins, meets, order, dots, weights; no program in sight. Conditions: none. -/
import Derived.Test.YtplkinnaccpomaaVecF
namespace Go.Proofs.Ytplkinnaccpomaa
open Go.Eng Go.RowKit

theorem pickL_len (p : Int → Int → Int) (xs ys : List Int) : (pickL p xs ys).length = max xs.length ys.length := by simp [pickL]
theorem bqq_self (b : Bool) : bqq b b = true := by cases b <;> rfl
theorem nn_pick {p : Int → Int → Int} (h0 : p 0 0 = 0) (hp : ∀ a b, 0 ≤ a → 0 ≤ b → 0 ≤ p a b) (xs ys : List Int) (i : Nat) : nn (pickL p xs ys) i = p (nn xs i) (nn ys i) := by
  by_cases hi : i < (pickL p xs ys).length
  · rw [nn_in hi]
    have e : (pickL p xs ys)[i] = p (nn xs i) (nn ys i) := by simp [pickL]
    have := hp _ _ (nn_nonneg xs i) (nn_nonneg ys i)
    rw [e]; omega
  · rw [nn_out (by omega)]
    rw [pickL_len] at hi
    rw [nn_out (xs := xs) (by omega), nn_out (xs := ys) (by omega), h0]
theorem nn_join (xs ys : List Int) (i : Nat) : nn (joinL xs ys) i = max (nn xs i) (nn ys i) := nn_pick rfl (fun a b ha hb => by omega) xs ys i
theorem nn_meet (xs ys : List Int) (i : Nat) : nn (meetL xs ys) i = min (nn xs i) (nn ys i) := nn_pick rfl (fun a b ha hb => by omega) xs ys i
theorem pick_ext {p : Int → Int → Int} {a b c d : List Int} (hl : max a.length b.length = max c.length d.length) (h : ∀ i, p (nn a i) (nn b i) = p (nn c i) (nn d i)) : pickL p a b = pickL p c d := by
  unfold pickL
  rw [hl]
  exact List.map_congr_left fun i _ => h i
theorem join_comm (u v : List Int) : joinL u v = joinL v u := pick_ext (Nat.max_comm _ _) fun i => Int.max_comm _ _
theorem meet_comm (u v : List Int) : meetL u v = meetL v u := pick_ext (Nat.max_comm _ _) fun i => Int.min_comm _ _
theorem join_assoc (u v w : List Int) : joinL (joinL u v) w = joinL u (joinL v w) := by
  refine pick_ext (by simp only [pickL_len]; omega) fun i => ?_
  rw [nn_join, nn_join]; omega
theorem meet_assoc (u v w : List Int) : meetL (meetL u v) w = meetL u (meetL v w) := by
  refine pick_ext (by simp only [pickL_len]; omega) fun i => ?_
  rw [nn_meet, nn_meet]; omega
theorem leq_join_l (u v : List Int) : leqL u (joinL u v) = true := (leqL_iff _ _).2 fun i => by rw [nn_join]; omega
theorem leq_join_r (u v : List Int) : leqL v (joinL u v) = true := (leqL_iff _ _).2 fun i => by rw [nn_join]; omega
theorem meet_leq_l (u v : List Int) : leqL (meetL u v) u = true := (leqL_iff _ _).2 fun i => by rw [nn_meet]; omega
theorem meet_leq_r (u v : List Int) : leqL (meetL u v) v = true := (leqL_iff _ _).2 fun i => by rw [nn_meet]; omega
theorem leq_refl (u : List Int) : leqL u u = true := (leqL_iff _ _).2 fun i => by omega
theorem leq_trans {u v w : List Int} (h1 : leqL u v = true) (h2 : leqL v w = true) : leqL u w = true :=
  (leqL_iff _ _).2 fun i => by have := (leqL_iff _ _).1 h1 i; have := (leqL_iff _ _).1 h2 i; omega
theorem least {u v w : List Int} (h : leqL u w = true) : leqL v w = leqL (joinL u v) w := by
  rw [Bool.eq_iff_iff, leqL_iff, leqL_iff]
  have h := (leqL_iff _ _).1 h
  exact ⟨fun k i => by have := h i; have := k i; rw [nn_join]; omega, fun k i => by have := k i; rw [nn_join] at this; omega⟩
theorem greatest {u v w : List Int} (h : leqL w u = true) : leqL w v = leqL w (meetL u v) := by
  rw [Bool.eq_iff_iff, leqL_iff, leqL_iff]
  have h := (leqL_iff _ _).1 h
  exact ⟨fun k i => by have := h i; have := k i; rw [nn_meet]; omega, fun k i => by have := k i; rw [nn_meet] at this; omega⟩
theorem bqq_of {a b : Bool} (h : a = b) : bqq a b = true := by subst h; exact bqq_self a
theorem nbqq_of {a b : Bool} (h : a = b) : (!bqq a b) = false := by rw [bqq_of h]; rfl

theorem hone2 (a b : Int) : ∀ u ∈ [Value.int .i64 a, .int .i64 b], u.oneCell' = true := by intro u hu; simp at hu; rcases hu with rfl | rfl <;> rfl

/-! ## Dots -/
theorem atL_eq (xs : List Int) (r : Int) : atL xs r = if 1 ≤ r then nn xs (r - 1).toNat else 0 := by
  unfold atL
  by_cases h : 1 ≤ r
  · rw [if_pos h]
    split
    · rfl
    · rw [nn_out (by omega)]
  · rw [if_neg h, if_neg (by omega)]
theorem atL_join (xs ys : List Int) (r : Int) : atL (joinL xs ys) r = max (atL xs r) (atL ys r) := by
  rw [atL_eq, atL_eq, atL_eq]
  split
  · rw [nn_join]
  · rfl
theorem atL_meet (xs ys : List Int) (r : Int) : atL (meetL xs ys) r = min (atL xs r) (atL ys r) := by
  rw [atL_eq, atL_eq, atL_eq]
  split
  · rw [nn_meet]
  · rfl
theorem has_iff (xs : List Int) (r n : Int) : hasL xs r n = true ↔ 1 ≤ r ∧ 1 ≤ n ∧ n ≤ atL xs r := by simp [hasL, and_assoc]
theorem has_join (u v : List Int) (r n : Int) : hasL (joinL u v) r n = (hasL u r n || hasL v r n) := by
  rw [Bool.eq_iff_iff, Bool.or_eq_true, has_iff, has_iff, has_iff, atL_join]; omega
theorem has_meet (u v : List Int) (r n : Int) : hasL (meetL u v) r n = (hasL u r n && hasL v r n) := by
  rw [Bool.eq_iff_iff, Bool.and_eq_true, has_iff, has_iff, has_iff, atL_meet]; omega
theorem atL_mono {u v : List Int} (h : leqL u v = true) (r : Int) : atL u r ≤ atL v r := by
  rw [atL_eq, atL_eq]
  split
  · exact (leqL_iff _ _).1 h _
  · omega
theorem has_mono {u v : List Int} {r n : Int} (h : leqL u v = true) (h1 : hasL u r n = true) : hasL v r n = true := by
  rw [has_iff] at h1 ⊢
  have := atL_mono h r
  omega
theorem pickI_range (r : Int) : 0 ≤ pickI r 16 ∧ pickI r 16 < 16 := by
  unfold pickI
  rw [if_neg (by decide)]
  omega
theorem next_some {xs : List Int} {R : Int} (h : ¬ ((nextL xs R).1 = 0 ∧ (nextL xs R).2 = 0)) : 1 ≤ R ∧ atL xs R < capI ∧ (nextL xs R).1 = R ∧ (nextL xs R).2 = atL xs R + 1 := by
  unfold nextL at h ⊢
  split at h
  · simp at h
  · rename_i h2
    rw [if_neg h2]
    exact ⟨by omega, by omega, rfl, rfl⟩
theorem next_none {xs : List Int} {R : Int} (hR : 1 ≤ R) (h : (nextL xs R).1 = 0 ∧ (nextL xs R).2 = 0) : capI ≤ atL xs R := by
  unfold nextL at h
  split at h
  · omega
  · simp at h; omega
theorem at_one (r n q : Int) (h1 : 1 ≤ r) (hn : 0 ≤ n) : atL (oneL r n) q = if q = r then n else 0 := by
  rw [atL_eq]
  split
  · rename_i hq
    by_cases hlt : (q - 1).toNat < (oneL r n).length
    · rw [nn_in hlt]
      have e : (oneL r n)[(q - 1).toNat] = if q = r then n else 0 := by
        simp only [oneL, List.getElem_set, List.getElem_replicate]
        by_cases hqr : q = r
        · rw [if_pos (by omega), if_pos hqr]
        · rw [if_neg (by omega), if_neg hqr]
      rw [e]
      split <;> omega
    · rw [nn_out (by omega)]
      simp only [oneL, List.length_set, List.length_replicate] at hlt
      rw [if_neg (by omega)]
  · rw [if_neg (by omega)]
theorem at_with {xs : List Int} {r n : Int} (h1 : 1 ≤ r) (h2 : r ≤ 16) (h3 : 1 ≤ n) (h4 : atL xs r < n) (q : Int) : atL (withL xs r n) q = if q = r then n else atL xs q := by
  rw [withL, if_neg (by omega), atL_join, at_one r n q h1 (by omega)]
  have := atL_nonneg xs q
  split
  · rename_i h; subst h; omega
  · omega
theorem leq_of_at {u v : List Int} (h : ∀ q, atL u q ≤ atL v q) : leqL u v = true := (leqL_iff _ _).2 fun i => by
  have := h ((i : Int) + 1)
  rwa [atL_succ, atL_succ] at this
section
variable {xs : List Int} {R : Int} (hq : ¬ ((nextL xs R).1 = 0 ∧ (nextL xs R).2 = 0)) (h16 : R ≤ 16)
include hq
theorem dots1 : (!hasL xs (nextL xs R).1 (nextL xs R).2) = true := by
  obtain ⟨h1, h2, h3, h4⟩ := next_some hq
  rw [h3, h4, Bool.not_eq_true', Bool.eq_false_iff]
  intro h
  rw [has_iff] at h
  omega
include h16
theorem dots_at (q : Int) : atL (withL xs (nextL xs R).1 (nextL xs R).2) q = if q = R then atL xs R + 1 else atL xs q := by
  obtain ⟨h1, h2, h3, h4⟩ := next_some hq
  have := atL_nonneg xs R
  rw [h3, h4, at_with h1 h16 (by omega) (by omega)]
theorem dots2 : hasL (withL xs (nextL xs R).1 (nextL xs R).2) (nextL xs R).1 (nextL xs R).2 = true := by
  have ha := dots_at hq h16 (nextL xs R).1
  obtain ⟨h1, h2, h3, h4⟩ := next_some hq
  have := atL_nonneg xs R
  rw [has_iff, ha, h3, h4, if_pos rfl]
  omega
theorem dots3 : leqL xs (withL xs (nextL xs R).1 (nextL xs R).2) = true := leq_of_at fun q => by
  rw [dots_at hq h16]
  split
  · rename_i h; subst h; omega
  · omega
theorem dots4 : (!leqL (withL xs (nextL xs R).1 (nextL xs R).2) xs) = true := by
  rw [Bool.not_eq_true', Bool.eq_false_iff]
  intro h
  have := atL_mono h R
  rw [dots_at hq h16, if_pos rfl] at this
  omega
theorem dots5 (r n : Int) : hasL (withL xs (nextL xs R).1 (nextL xs R).2) r n = (hasL xs r n || decide (r = (nextL xs R).1 ∧ n = (nextL xs R).2)) := by
  rw [Bool.eq_iff_iff, Bool.or_eq_true, has_iff, has_iff, decide_eq_true_eq, dots_at hq h16]
  obtain ⟨h1, h2, h3, h4⟩ := next_some hq
  rw [h3, h4]
  have := atL_nonneg xs R
  split
  · rename_i h; subst h; omega
  · omega
end

/-! ## The order of events -/
theorem less_iff (a b : Int) (u : List Int) (c d : Int) (v : List Int) : lessL a b u c d v = true ↔ (weightL u < weightL v ∨ (weightL u = weightL v ∧ (a < c ∨ (a = c ∧ b < d)))) := by simp [lessL]
theorem less_not {a b c d : Int} {u v : List Int} : lessL a b u c d v = false ↔ ¬ (weightL u < weightL v ∨ (weightL u = weightL v ∧ (a < c ∨ (a = c ∧ b < d)))) := by simp [lessL]
theorem less_asym {a b c d : Int} {u v : List Int} (h : lessL a b u c d v = true) : lessL c d v a b u = false := by
  rw [less_iff] at h; rw [less_not]; omega
theorem less_irrefl (a b : Int) (u : List Int) : lessL a b u a b u = false := by rw [less_not]; omega
theorem less_trans {a b c d e f : Int} {u v w : List Int} (h1 : lessL a b u c d v = true) (h2 : lessL c d v e f w = true) : lessL a b u e f w = true := by
  rw [less_iff] at *; omega
theorem less_total {a b c d : Int} {u v : List Int} (h : ¬ (a = c ∧ b = d)) (h1 : lessL a b u c d v = false) : lessL c d v a b u = true := by
  rw [less_not] at h1; rw [less_iff]; omega

def wsum (xs : List Int) : Nat → Int
  | 0 => 0
  | i + 1 => wsum xs i + nn xs i
theorem narrow_nn {xs : List Int} (h : wideL xs = false) (i : Nat) : nn xs i ≤ 1125899906842624 := by
  by_cases hi : i < xs.length
  · rw [nn_in hi]
    have : ¬ 1125899906842624 < xs[i] := fun hlt => by
      have : wideL xs = true := by
        unfold wideL
        rw [List.any_eq_true]
        exact ⟨xs[i], List.getElem_mem hi, decide_eq_true hlt⟩
      rw [this] at h; cases h
    omega
  · rw [nn_out (by omega)]; decide
theorem weight_sum {xs : List Int} (h : wideL xs = false) (i : Nat) (hi : i ≤ 20) : weightF xs i = wsum xs i ∧ wsum xs i ≤ i * 1125899906842624 := by
  induction i with
  | zero => exact ⟨rfl, by simp [wsum]⟩
  | succ i ih =>
    obtain ⟨h1, h2⟩ := ih (by omega)
    have := narrow_nn h i
    have := nn_nonneg xs i
    simp only [weightF, wsum, h1]
    unfold capI
    omega
theorem wsum_more (xs : List Int) (k : Nat) : wsum xs (xs.length + k) = wsum xs xs.length := by
  induction k with
  | zero => rfl
  | succ k ih => rw [← Nat.add_assoc]; simp only [wsum]; rw [ih, nn_out (by omega)]; omega
theorem weight_20 {xs : List Int} (h : wideL xs = false) (hl : xs.length ≤ 20) : weightL xs = wsum xs 20 := by
  have := wsum_more xs (20 - xs.length)
  rw [show xs.length + (20 - xs.length) = 20 from by omega] at this
  rw [this, weightL, (weight_sum h xs.length hl).1]
theorem wsum_le {u v : List Int} (h : ∀ i, nn u i ≤ nn v i) (i : Nat) : wsum u i ≤ wsum v i := by
  induction i with
  | zero => simp [wsum]
  | succ i ih => have := h i; simp only [wsum]; omega
theorem wsum_lt {u v : List Int} (h : ∀ i, nn u i ≤ nn v i) {j : Nat} (hj : nn u j < nn v j) (i : Nat) (hi : j < i) : wsum u i < wsum v i := by
  induction i with
  | zero => omega
  | succ i ih =>
    simp only [wsum]
    have := h i
    rcases Nat.lt_or_ge j i with h1 | h1
    · have := ih h1; omega
    · obtain rfl : j = i := by omega
      have := wsum_le h j
      omega
theorem less_of_leq {a b c d : Int} {u v : List Int} (hu : wideL u = false) (hv : wideL v = false) (lu : u.length ≤ 20) (lv : v.length ≤ 20) (h1 : leqL u v = true) (h2 : leqL v u = false) : lessL a b u c d v = true := by
  rw [less_iff]
  left
  rw [weight_20 hu lu, weight_20 hv lv]
  have hle := (leqL_iff _ _).1 h1
  have : ∃ j, nn u j < nn v j := by
    apply Classical.byContradiction
    intro hn
    have : leqL v u = true := (leqL_iff _ _).2 fun i => by
      have : ¬ nn u i < nn v i := fun h => hn ⟨i, h⟩
      omega
    rw [this] at h2; cases h2
  obtain ⟨j, hj⟩ := this
  refine wsum_lt hle hj 20 ?_
  rcases Nat.lt_or_ge j 20 with h | h
  · exact h
  · rw [nn_out (xs := v) (by omega)] at hj
    have := nn_nonneg u j
    omega
theorem open_dot {H : Type} {enc : TypeId × Value → H} {W : World} {base b0 : Nat} {spare : Nat → Bool} {held : Bool} {r : Reach} {v : Value} {d : DataW H} {ps : List MemPlace} (hval : Value.okWide Try.prog W r b0 t_api_Dot v)
    (h : DataW.Trod enc Try.prog W base spare held t_api_Dot v d ps) : ∃ x n : Int, v = dotV x n := by
  have hs : Try.prog.underlying t_api_Dot = some (.struct (Try.prog.fieldsOf t_api_Dot)) := by kernel_rfl
  have hf : ∃ f g : Field, Try.prog.fieldsOf t_api_Dot = #[f, g] ∧ f.type = t_int ∧ g.type = t_int := ⟨_, _, rfl, rfl, rfl⟩
  have hone : Deep.oneCellFields Try.prog (Try.prog.fieldsOf t_api_Dot) = true := by kernel_rfl
  obtain ⟨f, g, hfg, ef, eg⟩ := hf
  rw [hfg] at hs hone
  obtain ⟨c0, c1, y0, y1, m, rfl, _, _, h0, h1⟩ := Go.Joins.open_agg2 hs hone (by kernel_rfl) hval h
  have ui : Try.prog.underlying t_int = some (.int .i64) := by kernel_rfl
  rw [ef] at h0
  rw [eg] at h1
  obtain ⟨a, ha, _⟩ := DataW.trod_int ui h0
  obtain ⟨b, hb, _⟩ := DataW.trod_int ui h1
  simp only [List.cons.injEq, and_true] at ha hb
  exact ⟨a, b, by rw [ha, hb]⟩
end Go.Proofs.Ytplkinnaccpomaa
