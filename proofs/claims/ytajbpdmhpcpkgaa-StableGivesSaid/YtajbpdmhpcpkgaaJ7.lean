/- Who has what, part one: the matrix in memory; made, asked for regions, numbers and rows. Conditions: none. -/
import Derived.Test.YtajbpdmhpcpkgaaJ6
import Derived.Test.YtajbpdmhpcpkgaaJ5
import Derived.Test.YtajbpdmhpcpkgaaJ3
namespace Go.Proofs.Ytajbpdmhpcpkgaa
open Go Go.Eng Go.RowKit Go.WideMaps

/-- A region's row, of sixteen cells. -/
def rwC (r : List Int) : List Value := ints (r ++ List.replicate (16 - r.length) 0)
theorem rwC_len {r : List Int} (h : r.length ≤ 16) : (rwC r).length = 16 := by simp [rwC]; omega
theorem rwC_one (r : List Int) : ∀ u ∈ rwC r, u.oneCell' = true := by
  intro u hu
  simp only [rwC, ints, List.mem_map] at hu
  obtain ⟨x, _, rfl⟩ := hu
  rfl
abbrev rwsC : List (List Int) → List Value := flC rwC
def dotE (e : Ev) : Int × Int := (e.r, e.n)
/-- What is kept, by dots. -/
def eM (K : List Ev) : List ((Int × Int) × Value) := K.map fun e => (dotE e, evV e)
abbrev mpE (gm : Nat) (K : List Ev) : SP := mp gm dotP dotOk (eM K)
abbrev rWr (gr : Nat) (R : List (List Int)) : SP := row t_stable_row 16 (.slice (some ⟨gr, 0, none⟩) R.length R.length) R.length (rwsC R)
/-- A matrix. -/
abbrev stM (g gr gm : Nat) (own : Int) (R : List (List Int)) (K : List Ev) (F : List SP) : List SP :=
  pt g t_stable_Matrix [.int .i64 own, .slice (some ⟨gr, 0, none⟩) R.length R.length, .map (some gm)] :: rWr gr R :: mpE gm K :: all (evF K) :: F
/-- Rows as they may be. -/
structure RowsOk (R : List (List Int)) : Prop where
  n1 : 1 ≤ R.length
  n16 : R.length ≤ 16
  rl : ∀ r ∈ R, r.length = R.length
  nn : ∀ r ∈ R, ∀ x ∈ r, 0 ≤ x ∧ x ≤ 1048576
theorem RowsOk.l16 {R : List (List Int)} (h : RowsOk R) : ∀ r ∈ R, (rwC r).length = 16 := fun r hr => rwC_len (by rw [h.rl r hr]; exact h.n16)
theorem RowsOk.len {R : List (List Int)} (h : RowsOk R) : (rwsC R).length = R.length * 16 := flC_len h.l16
section
variable {b : World} {F : List SP} {v : Value} {xs : List Int} {g gr gm : Nat} {own : Int} {R : List (List Int)} {K : List Ev}
set_option maxHeartbeats 1000000 in
theorem Min_S (h : ∀ w, Sat b F w → VL (Value.int .i64) w v xs) (h0 : 0 < xs.length) : SC Try.prog n_slices_Min_sl_int_int [v] b F (fun u F' => (∃ m, u = .int .i64 m ∧ m ∈ xs ∧ ∀ x ∈ xs, m ≤ x) ∧ F' = F) := by
  refine enterS F_slices_Min_sl_int_int rfl rfl rfl ?_
  refine sw_fact (fun w H => (h w H).form) ?_
  rintro ⟨A, c, rfl, _, _, _, k4⟩
  obtain ⟨gg, oo, rfl⟩ := k4 h0
  (refine sw_seq ?_; refine sw_region ?_; refine so_1 rfl ?_; refine so_nil ?_; refine sn_then ?_; (iterate 2 refine sw_seq ?_); refine sw_region ?_; (iterate 3 refine so_1 rfl ?_); refine so_nil ?_; refine sn_then ?_)
  refine sw_if rfl (fun h1 => by omega) (fun _ => ?_)
  (refine sw_skip ?_; refine sn_then ?_; refine sw_seq ?_; refine sw_region ?_; refine so_1 rfl ?_; refine so_2 rfl (by omega) ?_)
  refine so_rd rfl (fun w H => ex_load rfl rfl rfl (VL.at (h w H) 0 h0)) rfl ?_
  (refine so_1 rfl ?_; refine so_nil ?_; refine sn_then ?_; (iterate 2 refine sw_seq ?_); refine sw_region ?_; refine so_1 rfl ?_; refine so_nil ?_; refine sn_then ?_; refine sw_block ?_)
  refine sw_loop (S := Nat × Int) (fun s => [(0, .slice (some ⟨gg, oo, none⟩) xs.length c), (3, .int .i64 s.2), (4, .int .i64 (s.1 : Int))]) (fun _ => F) (fun s => s.1 ≤ xs.length ∧ s.2 ∈ xs ∧ ∀ (j : Nat) x, xs[j]? = some x → j < s.1 → s.2 ≤ x) (fun s => xs.length - s.1) (1, xs[0]) ⟨rfl, rfl, rfl, trivial⟩ (Ent.refl _)
    ⟨h0, List.getElem_mem h0, fun j x hj hlt => by
      have : j = 0 := by dsimp only at hlt; omega
      subst this
      rw [List.getElem?_eq_getElem h0] at hj; cases hj; exact Int.le_refl _⟩ ?_
  rintro ⟨i, m⟩ ⟨hi, hm, hle⟩
  dsimp only at hi hm hle ⊢
  ((iterate 2 refine sw_seq ?_); refine sw_region ?_; (iterate 4 refine so_1 rfl ?_); refine so_nil ?_; refine sn_then ?_)
  refine sw_if rfl (fun h1 => ?_) (fun h1 => ?_)
  · have h1' : i < xs.length := by omega
    (refine sw_skip ?_; refine sn_then ?_; refine sw_seq ?_; refine sw_block ?_; refine sw_region ?_; (iterate 3 refine so_1 rfl ?_); refine so_2 rfl (by omega) ?_)
    refine so_rd rfl (fun w H => ex_load rfl rfl rfl (by rw [mulz_eq, Int.toNat_natCast, Nat.mul_one]; exact VL.at (h w H) i h1')) rfl ?_
    ((iterate 2 refine so_1 rfl ?_); refine so_nil ?_; refine sn_block ?_; refine sn_then ?_; refine sw_region ?_; refine so_1 rfl ?_; refine so_2 rfl (by (unfold I64; omega)) ?_; refine so_1 rfl ?_; refine so_nil ?_)
    rw [show (i : Int) + 1 = ((i + 1 : Nat) : Int) by omega]
    refine sn_round (i + 1, min m xs[i]) ⟨rfl, rfl, rfl, trivial⟩ (Ent.refl _) ⟨h1', ?_, fun j x hj hlt => ?_⟩ (by dsimp only; omega)
    · dsimp only
      rcases Int.le_total m xs[i] with hh | hh
      · rw [Int.min_eq_left hh]; exact hm
      · rw [Int.min_eq_right hh]; exact List.getElem_mem h1'
    · dsimp only at hlt ⊢
      rcases Nat.lt_or_ge j i with hj2 | hj2
      · have := hle j x hj hj2; omega
      · have : j = i := by omega
        subst this
        rw [List.getElem?_eq_getElem h1'] at hj; cases hj; omega
  · (refine sw_exit ?_; refine sn_then_exit ?_; refine sn_loop_exit ?_; refine sn_block_exit ?_; refine sn_then ?_; refine sw_seq ?_; refine sw_region ?_; (iterate 2 refine so_1 rfl ?_); refine so_nil ?_; refine sn_then ?_; refine sw_ret ?_)
    refine sn_ret rfl (.tmp rfl .nil) (Ent.refl _) ?_
    refine ⟨⟨m, rfl, hm, fun x hx => ?_⟩, rfl⟩
    obtain ⟨j, hj, rfl⟩ := List.getElem_of_mem hx
    exact hle j _ (List.getElem?_eq_getElem hj) (by omega)
set_option maxHeartbeats 1000000 in
theorem Max_S (h : ∀ w, Sat b F w → VL (Value.int .i64) w v xs) (h0 : 0 < xs.length) : SC Try.prog n_slices_Max_sl_int_int [v] b F (fun u F' => (∃ m, u = .int .i64 m ∧ m ∈ xs ∧ ∀ x ∈ xs, x ≤ m) ∧ F' = F) := by
  refine enterS F_slices_Max_sl_int_int rfl rfl rfl ?_
  refine sw_fact (fun w H => (h w H).form) ?_
  rintro ⟨A, c, rfl, _, _, _, k4⟩
  obtain ⟨gg, oo, rfl⟩ := k4 h0
  (refine sw_seq ?_; refine sw_region ?_; refine so_1 rfl ?_; refine so_nil ?_; refine sn_then ?_; (iterate 2 refine sw_seq ?_); refine sw_region ?_; (iterate 3 refine so_1 rfl ?_); refine so_nil ?_; refine sn_then ?_)
  refine sw_if rfl (fun h1 => by omega) (fun _ => ?_)
  (refine sw_skip ?_; refine sn_then ?_; refine sw_seq ?_; refine sw_region ?_; refine so_1 rfl ?_; refine so_2 rfl (by omega) ?_)
  refine so_rd rfl (fun w H => ex_load rfl rfl rfl (VL.at (h w H) 0 h0)) rfl ?_
  (refine so_1 rfl ?_; refine so_nil ?_; refine sn_then ?_; (iterate 2 refine sw_seq ?_); refine sw_region ?_; refine so_1 rfl ?_; refine so_nil ?_; refine sn_then ?_; refine sw_block ?_)
  refine sw_loop (S := Nat × Int) (fun s => [(0, .slice (some ⟨gg, oo, none⟩) xs.length c), (3, .int .i64 s.2), (4, .int .i64 (s.1 : Int))]) (fun _ => F) (fun s => s.1 ≤ xs.length ∧ s.2 ∈ xs ∧ ∀ (j : Nat) x, xs[j]? = some x → j < s.1 → x ≤ s.2) (fun s => xs.length - s.1) (1, xs[0]) ⟨rfl, rfl, rfl, trivial⟩ (Ent.refl _)
    ⟨h0, List.getElem_mem h0, fun j x hj hlt => by
      have : j = 0 := by dsimp only at hlt; omega
      subst this
      rw [List.getElem?_eq_getElem h0] at hj; cases hj; exact Int.le_refl _⟩ ?_
  rintro ⟨i, m⟩ ⟨hi, hm, hle⟩
  dsimp only at hi hm hle ⊢
  ((iterate 2 refine sw_seq ?_); refine sw_region ?_; (iterate 4 refine so_1 rfl ?_); refine so_nil ?_; refine sn_then ?_)
  refine sw_if rfl (fun h1 => ?_) (fun h1 => ?_)
  · have h1' : i < xs.length := by omega
    (refine sw_skip ?_; refine sn_then ?_; refine sw_seq ?_; refine sw_block ?_; refine sw_region ?_; (iterate 3 refine so_1 rfl ?_); refine so_2 rfl (by omega) ?_)
    refine so_rd rfl (fun w H => ex_load rfl rfl rfl (by rw [mulz_eq, Int.toNat_natCast, Nat.mul_one]; exact VL.at (h w H) i h1')) rfl ?_
    ((iterate 2 refine so_1 rfl ?_); refine so_nil ?_; refine sn_block ?_; refine sn_then ?_; refine sw_region ?_; refine so_1 rfl ?_; refine so_2 rfl (by (unfold I64; omega)) ?_; refine so_1 rfl ?_; refine so_nil ?_)
    rw [show (i : Int) + 1 = ((i + 1 : Nat) : Int) by omega]
    refine sn_round (i + 1, max m xs[i]) ⟨rfl, rfl, rfl, trivial⟩ (Ent.refl _) ⟨h1', ?_, fun j x hj hlt => ?_⟩ (by dsimp only; omega)
    · dsimp only
      rcases Int.le_total m xs[i] with hh | hh
      · rw [Int.max_eq_right hh]; exact List.getElem_mem h1'
      · rw [Int.max_eq_left hh]; exact hm
    · dsimp only at hlt ⊢
      rcases Nat.lt_or_ge j i with hj2 | hj2
      · have := hle j x hj hj2; omega
      · have : j = i := by omega
        subst this
        rw [List.getElem?_eq_getElem h1'] at hj; cases hj; omega
  · (refine sw_exit ?_; refine sn_then_exit ?_; refine sn_loop_exit ?_; refine sn_block_exit ?_; refine sn_then ?_; refine sw_seq ?_; refine sw_region ?_; (iterate 2 refine so_1 rfl ?_); refine so_nil ?_; refine sn_then ?_; refine sw_ret ?_)
    refine sn_ret rfl (.tmp rfl .nil) (Ent.refl _) ?_
    refine ⟨⟨m, rfl, hm, fun x hx => ?_⟩, rfl⟩
    obtain ⟨j, hj, rfl⟩ := List.getElem_of_mem hx
    exact hle j _ (List.getElem?_eq_getElem hj) (by omega)
theorem mnone_M (hR : RowsOk R) : SC Try.prog n_p_stable_Matrix_none [.pointer (some ⟨g, 0, none⟩)] b (stM g gr gm own R K F) (fun v F' => v = .bool false ∧ F' = stM g gr gm own R K F) := by
  have := hR.n1
  refine enterS F_p_stable_Matrix_none rfl rfl rfl ?_
  (refine sw_seq ?_; refine sw_region ?_; refine so_1 rfl ?_; refine so_nil ?_; refine sn_then ?_; refine sw_seq ?_; refine sw_region ?_; (iterate 6 refine so_1 rfl ?_); refine so_l 0 rfl rfl rfl ?_; (iterate 4 refine so_1 rfl ?_); refine so_nil ?_; refine sn_then ?_; refine sw_ret ?_)
  refine sn_ret rfl (.tmp rfl .nil) (Ent.refl _) ?_
  exact ⟨congrArg Value.bool (decide_eq_false (by omega)), rfl⟩
def regB (n : Nat) (r : Int) : Bool := decide (1 ≤ r ∧ r ≤ n)
theorem region_S {r : Int} : SC Try.prog n_p_stable_Matrix_region [.pointer (some ⟨g, 0, none⟩), .int .i64 r] b (stM g gr gm own R K F) (fun v F' => v = .bool (regB R.length r) ∧ F' = stM g gr gm own R K F) := by
  refine enterS F_p_stable_Matrix_region rfl rfl rfl ?_
  (refine sw_seq ?_; refine sw_region ?_; refine so_1 rfl ?_; refine so_nil ?_; refine sn_then ?_; refine sw_seq ?_; refine sw_region ?_; (iterate 3 refine so_1 rfl ?_))
  by_cases h1 : 1 ≤ r
  · refine so_know 7 (.bool true) rfl (congrArg Value.bool (decide_eq_true (by omega))) ?_
    ((iterate 4 refine so_1 rfl ?_); refine so_l 0 rfl rfl rfl ?_; (iterate 4 refine so_1 rfl ?_); refine so_nil ?_; refine sn_then ?_; refine sw_ret ?_)
    refine sn_ret rfl (.tmp rfl .nil) (Ent.refl _) ?_
    exact ⟨congrArg Value.bool (by unfold regB; rw [decide_eq_decide]; omega), rfl⟩
  · refine so_know 7 (.bool false) rfl (congrArg Value.bool (decide_eq_false (by omega))) ?_
    ((iterate 9 refine so_1 rfl ?_); refine so_nil ?_; refine sn_then ?_; refine sw_ret ?_)
    refine sn_ret rfl (.tmp rfl .nil) (Ent.refl _) ?_
    exact ⟨congrArg Value.bool (by unfold regB; symm; exact decide_eq_false (by omega)), rfl⟩
def numB (n : Nat) (xs : List Int) : Bool := decide (xs.length = n ∧ ∀ x ∈ xs, 0 ≤ x ∧ x ≤ 1048576)
theorem numbers_S (hR : RowsOk R) (h : ∀ w, Sat b F w → VL (Value.int .i64) w v xs) : SC Try.prog n_p_stable_Matrix_numbers [.pointer (some ⟨g, 0, none⟩), v] b (stM g gr gm own R K F) (fun u F' => u = .bool (numB R.length xs) ∧ F' = stM g gr gm own R K F) := by
  have hn := hR.n1
  have h' : ∀ w, Sat b (stM g gr gm own R K F) w → VL (Value.int .i64) w v xs := up h (ent_keep 4 [] rfl rfl)
  refine enterS F_p_stable_Matrix_numbers rfl rfl rfl ?_
  refine sw_fact (fun w H => (h' w H).form) ?_
  rintro ⟨A, c, rfl, _, _, _, _⟩
  (refine sw_seq ?_; refine sw_region ?_; refine so_1 rfl ?_; refine so_nil ?_; refine sn_then ?_; refine sw_seq ?_; refine sw_region ?_; (iterate 5 refine so_1 rfl ?_); refine so_l 0 rfl rfl rfl ?_; (iterate 3 refine so_1 rfl ?_))
  by_cases h1 : xs.length = R.length
  · refine so_know 13 (.bool true) rfl (congrArg Value.bool (decide_eq_true (by omega))) ?_
    (refine so_1 rfl ?_)
    refine so_call rfl rfl rfl (Min_S h' (by omega)) ?_
    rintro _ _ ⟨⟨m, rfl, hm, hle⟩, rfl⟩
    ((iterate 3 refine so_1 rfl ?_))
    by_cases h2 : 0 ≤ m
    · refine so_know 18 (.bool true) rfl (congrArg Value.bool (decide_eq_true (by omega))) ?_
      (refine so_1 rfl ?_)
      refine so_call rfl rfl rfl (Max_S h' (by omega)) ?_
      rintro _ _ ⟨⟨m2, rfl, hm2, hle2⟩, rfl⟩
      ((iterate 3 refine so_1 rfl ?_); refine so_nil ?_; refine sn_then ?_; refine sw_ret ?_)
      refine sn_ret rfl (.tmp rfl .nil) (Ent.refl _) ?_
      refine ⟨congrArg Value.bool ?_, rfl⟩
      unfold numB
      rw [decide_eq_decide]
      constructor
      · intro hh; exact ⟨h1, fun x hx => ⟨by have := hle x hx; omega, by have := hle2 x hx; omega⟩⟩
      · rintro ⟨_, hh⟩; exact (hh m2 hm2).2
    · refine so_know 18 (.bool false) rfl (congrArg Value.bool (decide_eq_false (by omega))) ?_
      ((iterate 5 refine so_1 rfl ?_); refine so_nil ?_; refine sn_then ?_; refine sw_ret ?_)
      refine sn_ret rfl (.tmp rfl .nil) (Ent.refl _) ?_
      refine ⟨congrArg Value.bool ?_, rfl⟩
      unfold numB
      symm
      exact decide_eq_false fun ⟨_, hh⟩ => h2 (hh m hm).1
  · refine so_know 13 (.bool false) rfl (congrArg Value.bool (decide_eq_false (by omega))) ?_
    ((iterate 10 refine so_1 rfl ?_); refine so_nil ?_; refine sn_then ?_; refine sw_ret ?_)
    refine sn_ret rfl (.tmp rfl .nil) (Ent.refl _) ?_
    refine ⟨congrArg Value.bool ?_, rfl⟩
    unfold numB
    symm
    exact decide_eq_false fun ⟨hh, _⟩ => h1 hh
/-- A region's row, as a slice. -/
abbrev atV (gr n q : Nat) : Value := .slice (some ⟨gr, q * 16, none⟩) n 16
theorem at_VL {k q : Nat} (hR : RowsOk R) (hk : nth F k = some (rWr gr R)) {r : List Int} (hq : R[q]? = some r) : ∀ w, Sat b F w → VL (Value.int .i64) w (atV gr R.length q) r := fun w H => by
  obtain ⟨hq1, rfl⟩ := List.getElem?_eq_some_iff.1 hq
  have hrl := hR.rl _ (List.getElem_mem hq1)
  have h16 := hR.n16
  refine VL.mk hrl.symm h16 (by unfold maxLen; omega) (by
    obtain ⟨q', ⟨a, n', c', hv, hb⟩, h2⟩ := SL.blk (H.sl hk) (by omega)
    cases hv
    rw [← hb] at h2; exact h2) fun j hj => ?_
  have := row_cell hk (j := q * 16 + j) (u := .int .i64 R[q][j]) (by
    rw [flC_at hR.l16 hq1 (j := j) (by omega)]
    simp only [rwC, ints, List.getElem?_map]
    rw [List.getElem?_append_left hj, List.getElem?_eq_getElem hj]; rfl) w H
  rwa [Nat.zero_add] at this
theorem at_S (hR : RowsOk R) {q : Nat} (hq : q < R.length) : SC Try.prog n_p_stable_Matrix_at [.pointer (some ⟨g, 0, none⟩), .int .i64 ((q : Int) + 1)] b (stM g gr gm own R K F) (fun u F' => u = atV gr R.length q ∧ F' = stM g gr gm own R K F) := by
  have h16 := hR.n16
  refine enterS F_p_stable_Matrix_at rfl rfl rfl ?_
  (refine sw_seq ?_; refine sw_region ?_; refine so_1 rfl ?_; refine so_nil ?_; refine sn_then ?_; refine sw_seq ?_)
  refine sw_draw flo _ (by decide +kernel) (Ent.refl _) ?_
  ((iterate 3 refine sd_1 rfl (.inl rfl) ?_); refine sd_l 0 rfl rfl rfl rfl ?_; refine sd_1 rfl (.inl rfl) ?_; refine sd_2 rfl rfl (by (unfold I64; omega)) ?_; refine sd_2 rfl rfl (by omega) ?_; (iterate 3 refine sd_1 rfl (.inl rfl) ?_); refine sd_l 0 rfl rfl rfl rfl ?_; refine sd_1 rfl (.inl rfl) ?_; refine sd_2 rfl rfl (by omega) ?_; refine sd_1 rfl (.inl rfl) ?_)
  have e1 : ((q : Int) + 1 - 1) = (q : Int) := by omega
  refine sd_nil ?_
  (refine sn_then ?_; refine sw_ret ?_)
  refine sn_ret rfl (.tmp rfl .nil) (Ent.refl _) ?_
  refine ⟨?_, rfl⟩
  have e2 : ((q : Int) + 1 - 1).toNat = q := by omega
  simp [tupl, atV, mulz_eq, e2]
end
end Go.Proofs.Ytajbpdmhpcpkgaa
/- Who has what, part two: which events fit; events copied; what a region has laid in. Conditions: none. -/
namespace Go.Proofs.Ytajbpdmhpcpkgaa
open Go Go.Eng Go.RowKit Go.WideMaps

def fitB (n : Nat) (e : Ev) : Bool := regB n e.r && (decide (1 ≤ e.n) && (decide (e.n ≤ 1048576) && numB n e.deps))
section
variable {b : World} {F : List SP} {v : Value} {xs : List Int} {g gr gm : Nat} {own : Int} {R : List (List Int)} {K : List Ev} {e : Ev}
theorem Has_S {r n : Int} (h : ∀ w, Sat b F w → VL (Value.int .i64) w v xs) : SC Try.prog n_vector_Has [v, dotV r n] b F (fun u F' => u = .bool (hasL xs r n) ∧ F' = F) :=
  SC.ofExt fun w H => Has_spec_vector_Has (h w H)
set_option maxRecDepth 20000 in
set_option maxHeartbeats 1000000 in
theorem fits_S (hR : RowsOk R) (he : ∀ w, Sat b F w → ER w e) : SC Try.prog n_p_stable_Matrix_fits [.pointer (some ⟨g, 0, none⟩), evV e] b (stM g gr gm own R K F) (fun u F' => u = .bool (fitB R.length e) ∧ F' = stM g gr gm own R K F) := by
  refine enterS F_p_stable_Matrix_fits rfl rfl rfl ?_
  (refine sw_seq ?_; refine sw_region ?_)
  refine so_box rfl rfl rfl rfl rfl fun g3 => ?_
  (refine so_1 rfl ?_; refine so_nil ?_; refine sn_then ?_; refine sw_seq ?_; refine sw_region ?_; (iterate 3 refine so_1 rfl ?_); refine so_l 0 rfl rfl rfl ?_)
  refine so_callE rfl rfl rfl ((region_S (F := pt g3 t_api_Event (evC e) :: F)).at (ent_keep 5 [1, 2, 3, 4, 0] rfl rfl) (ent_keep 5 [4, 0, 1, 2, 3] rfl rfl)) ?_
  (refine so_1 rfl ?_)
  by_cases h1 : regB R.length e.r = true
  · refine so_know 10 (.bool true) rfl (congrArg Value.bool h1) ?_
    ((iterate 2 refine so_1 rfl ?_); refine so_l 0 rfl rfl rfl ?_; (iterate 3 refine so_1 rfl ?_))
    by_cases h2 : 1 ≤ e.n
    · refine so_know 16 (.bool true) rfl (congrArg Value.bool (decide_eq_true (by omega))) ?_
      ((iterate 2 refine so_1 rfl ?_); refine so_l 0 rfl rfl rfl ?_; (iterate 3 refine so_1 rfl ?_))
      by_cases h3 : e.n ≤ 1048576
      · refine so_know 22 (.bool true) rfl (congrArg Value.bool (decide_eq_true (by omega))) ?_
        ((iterate 2 refine so_1 rfl ?_); refine so_l 0 rfl rfl rfl ?_)
        refine so_callE rfl rfl rfl ((numbers_S (F := pt g3 t_api_Event (evC e) :: F) hR (up (fun w H => (he w H).dv) (ent_keep 1 [] rfl rfl))).at (ent_keep 5 [1, 2, 3, 4, 0] rfl rfl) (ent_keep 5 [4, 0, 1, 2, 3] rfl rfl)) ?_
        ((iterate 2 refine so_1 rfl ?_); refine so_nil ?_; refine sn_then ?_; refine sw_ret ?_)
        refine sn_ret rfl (.tmp rfl .nil) (ent_keep 1 [] rfl rfl) ?_
        exact ⟨congrArg Value.bool (by simp [fitB, h1, h2, h3]), rfl⟩
      · refine so_know 22 (.bool false) rfl (congrArg Value.bool (decide_eq_false (by omega))) ?_
        ((iterate 6 refine so_1 rfl ?_); refine so_nil ?_; refine sn_then ?_; refine sw_ret ?_)
        refine sn_ret rfl (.tmp rfl .nil) (ent_keep 1 [] rfl rfl) ?_
        exact ⟨congrArg Value.bool (by simp [fitB, h3]), rfl⟩
    · refine so_know 16 (.bool false) rfl (congrArg Value.bool (decide_eq_false (by omega))) ?_
      ((iterate 12 refine so_1 rfl ?_); refine so_nil ?_; refine sn_then ?_; refine sw_ret ?_)
      refine sn_ret rfl (.tmp rfl .nil) (ent_keep 1 [] rfl rfl) ?_
      exact ⟨congrArg Value.bool (by simp [fitB, h2]), rfl⟩
  · have h1' : regB R.length e.r = false := by simpa using h1
    refine so_know 10 (.bool false) rfl (congrArg Value.bool h1') ?_
    ((iterate 18 refine so_1 rfl ?_); refine so_nil ?_; refine sn_then ?_; refine sw_ret ?_)
    refine sn_ret rfl (.tmp rfl .nil) (ent_keep 1 [] rfl rfl) ?_
    exact ⟨congrArg Value.bool (by simp [fitB, h1']), rfl⟩
set_option maxRecDepth 20000 in
set_option maxHeartbeats 1000000 in
theorem copied_S (h32 : e.id.length = 32) (he : ∀ w, Sat b F w → ER w e) (hd : e.deps.length ≤ 1000000) (hl : e.refs.length ≤ 1000000) :
    SC Try.prog n_stable_copied [evV e] b F (fun v F' => ∃ dv rv, v = evV (e.own dv rv) ∧ F' = rZ dv e.deps :: rD rv e.refs :: F) := by
  refine enterS F_stable_copied rfl rfl rfl ?_
  (refine sw_seq ?_; refine sw_region ?_)
  refine so_box rfl rfl rfl rfl rfl fun g1 => ?_
  skip
  refine so_new rfl rfl rfl rfl rfl fun g2 => ?_
  refine so_nil (sn_then (sw_seq ?_))
  refine sw_draw2 flo 7 (pt g1 t_api_Event (evC e) :: F) [] rfl (by decide +kernel) (ent_keep 2 [1] rfl rfl) ?_
  (refine sd_1 rfl (.inl rfl) ?_; refine sd_l 0 rfl rfl rfl rfl ?_)
  refine sd_call rfl rfl rfl rfl (Clone_ints (up (fun w H => (he w H).dv) (ent_keep 2 [] rfl rfl)) hd) ?_
  rintro dv _ rfl
  refine ⟨ent_keep 3 [2] rfl rfl, ?_⟩
  (refine sd_1 rfl (.inl rfl) ?_)
  refine sd_ld 0 rfl rfl rfl rfl rfl rfl (evC_rv h32) rfl rfl ?_
  refine sd_call rfl rfl rfl rfl (Clone_ids (up (fun w H => (he w H).rv) (ent_keep 3 [] rfl rfl)) hl) ?_
  rintro rv _ rfl
  refine ⟨ent_keep 4 [3] rfl rfl, ?_⟩
  (refine sd_1 rfl (.inl rfl) ?_)
  refine sd_nil (sn_draw2 rfl (ent_nil _) ?_)
  refine sd_fact (fun w H => (H.oat (k := 1) rfl).form) ?_
  rintro ⟨A1, c1, rfl, _, _, _⟩
  refine sd_fact (fun w H => (H.oat (k := 0) rfl).form) ?_
  rintro ⟨A2, c2, rfl, _, _, _⟩
  skip
  refine sd_st 3 rfl rfl rfl rfl rfl rfl rfl rfl rfl (show stO (evC e) 2 _ = some (evC { e with dv := .slice A1 e.deps.length c1 }) from rfl) rfl (ent_nil _) ?_
  (refine sd_1 rfl (.inl rfl) ?_)
  refine sd_st 3 rfl rfl rfl rfl rfl rfl rfl rfl rfl (show stO _ 38 _ = some (evC (e.own (.slice A1 e.deps.length c1) (.slice A2 e.refs.length c2))) from evC_strv (e := { e with dv := .slice A1 e.deps.length c1 }) h32) rfl (ent_nil _) ?_
  have h33 : (e.own (.slice A1 e.deps.length c1) (.slice A2 e.refs.length c2)).id.length = 32 := h32
  have hone := evC_one (e := e.own (.slice A1 e.deps.length c1) (.slice A2 e.refs.length c2)) rfl rfl
  refine sd_fact (p := ∃ e2, e2 = e.own (.slice A1 e.deps.length c1) (.slice A2 e.refs.length c2)) (fun _ _ => ⟨_, rfl⟩) ?_
  rintro ⟨e2, he2⟩
  rw [← he2] at h33 hone ⊢
  skip
  refine sd_nil ?_
  (refine sn_then ?_; refine sw_seq ?_; refine sw_region ?_)
  refine so_ldA 3 rfl rfl rfl rfl rfl rfl (segO_all (by rw [evC_len h33]; rfl)) rfl ?_
  refine so_stW 2 rfl rfl rfl rfl rfl rfl rfl (evC_len h33) hone (by rw [evC_len h33]; rfl) ?_
  (refine so_nil ?_; refine sn_then ?_; refine sw_ret ?_)
  refine sn_ret rfl (.whole 2 rfl rfl rfl rfl (by rw [evC_len h33]; rfl) .nil) (ent_keep 4 [1, 0] rfl rfl) ?_
  exact ⟨_, _, by rw [he2]; rfl, rfl⟩
end
end Go.Proofs.Ytajbpdmhpcpkgaa
/- Who has what, part three: what a region has is laid in; all rows; what all have. Conditions: none. -/
namespace Go.Proofs.Ytajbpdmhpcpkgaa
open Go Go.Eng Go.RowKit Go.WideMaps

theorem joinL_len (r v : List Int) : (joinL r v).length = max r.length v.length := by simp [pickL]
theorem joinL_get {r v : List Int} {i : Nat} (hr : i < r.length) (hv : i < v.length) (h1 : 0 ≤ r[i]) (h2 : 0 ≤ v[i]) : (joinL r v)[i]? = some (max r[i] v[i]) := by
  simp only [pickL, List.getElem?_map]
  rw [List.getElem?_range (by omega)]
  simp only [Option.map_some, nn_in hr, nn_in hv]
  congr 1; omega
theorem meetL_len (r v : List Int) : (meetL r v).length = max r.length v.length := by simp [pickL]
/-- Rows behind what a region has. -/
def seenT (R : List (List Int)) (r : Int) (v : List Int) : Int × List (List Int) :=
  if regB R.length r = false then (3, R) else if numB R.length v = false then (2, R) else (0, R.set (r.toNat - 1) (joinL (R.getD (r.toNat - 1) []) v))
theorem numB_iff {n : Nat} {v : List Int} : numB n v = true ↔ v.length = n ∧ ∀ x ∈ v, 0 ≤ x ∧ x ≤ 1048576 := by unfold numB; exact decide_eq_true_iff
theorem regB_iff {n : Nat} {r : Int} : regB n r = true ↔ 1 ≤ r ∧ r ≤ n := by unfold regB; exact decide_eq_true_iff
theorem RowsOk.join {R : List (List Int)} (hR : RowsOk R) {q : Nat} {r v : List Int} (hq : R[q]? = some r) (hv : numB R.length v = true) : RowsOk (R.set q (joinL r v)) := by
  obtain ⟨hv1, hv2⟩ := numB_iff.1 hv
  have hrm := List.mem_of_getElem? hq
  have hrl := hR.rl r hrm
  have hjl : (joinL r v).length = R.length := by rw [joinL_len, hrl, hv1, Nat.max_self]
  refine ⟨by rw [List.length_set]; exact hR.n1, by rw [List.length_set]; exact hR.n16, fun x hx => ?_, fun x hx y hy => ?_⟩
  · rw [List.length_set]
    rcases List.mem_or_eq_of_mem_set hx with h | rfl
    · exact hR.rl x h
    · exact hjl
  · rcases List.mem_or_eq_of_mem_set hx with h | rfl
    · exact hR.nn x h y hy
    · obtain ⟨i, hi, rfl⟩ := List.getElem_of_mem hy
      have h1 : i < r.length := by omega
      have h2 : i < v.length := by omega
      have a := hR.nn r hrm _ (List.getElem_mem h1)
      have c := hv2 _ (List.getElem_mem h2)
      have := joinL_get h1 h2 a.1 c.1
      rw [List.getElem?_eq_getElem hi] at this
      simp only [Option.some.injEq] at this
      omega
theorem seenT_ok {R : List (List Int)} (hR : RowsOk R) (r : Int) (v : List Int) : RowsOk (seenT R r v).2 := by
  unfold seenT
  split
  · exact hR
  · rename_i h1
    split
    · exact hR
    · rename_i h2
      have h1' : regB R.length r = true := by simpa using h1
      obtain ⟨a, c⟩ := regB_iff.1 h1'
      have hlt : r.toNat - 1 < R.length := by omega
      have hq : R[r.toNat - 1]? = some (R.getD (r.toNat - 1) []) := by rw [List.getD_eq_getElem?_getD, List.getElem?_eq_getElem hlt]; rfl
      exact hR.join hq (by simpa using h2)
theorem rwC_set {l : List Int} {i : Nat} (hi : i < l.length) (m : Int) : rwC (l.set i m) = (rwC l).set i (.int .i64 m) := by
  simp only [rwC, ints, List.length_set, ← List.map_set]
  congr 1
  rw [List.set_append_left _ _ hi]
theorem rwC_at {l : List Int} {i : Nat} (hi : i < l.length) : nth (rwC l) i = some (.int .i64 (l.getD i 0)) := by
  rw [nth_eq, rwC, ints, List.getElem?_map, List.getElem?_append_left hi, List.getD_eq_getElem?_getD, List.getElem?_eq_getElem hi]; rfl
theorem getD_at {l : List Int} {i : Nat} (hi : i < l.length) : l.getD i 0 = l[i] := by rw [List.getD_eq_getElem?_getD, List.getElem?_eq_getElem hi]; rfl
theorem join_step {x v : List Int} {i : Nat} (hx : i < x.length) (hv : i < v.length) (h1 : 0 ≤ x[i]) (h2 : 0 ≤ v[i]) :
    (joinL x v).take (i + 1) ++ x.drop (i + 1) = ((joinL x v).take i ++ x.drop i).set i (max (x.getD i 0) (v.getD i 0)) ∧ ((joinL x v).take i ++ x.drop i).getD i 0 = x.getD i 0 ∧ i < ((joinL x v).take i ++ x.drop i).length := by
  have hj := joinL_get hx hv h1 h2
  have hjl : i < (joinL x v).length := (List.getElem?_eq_some_iff.1 hj).1
  have hl : ((joinL x v).take i).length = i := by rw [List.length_take]; omega
  rw [getD_at hx, getD_at hv]
  have e1 : (joinL x v).take (i + 1) = (joinL x v).take i ++ [max x[i] v[i]] := by
    rw [List.take_succ_eq_append_getElem hjl]
    rw [List.getElem?_eq_getElem hjl] at hj
    simp only [Option.some.injEq] at hj
    rw [hj]
  have e2 : x.drop i = x[i] :: x.drop (i + 1) := List.drop_eq_getElem_cons hx
  refine ⟨?_, ?_, ?_⟩
  · rw [e1, e2, List.set_append_right _ _ (by omega), hl, Nat.sub_self, List.set_cons_zero]; simp
  · rw [e2, List.getD_eq_getElem?_getD, List.getElem?_append_right (by omega), hl, Nat.sub_self]; rfl
  · rw [List.length_append, hl, List.length_drop]; omega
section
variable {b : World} {F : List SP} {v : Value} {xs : List Int} {g gr gm : Nat} {own : Int} {R : List (List Int)} {K : List Ev} {e : Ev}
set_option maxRecDepth 20000 in
set_option maxHeartbeats 2000000 in
theorem Seen_S {r : Int} (hR : RowsOk R) (h : ∀ w, Sat b F w → VL (Value.int .i64) w v xs) : SC Try.prog n_p_stable_Matrix_Seen [.pointer (some ⟨g, 0, none⟩), .int .i64 r, v] b (stM g gr gm own R K F) (fun u F' => u = .int .i64 (seenT R r xs).1 ∧ F' = stM g gr gm own (seenT R r xs).2 K F) := by
  have h16 := hR.n16
  refine enterS F_p_stable_Matrix_Seen rfl rfl rfl ?_
  (refine sw_seq ?_; refine sw_region ?_; refine so_1 rfl ?_; refine so_nil ?_; refine sn_then ?_; refine sw_seq ?_; refine sw_block ?_; refine sw_seq ?_; refine sw_region ?_; refine so_1 rfl ?_)
  refine so_callE rfl rfl rfl (mnone_M hR) ?_
  (refine so_1 rfl ?_; refine so_nil ?_; refine sn_then ?_; refine sw_cond_f rfl ?_; refine sw_seq ?_; refine sw_region ?_; (iterate 2 refine so_1 rfl ?_))
  refine so_callE rfl rfl rfl (region_S) ?_
  ((iterate 2 refine so_1 rfl ?_); refine so_nil ?_; refine sn_then ?_)
  refine sw_cond rfl (fun q => ?_) (fun q => ?_)
  · have q' : regB R.length r = false := by simpa using q
    (refine sw_seq ?_; refine sw_region ?_; refine so_1 rfl ?_; refine so_nil ?_; refine sn_then ?_; refine sw_ret ?_; refine sn_block_ret ?_; refine sn_then_ret ?_)
    refine sn_ret rfl (.tmp rfl .nil) (Ent.refl _) ?_
    have e : seenT R r xs = (3, R) := if_pos q'
    rw [e]; exact ⟨rfl, rfl⟩
  have q' : regB R.length r = true := by simpa using q
  obtain ⟨r1, r2⟩ := regB_iff.1 q'
  (refine sw_seq ?_; refine sw_region ?_; (iterate 2 refine so_1 rfl ?_))
  refine so_callE rfl rfl rfl (numbers_S hR h) ?_
  ((iterate 2 refine so_1 rfl ?_); refine so_nil ?_; refine sn_then ?_)
  refine sw_cond rfl (fun q2 => ?_) (fun q2 => ?_)
  · have q2' : numB R.length xs = false := by simpa using q2
    (refine sw_seq ?_; refine sw_region ?_; refine so_1 rfl ?_; refine so_nil ?_; refine sn_then ?_; refine sw_ret ?_; refine sn_block_ret ?_; refine sn_then_ret ?_)
    refine sn_ret rfl (.tmp rfl .nil) (Ent.refl _) ?_
    have e : seenT R r xs = (2, R) := by unfold seenT; rw [if_neg (by rw [q']; simp), if_pos q2']
    rw [e]; exact ⟨rfl, rfl⟩
  have q2' : numB R.length xs = true := by simpa using q2
  obtain ⟨v1, v2⟩ := numB_iff.1 q2'
  obtain ⟨q0, rfl⟩ : ∃ q0 : Nat, r = (q0 : Int) + 1 := ⟨r.toNat - 1, by omega⟩
  have hq0 : q0 < R.length := by omega
  have hq : R[q0]? = some R[q0] := List.getElem?_eq_getElem hq0
  have eN : ((q0 : Int) + 1).toNat - 1 = q0 := by omega
  have e : seenT R ((q0 : Int) + 1) xs = (0, R.set q0 (joinL R[q0] xs)) := by
    unfold seenT; rw [if_neg (by rw [q']; simp), if_neg (by rw [q2']; simp), eN, List.getD_eq_getElem?_getD, hq]; rfl
  rw [e]
  have hR2 := hR.join hq q2'
  have hrl := hR.rl _ (List.getElem_mem hq0)
  have hnn := hR.nn _ (List.getElem_mem hq0)
  have fr := flC_seg (f := rwC) hR.l16 hq0
  have w1 := flC_set (f := rwC) hR.l16 (x := joinL R[q0] xs) (i := q0) (rwC_len (by rw [joinL_len]; omega)) hq0
  have l1 := hR.len
  generalize R[q0] = x at *
  have hJ : ∀ i, i < xs.length → rwC ((joinL x xs).take (i + 1) ++ x.drop (i + 1)) = (rwC ((joinL x xs).take i ++ x.drop i)).set i (.int .i64 (max (x.getD i 0) (xs.getD i 0))) ∧ nth (rwC ((joinL x xs).take i ++ x.drop i)) i = some (.int .i64 (x.getD i 0)) := fun i hi => by
    have hx : i < x.length := by omega
    obtain ⟨a1, a2, a3⟩ := join_step hx hi (hnn _ (List.getElem_mem hx)).1 (v2 _ (List.getElem_mem hi)).1
    exact ⟨by rw [a1, rwC_set a3], by rw [rwC_at a3, a2]⟩
  have xl := rwC_len (r := x) (by omega)
  have h' : ∀ w, Sat b (stM g gr gm own R K F) w → VL (Value.int .i64) w v xs := up h (ent_keep 4 [] rfl rfl)
  refine sw_fact (fun w H => (h' w H).form) ?_
  rintro ⟨A, c, rfl, _, _, _, k4⟩
  (refine sw_skip ?_; refine sn_block ?_; refine sn_then ?_; refine sw_seq ?_; refine sw_region ?_; (iterate 3 refine so_1 rfl ?_); refine so_l 0 rfl rfl rfl ?_; refine so_1 rfl ?_; refine so_2 rfl (by (unfold I64; omega)) ?_; refine so_2 rfl (by omega) ?_)
  refine so_ldrow 1 (q0 * 16) rfl rfl rfl rfl rfl rfl rfl (by rw [mulz_eq, show ((q0 : Int) + 1 - 1).toNat = q0 by omega]) (by omega) fr (by rw [xl]; rfl) ?_
  refine so_new rfl rfl rfl rfl rfl fun g7 => ?_
  refine so_stW 0 rfl rfl rfl rfl rfl rfl rfl xl (rwC_one _) (by rw [xl]; rfl) ?_
  (refine so_nil ?_; refine sn_then ?_; (iterate 2 refine sw_seq ?_); refine sw_region ?_; (iterate 3 refine so_1 rfl ?_); refine so_nil ?_; refine sn_then ?_; refine sw_block ?_)
  refine sw_loop (S := Nat) (fun i => [(0, .pointer (some ⟨g, 0, none⟩)), (1, .int .i64 ((q0 : Int) + 1)), (7, .pointer (some ⟨g7, 0, none⟩)), (31, .slice A xs.length c), (32, .int .i64 (xs.length : Int)), (33, .int .i64 (i : Int))])
    (fun i => pt g7 t_stable_row (rwC ((joinL x xs).take i ++ x.drop i)) :: stM g gr gm own R K F) (fun i => i ≤ xs.length) (fun i => xs.length - i) 0 ⟨rfl, rfl, rfl, rfl, rfl, rfl, trivial⟩ (Ent.refl _) (Nat.zero_le _) ?_
  intro i hi
  (refine sw_seq ?_; refine sw_region ?_; refine so_1 rfl ?_; refine so_nil ?_; refine sn_then ?_; refine sw_seq ?_)
  refine sw_if rfl (fun h1 => ?_) (fun h1 => ?_)
  · have h1' : i < xs.length := by omega
    obtain ⟨gg, oo, rfl⟩ := k4 (by omega)
    obtain ⟨j1, j2⟩ := hJ i h1'
    have ex : xs[i] = xs.getD i 0 := by rw [List.getD_eq_getElem?_getD, List.getElem?_eq_getElem h1']; rfl
    (refine sw_skip ?_; refine sn_then ?_; refine sw_seq ?_; refine sw_block ?_; refine sw_seq ?_; refine sw_region ?_; refine so_1 rfl ?_; refine so_2 rfl (by omega) ?_)
    refine so_rd rfl (fun w H => ex_load rfl rfl rfl (by rw [mulz_eq, Int.toNat_natCast, Nat.mul_one]; exact VL.at (h w (H.ent (ent_keep 5 [] rfl rfl))) i h1')) rfl ?_
    rw [ex]
    have ei : 0 + mulz ((i : Int)).toNat 1 = i := by rw [mulz_eq, Int.toNat_natCast]; omega
    have jl : i < (rwC ((joinL x xs).take i ++ x.drop i)).length := by
      rw [nth_eq] at j2; exact (List.getElem?_eq_some_iff.1 j2).1
    generalize hY : rwC ((joinL x xs).take i ++ x.drop i) = Y at *
    ((iterate 2 refine so_1 rfl ?_); refine so_nil ?_; refine sn_then ?_; refine sw_region ?_; (iterate 2 refine so_1 rfl ?_); refine so_2 rfl (by omega) ?_)
    refine so_ld 0 rfl rfl rfl rfl rfl rfl (by rw [ei]; exact j2) rfl ?_
    ((iterate 2 refine so_1 rfl ?_); refine so_2 rfl (by omega) ?_)
    refine so_st 0 rfl rfl rfl rfl rfl rfl rfl rfl (by rw [ei]; exact stO_ok jl j1.symm) rfl ?_
    (refine so_nil ?_; refine sn_block ?_; refine sn_then ?_; refine sw_region ?_; refine so_2 rfl (by (unfold I64; omega)) ?_; refine so_1 rfl ?_; refine so_nil ?_)
    exact sn_round (i + 1) ⟨rfl, rfl, rfl, rfl, rfl, rfl, trivial⟩ (Ent.refl _) (by show i + 1 ≤ _; omega) (by show xs.length - (i + 1) < xs.length - i; omega)
  · obtain rfl : i = xs.length := by omega
    have e9 : (joinL x xs).take xs.length ++ x.drop xs.length = joinL x xs := by
      rw [List.take_of_length_le (by rw [joinL_len]; omega), List.drop_of_length_le (by omega), List.append_nil]
    rw [e9]
    have jl := rwC_len (r := joinL x xs) (by rw [joinL_len]; omega)
    have j1 := rwC_one (joinL x xs)
    have e8 : ((q0 : Int) + 1 - 1).toNat = q0 := by omega
    (refine sw_exit ?_; refine sn_then_exit ?_; refine sn_loop_exit ?_; refine sn_block_exit ?_; refine sn_then ?_; refine sw_seq ?_)
    refine sw_draw2 flo 8 _ [] rfl (by decide +kernel) (Ent.refl _) ?_
    ((iterate 3 refine sd_1 rfl (.inl rfl) ?_); refine sd_l 1 rfl rfl rfl rfl ?_; refine sd_1 rfl (.inl rfl) ?_; refine sd_2 rfl rfl (by (unfold I64; omega)) ?_)
    refine sd_ldA 0 rfl rfl rfl rfl rfl rfl (segO_all (by rw [jl]; rfl)) rfl rfl ?_
    (refine sd_2 rfl rfl (by omega) ?_)
    refine sd_nil (sn_draw2 rfl (ent_nil _) ?_)
    refine sd_strow 2 (q0 * 16) rfl rfl rfl rfl rfl rfl rfl rfl rfl w1 (by rw [jl]; rfl) (by rw [mulz_eq, e8]) (by rw [jl, l1]; omega) j1 (ent_nil _) ?_
    refine sd_nil ?_
    (refine sn_then ?_; refine sw_seq ?_; refine sw_region ?_; refine so_1 rfl ?_; refine so_nil ?_; refine sn_then ?_; refine sw_ret ?_)
    refine sn_ret rfl (.tmp rfl .nil) ((ent_keep 1 [] rfl rfl)) ?_
    exact ⟨rfl, by simp only [stM, rWr, List.length_set]⟩
end
end Go.Proofs.Ytajbpdmhpcpkgaa
/- Who has what, part four: all rows; what all have; what is stable. Conditions: none. -/
namespace Go.Proofs.Ytajbpdmhpcpkgaa
open Go Go.Eng Go.RowKit Go.WideMaps

/-- Rows, each in memory of its own. -/
abbrev rRs (v : Value) (L : List (Value × List Int)) : SP := row t_sl_int 1 v L.length (L.map Prod.fst)
abbrev rRn (A : Option Addr) (c n : Nat) (L : List (Value × List Int)) : SP := row t_sl_int 1 (.slice A n c) n (L.map Prod.fst)
def vF : List (Value × List Int) → List SP
  | [] => []
  | p :: l => rZ p.1 p.2 :: vF l
theorem vF_app (a c : List (Value × List Int)) : vF (a ++ c) = vF a ++ vF c := by
  induction a with
  | nil => rfl
  | cons x a ih => simp only [List.cons_append, vF, ih]
theorem vF_snoc {a : List (Value × List Int)} {x : Value × List Int} : (vF (a ++ [x])).Perm ([rZ x.1 x.2] ++ vF a) := by
  rw [vF_app]
  exact List.perm_append_comm.trans (.of_eq (by simp [vF]))
theorem vF_vl {b : World} {F : List SP} {L : List (Value × List Int)} {k : Nat} (hk : nth F k = some (all (vF L))) {m : Value × List Int} (hm : m ∈ L) : ∀ w, Sat b F w → VL (Value.int .i64) w m.1 m.2 := fun w hS => by
  obtain ⟨l1, l2, rfl⟩ := List.append_of_mem hm
  obtain ⟨h1, hl, hA⟩ := hS.mem.get hk
  have hp : (vF (l1 ++ m :: l2)).Perm (rZ m.1 m.2 :: (vF l1 ++ vF l2)) := by
    rw [vF_app, vF]
    exact List.perm_middle
  have h2 : Sat b (rZ m.1 m.2 :: (vF l1 ++ vF l2)) w := ⟨hS.os, hS.tape, hS.output, (ent_perm hp _ hA).mono hl⟩
  exact vlZ (k := 0) rfl w h2
def boundL : List (List Int) → List Int
  | [] => []
  | r :: R => R.foldl meetL r
theorem meetL_get {r v : List Int} {i : Nat} (hr : i < r.length) (hv : i < v.length) (h1 : 0 ≤ r[i]) (h2 : 0 ≤ v[i]) : (meetL r v)[i]? = some (min r[i] v[i]) := by
  simp only [pickL, List.getElem?_map]
  rw [List.getElem?_range (by omega)]
  simp only [Option.map_some, nn_in hr, nn_in hv]
  congr 1; omega
theorem meetL_self {r : List Int} (h : ∀ x ∈ r, 0 ≤ x) : meetL r r = r := by
  apply List.ext_getElem?
  intro i
  by_cases hi : i < r.length
  · rw [meetL_get hi hi (h _ (List.getElem_mem hi)) (h _ (List.getElem_mem hi)), List.getElem?_eq_getElem hi, Int.min_self]
  · rw [List.getElem?_eq_none (by rw [meetL_len]; omega), List.getElem?_eq_none (by omega)]
theorem bound_all {R : List (List Int)} (hR : RowsOk R) {r : List Int} (h0 : R[0]? = some r) : R.foldl meetL r = boundL R := by
  cases R with
  | nil => cases h0
  | cons x R =>
    simp only [List.getElem?_cons_zero, Option.some.injEq] at h0
    subst h0
    show R.foldl meetL (meetL x x) = R.foldl meetL x
    rw [meetL_self fun y hy => (hR.nn x List.mem_cons_self y hy).1]
section
variable {b : World} {F : List SP} {v : Value} {xs ys : List Int} {g gr gm : Nat} {own : Int} {R : List (List Int)} {K : List Ev} {e : Ev}
theorem Meet_S {va vb : Value} (ha : ∀ w, Sat b F w → VL (Value.int .i64) w va xs) (hb : ∀ w, Sat b F w → VL (Value.int .i64) w vb ys) (hx : xs.length ≤ 1000000) (hy : ys.length ≤ 1000000) : SC Try.prog n_vector_Meet [va, vb] b F (fun u F' => F' = rZ u (meetL xs ys) :: F) :=
  SC.ofMade fun w H => Meet_spec (ha w H) (hb w H) (by omega) (by omega)
theorem Join_S {va vb : Value} (ha : ∀ w, Sat b F w → VL (Value.int .i64) w va xs) (hb : ∀ w, Sat b F w → VL (Value.int .i64) w vb ys) (hx : xs.length ≤ 1000000) (hy : ys.length ≤ 1000000) : SC Try.prog n_vector_Join [va, vb] b F (fun u F' => F' = rZ u (joinL xs ys) :: F) :=
  SC.ofMade fun w H => Join_spec (ha w H) (hb w H) (by omega) (by omega)
set_option maxRecDepth 20000 in
set_option maxHeartbeats 2000000 in
theorem Rows_S (hR : RowsOk R) : SC Try.prog n_p_stable_Matrix_Rows [.pointer (some ⟨g, 0, none⟩)] b (stM g gr gm own R K F) (fun u F' => ∃ L, L.map Prod.snd = R ∧ F' = rRs u L :: all (vF L) :: stM g gr gm own R K F) := by
  have h16 := hR.n16
  refine enterS F_p_stable_Matrix_Rows rfl rfl rfl ?_
  (refine sw_seq ?_; refine sw_region ?_; refine so_1 rfl ?_; refine so_nil ?_; refine sn_then ?_; (iterate 2 refine sw_seq ?_); refine sw_region ?_; refine so_1 rfl ?_)
  refine so_callE rfl rfl rfl (mnone_M hR) ?_
  (refine so_nil ?_; refine sn_then ?_; refine sw_cond_f rfl ?_; refine sw_skip ?_; refine sn_then ?_; (iterate 2 refine sw_seq ?_); refine sw_region ?_; (iterate 3 refine so_1 rfl ?_); refine so_l 0 rfl rfl rfl ?_; (iterate 2 refine so_1 rfl ?_); refine so_nil ?_; refine sn_then ?_; refine sw_block ?_)
  refine sw_loop (S := Nat × List (Value × List Int) × Nat × Option Addr × Nat) (fun s => [(0, .pointer (some ⟨g, 0, none⟩)), (2, .slice s.2.2.2.1 s.2.2.1 s.2.2.2.2), (10, .int .i64 (R.length : Int)), (11, .int .i64 (s.1 : Int))])
    (fun s => rRn s.2.2.2.1 s.2.2.2.2 s.2.2.1 s.2.1 :: all (vF s.2.1) :: stM g gr gm own R K F) (fun s => s.1 ≤ R.length ∧ s.2.1.map Prod.snd = R.take s.1 ∧ s.2.1.length = s.2.2.1) (fun s => R.length - s.1) (0, [], 0, none, 0) ⟨rfl, rfl, rfl, rfl, trivial⟩ ?_ ⟨Nat.zero_le _, rfl, rfl⟩ ?_
  · exact (ent_close (G := [])).trans (ent_row_nil t_sl_int 1 rfl)
  rintro ⟨i, L, o, A, c⟩ ⟨hi, hL, ho⟩
  dsimp only at hi hL ho ⊢
  have hLl : L.length = i := by have := congrArg List.length hL; rw [List.length_map, List.length_take] at this; omega
  (refine sw_seq ?_; refine sw_region ?_; refine so_1 rfl ?_; refine so_nil ?_; refine sn_then ?_; refine sw_seq ?_)
  refine sw_if rfl (fun h1 => ?_) (fun h1 => ?_)
  · have h1' : i < R.length := by omega
    have hq : R[i]? = some R[i] := List.getElem?_eq_getElem h1'
    have hrl := hR.rl _ (List.getElem_mem h1')
    have hsn : R.take (i + 1) = L.map Prod.snd ++ [R[i]] := by rw [List.take_succ_eq_append_getElem h1', hL]
    generalize R[i] = x at *
    (refine sw_skip ?_; refine sn_then ?_; refine sw_seq ?_; refine sw_block ?_; refine sw_seq ?_; refine sw_region ?_; (iterate 2 refine so_1 rfl ?_); refine so_nil ?_; refine sn_then ?_; refine sw_region ?_; (iterate 3 refine so_1 rfl ?_); refine so_2 rfl (by (unfold I64; omega)) ?_)
    refine so_callE rfl rfl rfl ((at_S (F := rRn A c o L :: all (vF L) :: F) hR h1').at (ent_keep 6 [2, 3, 4, 5, 0, 1] rfl rfl) (ent_keep 6 [4, 5, 0, 1, 2, 3] rfl rfl)) ?_
    refine so_call rfl rfl rfl (Clone_ints (at_VL (k := 3) hR rfl hq) (by omega)) ?_
    rintro dv _ rfl
    refine so_fact (fun w H => (H.oat (k := 0) rfl).form) ?_
    rintro ⟨A1, c1, rfl, _, _, _⟩
    refine so_lit [.slice A1 x.length c1] rfl rfl rfl rfl rfl rfl rfl rfl rfl fun gl => ?_
    refine so_append 2 rfl rfl rfl rfl rfl rfl rfl rfl rfl (m := 1) (news := [.slice A1 x.length c1]) (fun w H => (H.blk (k := 0) rfl).sl rfl (by decide)) (by simp [Value.oneCell']) (by omega) (fun _ => rfl) fun v' => ?_
    refine so_fact (fun w H => (H.oat (k := 2) rfl).form) ?_
    rintro ⟨A7, c7, rfl, _, _, _⟩
    (refine so_1 rfl ?_; refine so_nil ?_; refine sn_block ?_; refine sn_then ?_; refine sw_region ?_; refine so_2 rfl (by (unfold I64; omega)) ?_; refine so_1 rfl ?_; refine so_nil ?_)
    refine sn_ent (G := [rZ (.slice A1 x.length c1) x] ++ (all (vF L) :: rRn A7 c7 (o + 1) (L ++ [(.slice A1 x.length c1, x)]) :: stM g gr gm own R K F)) ?_ ?_
    · have e1 : rRn A7 c7 (o + 1) (L ++ [(.slice A1 x.length c1, x)]) = row t_sl_int 1 (.slice A7 (o + 1) c7) (o + 1) (L.map Prod.fst ++ [.slice A1 x.length c1]) := by simp only [rRn, List.map_append, List.map_cons, List.map_nil]
      rw [e1]
      exact ent_keep 4 [1, 3, 2] rfl rfl
    refine sn_ent (ent_in (A := vF (L ++ [(.slice A1 x.length c1, x)])) vF_snoc) ?_
    refine sn_round (i + 1, L ++ [(.slice A1 x.length c1, x)], o + 1, A7, c7) ⟨rfl, rfl, rfl, rfl, trivial⟩ (ent_keep 2 [1, 0] rfl rfl) ⟨h1', by dsimp only; rw [hsn]; simp, by simp [ho]⟩ (by dsimp only; omega)
  · obtain rfl : i = R.length := by omega
    rw [List.take_length] at hL
    (refine sw_exit ?_; refine sn_then_exit ?_; refine sn_loop_exit ?_; refine sn_block_exit ?_; refine sn_then ?_; refine sw_seq ?_; refine sw_region ?_; (iterate 2 refine so_1 rfl ?_); refine so_nil ?_; refine sn_then ?_; refine sw_ret ?_)
    refine sn_ret rfl (.tmp rfl .nil) (Ent.refl _) ?_
    subst ho
    exact ⟨L, hL, rfl⟩
set_option maxRecDepth 20000 in
set_option maxHeartbeats 2000000 in
theorem Bound_S (hR : RowsOk R) : SC Try.prog n_p_stable_Matrix_Bound [.pointer (some ⟨g, 0, none⟩)] b (stM g gr gm own R K F) (fun u F' => F' = rZ u (boundL R) :: stM g gr gm own R K F) := by
  have h16 := hR.n16
  have hn1 := hR.n1
  have hq : R[0]? = some R[0] := List.getElem?_eq_getElem hn1
  have hr0 := hR.rl _ (List.getElem_mem hn1)
  have hb := bound_all hR hq
  refine enterS F_p_stable_Matrix_Bound rfl rfl rfl ?_
  (refine sw_seq ?_; refine sw_region ?_; refine so_1 rfl ?_; refine so_nil ?_; refine sn_then ?_; (iterate 2 refine sw_seq ?_); refine sw_region ?_; refine so_1 rfl ?_)
  refine so_callE rfl rfl rfl (mnone_M hR) ?_
  (refine so_nil ?_; refine sn_then ?_; refine sw_cond_f rfl ?_; refine sw_skip ?_; refine sn_then ?_; refine sw_seq ?_; refine sw_region ?_; refine so_1 rfl ?_)
  refine so_callE rfl rfl rfl (at_S (q := 0) hR hn1) ?_
  refine so_call rfl rfl rfl (Clone_ints (at_VL (k := 1) hR rfl hq) (by omega)) ?_
  rintro dv _ rfl
  refine so_fact (fun w H => (H.oat (k := 0) rfl).form) ?_
  rintro ⟨A1, c1, rfl, _, _, _⟩
  (refine so_1 rfl ?_; refine so_nil ?_; refine sn_then ?_; (iterate 2 refine sw_seq ?_); refine sw_region ?_; refine so_1 rfl ?_)
  refine so_call rfl rfl rfl ((Rows_S (F := rZ (.slice A1 R[0].length c1) R[0] :: F) hR).ent (ent_keep 5 [1, 2, 3, 4, 0] rfl rfl)) ?_
  rintro rv _ ⟨L, hL, rfl⟩
  have hLl : L.length = R.length := by rw [← hL, List.length_map]
  refine so_fact (fun w H => (H.oat (k := 0) rfl).form) ?_
  rintro ⟨A2, c2, rfl, _, _, q3⟩
  generalize hR0 : R[0] = r0 at *
  ((iterate 2 refine so_1 rfl ?_); refine so_nil ?_; refine sn_then ?_; refine sw_block ?_)
  refine sw_loop (S := Nat × Value × List Int) (fun s => [(3, s.2.1), (12, .slice A2 L.length c2), (13, .int .i64 (L.length : Int)), (14, .int .i64 (s.1 : Int))])
    (fun s => rZ s.2.1 s.2.2 :: rRs (.slice A2 L.length c2) L :: all (vF L) :: stM g gr gm own R K F) (fun s => s.1 ≤ L.length ∧ s.2.2 = (R.take s.1).foldl meetL r0 ∧ s.2.2.length = R.length) (fun s => L.length - s.1) (0, .slice A1 r0.length c1, r0) ⟨rfl, rfl, rfl, rfl, trivial⟩ (ent_keep 7 [6, 0, 1, 2, 3, 4, 5] rfl rfl) ⟨Nat.zero_le _, rfl, hr0⟩ ?_
  rintro ⟨i, ov, y⟩ ⟨hi, hy, hyl⟩
  dsimp only at hi hy hyl ⊢
  (refine sw_seq ?_; refine sw_region ?_; refine so_1 rfl ?_; refine so_nil ?_; refine sn_then ?_; refine sw_seq ?_)
  refine sw_if rfl (fun h1 => ?_) (fun h1 => ?_)
  · have h1' : i < L.length := by omega
    obtain ⟨gg, oo, rfl⟩ := q3 (by omega)
    have hm := List.getElem_mem h1'
    have hc : (L.map Prod.fst)[i]? = some L[i].1 := by rw [List.getElem?_map, List.getElem?_eq_getElem h1']; rfl
    have hx : L[i].2 = R[i]'(by omega) := by
      have : (L.map Prod.snd)[i]? = R[i]? := by rw [hL]
      rw [List.getElem?_map, List.getElem?_eq_getElem h1', List.getElem?_eq_getElem (by omega)] at this
      simpa using this
    have hsn : R.take (i + 1) = R.take i ++ [L[i].2] := by rw [List.take_succ_eq_append_getElem (by omega), hx]
    have hxl : L[i].2.length = R.length := by rw [hx]; exact hR.rl _ (List.getElem_mem _)
    generalize L[i] = p at *
    (refine sw_skip ?_; refine sn_then ?_; refine sw_seq ?_; refine sw_block ?_; refine sw_seq ?_; refine sw_region ?_; refine so_2 rfl (by omega) ?_)
    refine so_rd rfl (fun w H => ex_load rfl rfl rfl (by rw [mulz_eq, Int.toNat_natCast, Nat.mul_one]; exact row_cell (k := 1) rfl hc w H)) rfl ?_
    (refine so_1 rfl ?_; refine so_nil ?_; refine sn_then ?_; refine sw_region ?_; (iterate 2 refine so_1 rfl ?_))
    refine so_call rfl rfl rfl (Meet_S (xs := y) (ys := p.2) (vlZ (k := 0) rfl) (vF_vl (k := 2) rfl hm) (by omega) (by omega)) ?_
    rintro nv _ rfl
    (refine so_1 rfl ?_; refine so_nil ?_; refine sn_block ?_; refine sn_then ?_; refine sw_region ?_; refine so_2 rfl (by (unfold I64; omega)) ?_; refine so_1 rfl ?_; refine so_nil ?_)
    refine sn_round (i + 1, nv, meetL y p.2) ⟨rfl, rfl, rfl, rfl, trivial⟩ (ent_keep 2 [0] rfl rfl) ⟨h1', ?_, ?_⟩ (by dsimp only; omega)
    · dsimp only; rw [hsn, List.foldl_append, ← hy]; rfl
    · dsimp only; rw [meetL_len, hyl, hxl, Nat.max_self]
  · obtain rfl : i = L.length := by omega
    rw [hLl, List.take_length] at hy
    rw [hb] at hy
    subst hy
    (refine sw_exit ?_; refine sn_then_exit ?_; refine sn_loop_exit ?_; refine sn_block_exit ?_; refine sn_then ?_; refine sw_seq ?_; refine sw_region ?_; (iterate 2 refine so_1 rfl ?_); refine so_nil ?_; refine sn_then ?_; refine sw_ret ?_)
    refine sn_ret rfl (.tmp rfl .nil) (ent_keep 3 [0] rfl rfl) ?_
    rfl
theorem mstable_S (hR : RowsOk R) : SC Try.prog n_p_stable_Matrix_stable [.pointer (some ⟨g, 0, none⟩), evV e] b (stM g gr gm own R K F) (fun u F' => u = .bool (hasL (boundL R) e.r e.n) ∧ F' = stM g gr gm own R K F) := by
  refine enterS F_p_stable_Matrix_stable rfl rfl rfl ?_
  (refine sw_seq ?_; refine sw_region ?_)
  refine so_box rfl rfl rfl rfl rfl fun g3 => ?_
  (refine so_1 rfl ?_; refine so_nil ?_; refine sn_then ?_; refine sw_seq ?_)
  refine sw_draw flo (pt g3 t_api_Event (evC e) :: F) (by decide +kernel) (ent_keep 5 [0] rfl rfl) ?_
  (refine sd_1 rfl (.inl rfl) ?_)
  refine sd_call rfl rfl rfl rfl ((Bound_S (F := pt g3 t_api_Event (evC e) :: F) hR).ent (ent_keep 5 [1, 2, 3, 4, 0] rfl rfl)) ?_
  rintro bv _ rfl
  refine ⟨ent_keep 6 [5] rfl rfl, ?_⟩
  (refine sd_1 rfl (.inl rfl) ?_; refine sd_l 0 rfl rfl rfl rfl ?_)
  refine sd_callE rfl rfl rfl rfl ((Has_S (vlZ (k := 0) rfl))) (ent_keep 6 [5] rfl rfl) ?_
  (refine sd_1 rfl (.inl rfl) ?_)
  refine sd_nil ?_
  (refine sn_then ?_; refine sw_ret ?_)
  refine sn_ret rfl (.tmp rfl .nil) (ent_keep 6 [1, 2, 3, 4] rfl rfl) ?_
  exact ⟨rfl, rfl⟩
end
end Go.Proofs.Ytajbpdmhpcpkgaa
/- Who has what, part five: an event is kept; an event is found. Conditions: not too many. -/
namespace Go.Proofs.Ytajbpdmhpcpkgaa
open Go Go.Eng Go.RowKit Go.WideMaps

def findE (K : List Ev) (d : Int × Int) : Option Ev := K.find? fun e => decide (dotE e = d)
theorem getM_eM (K : List Ev) (d : Int × Int) : getM d (eM K) = (findE K d).map evV := by
  induction K with
  | nil => rfl
  | cons e K ih =>
    simp only [eM, List.map_cons, getM, findE, List.find?_cons]
    by_cases h : dotE e = d
    · rw [if_pos h, decide_eq_true h]; rfl
    · rw [if_neg h, decide_eq_false h]; exact ih
theorem putM_eM (K : List Ev) {y : Ev} (h : findE K (dotE y) = none) : putM (dotE y) (evV y) (eM K) = eM (K ++ [y]) := by
  induction K with
  | nil => rfl
  | cons e K ih =>
    simp only [findE, List.find?_cons] at h
    by_cases hd : dotE e = dotE y
    · rw [decide_eq_true hd] at h; cases h
    · rw [decide_eq_false hd] at h
      simp only [eM, List.map_cons, putM, List.cons_append]
      rw [if_neg hd]
      exact congrArg _ (ih h)
theorem findE_some {K : List Ev} {d : Int × Int} {e : Ev} (h : findE K d = some e) : e ∈ K ∧ dotE e = d := by
  have := List.find?_some h
  exact ⟨List.mem_of_find?_eq_some h, of_decide_eq_true this⟩
theorem findE_none {K : List Ev} {d : Int × Int} (h : findE K d = none) : ∀ e ∈ K, dotE e ≠ d := fun e he hd => by
  have := List.find?_eq_none.1 h e he
  simp [hd] at this
/-- What a look-up tells. -/
def lkE (K : List Ev) (d : Int × Int) : Ev := (findE K d).getD (evX 0)
theorem er_X (w : World) (k : Int) : ER w (evX k) := ⟨VL.nil _ w, SL.nil w 32⟩
theorem lkE_er {b : World} {F : List SP} {K : List Ev} {k : Nat} (hk : nth F k = some (all (evF K))) (d : Int × Int) : ∀ w, Sat b F w → ER w (lkE K d) := fun w H => by
  unfold lkE
  cases h : findE K d with
  | none => exact er_X w 0
  | some x => exact evF_er hk (findE_some h).1 w H
theorem lkE_m {K : List Ev} (hK : ∀ e ∈ K, EvM e) (d : Int × Int) : EvM (lkE K d) := by
  unfold lkE
  cases h : findE K d with
  | none => exact ⟨by simp [evX], by simp [evX], by simp [evX]⟩
  | some x => exact hK x (findE_some h).1
section
variable {P : Program} {tt : Nat → Option TI} [TT P tt] {ro : Option Nat} {N : Nat} {l rest : List Oper} {Q : Exit → Act → World → Prop} {E : List (Nat × Value)} {ds : List Deferred} {b : World} {F F0 G : List SP} {fl : Oper → Bool} {kk : Nat}
  {d : Nat} {op : Op} {ty : TypeId} {pos : String} {aft : Array Edge} {g : Option (Nat × Bool)} {v : Value}
theorem sd_lookE (q : Nat) {t k e s1 s2 gm : Nat} {z1 : Value} {f1 : List (Nat × Nat)} {i : TI} {m x : Operand} {K : List Ev} {a : Int × Int} (M : MK P k dotP dotOk) (ha : dotOk a) (hg : wants l E g = some true) (hf : fl ⟨some d, op, ty, pos, aft, g⟩ = true) (hop : op = .lookup t m x true) (ht : tt t = some ⟨.map k e, s1, s2, z1, f1⟩) (he : tt e = some i) (hz : i.zero = evV (evX 0)) (hm : ev E m = some (.map (some gm))) (hx : ev E x = some (dotP a))
    (hF : nth F0 q = some (mpE gm K)) (hd : Nat.blt d N = true) (h : SD P fl ro N F0 l (kk + 1) rest Q ((d, .tuple ⟨[evV (lkE K a), .bool (findE K a).isSome]⟩) :: E) ds b F) : SD P fl ro N F0 l kk (⟨some d, op, ty, pos, aft, g⟩ :: rest) Q E ds b F := by
  subst hop
  refine sd_rd hg (fun w H => ?_) hf hd h
  have := ex_look (ty := ty) (c := true) M ht he hm hx ha hF w H
  rw [getM_eM] at this
  unfold lkE
  cases hc : findE K a with
  | none => simpa [hc, hz] using this
  | some y => simpa [hc] using this
end
/-- What a keeping answers. -/
def keepB (own : Int) (R : List (List Int)) (K : List Ev) (e : Ev) : (Bool × Int) × Bool :=
  if fitB R.length e = false then ((false, 2), false)
  else if hasL (R.getD (own.toNat - 1) []) e.r e.n = false then ((false, 25), false)
  else if ((findE K (dotE e)).isSome || hasL (boundL R) e.r e.n) = true then ((false, 0), false) else ((true, 0), true)
section
variable {b : World} {F : List SP} {v : Value} {g gr gm : Nat} {own : Int} {R : List (List Int)} {K : List Ev} {e : Ev}
set_option maxRecDepth 20000 in
set_option maxHeartbeats 4000000 in
theorem Keep_S (hR : RowsOk R) (ho : regB R.length own = true) (hK : ∀ e ∈ K, EvM e) (hd : dotOk (dotE e)) (he : ∀ w, Sat b F w → ER w e) (hm : EvM e) :
    SC Try.prog n_p_stable_Matrix_Keep [.pointer (some ⟨g, 0, none⟩), evV e] b (stM g gr gm own R K F) (fun u F' => u = .tuple ⟨[.bool (keepB own R K e).1.1, .int .i64 (keepB own R K e).1.2]⟩ ∧
      (((keepB own R K e).2 = false ∧ F' = stM g gr gm own R K F) ∨ ((keepB own R K e).2 = true ∧ ∃ y, nE y = nE e ∧ F' = stM g gr gm own R (K ++ [y]) F))) := by
  have h32 := hm.l32
  have hdn := hm.dn
  have hrn := hm.rn
  have hel := evC_len h32
  obtain ⟨o1, o2⟩ := regB_iff.1 ho
  obtain ⟨q0, rfl⟩ : ∃ q0 : Nat, own = (q0 : Int) + 1 := ⟨own.toNat - 1, by omega⟩
  have hq0 : q0 < R.length := by omega
  have hq : R[q0]? = some (R.getD q0 []) := by rw [List.getD_eq_getElem?_getD, List.getElem?_eq_getElem hq0]; rfl
  have hkB : keepB ((q0 : Int) + 1) R K e = if fitB R.length e = false then ((false, 2), false) else if hasL (R.getD q0 []) e.r e.n = false then ((false, 25), false) else if ((findE K (dotE e)).isSome || hasL (boundL R) e.r e.n) = true then ((false, 0), false) else ((true, 0), true) := by
    unfold keepB
    rw [show ((q0 : Int) + 1).toNat - 1 = q0 by omega]
  rw [hkB]
  clear hkB
  generalize R.getD q0 [] = r0 at *
  refine enterS F_p_stable_Matrix_Keep rfl rfl rfl ?_
  (refine sw_seq ?_; refine sw_region ?_)
  refine so_box rfl rfl rfl rfl rfl fun g3 => ?_
  ((iterate 2 refine so_1 rfl ?_); refine so_nil ?_; refine sn_then ?_; (iterate 2 refine sw_seq ?_); refine sw_region ?_; refine so_1 rfl ?_)
  refine so_callE rfl rfl rfl ((mnone_M (F := pt g3 t_api_Event (evC e) :: F) hR).at (ent_keep 5 [1, 2, 3, 4, 0] rfl rfl) (ent_keep 5 [4, 0, 1, 2, 3] rfl rfl)) ?_
  (refine so_nil ?_; refine sn_then ?_; refine sw_cond_f rfl ?_; refine sw_skip ?_; refine sn_then ?_; refine sw_seq ?_)
  have hyl : (evC (lkE K (dotE e))).length = 39 := evC_len (lkE_m hK _).l32
  refine sw_fact (fun w H => er_form (lkE_er (k := 4) rfl (dotE e) w H)) ?_
  rintro ⟨y1, y2⟩
  have hy1 := evC_one y1 y2
  obtain ⟨is, his⟩ : ∃ is, (findE K (dotE e)).isSome = is := ⟨_, rfl⟩
  refine sw_draw flo (pt g3 t_api_Event (evC e) :: stM g gr gm ((q0 : Int) + 1) R K F) (by decide +kernel) (Ent.refl _) ?_
  ((iterate 3 refine sd_1 rfl (.inl rfl) ?_); refine sd_l 1 rfl rfl rfl rfl ?_; refine sd_1 rfl (.inl rfl) ?_; refine sd_l 0 rfl rfl rfl rfl ?_)
  refine sd_lookE (a := dotE e) (K := K) 3 dotMK hd rfl rfl rfl rfl rfl rfl rfl rfl rfl rfl ?_
  rw [his]
  generalize lkE K (dotE e) = y at *
  ((iterate 3 refine sd_1 rfl (.inl rfl) ?_))
  refine sd_new rfl rfl rfl rfl rfl rfl (Ent.refl _) fun g6 => ?_
  refine sd_stW 0 rfl rfl rfl rfl rfl rfl rfl rfl hyl hy1 (by rw [hyl]; rfl) (ent_keep 1 [] rfl rfl) ?_
  (refine sd_1 rfl (.inl rfl) ?_)
  refine sd_nil ?_
  (refine sn_then ?_; refine sw_seq ?_; refine sw_block ?_; refine sw_seq ?_; refine sw_region ?_; refine so_1 rfl ?_)
  refine so_ldA 1 rfl rfl rfl rfl rfl rfl (segO_all (by rw [hel]; rfl)) rfl ?_
  refine so_callE rfl rfl rfl ((fits_S (F := pt g6 t_stable_kept (evC y) :: pt g3 t_api_Event (evC e) :: F) hR (up he (ent_keep 2 [] rfl rfl))).at (ent_keep 6 [2, 3, 4, 5, 0, 1] rfl rfl) (ent_keep 6 [4, 5, 0, 1, 2, 3] rfl rfl)) ?_
  ((iterate 2 refine so_1 rfl ?_); refine so_nil ?_; refine sn_then ?_)
  refine sw_cond rfl (fun q1 => ?_) (fun q1 => ?_)
  · have q1' : fitB R.length e = false := by simpa using q1
    (refine sw_seq ?_; refine sw_region ?_; (iterate 2 refine so_1 rfl ?_); refine so_nil ?_; refine sn_then ?_; refine sw_ret ?_; refine sn_block_ret ?_; refine sn_then_ret ?_)
    refine sn_ret rfl (.tmp rfl (.tmp rfl .nil)) (ent_keep 2 [] rfl rfl) ?_
    rw [if_pos q1']
    exact ⟨rfl, .inl ⟨rfl, rfl⟩⟩
  have q1' : fitB R.length e = true := by simpa using q1
  rw [if_neg (by rw [q1']; simp)]
  (refine sw_seq ?_)
  refine sw_draw flo (pt g3 t_api_Event (evC e) :: stM g gr gm ((q0 : Int) + 1) R K F) (by decide +kernel) (ent_keep 2 [1] rfl rfl) ?_
  ((iterate 4 refine sd_1 rfl (.inl rfl) ?_); refine sd_l 1 rfl rfl rfl rfl ?_)
  refine sd_callE rfl rfl rfl rfl (((at_S (F := pt g6 t_stable_kept (evC y) :: pt g3 t_api_Event (evC e) :: F) hR hq0).at (ent_keep 6 [2, 3, 4, 5, 0, 1] rfl rfl) (ent_keep 6 [4, 5, 0, 1, 2, 3] rfl rfl))) (ent_keep 2 [1] rfl rfl) ?_
  (refine sd_1 rfl (.inl rfl) ?_; refine sd_l 0 rfl rfl rfl rfl ?_)
  refine sd_callE rfl rfl rfl rfl ((Has_S (at_VL (k := 3) hR rfl hq))) (ent_keep 2 [1] rfl rfl) ?_
  ((iterate 2 refine sd_1 rfl (.inl rfl) ?_))
  refine sd_nil ?_
  (refine sn_then ?_)
  refine sw_cond rfl (fun q2 => ?_) (fun q2 => ?_)
  · have q2' : hasL r0 e.r e.n = false := by simpa using q2
    (refine sw_seq ?_; refine sw_region ?_; (iterate 2 refine so_1 rfl ?_); refine so_nil ?_; refine sn_then ?_; refine sw_ret ?_; refine sn_block_ret ?_; refine sn_then_ret ?_)
    refine sn_ret rfl (.tmp rfl (.tmp rfl .nil)) (ent_keep 2 [] rfl rfl) ?_
    rw [if_pos q2']
    exact ⟨rfl, .inl ⟨rfl, rfl⟩⟩
  have q2' : hasL r0 e.r e.n = true := by simpa using q2
  rw [if_neg (by rw [q2']; simp)]
  (refine sw_seq ?_; refine sw_region ?_; (iterate 2 refine so_1 rfl ?_))
  cases is with
  | true =>
    ((iterate 5 refine so_1 rfl ?_); refine so_nil ?_; refine sn_then ?_; refine sw_cond_t rfl ?_; refine sw_seq ?_; refine sw_region ?_; (iterate 2 refine so_1 rfl ?_); refine so_nil ?_; refine sn_then ?_; refine sw_ret ?_; refine sn_block_ret ?_; refine sn_then_ret ?_)
    refine sn_ret rfl (.tmp rfl (.tmp rfl .nil)) (ent_keep 2 [] rfl rfl) ?_
    rw [Bool.true_or, if_pos rfl]
    exact ⟨rfl, .inl ⟨rfl, rfl⟩⟩
  | false =>
    rw [Bool.false_or]
    (refine so_1 rfl ?_)
    refine so_ldA 1 rfl rfl rfl rfl rfl rfl (segO_all (by rw [hel]; rfl)) rfl ?_
    refine so_callE rfl rfl rfl ((mstable_S (F := pt g6 t_stable_kept (evC y) :: pt g3 t_api_Event (evC e) :: F) hR).at (ent_keep 6 [2, 3, 4, 5, 0, 1] rfl rfl) (ent_keep 6 [4, 5, 0, 1, 2, 3] rfl rfl)) ?_
    ((iterate 2 refine so_1 rfl ?_); refine so_nil ?_; refine sn_then ?_)
    refine sw_cond rfl (fun q3 => ?_) (fun q3 => ?_)
    · (refine sw_seq ?_; refine sw_region ?_; (iterate 2 refine so_1 rfl ?_); refine so_nil ?_; refine sn_then ?_; refine sw_ret ?_; refine sn_block_ret ?_; refine sn_then_ret ?_)
      refine sn_ret rfl (.tmp rfl (.tmp rfl .nil)) (ent_keep 2 [] rfl rfl) ?_
      rw [if_pos q3]
      exact ⟨rfl, .inl ⟨rfl, rfl⟩⟩
    rw [if_neg (by rw [q3]; simp)]
    (refine sw_skip ?_; refine sn_block ?_; refine sn_then ?_; refine sw_seq ?_)
    refine sw_draw flo (pt g3 t_api_Event (evC e) :: pt g t_stable_Matrix [.int .i64 ((q0 : Int) + 1), .slice (some ⟨gr, 0, none⟩) R.length R.length, .map (some gm)] :: F) (by decide +kernel) (ent_keep 6 [1, 2] rfl rfl) ?_
    ((iterate 3 refine sd_1 rfl (.inl rfl) ?_); refine sd_l 1 rfl rfl rfl rfl ?_; refine sd_1 rfl (.inl rfl) ?_; refine sd_l 0 rfl rfl rfl rfl ?_)
    refine sd_ldA 0 rfl rfl rfl rfl rfl rfl (segO_all (by rw [hel]; rfl)) rfl rfl ?_
    refine sd_call rfl rfl rfl rfl (copied_S h32 (up he (ent_keep 6 [] rfl rfl)) hdn hrn) ?_
    rintro _ _ ⟨dv, rv, rfl, rfl⟩
    refine ⟨ent_keep 8 [3, 4] rfl rfl, ?_⟩
    refine sd_fact (fun w H => (H.oat (k := 0) rfl).form) ?_
    rintro ⟨A2, c2, rfl, _, _, _⟩
    refine sd_fact (fun w H => (H.oat (k := 1) rfl).form) ?_
    rintro ⟨A3, c3, rfl, _, _, _⟩
    have hfn : findE K (dotE e) = none := by simpa using his
    have hxl := evC_len (e := e.own (.slice A2 e.deps.length c2) (.slice A3 e.refs.length c3)) h32
    have hxn : nE (e.own (.slice A2 e.deps.length c2) (.slice A3 e.refs.length c3)) = nE e := rfl
    have hxd : dotE (e.own (.slice A2 e.deps.length c2) (.slice A3 e.refs.length c3)) = dotE e := rfl
    have hxP : evP (e.own (.slice A2 e.deps.length c2) (.slice A3 e.refs.length c3)) = [rZ (.slice A2 e.deps.length c2) e.deps, rD (.slice A3 e.refs.length c3) e.refs] := rfl
    generalize e.own (.slice A2 e.deps.length c2) (.slice A3 e.refs.length c3) = x at *
    refine sd_B rfl rfl rfl rfl ⟨hxl, trivial⟩ ?_
    refine sd_know 51 (.agg ⟨evC x⟩) rfl rfl ?_
    refine sd_put (a := dotE e) 6 dotMK hd rfl rfl rfl rfl rfl rfl rfl rfl rfl (ent_keep 8 [3, 4] rfl rfl) ?_
    refine sd_nil ?_
    have hput := putM_eM K (y := x) (by rw [hxd]; exact hfn)
    rw [hxd] at hput
    rw [hput]
    (refine sn_then ?_; refine sw_seq ?_; refine sw_region ?_; (iterate 2 refine so_1 rfl ?_); refine so_nil ?_; refine sn_then ?_; refine sw_ret ?_)
    refine sn_ent (G := evP x ++ (all (evF K) :: pt g t_stable_Matrix [.int .i64 ((q0 : Int) + 1), .slice (some ⟨gr, 0, none⟩) R.length R.length, .map (some gm)] :: rWr gr R :: mpE gm (K ++ [x]) :: F)) (by rw [hxP]; exact ent_keep 8 [0, 1, 7, 4, 5, 6] rfl rfl) ?_
    refine sn_ret rfl (.tmp rfl (.tmp rfl .nil)) ((ent_in (A := evF (K ++ [x])) evF_snoc).trans (ent_keep 4 [1, 2, 3, 0] rfl rfl)) ?_
    exact ⟨rfl, .inr ⟨rfl, x, hxn, rfl⟩⟩
end
end Go.Proofs.Ytajbpdmhpcpkgaa
/- Who has what, part six: an event is found; all that is kept, in order. Conditions: not too many. -/
namespace Go.Proofs.Ytajbpdmhpcpkgaa
open Go Go.Eng Go.RowKit Go.WideMaps

section
variable {b : World} {F : List SP} {v : Value} {g gr gm : Nat} {own : Int} {R : List (List Int)} {K : List Ev} {e : Ev}
end
end Go.Proofs.Ytajbpdmhpcpkgaa
/- Who has what, part seven: all that is kept is handed on, collected, and told in order. Conditions: not too many. -/
namespace Go.Proofs.Ytajbpdmhpcpkgaa
open Go Go.Eng Go.RowKit Go.WideMaps

/-- What events one after the other were yielded. -/
def ylE (l : List Ev) : List (List Value) := l.map fun e => [evV e]
theorem ylE_snoc (l : List Ev) (e : Ev) : ylE l ++ [[evV e]] = ylE (l ++ [e]) := by simp [ylE]
theorem ylE_rEs {l m : List Ev} (h : ylE l = ylE m) (v : Value) : rEs v l = rEs v m := by
  have h1 : l.length = m.length := by have := congrArg List.length h; simpa [ylE] using this
  have h2 : evsC l = evsC m := by
    clear h1
    induction l generalizing m with
    | nil => cases m with
      | nil => rfl
      | cons _ _ => simp [ylE] at h
    | cons a l ih => cases m with
      | nil => simp [ylE] at h
      | cons c m =>
        simp only [ylE, List.map_cons, List.cons.injEq, Value.agg.injEq, Array.mk.injEq, and_true] at h
        show evC a ++ flC evC l = evC c ++ flC evC m
        rw [h.1]
        exact congrArg _ (ih h.2)
  rw [rEs, rEs, h1, h2]
def okE (xs : List (List Value)) (vs : List Value) : Prop := ∃ (l : List Ev) (e : Ev), xs = ylE l ∧ vs = [evV e] ∧ EvK e ∧ l.length < 1000000
section
variable {b : World} {F : List SP} {v : Value} {g gr gm : Nat} {own : Int} {R : List (List Int)} {K : List Ev} {e : Ev}
set_option maxRecDepth 20000 in
set_option maxHeartbeats 4000000 in
theorem values1_S {m gmb : Nat} {J : List (List Value) → SP} (hY : YieldS Try.prog m b okE J) (hK : ∀ e ∈ K, EvK e) (hn : K.length ≤ 100000) :
    SC Try.prog n_maps_Values_map_api_Dot_stable_kept_api_Dot_stable_kept_1 [.func (.yield m) ⟨[]⟩ ⟨[]⟩, .pointer (some ⟨gmb, 0, none⟩)] b (J [] :: pt gmb t_map_api_Dot_stable_kept [.map (some gm)] :: mpE gm K :: F) (fun _ F' => ∃ l, l.Perm K ∧ F' = J (ylE l) :: pt gmb t_map_api_Dot_stable_kept [.map (some gm)] :: mpE gm K :: F) := by
  refine enterS F_maps_Values_map_api_Dot_stable_kept_api_Dot_stable_kept_1 rfl rfl rfl ?_
  (refine sw_seq ?_; refine sw_region ?_; refine so_l 1 rfl rfl rfl ?_)
  refine so_range 2 rfl rfl rfl rfl rfl (fun _ => rfl) rfl fun gi => ?_
  (refine so_nil ?_; refine sn_then ?_; refine sw_block ?_)
  refine sw_loop (S := List Ev × List Ev × Option ((Int × Int) × Value)) (fun s => [(0, .func (.yield m) ⟨[]⟩ ⟨[]⟩), (1, .pointer (some ⟨gmb, 0, none⟩)), (6, .pointer (some ⟨gi, 0, none⟩))])
    (fun s => J (ylE s.1) :: pt gmb t_map_api_Dot_stable_kept [.map (some gm)] :: mr gm gi dotP dotOk (eM K) (eM s.2.1) s.2.2 :: F) (fun s => (s.1 ++ s.2.1).Perm K) (fun s => s.2.1.length) ([], K, none) ⟨rfl, rfl, rfl, trivial⟩ (Ent.refl _) (List.Perm.refl _) ?_
  rintro ⟨l, S, c⟩ hp
  dsimp only at hp ⊢
  have hpl := hp.length_eq
  rw [List.length_append] at hpl
  (refine sw_seq ?_; refine sw_region ?_)
  refine so_next 2 rfl rfl rfl rfl (fun _ _ _ => rfl) rfl (fun hR => ?_) (fun R1 y R2 hR => ?_)
  · have hS : S = [] := by
      cases S with
      | nil => rfl
      | cons _ _ => simp [eM] at hR
    subst hS
    rw [List.append_nil] at hp
    (refine so_1 rfl ?_; refine so_nil ?_; refine sn_then ?_; refine sw_seq ?_; refine sw_cond_f rfl ?_; refine sw_exit ?_; refine sn_then_exit ?_; refine sn_loop_exit ?_; refine sn_block_exit ?_)
    refine sn_end rfl .nil (ent_mr 2 rfl rfl) ?_
    exact ⟨l, hp, rfl⟩
  · obtain ⟨S1, S3, rfl, rfl, h3⟩ := List.map_eq_append_iff.1 hR
    obtain ⟨x, S2, rfl, rfl, rfl⟩ := List.map_eq_cons_iff.1 h3
    have hxK : x ∈ K := hp.mem_iff.1 (by simp)
    have kx := hK x hxK
    have xl := evC_len kx.l32
    have x1 := evC_one kx.d1 kx.r1
    rw [List.length_append, List.length_cons] at hpl
    (refine so_1 rfl ?_; refine so_nil ?_; refine sn_then ?_; refine sw_seq ?_; refine sw_cond_t rfl ?_; refine sw_skip ?_; refine sn_then ?_; refine sw_block ?_; refine sw_seq ?_; refine sw_region ?_)
    refine so_entry 2 rfl rfl rfl rfl rfl ?_
    (refine so_1 rfl ?_)
    refine so_new rfl rfl rfl rfl rfl fun g4 => ?_
    refine so_stW 0 rfl rfl rfl rfl rfl rfl rfl xl x1 (by rw [xl]; rfl) ?_
    (refine so_nil ?_; refine sn_then ?_; refine sw_seq ?_; refine sw_region ?_; refine so_1 rfl ?_)
    refine so_ldA 0 rfl rfl rfl rfl rfl rfl (segO_all (by rw [xl]; rfl)) rfl ?_
    refine so_yield 1 hY rfl rfl rfl rfl ⟨l, x, rfl, rfl, kx, by omega⟩ rfl ?_
    (refine so_1 rfl ?_; refine so_nil ?_; refine sn_then ?_; refine sw_cond_f rfl ?_; refine sw_skip ?_; refine sn_block ?_)
    rw [ylE_snoc]
    refine sn_round (l ++ [x], S1 ++ S2, some (dotE x, evV x)) ⟨rfl, rfl, rfl, trivial⟩ ?_ ?_ ?_
    · dsimp only
      rw [show eM (S1 ++ S2) = List.map (fun e => (dotE e, evV e)) S1 ++ List.map (fun e => (dotE e, evV e)) S2 from List.map_append]
      exact ent_keep 4 [1, 2, 3] rfl rfl
    · dsimp only
      refine List.Perm.trans ?_ hp
      rw [List.append_assoc]
      exact List.Perm.append_left l (List.perm_middle (l₁ := S1) (a := x) (l₂ := S2)).symm
    · dsimp only
      simp only [List.length_append, List.length_cons]; omega
theorem values_S : SC Try.prog n_maps_Values_map_api_Dot_stable_kept_api_Dot_stable_kept [.map (some gm)] b F (fun u F' => ∃ gmb, u = .func (.func n_maps_Values_map_api_Dot_stable_kept_api_Dot_stable_kept_1) ⟨[]⟩ ⟨[.pointer (some ⟨gmb, 0, none⟩)]⟩ ∧ F' = pt gmb t_map_api_Dot_stable_kept [.map (some gm)] :: F) := by
  refine enterS F_maps_Values_map_api_Dot_stable_kept_api_Dot_stable_kept rfl rfl rfl ?_
  (refine sw_seq ?_; refine sw_region ?_)
  refine so_box rfl rfl rfl rfl rfl fun gs => ?_
  (refine so_1 rfl ?_; refine so_nil ?_; refine sn_then ?_; refine sw_seq ?_; refine sw_region ?_; (iterate 2 refine so_1 rfl ?_); refine so_nil ?_; refine sn_then ?_; refine sw_ret ?_)
  refine sn_ret rfl (.tmp rfl .nil) (Ent.refl _) ?_
  exact ⟨gs, rfl, rfl⟩
theorem mall_S {p : Value} {pg : Nat} (hp : p = .pointer (some ⟨pg, 0, none⟩)) : SC Try.prog n_p_stable_Matrix_all [p] b F (fun u F' => ∃ gs, u = .func (.func n_p_stable_Matrix_all_1) ⟨[]⟩ ⟨[.pointer (some ⟨gs, 0, none⟩)]⟩ ∧ F' = pt gs t_p_stable_Matrix [p] :: F) := by
  subst hp
  refine enterS F_p_stable_Matrix_all rfl rfl rfl ?_
  (refine sw_seq ?_; refine sw_region ?_)
  refine so_box rfl rfl rfl rfl rfl fun gs => ?_
  (refine so_1 rfl ?_; refine so_nil ?_; refine sn_then ?_; refine sw_seq ?_; refine sw_region ?_; (iterate 2 refine so_1 rfl ?_); refine so_nil ?_; refine sn_then ?_; refine sw_ret ?_)
  refine sn_ret rfl (.tmp rfl .nil) (Ent.refl _) ?_
  exact ⟨gs, rfl, rfl⟩
set_option maxRecDepth 20000 in
set_option maxHeartbeats 4000000 in
theorem all1E_S {m gs : Nat} {J : List (List Value) → SP} (hY : YieldS Try.prog m b okE J) (hK : ∀ e ∈ K, EvK e) (hn : K.length ≤ 100000) :
    SC Try.prog n_p_stable_Matrix_all_1 [.func (.yield m) ⟨[]⟩ ⟨[]⟩, .pointer (some ⟨gs, 0, none⟩)] b (J [] :: pt gs t_p_stable_Matrix [.pointer (some ⟨g, 0, none⟩)] :: stM g gr gm own R K F) (fun _ F' => ∃ l, l.Perm K ∧ F' = J (ylE l) :: pt gs t_p_stable_Matrix [.pointer (some ⟨g, 0, none⟩)] :: stM g gr gm own R K F) := by
  refine enterSM F_p_stable_Matrix_all_1 rfl rfl rfl ?_
  (refine sw_seq ?_; refine sw_region ?_)
  refine so_box rfl rfl rfl rfl rfl fun g2 => ?_
  (refine so_nil ?_; refine sn_then ?_; refine sw_seq ?_; refine sw_region ?_; refine so_l 2 rfl rfl rfl ?_; (iterate 2 refine so_1 rfl ?_); refine so_l 3 rfl rfl rfl ?_)
  refine so_call rfl rfl rfl (values_S) ?_
  rintro v F' ⟨gmb, rfl, rfl⟩
  (refine so_nil ?_; refine sn_then ?_; refine sw_block ?_)
  refine sw_rangeFunc rfl okE (fun xs => [J xs, pt g2 t_func_api_Event_bool [.func (.yield m) ⟨[]⟩ ⟨[]⟩]]) (pt gmb t_map_api_Dot_stable_kept [.map (some gm)] :: mpE gm K :: pt gs t_p_stable_Matrix [.pointer (some ⟨g, 0, none⟩)] :: pt g t_stable_Matrix [.int .i64 own, .slice (some ⟨gr, 0, none⟩) R.length R.length, .map (some gm)] :: rWr gr R :: all (evF K) :: F)
    (fun xs F2 => ∃ l, l.Perm K ∧ xs = ylE l ∧ F2 = pt gmb t_map_api_Dot_stable_kept [.map (some gm)] :: mpE gm K :: pt gs t_p_stable_Matrix [.pointer (some ⟨g, 0, none⟩)] :: pt g t_stable_Matrix [.int .i64 own, .slice (some ⟨gr, 0, none⟩) R.length R.length, .map (some gm)] :: rWr gr R :: all (evF K) :: F) ?_ rfl ?_ ?_ ?_ ?_
  · exact ent_keep 8 [2, 1, 0, 6, 3, 4, 5, 7] rfl rfl
  · rintro xs vs ⟨l, e, _, rfl, _⟩; rfl
  · rintro m2 D xs vs F0 Rr ⟨l, x, rfl, rfl, kx, hl⟩ hR
    have xl := evC_len kx.l32
    have x1 := evC_one kx.d1 kx.r1
    (refine sw_region ?_)
    refine so_new rfl rfl rfl rfl rfl fun g3 => ?_
    refine so_stW 0 rfl rfl rfl rfl rfl rfl rfl xl x1 (by rw [xl]; rfl) ?_
    (refine so_nil ?_)
    refine sn_ent (ent_keep 5 [1, 2, 3, 4, 0] rfl rfl) (sn_asg ?_)
    (refine sw_block ?_; refine sw_seq ?_; refine sw_region ?_; refine so_l 3 rfl rfl rfl ?_; refine so_1 rfl ?_)
    refine so_ldA 4 rfl rfl rfl rfl rfl rfl (segO_all (by rw [xl]; rfl)) rfl ?_
    refine so_yield 2 hY rfl rfl rfl rfl ⟨l, x, rfl, rfl, kx, hl⟩ rfl ?_
    (refine so_1 rfl ?_; refine so_nil ?_; refine sn_then ?_; refine sw_cond_f rfl ?_; refine sw_skip ?_; refine sn_block ?_)
    refine sn_round_go fun w H => hR w (H.ent ?_)
    exact ent_keep 5 [0, 1, 2, 3] rfl rfl
  · intro m2 J2 hY2
    refine (values1_S hY2 hK hn).mono ?_
    rintro _ _ ⟨l, hp, rfl⟩
    exact ⟨_, _, rfl, l, hp, rfl, rfl⟩
  · rintro D xs F2 ⟨l, hp, rfl, rfl⟩
    (refine sn_block ?_)
    refine sn_endM rfl (k := 0) rfl rfl .nil (ent_keep 9 [1, 5, 6, 7, 4, 8] rfl rfl) ?_
    exact ⟨l, hp, rfl⟩
/-- Events that a generator hands on are collected. -/
theorem AppendSeq_S {gf : Nat} {caps : List Value} [Bodied Try.prog gf] {T : List Ev → List SP → Prop}
    (hg : ∀ m J, YieldS Try.prog m b okE J → SC Try.prog gf (.func (.yield m) ⟨[]⟩ ⟨[]⟩ :: caps) b (J [] :: F) (fun _ F' => ∃ l F2, F' = J (ylE l) :: F2 ∧ T l F2)) :
    SC Try.prog n_slices_AppendSeq_sl_api_Event_api_Event [.slice none 0 0, .func (.func gf) ⟨[]⟩ ⟨caps⟩] b F (fun u F' => ∃ l F2, T l F2 ∧ F' = rEs u l :: F2) := by
  refine enterSM F_slices_AppendSeq_sl_api_Event_api_Event rfl rfl rfl ?_
  (refine sw_seq ?_; refine sw_region ?_)
  refine so_box rfl rfl rfl rfl rfl fun g2 => ?_
  (refine so_1 rfl ?_; refine so_nil ?_; refine sn_then ?_; (iterate 2 refine sw_seq ?_); refine sw_region ?_; refine so_1 rfl ?_; refine so_nil ?_; refine sn_then ?_; refine sw_block ?_)
  refine sw_rangeFunc rfl okE (fun xs => [exP (fun l : Value × List Ev => xs = ylE l.2) fun l => [pt g2 t_sl_api_Event [l.1], rEs l.1 l.2]]) F (fun xs F2 => ∃ l, xs = ylE l ∧ T l F2) ?_ rfl ?_ ?_ ?_ ?_
  · exact ((ent_row_nil t_api_Event 39 rfl).trans (ent_keep 2 [1, 0] rfl rfl)).trans (ent_pack (p := fun l : Value × List Ev => ([] : List (List Value)) = ylE l.2) (G := fun l => [pt g2 t_sl_api_Event [l.1], rEs l.1 l.2]) (.slice none 0 0, []) rfl)
  · rintro xs vs ⟨l, e, _, rfl, _⟩; rfl
  · rintro m2 D xs vs F0 Rr ⟨l, x, rfl, rfl, kx, hl⟩ hR
    have xl := evC_len kx.l32
    have x1 := evC_one kx.d1 kx.r1
    refine sw_ent (ent_keep 3 [2, 0, 1] rfl rfl) (sw_opn fun q hq => ?_)
    obtain ⟨sv, l2⟩ := q
    dsimp only at hq ⊢
    have hll : l2.length = l.length := by have := congrArg List.length hq; simpa [ylE] using this.symm
    refine sw_ent (ent_keep 4 [2, 0, 1, 3] rfl rfl) ?_
    (refine sw_region ?_)
    refine so_new rfl rfl rfl rfl rfl fun g5 => ?_
    refine so_stW 0 rfl rfl rfl rfl rfl rfl rfl xl x1 (by rw [xl]; rfl) ?_
    (refine so_nil ?_)
    refine sn_ent (ent_keep 5 [1, 2, 3, 4, 0] rfl rfl) (sn_asg ?_)
    (refine sw_block ?_; refine sw_region ?_; refine so_l 1 rfl rfl rfl ?_)
    refine so_ldA 4 rfl rfl rfl rfl rfl rfl (segO_all (by rw [xl]; rfl)) rfl ?_
    refine so_lit1 rfl rfl rfl rfl rfl rfl rfl xl (by decide) fun gl => ?_
    refine so_append 3 rfl rfl rfl rfl rfl rfl rfl rfl rfl (m := 1) (news := evC x) (fun w H => (H.blk (k := 0) rfl).sl (by rw [xl]) (by decide)) x1 (by omega) (fun _ => rfl) fun v8 => ?_
    refine so_fact (fun w H => (H.oat (k := 3) rfl).form) ?_
    rintro ⟨A9, c9, rfl, _, _, _⟩
    (refine so_s1 2 rfl rfl rfl rfl ?_; refine so_nil ?_; refine sn_block ?_)
    refine sn_ent (ent_keep 6 [1, 2, 3, 4] rfl rfl) (sn_round_go fun w H => hR w (H.ent ?_))
    have e9 : row t_api_Event 39 (.slice A9 (l2.length + 1) c9) (l2.length + 1) (evsC l2 ++ evC x) = rEs (.slice A9 (l2.length + 1) c9) (l2 ++ [x]) := by
      rw [rEs, evsC_snoc, List.length_append]; rfl
    rw [e9]
    exact (ent_keep 4 [1, 2, 0, 3] rfl rfl).trans ((ent_pack (p := fun q : Value × List Ev => ylE l ++ [[evV x]] = ylE q.2) (G := fun q => [pt g2 t_sl_api_Event [q.1], rEs q.1 q.2]) (.slice A9 (l2.length + 1) c9, l2 ++ [x]) (by dsimp only; rw [hq, ylE_snoc])).trans (ent_keep 3 [1, 2, 0] rfl rfl))
  · intro m2 J2 hY2
    refine (hg m2 J2 hY2).mono ?_
    rintro _ _ ⟨l, F2, rfl, hT⟩
    exact ⟨_, _, rfl, l, rfl, hT⟩
  · rintro D xs F2 ⟨l, rfl, hT⟩
    refine sn_ent (ent_keep 2 [1, 0] rfl rfl) (sn_opn fun q hq => ?_)
    obtain ⟨sv, l2⟩ := q
    dsimp only at hq ⊢
    rw [← ylE_rEs hq sv]
    refine sn_fact (fun w H => (H.oat (k := 1) rfl).form) ?_
    rintro ⟨A9, c9, rfl, _, _, _⟩
    (refine sn_block ?_; refine sn_then ?_; refine sw_seq ?_; refine sw_region ?_; refine so_l 0 rfl rfl rfl ?_; refine so_1 rfl ?_; refine so_nil ?_; refine sn_then ?_; refine sw_ret ?_)
    refine sn_retM rfl (k := 2) rfl rfl (.tmp rfl .nil) (ent_keep 3 [1] rfl rfl) ?_
    exact ⟨l, F2, hT, rfl⟩
theorem Collect_S {gf : Nat} {caps : List Value} [Bodied Try.prog gf] {T : List Ev → List SP → Prop}
    (hg : ∀ m J, YieldS Try.prog m b okE J → SC Try.prog gf (.func (.yield m) ⟨[]⟩ ⟨[]⟩ :: caps) b (J [] :: F) (fun _ F' => ∃ l F2, F' = J (ylE l) :: F2 ∧ T l F2)) :
    SC Try.prog n_slices_Collect_api_Event [.func (.func gf) ⟨[]⟩ ⟨caps⟩] b F (fun u F' => ∃ l F2, T l F2 ∧ F' = rEs u l :: F2) := by
  refine enterS F_slices_Collect_api_Event rfl rfl rfl ?_
  (refine sw_seq ?_; refine sw_region ?_; refine so_1 rfl ?_; refine so_nil ?_; refine sn_then ?_; refine sw_seq ?_; refine sw_region ?_; refine so_1 rfl ?_)
  refine so_call rfl rfl rfl (AppendSeq_S hg) ?_
  rintro u _ ⟨l, F2, hT, rfl⟩
  (refine so_1 rfl ?_; refine so_nil ?_; refine sn_then ?_; refine sw_ret ?_)
  refine sn_ret rfl (.tmp rfl .nil) (Ent.refl _) ?_
  exact ⟨l, F2, hT, rfl⟩
set_option maxRecDepth 20000 in
set_option maxHeartbeats 4000000 in
/-- S: all that is kept, in order. -/
theorem Kept_S {S : List Ev} (hR : RowsOk R) (hK : ∀ e ∈ K, EvM e) (hn : K.length ≤ 100000) (hs : S.Pairwise fun x y => evLt x y = true) (hp : S.Perm (K.map nE)) :
    SC Try.prog n_p_stable_Matrix_Kept [.pointer (some ⟨g, 0, none⟩)] b (stM g gr gm own R K F) (fun u F' => ∃ D, D.map nE = S ∧ F' = rEs u D :: all (evF D) :: stM g gr gm own R K F) := by
  refine enterS F_p_stable_Matrix_Kept rfl rfl rfl ?_
  (refine sw_seq ?_; refine sw_region ?_; refine so_1 rfl ?_; refine so_nil ?_; refine sn_then ?_; (iterate 2 refine sw_seq ?_); refine sw_region ?_; refine so_1 rfl ?_)
  refine so_callE rfl rfl rfl (mnone_M hR) ?_
  (refine so_nil ?_; refine sn_then ?_; refine sw_cond_f rfl ?_; refine sw_skip ?_; refine sn_then ?_; refine sw_seq ?_; refine sw_region ?_; refine so_1 rfl ?_)
  refine so_call rfl rfl rfl (mall_S rfl) ?_
  rintro _ _ ⟨gs, rfl, rfl⟩
  refine so_fact (p := ∀ e ∈ K, EvK e) (fun w H e he => by
    have := er_form (evF_er (k := 4) rfl he w H)
    exact ⟨(hK e he).l32, this.1, this.2⟩) fun hKK => ?_
  refine so_call rfl rfl rfl (Collect_S (T := fun l F2 => l.Perm K ∧ F2 = pt gs t_p_stable_Matrix [.pointer (some ⟨g, 0, none⟩)] :: stM g gr gm own R K F) (fun m J hY => (all1E_S hY hKK hn).mono (by rintro _ _ ⟨l, h1, rfl⟩; exact ⟨l, _, rfl, h1, rfl⟩))) ?_
  rintro u _ ⟨l, _, ⟨hl, rfl⟩, rfl⟩
  have hlm : ∀ e ∈ l, EvM e := fun e he => hK e (hl.mem_iff.1 he)
  refine so_call rfl rfl rfl (Sort_S (l := l) (fun w H => ⟨(H.oat (k := 0) rfl).sl, fun e he => evF_er (k := 5) rfl (hl.mem_iff.1 he) w H⟩) hlm (by rw [hl.length_eq]; exact hn)) ?_
  rintro u2 _ ⟨D, hD, rfl⟩
  have e1 : D.map nE = S := hD.uniq (isSort_of_lt hs (hp.trans (hl.map nE).symm))
  (refine so_1 rfl ?_; refine so_nil ?_; refine sn_then ?_; refine sw_ret ?_)
  refine sn_ret rfl (.tmp rfl .nil) (ent_keep 8 [0, 1, 4, 5, 6, 7] rfl rfl) ?_
  exact ⟨D, e1, rfl⟩
end
end Go.Proofs.Ytajbpdmhpcpkgaa
/- Who has what, part eight: what a region is given. Conditions: not too many. -/
namespace Go.Proofs.Ytajbpdmhpcpkgaa
open Go Go.Eng Go.RowKit Go.WideMaps

theorem atL_join (a c : List Int) (r : Int) : atL (joinL a c) r = max (atL a r) (atL c r) := by
  have key : ∀ i, nn (joinL a c) i = max (nn a i) (nn c i) := fun i => by
    by_cases hi : i < max a.length c.length
    · have hi' : i < (joinL a c).length := by rw [joinL_len]; exact hi
      rw [nn_in hi']
      simp only [pickL, List.getElem_map, List.getElem_range]
      have := nn_nonneg a i
      have := nn_nonneg c i
      omega
    · rw [nn_out (by rw [joinL_len]; omega), nn_out (by omega), nn_out (by omega)]; rfl
  unfold atL
  rw [joinL_len]
  by_cases h1 : 1 ≤ r
  · have e : ∀ (xs : List Int), (if 1 ≤ r ∧ r ≤ xs.length then nn xs (r - 1).toNat else 0) = nn xs (r - 1).toNat := fun xs => by
      split
      · rfl
      · rw [nn_out (by omega)]
    have e2 : (if 1 ≤ r ∧ r ≤ ((max a.length c.length : Nat) : Int) then nn (joinL a c) (r - 1).toNat else 0) = nn (joinL a c) (r - 1).toNat := by
      split
      · rfl
      · rw [nn_out (by rw [joinL_len]; omega)]
    rw [e2, e a, e c, key]
  · rw [if_neg (by omega), if_neg (by omega), if_neg (by omega)]; rfl
theorem hasL_join (a c : List Int) (r n : Int) : hasL (joinL a c) r n = (hasL a r n || hasL c r n) := by
  unfold hasL
  rw [atL_join]
  by_cases h1 : 1 ≤ r <;> by_cases h2 : 1 ≤ n <;> by_cases h3 : n ≤ atL a r <;> by_cases h4 : n ≤ atL c r <;> simp [h1, h2, h3, h4] <;> omega
/-- Some of the events alone. -/
theorem ent_sub {D D2 : List Ev} {F : List SP} (h : List.Sublist D2 D) : Ent (all (evF D) :: F) (all (evF D2) :: F) := by
  obtain ⟨rest, hp⟩ := h.exists_perm_append
  have h1 : (evF D).Perm (evF D2 ++ evF rest) := by rw [← evF_app]; exact evF_perm hp
  exact ((ent_out h1).trans ent_close).trans (ent_keep 2 [0] rfl rfl)
/-- What is given. -/
def giveL (has : List Int) (most : Int) (S : List Ev) : List Ev := (S.filter fun e => !hasL has e.r e.n).take most.toNat
def giveT (R : List (List Int)) (S : List Ev) (r : Int) (ask : List Int) (most : Int) : List Ev × Int :=
  if regB R.length r = false then ([], 3) else if numB R.length ask = false then ([], 2) else (giveL (joinL ask (R.getD (r.toNat - 1) [])) most S, 0)
theorem giveL_nE (has : List Int) (most : Int) (D : List Ev) : (giveL has most D).map nE = giveL has most (D.map nE) := by
  unfold giveL
  rw [List.map_take, List.filter_map]
  rfl
section
variable {b : World} {F : List SP} {v : Value} {xs : List Int} {g gr gm : Nat} {own : Int} {R : List (List Int)} {K : List Ev}
theorem ent_noE {F : List SP} : Ent F (rEs (.slice none 0 0) [] :: all (evF []) :: F) := (ent_close (G := [])).trans (ent_row_nil t_api_Event 39 rfl)
set_option maxRecDepth 20000 in
set_option maxHeartbeats 4000000 in
theorem Give_S {S : List Ev} {r most : Int} (hR : RowsOk R) (hK : ∀ e ∈ K, EvM e) (hn : K.length ≤ 100000) (hs : S.Pairwise fun x y => evLt x y = true) (hp : S.Perm (K.map nE)) (h : ∀ w, Sat b F w → VL (Value.int .i64) w v xs) :
    SC Try.prog n_p_stable_Matrix_Give [.pointer (some ⟨g, 0, none⟩), .int .i64 r, v, .int .i64 most] b (stM g gr gm own R K F) (fun u F' => ∃ gv D, u = .tuple ⟨[gv, .int .i64 (giveT R S r xs most).2]⟩ ∧ D.map nE = (giveT R S r xs most).1 ∧ F' = rEs gv D :: all (evF D) :: stM g gr gm own R K F) := by
  have h16 := hR.n16
  have h' : ∀ w, Sat b (stM g gr gm own R K F) w → VL (Value.int .i64) w v xs := up h (ent_keep 4 [] rfl rfl)
  refine enterS F_p_stable_Matrix_Give rfl rfl rfl ?_
  (refine sw_seq ?_; refine sw_region ?_; (iterate 2 refine so_1 rfl ?_); refine so_nil ?_; refine sn_then ?_; refine sw_seq ?_; refine sw_block ?_; refine sw_seq ?_; refine sw_region ?_; refine so_1 rfl ?_)
  refine so_callE rfl rfl rfl (mnone_M hR) ?_
  (refine so_1 rfl ?_; refine so_nil ?_; refine sn_then ?_; refine sw_cond_f rfl ?_; refine sw_seq ?_; refine sw_region ?_; (iterate 2 refine so_1 rfl ?_))
  refine so_callE rfl rfl rfl (region_S) ?_
  ((iterate 2 refine so_1 rfl ?_); refine so_nil ?_; refine sn_then ?_)
  refine sw_cond rfl (fun q => ?_) (fun q => ?_)
  · have q' : regB R.length r = false := by simpa using q
    (refine sw_seq ?_; refine sw_region ?_; (iterate 2 refine so_1 rfl ?_); refine so_nil ?_; refine sn_then ?_; refine sw_ret ?_; refine sn_block_ret ?_; refine sn_then_ret ?_)
    refine sn_ret rfl (.tmp rfl (.tmp rfl .nil)) (ent_noE) ?_
    have e : giveT R S r xs most = ([], 3) := if_pos q'
    rw [e]; exact ⟨_, [], rfl, rfl, rfl⟩
  have q' : regB R.length r = true := by simpa using q
  obtain ⟨r1, r2⟩ := regB_iff.1 q'
  (refine sw_seq ?_; refine sw_region ?_; (iterate 2 refine so_1 rfl ?_))
  refine so_callE rfl rfl rfl (numbers_S hR h) ?_
  ((iterate 2 refine so_1 rfl ?_); refine so_nil ?_; refine sn_then ?_)
  refine sw_cond rfl (fun q2 => ?_) (fun q2 => ?_)
  · have q2' : numB R.length xs = false := by simpa using q2
    (refine sw_seq ?_; refine sw_region ?_; (iterate 2 refine so_1 rfl ?_); refine so_nil ?_; refine sn_then ?_; refine sw_ret ?_; refine sn_block_ret ?_; refine sn_then_ret ?_)
    refine sn_ret rfl (.tmp rfl (.tmp rfl .nil)) (ent_noE) ?_
    have e : giveT R S r xs most = ([], 2) := by unfold giveT; rw [if_neg (by rw [q']; simp), if_pos q2']
    rw [e]; exact ⟨_, [], rfl, rfl, rfl⟩
  have q2' : numB R.length xs = true := by simpa using q2
  obtain ⟨v1, v2⟩ := numB_iff.1 q2'
  obtain ⟨q0, rfl⟩ : ∃ q0 : Nat, r = (q0 : Int) + 1 := ⟨r.toNat - 1, by omega⟩
  have hq0 : q0 < R.length := by omega
  have hq : R[q0]? = some (R.getD q0 []) := by rw [List.getD_eq_getElem?_getD, List.getElem?_eq_getElem hq0]; rfl
  have e : giveT R S ((q0 : Int) + 1) xs most = (giveL (joinL xs (R.getD q0 [])) most S, 0) := by
    unfold giveT; rw [if_neg (by rw [q']; simp), if_neg (by rw [q2']; simp), show ((q0 : Int) + 1).toNat - 1 = q0 by omega]
  rw [e]
  have hrl := hR.rl _ (List.mem_of_getElem? hq)
  generalize R.getD q0 [] = x at *
  (refine sw_skip ?_; refine sn_block ?_; refine sn_then ?_; refine sw_seq ?_; refine sw_region ?_; (iterate 3 refine so_1 rfl ?_))
  refine so_callE rfl rfl rfl (at_S hR hq0) ?_
  refine so_call rfl rfl rfl (Join_S h' (at_VL (k := 1) hR rfl hq) (by omega) (by omega)) ?_
  rintro jv _ rfl
  generalize joinL xs x = hs0 at *
  refine so_fact (fun w H => (H.oat (k := 0) rfl).form) ?_
  rintro ⟨Aj, cj, rfl, _, _, _⟩
  (refine so_1 rfl ?_; refine so_nil ?_; refine sn_then ?_; (iterate 2 refine sw_seq ?_); refine sw_region ?_; refine so_1 rfl ?_)
  refine so_call rfl rfl rfl ((Kept_S (F := rZ (.slice Aj hs0.length cj) hs0 :: F) hR hK hn hs hp).ent (ent_keep 5 [1, 2, 3, 4, 0] rfl rfl)) ?_
  rintro kv _ ⟨D, hD, rfl⟩
  have hDm : ∀ e ∈ D, EvM e := evM_sub hK fun y hy => by rw [hD] at hy; exact hp.mem_iff.1 hy
  have hDl : D.length = K.length := by have := congrArg List.length hD; rw [List.length_map, hp.length_eq, List.length_map] at this; exact this
  refine so_fact (p := ∀ e ∈ D, EvK e) (fun w H e he => by
    have := er_form (evF_er (k := 1) rfl he w H)
    exact ⟨(hDm e he).l32, this.1, this.2⟩) fun hDK => ?_
  refine so_fact (fun w H => (H.oat (k := 0) rfl).form) ?_
  rintro ⟨Ak, ck, rfl, _, _, q3⟩
  ((iterate 2 refine so_1 rfl ?_); refine so_nil ?_; refine sn_then ?_; refine sw_block ?_)
  refine sw_loop (S := Nat × List Ev × Nat × Option Addr × Nat) (fun s => [(3, .int .i64 most), (8, .slice s.2.2.2.1 s.2.2.1 s.2.2.2.2), (10, .slice Aj hs0.length cj), (32, .slice Ak D.length ck), (33, .int .i64 (D.length : Int)), (34, .int .i64 (s.1 : Int))])
    (fun s => rEn s.2.2.2.1 s.2.2.2.2 s.2.2.1 s.2.1 :: rEs (.slice Ak D.length ck) D :: all (evF D) :: stM g gr gm own R K (rZ (.slice Aj hs0.length cj) hs0 :: F)) (fun s => s.1 ≤ D.length ∧ s.2.1 = giveL hs0 most (D.take s.1) ∧ s.2.1.length = s.2.2.1) (fun s => D.length - s.1) (0, [], 0, none, 0) ⟨rfl, rfl, rfl, rfl, rfl, rfl, trivial⟩ (ent_row_nil t_api_Event 39 rfl) ⟨Nat.zero_le _, by simp [giveL], rfl⟩ ?_
  rintro ⟨i, out, o, A, c⟩ ⟨hi, hout, hol⟩
  dsimp only at hi hout hol ⊢
  (refine sw_seq ?_; refine sw_region ?_; refine so_1 rfl ?_; refine so_nil ?_; refine sn_then ?_; refine sw_seq ?_)
  refine sw_if rfl (fun h1 => ?_) (fun h1 => ?_)
  · have h1' : i < D.length := by omega
    obtain ⟨gg, oo, rfl⟩ := q3 (by omega)
    have hx := List.getElem?_eq_getElem h1'
    have hm := List.getElem_mem h1'
    have fx := evs_seg hDK hx
    have kx := hDK _ hm
    have hsn : D.take (i + 1) = D.take i ++ [D[i]] := List.take_succ_eq_append_getElem h1'
    generalize D[i] = y at *
    have yl := evC_len kx.l32
    have y1 := evC_one kx.d1 kx.r1
    have hol2 : out.length ≤ D.length := by
      rw [hout, giveL, List.length_take]
      have := List.length_filter_le (fun e => !hasL hs0 e.r e.n) (D.take i)
      have h2 : (D.take i).length ≤ D.length := by rw [List.length_take]; omega
      omega
    (refine sw_skip ?_; refine sn_then ?_; refine sw_seq ?_; refine sw_block ?_; refine sw_seq ?_; refine sw_region ?_; refine so_2 rfl (by omega) ?_)
    refine so_ldrow 1 (i * 39) rfl rfl rfl rfl rfl rfl rfl (by rw [mulz_eq, Int.toNat_natCast]) (by omega) fx (by rw [yl]; rfl) ?_
    refine so_new rfl rfl rfl rfl rfl fun g12 => ?_
    refine so_stW 0 rfl rfl rfl rfl rfl rfl rfl yl y1 (by rw [yl]; rfl) ?_
    (refine so_nil ?_; refine sn_then ?_; refine sw_seq ?_; refine sw_region ?_; (iterate 5 refine so_1 rfl ?_))
    have hgL : ∀ z, giveL hs0 most (D.take i ++ [z]) = ((D.take i).filter (fun e => !hasL hs0 e.r e.n) ++ (if hasL hs0 z.r z.n = true then [] else [z])).take most.toNat := fun z => by
      unfold giveL
      rw [List.filter_append, List.filter_cons, List.filter_nil]
      cases hasL hs0 z.r z.n <;> rfl
    by_cases hlt : (o : Int) < most
    · refine so_know 42 (.bool true) rfl (congrArg Value.bool (decide_eq_true hlt)) ?_
      have hfull : (D.take i).filter (fun e => !hasL hs0 e.r e.n) = out := by
        have h3 : out.length < most.toNat := by omega
        rw [hout, giveL, List.length_take] at h3
        have h4 : ((D.take i).filter (fun e => !hasL hs0 e.r e.n)).length ≤ most.toNat := by omega
        rw [hout, giveL, List.take_of_length_le h4]
      ((iterate 2 refine so_1 rfl ?_); refine so_l 0 rfl rfl rfl ?_)
      refine so_callE rfl rfl rfl (Has_S (vlZ (k := 8) rfl)) ?_
      ((iterate 2 refine so_1 rfl ?_); refine so_nil ?_; refine sn_then ?_)
      refine sw_cond rfl (fun q4 => ?_) (fun q4 => ?_)
      · have q4' : hasL hs0 y.r y.n = false := by simpa using q4
        (refine sw_region ?_; refine so_1 rfl ?_)
        refine so_ldA 0 rfl rfl rfl rfl rfl rfl (segO_all (by rw [yl]; rfl)) rfl ?_
        refine so_lit1 rfl rfl rfl rfl rfl rfl rfl yl (by decide) fun gl => ?_
        refine so_append 2 rfl rfl rfl rfl rfl rfl rfl rfl rfl (m := 1) (news := evC y) (fun w H => (H.blk (k := 0) rfl).sl (by rw [yl]) (by decide)) y1 (by omega) (fun _ => rfl) fun v8 => ?_
        refine so_fact (fun w H => (H.oat (k := 2) rfl).form) ?_
        rintro ⟨A9, c9, rfl, _, _, _⟩
        (refine so_1 rfl ?_; refine so_nil ?_; refine sn_block ?_; refine sn_then ?_; refine sw_region ?_; refine so_2 rfl (by (unfold I64; omega)) ?_; refine so_1 rfl ?_; refine so_nil ?_)
        refine sn_round (i + 1, out ++ [y], o + 1, A9, c9) ⟨rfl, rfl, rfl, rfl, rfl, rfl, trivial⟩ ?_ ⟨h1', ?_, by simp [hol]⟩ (by dsimp only; omega)
        · dsimp only
          rw [rEn, evsC_snoc]
          exact ent_keep 4 [2, 3] rfl rfl
        · dsimp only
          rw [hsn, hgL, q4', if_neg (by simp), hfull, List.take_of_length_le (by rw [List.length_append]; simp; omega)]
      · have q4' : hasL hs0 y.r y.n = true := by simpa using q4
        (refine sw_skip ?_; refine sn_block ?_; refine sn_then ?_; refine sw_region ?_; refine so_2 rfl (by (unfold I64; omega)) ?_; refine so_1 rfl ?_; refine so_nil ?_)
        refine sn_round (i + 1, out, o, A, c) ⟨rfl, rfl, rfl, rfl, rfl, rfl, trivial⟩ (ent_keep 2 [1] rfl rfl) ⟨h1', ?_, hol⟩ (by dsimp only; omega)
        dsimp only
        rw [hsn, hgL, q4', if_pos rfl, List.append_nil, hout]; rfl
    · refine so_know 42 (.bool false) rfl (congrArg Value.bool (decide_eq_false hlt)) ?_
      ((iterate 6 refine so_1 rfl ?_); refine so_nil ?_; refine sn_then ?_; refine sw_cond_f rfl ?_; refine sw_skip ?_; refine sn_block ?_; refine sn_then ?_; refine sw_region ?_; refine so_2 rfl (by (unfold I64; omega)) ?_; refine so_1 rfl ?_; refine so_nil ?_)
      refine sn_round (i + 1, out, o, A, c) ⟨rfl, rfl, rfl, rfl, rfl, rfl, trivial⟩ (ent_keep 2 [1] rfl rfl) ⟨h1', ?_, hol⟩ (by dsimp only; omega)
      dsimp only
      rw [hsn, hgL, hout]
      have h3 : most.toNat ≤ ((D.take i).filter (fun e => !hasL hs0 e.r e.n)).length := by
        rw [← hol, hout, giveL, List.length_take] at hlt; omega
      rw [List.take_append_of_le_length h3]; rfl
  · obtain rfl : i = D.length := by omega
    rw [List.take_length] at hout
    have hsub : List.Sublist out D := by
      rw [hout, giveL]
      exact (List.take_sublist _ _).trans List.filter_sublist
    (refine sw_exit ?_; refine sn_then_exit ?_; refine sn_loop_exit ?_; refine sn_block_exit ?_; refine sn_then ?_; refine sw_seq ?_; refine sw_region ?_; (iterate 3 refine so_1 rfl ?_); refine so_nil ?_; refine sn_then ?_; refine sw_ret ?_)
    subst hol
    refine sn_ret rfl (.tmp rfl (.tmp rfl .nil)) ((ent_keep 7 [2, 0, 3, 4, 5, 6] rfl rfl).trans ((ent_sub hsub).trans (ent_keep 7 [1, 0, 2, 3, 4, 5] rfl rfl))) ?_
    exact ⟨_, out, rfl, by rw [hout, giveL_nE, hD], rfl⟩
end
end Go.Proofs.Ytajbpdmhpcpkgaa
/- Who has what, part nine: what is stable is handed on; what is not is left. Conditions: not too many. -/
namespace Go.Proofs.Ytajbpdmhpcpkgaa
open Go Go.Eng Go.RowKit Go.WideMaps

def stB (R : List (List Int)) (e : Ev) : Bool := hasL (boundL R) e.r e.n
abbrev stV (g : Nat) : Value := .func (.func n_p_stable_Matrix_stable) ⟨[.pointer (some ⟨g, 0, none⟩)]⟩ ⟨[]⟩
theorem evs_set {D : List Ev} (h : ∀ e ∈ D, EvK e) {j : Nat} {x : Ev} (hx : EvK x) (hj : j < D.length) : spl (evsC D) (j * 39) (evC x) = evsC (D.set j x) := flC_set (f := evC) (fun e he => evC_len (h e he).l32) (evC_len hx.l32) hj
section
variable {b : World} {F : List SP} {v : Value} {g gr gm : Nat} {own : Int} {R : List (List Int)} {K D : List Ev} {A : Option Addr} {c : Nat}
set_option maxRecDepth 20000 in
set_option maxHeartbeats 4000000 in
theorem IndexFunc_S (hR : RowsOk R) (hD : ∀ e ∈ D, EvK e) (hn : D.length ≤ 100000) :
    SC Try.prog n_slices_IndexFunc_sl_api_Event_api_Event [.slice A D.length c, stV g] b (rEn A c D.length D :: stM g gr gm own R K F) (fun u F' => (∃ P T, D = P ++ T ∧ (∀ e ∈ P, stB R e = false) ∧ (∀ t T', T = t :: T' → stB R t = true) ∧ u = .int .i64 (if T = [] then -1 else (P.length : Int))) ∧ F' = rEn A c D.length D :: stM g gr gm own R K F) := by
  refine enterS F_slices_IndexFunc_sl_api_Event_api_Event rfl rfl rfl ?_
  refine sw_fact (fun w H => (H.oat (k := 0) rfl).form) ?_
  rintro ⟨A', c', hv, _, _, q3⟩
  cases hv
  (refine sw_seq ?_; refine sw_region ?_; refine so_1 rfl ?_; refine so_nil ?_; refine sn_then ?_; (iterate 2 refine sw_seq ?_); refine sw_region ?_; (iterate 3 refine so_1 rfl ?_); refine so_nil ?_; refine sn_then ?_; refine sw_block ?_)
  refine sw_loop (S := Nat) (fun i => [(0, .slice A D.length c), (1, stV g), (7, .int .i64 (D.length : Int)), (8, .int .i64 (i : Int))]) (fun _ => rEn A c D.length D :: stM g gr gm own R K F) (fun i => i ≤ D.length ∧ ∀ e ∈ D.take i, stB R e = false) (fun i => D.length - i) 0 ⟨rfl, rfl, rfl, rfl, trivial⟩ (Ent.refl _) ⟨Nat.zero_le _, fun e he => by simp at he⟩ ?_
  rintro i ⟨hi, hP⟩
  (refine sw_seq ?_; refine sw_region ?_; refine so_1 rfl ?_; refine so_nil ?_; refine sn_then ?_; refine sw_seq ?_)
  refine sw_if rfl (fun h1 => ?_) (fun h1 => ?_)
  · have h1' : i < D.length := by omega
    obtain ⟨gg, oo, rfl⟩ := q3 (by omega)
    have hx := List.getElem?_eq_getElem h1'
    have fx := evs_seg hD hx
    have kx := hD _ (List.getElem_mem h1')
    have hsn : D.take (i + 1) = D.take i ++ [D[i]] := List.take_succ_eq_append_getElem h1'
    have hdr : D.drop i = D[i] :: D.drop (i + 1) := List.drop_eq_getElem_cons h1'
    generalize D[i] = y at *
    have yl := evC_len kx.l32
    (refine sw_skip ?_; refine sn_then ?_; refine sw_seq ?_; refine sw_block ?_; refine sw_seq ?_; refine sw_region ?_; (iterate 2 refine so_1 rfl ?_); refine so_nil ?_; refine sn_then ?_; refine sw_seq ?_; refine sw_region ?_; (iterate 3 refine so_1 rfl ?_); refine so_2 rfl (by omega) ?_)
    refine so_ldrow 0 (i * 39) rfl rfl rfl rfl rfl rfl rfl (by rw [mulz_eq, Int.toNat_natCast]) (by omega) fx (by rw [yl]; rfl) ?_
    refine so_callE rfl rfl rfl ((mstable_S (F := rEn (some ⟨gg, oo, none⟩) c D.length D :: F) (e := y) hR).at (ent_keep 5 [1, 2, 3, 4, 0] rfl rfl) (ent_keep 5 [4, 0, 1, 2, 3] rfl rfl)) ?_
    (refine so_nil ?_; refine sn_then ?_)
    refine sw_cond rfl (fun q => ?_) (fun q => ?_)
    · (refine sw_seq ?_; refine sw_region ?_; (iterate 2 refine so_1 rfl ?_); refine so_nil ?_; refine sn_then ?_; refine sw_ret ?_; refine sn_block_ret ?_; refine sn_then_ret ?_; refine sn_loop_ret ?_; refine sn_block_ret ?_; refine sn_then_ret ?_)
      refine sn_ret rfl (.tmp rfl .nil) (Ent.refl _) ?_
      refine ⟨⟨D.take i, D.drop i, (List.take_append_drop i D).symm, hP, fun t T' h => ?_, ?_⟩, rfl⟩
      · rw [hdr] at h; cases h; exact q
      · rw [hdr, if_neg (by simp), List.length_take, Nat.min_eq_left hi]; rfl
    · (refine sw_skip ?_; refine sn_block ?_; refine sn_then ?_; refine sw_region ?_; refine so_2 rfl (by (unfold I64; omega)) ?_; refine so_1 rfl ?_; refine so_nil ?_)
      refine sn_round (i + 1) ⟨rfl, rfl, rfl, rfl, trivial⟩ (Ent.refl _) ⟨h1', fun e he => ?_⟩ (by omega)
      rw [hsn] at he
      rcases List.mem_append.1 he with he | he
      · exact hP e he
      · rw [List.mem_singleton.1 he]; exact q
  · obtain rfl : i = D.length := by omega
    rw [List.take_length] at hP
    (refine sw_exit ?_; refine sn_then_exit ?_; refine sn_loop_exit ?_; refine sn_block_exit ?_; refine sn_then ?_; refine sw_seq ?_; refine sw_region ?_; refine so_1 rfl ?_; refine so_nil ?_; refine sn_then ?_; refine sw_ret ?_)
    refine sn_ret rfl (.tmp rfl .nil) (Ent.refl _) ?_
    exact ⟨⟨D, [], by simp, hP, (fun t T' h => by cases h), rfl⟩, rfl⟩
theorem filter_set {p : Ev → Bool} {X : List Ev} {i j : Nat} {y : Ev} (hij : i < j) (hi : i < X.length) : (X.set i y).take (i + 1) = X.take i ++ [y] ∧ (X.set i y).drop j = X.drop j := by
  constructor
  · apply List.ext_getElem?
    intro k
    rw [List.getElem?_take, List.getElem?_set, List.getElem?_append, List.length_take, List.getElem?_take]
    have hm : min i X.length = i := by omega
    rw [hm]
    by_cases h1 : k < i
    · rw [if_pos (by omega), if_neg (by omega), if_pos h1, if_pos h1]
    · by_cases h2 : k = i
      · subst h2
        rw [if_pos (by omega), if_pos rfl, if_pos hi, if_neg (by omega), Nat.sub_self]; rfl
      · rw [if_neg (by omega), if_neg h1, List.getElem?_eq_none (by simp; omega)]
  · apply List.ext_getElem?
    intro k
    rw [List.getElem?_drop, List.getElem?_drop, List.getElem?_set, if_neg (by omega)]
set_option maxRecDepth 20000 in
set_option maxHeartbeats 4000000 in
theorem DeleteFunc_S (hR : RowsOk R) (hD : ∀ e ∈ D, EvK e) (hn : D.length ≤ 100000) :
    SC Try.prog n_slices_DeleteFunc_sl_api_Event_api_Event [.slice A D.length c, stV g] b (rEn A c D.length D :: stM g gr gm own R K F) (fun u F' => u = .slice A (D.filter fun e => !stB R e).length c ∧ F' = rEn A c (D.filter fun e => !stB R e).length (D.filter fun e => !stB R e) :: stM g gr gm own R K F) := by
  refine enterS F_slices_DeleteFunc_sl_api_Event_api_Event rfl rfl rfl ?_
  (refine sw_seq ?_; refine sw_region ?_; refine so_1 rfl ?_; refine so_nil ?_; refine sn_then ?_; refine sw_seq ?_; refine sw_region ?_; (iterate 2 refine so_1 rfl ?_))
  refine so_call rfl rfl rfl (IndexFunc_S hR hD hn) ?_
  rintro _ _ ⟨⟨P, T, hPT, hP, hT, rfl⟩, rfl⟩
  have hfP : P.filter (fun e => !stB R e) = P := List.filter_eq_self.2 fun e he => by rw [hP e he]; rfl
  cases T with
  | nil =>
    rw [if_pos rfl]
    rw [List.append_nil] at hPT
    subst hPT
    rw [hfP]
    (refine so_1 rfl ?_; refine so_nil ?_; refine sn_then ?_; (iterate 2 refine sw_seq ?_); refine sw_region ?_; (iterate 2 refine so_1 rfl ?_); refine so_nil ?_; refine sn_then ?_; refine sw_cond_t rfl ?_; refine sw_seq ?_; refine sw_region ?_; (iterate 2 refine so_1 rfl ?_); refine so_nil ?_; refine sn_then ?_; refine sw_ret ?_; refine sn_then_ret ?_)
    refine sn_ret rfl (.tmp rfl .nil) (Ent.refl _) ?_
    exact ⟨rfl, rfl⟩
  | cons t T =>
  rw [if_neg (by simp)]
  have ht := hT t T rfl
  have hl : D.length = P.length + (T.length + 1) := by rw [hPT, List.length_append, List.length_cons]
  refine so_fact (fun w H => (H.oat (k := 0) rfl).form) ?_
  rintro ⟨A', c', hv, hnc, _, q3⟩
  cases hv
  obtain ⟨gg, oo, rfl⟩ := q3 (by omega)
  (refine so_1 rfl ?_; refine so_nil ?_; refine sn_then ?_; (iterate 2 refine sw_seq ?_); refine sw_region ?_; (iterate 2 refine so_1 rfl ?_); refine so_nil ?_; refine sn_then ?_; refine sw_cond_f rfl ?_; refine sw_skip ?_; refine sn_then ?_; (iterate 2 refine sw_seq ?_); refine sw_region ?_; refine so_1 rfl ?_; refine so_2 rfl (by (unfold I64; omega)) ?_; refine so_1 rfl ?_; refine so_nil ?_; refine sn_then ?_; refine sw_block ?_)
  rw [show (P.length : Int) + 1 = ((P.length + 1 : Nat) : Int) by omega]
  have hti : D.take (P.length + 1) = P ++ [t] := by
    rw [hPT, List.take_append, List.take_of_length_le (by omega), Nat.add_sub_cancel_left]; rfl
  refine sw_loop (S := Nat × Nat × List Ev) (fun s => [(0, .slice (some ⟨gg, oo, none⟩) D.length c), (1, stV g), (5, .int .i64 (s.1 : Int)), (6, .int .i64 (s.2.1 : Int))]) (fun s => rEn (some ⟨gg, oo, none⟩) c D.length s.2.2 :: stM g gr gm own R K F)
    (fun s => s.1 < s.2.1 ∧ s.2.1 ≤ D.length ∧ s.2.2.length = D.length ∧ s.2.2.take s.1 = (D.take s.2.1).filter (fun e => !stB R e) ∧ s.2.2.drop s.2.1 = D.drop s.2.1 ∧ ∀ e ∈ s.2.2, EvK e) (fun s => D.length - s.2.1) (P.length, P.length + 1, D) ⟨rfl, rfl, rfl, rfl, trivial⟩ (Ent.refl _) ⟨by dsimp only; omega, by dsimp only; omega, rfl, ?_, rfl, hD⟩ ?_
  · dsimp only
    rw [hti, List.filter_append, hfP, List.filter_cons, ht, hPT, List.take_append_of_le_length (by omega), List.take_length]; simp
  rintro ⟨i, j, X⟩ ⟨hij, hj, hX, hXt, hXd, hXk⟩
  dsimp only at hij hj hX hXt hXd hXk ⊢
  ((iterate 2 refine sw_seq ?_); refine sw_region ?_; (iterate 4 refine so_1 rfl ?_); refine so_nil ?_; refine sn_then ?_)
  refine sw_if rfl (fun h1 => ?_) (fun h1 => ?_)
  · have h1' : j < D.length := by omega
    have hx : X[j]? = some D[j] := by
      have := congrArg (·[0]?) hXd
      simpa [List.getElem?_drop, h1'] using this
    have hsn : D.take (j + 1) = D.take j ++ [D[j]] := List.take_succ_eq_append_getElem h1'
    have fx := evs_seg hXk hx
    have kx := hXk _ (List.mem_of_getElem? hx)
    have hXd2 : X.drop (j + 1) = D.drop (j + 1) := by
      have := congrArg List.tail hXd
      simpa [List.tail_drop] using this
    generalize D[j] = y at *
    have yl := evC_len kx.l32
    have y1 := evC_one kx.d1 kx.r1
    (refine sw_skip ?_; refine sn_then ?_; refine sw_seq ?_; refine sw_block ?_; refine sw_seq ?_; refine sw_region ?_; (iterate 2 refine so_1 rfl ?_); refine so_2 rfl (by omega) ?_)
    refine so_ldrow 0 (j * 39) rfl rfl rfl rfl rfl rfl rfl (by rw [mulz_eq, Int.toNat_natCast]) (by omega) fx (by rw [yl]; rfl) ?_
    refine so_new rfl rfl rfl rfl rfl fun g7 => ?_
    refine so_stW 0 rfl rfl rfl rfl rfl rfl rfl yl y1 (by rw [yl]; rfl) ?_
    (refine so_nil ?_; refine sn_then ?_; refine sw_seq ?_; refine sw_region ?_; refine so_1 rfl ?_)
    refine so_ldA 0 rfl rfl rfl rfl rfl rfl (segO_all (by rw [yl]; rfl)) rfl ?_
    refine so_callE rfl rfl rfl ((mstable_S (F := pt g7 t_api_Event (evC y) :: rEn (some ⟨gg, oo, none⟩) c D.length X :: F) (e := y) hR).at (ent_keep 6 [2, 3, 4, 5, 0, 1] rfl rfl) (ent_keep 6 [4, 5, 0, 1, 2, 3] rfl rfl)) ?_
    (refine so_1 rfl ?_; refine so_nil ?_; refine sn_then ?_)
    refine sw_cond rfl (fun q => ?_) (fun q => ?_)
    · have q' : stB R y = false := by simpa [stB] using q
      have hw := evs_set hXk kx (j := i) (by omega)
      have hel := evs_len hXk
      rw [hX] at hel
      obtain ⟨e1, e2⟩ := filter_set (p := fun _ => true) (X := X) (y := y) hij (by omega)
      (refine sw_seq ?_; refine sw_region ?_; (iterate 2 refine so_1 rfl ?_))
      refine so_ldA 0 rfl rfl rfl rfl rfl rfl (segO_all (by rw [yl]; rfl)) rfl ?_
      (refine so_2 rfl (by omega) ?_)
      refine so_strow 1 (i * 39) rfl rfl rfl rfl rfl rfl (by rw [yl]; rfl) rfl hw rfl (by rw [mulz_eq, Int.toNat_natCast]) (by rw [yl, hel]; omega) y1 ?_
      (refine so_nil ?_; refine sn_then ?_; refine sw_region ?_; refine so_1 rfl ?_; refine so_2 rfl (by (unfold I64; omega)) ?_; refine so_1 rfl ?_; refine so_nil ?_; refine sn_block ?_; refine sn_then ?_; refine sw_region ?_; refine so_1 rfl ?_; refine so_2 rfl (by (unfold I64; omega)) ?_; refine so_1 rfl ?_; refine so_nil ?_)
      rw [show (i : Int) + 1 = ((i + 1 : Nat) : Int) by omega, show (j : Int) + 1 = ((j + 1 : Nat) : Int) by omega]
      refine sn_round (i + 1, j + 1, X.set i y) ⟨rfl, rfl, rfl, rfl, trivial⟩ (ent_keep 2 [1] rfl rfl) ⟨by dsimp only; omega, h1', by rw [List.length_set]; exact hX, ?_, ?_, ?_⟩ (by dsimp only; omega)
      · dsimp only
        rw [e1, hXt, hsn, List.filter_append, List.filter_cons, q']; rfl
      · dsimp only
        rw [← hXd2]
        exact (filter_set (p := fun _ => true) (X := X) (y := y) (j := j + 1) (by omega) (by omega)).2
      · intro e he
        rcases List.mem_or_eq_of_mem_set he with h | rfl
        · exact hXk e h
        · exact kx
    · have q' : stB R y = true := by simpa [stB] using q
      (refine sw_skip ?_; refine sn_block ?_; refine sn_then ?_; refine sw_region ?_; refine so_1 rfl ?_; refine so_2 rfl (by (unfold I64; omega)) ?_; refine so_1 rfl ?_; refine so_nil ?_)
      rw [show (j : Int) + 1 = ((j + 1 : Nat) : Int) by omega]
      refine sn_round (i, j + 1, X) ⟨rfl, rfl, rfl, rfl, trivial⟩ (ent_keep 2 [1] rfl rfl) ⟨by dsimp only; omega, h1', hX, ?_, hXd2, hXk⟩ (by dsimp only; omega)
      dsimp only
      rw [hXt, hsn, List.filter_append, List.filter_cons, q']; simp
  · obtain rfl : j = D.length := by omega
    rw [List.take_length] at hXt
    have hil : i = (D.filter fun e => !stB R e).length := by
      have := congrArg List.length hXt
      rw [List.length_take] at this; omega
    have e9 := evs_take hXk i
    rw [hXt] at e9
    have hi1 : ((i : Int)).toNat = i := Int.toNat_natCast i
    (refine sw_exit ?_; refine sn_then_exit ?_; refine sn_loop_exit ?_; refine sn_block_exit ?_; refine sn_then ?_; refine sw_seq ?_; refine sw_region ?_; (iterate 2 refine so_1 rfl ?_); refine so_2 rfl (by omega) ?_)
    refine so_know 38 (.slice (if c = i then some ⟨gg, oo, none⟩ else (some (⟨gg, oo, none⟩ : Addr)).map (·.add (i * 39))) (D.length - i) (c - i)) rfl (by rw [hi1]) ?_
    refine so_clearRow 0 rfl rfl rfl rfl rfl rfl rfl rfl rfl rfl (fun h => by
      rw [if_neg (by omega)]
      simp only [Option.map_some, Addr.add, Option.some.injEq]
      split <;> simp_all) (by omega) ?_
    rw [e9]
    (refine so_nil ?_; refine sn_then ?_; refine sw_seq ?_; refine sw_region ?_; (iterate 2 refine so_1 rfl ?_); refine so_2 rfl (by omega) ?_; refine so_1 rfl ?_; refine so_nil ?_; refine sn_then ?_; refine sw_ret ?_)
    refine sn_ret rfl (.tmp rfl .nil) (Ent.refl _) ?_
    rw [← hil]
    exact ⟨rfl, rfl⟩
end
end Go.Proofs.Ytajbpdmhpcpkgaa
/- Who has what, part ten: what is stable is collected. Conditions: not too many. -/
namespace Go.Proofs.Ytajbpdmhpcpkgaa
open Go Go.Eng Go.RowKit Go.WideMaps

theorem ent_split {D : List Ev} {p : Ev → Bool} {F : List SP} : Ent (all (evF D) :: F) (all (evF (D.filter p)) :: all (evF (D.filter fun e => !p e)) :: F) := by
  have h1 : (evF D).Perm (evF (D.filter p) ++ evF (D.filter fun e => !p e)) := by rw [← evF_app]; exact evF_perm (List.filter_append_perm p D).symm
  exact (ent_out h1).trans ent_close
section
variable {b : World} {F : List SP} {v : Value} {g gr gm : Nat} {own : Int} {R : List (List Int)} {K D : List Ev} {A : Option Addr} {c : Nat}
theorem went_S : SC Try.prog n_stable_went [.slice A D.length c, stV g] b F (fun u F' => ∃ g2 g3, u = .func (.func n_stable_went_1) ⟨[]⟩ ⟨[.pointer (some ⟨g2, 0, none⟩), .pointer (some ⟨g3, 0, none⟩)]⟩ ∧ F' = pt g3 t_func_api_Event_bool [stV g] :: pt g2 t_sl_api_Event [.slice A D.length c] :: F) := by
  refine enterS F_stable_went rfl rfl rfl ?_
  (refine sw_seq ?_; refine sw_region ?_)
  refine so_box rfl rfl rfl rfl rfl fun g2 => ?_
  skip
  refine so_box rfl rfl rfl rfl rfl fun g3 => ?_
  (refine so_1 rfl ?_; refine so_nil ?_; refine sn_then ?_; refine sw_seq ?_; refine sw_region ?_; (iterate 2 refine so_1 rfl ?_); refine so_nil ?_; refine sn_then ?_; refine sw_ret ?_)
  refine sn_ret rfl (.tmp rfl .nil) (Ent.refl _) ?_
  exact ⟨g2, g3, rfl, rfl⟩
set_option maxRecDepth 20000 in
set_option maxHeartbeats 4000000 in
theorem went1_S {m g2 g3 : Nat} {J : List (List Value) → SP} (hY : YieldS Try.prog m b okE J) (hR : RowsOk R) (hD : ∀ e ∈ D, EvK e) (hn : D.length ≤ 100000) :
    SC Try.prog n_stable_went_1 [.func (.yield m) ⟨[]⟩ ⟨[]⟩, .pointer (some ⟨g2, 0, none⟩), .pointer (some ⟨g3, 0, none⟩)] b (J [] :: pt g3 t_func_api_Event_bool [stV g] :: pt g2 t_sl_api_Event [.slice A D.length c] :: rEn A c D.length D :: stM g gr gm own R K F)
      (fun _ F' => F' = J (ylE (D.filter (stB R))) :: pt g3 t_func_api_Event_bool [stV g] :: pt g2 t_sl_api_Event [.slice A D.length c] :: rEn A c D.length D :: stM g gr gm own R K F) := by
  refine enterS F_stable_went_1 rfl rfl rfl ?_
  refine sw_fact (fun w H => (H.oat (k := 3) rfl).form) ?_
  rintro ⟨A', c', hv, hnc, _, q3⟩
  cases hv
  (refine sw_seq ?_; refine sw_region ?_; refine so_l 2 rfl rfl rfl ?_; (iterate 2 refine so_1 rfl ?_); refine so_nil ?_; refine sn_then ?_; refine sw_block ?_)
  refine sw_loop (S := Nat) (fun i => [(0, .func (.yield m) ⟨[]⟩ ⟨[]⟩), (1, .pointer (some ⟨g2, 0, none⟩)), (2, .pointer (some ⟨g3, 0, none⟩)), (6, .slice A D.length c), (7, .int .i64 (D.length : Int)), (8, .int .i64 (i : Int))])
    (fun i => J (ylE ((D.take i).filter (stB R))) :: pt g3 t_func_api_Event_bool [stV g] :: pt g2 t_sl_api_Event [.slice A D.length c] :: rEn A c D.length D :: stM g gr gm own R K F) (fun i => i ≤ D.length) (fun i => D.length - i) 0 ⟨rfl, rfl, rfl, rfl, rfl, rfl, trivial⟩ (Ent.refl _) (Nat.zero_le _) ?_
  intro i hi
  (refine sw_seq ?_; refine sw_region ?_; refine so_1 rfl ?_; refine so_nil ?_; refine sn_then ?_; refine sw_seq ?_)
  refine sw_if rfl (fun h1 => ?_) (fun h1 => ?_)
  · have h1' : i < D.length := by omega
    obtain ⟨gg, oo, rfl⟩ := q3 (by omega)
    have hx := List.getElem?_eq_getElem h1'
    have fx := evs_seg hD hx
    have kx := hD _ (List.getElem_mem h1')
    have hsn : (D.take (i + 1)).filter (stB R) = (D.take i).filter (stB R) ++ (if stB R D[i] = true then [D[i]] else []) := by
      rw [List.take_succ_eq_append_getElem h1', List.filter_append, List.filter_cons]
      cases stB R D[i] <;> rfl
    have hl : ((D.take i).filter (stB R)).length ≤ D.length := by
      have := List.length_filter_le (stB R) (D.take i)
      rw [List.length_take] at this; omega
    generalize D[i] = y at *
    have yl := evC_len kx.l32
    have y1 := evC_one kx.d1 kx.r1
    generalize hZ : (D.take i).filter (stB R) = Z at *
    (refine sw_skip ?_; refine sn_then ?_; refine sw_seq ?_; refine sw_block ?_; refine sw_seq ?_; refine sw_region ?_; refine so_2 rfl (by omega) ?_)
    refine so_ldrow 3 (i * 39) rfl rfl rfl rfl rfl rfl rfl (by rw [mulz_eq, Int.toNat_natCast]) (by omega) fx (by rw [yl]; rfl) ?_
    refine so_new rfl rfl rfl rfl rfl fun g5 => ?_
    refine so_stW 0 rfl rfl rfl rfl rfl rfl rfl yl y1 (by rw [yl]; rfl) ?_
    (refine so_nil ?_; refine sn_then ?_; refine sw_seq ?_; refine sw_region ?_; refine so_l 2 rfl rfl rfl ?_)
    refine so_ldA 0 rfl rfl rfl rfl rfl rfl (segO_all (by rw [yl]; rfl)) rfl ?_
    refine so_callE rfl rfl rfl ((mstable_S (F := pt g5 t_api_Event (evC y) :: J (ylE Z) :: pt g3 t_func_api_Event_bool [stV g] :: pt g2 t_sl_api_Event [.slice (some ⟨gg, oo, none⟩) D.length c] :: rEn (some ⟨gg, oo, none⟩) c D.length D :: F) (e := y) hR).at (ent_keep 9 [5, 6, 7, 8, 0, 1, 2, 3, 4] rfl rfl) (ent_keep 9 [4, 5, 6, 7, 8, 0, 1, 2, 3] rfl rfl)) ?_
    (refine so_1 rfl ?_)
    by_cases q : stB R y = true
    · refine so_know 15 (.bool true) rfl (congrArg Value.bool q) ?_
      rw [if_pos q] at hsn
      (refine so_1 rfl ?_)
      refine so_ldA 0 rfl rfl rfl rfl rfl rfl (segO_all (by rw [yl]; rfl)) rfl ?_
      refine so_yield 1 hY rfl rfl rfl rfl ⟨Z, y, rfl, rfl, kx, by omega⟩ rfl ?_
      ((iterate 2 refine so_1 rfl ?_); refine so_nil ?_; refine sn_then ?_; refine sw_cond_f rfl ?_; refine sw_skip ?_; refine sn_block ?_; refine sn_then ?_; refine sw_region ?_; refine so_2 rfl (by (unfold I64; omega)) ?_; refine so_1 rfl ?_; refine so_nil ?_)
      rw [ylE_snoc]
      refine sn_round (i + 1) ⟨rfl, rfl, rfl, rfl, rfl, rfl, trivial⟩ ?_ h1' (by omega)
      rw [hsn]
      exact ent_keep 5 [1, 2, 3, 4] rfl rfl
    · have q' : stB R y = false := by simpa using q
      refine so_know 15 (.bool false) rfl (congrArg Value.bool q') ?_
      rw [if_neg q, List.append_nil] at hsn
      ((iterate 5 refine so_1 rfl ?_); refine so_nil ?_; refine sn_then ?_; refine sw_cond_f rfl ?_; refine sw_skip ?_; refine sn_block ?_; refine sn_then ?_; refine sw_region ?_; refine so_2 rfl (by (unfold I64; omega)) ?_; refine so_1 rfl ?_; refine so_nil ?_)
      refine sn_round (i + 1) ⟨rfl, rfl, rfl, rfl, rfl, rfl, trivial⟩ ?_ h1' (by omega)
      rw [hsn]
      exact ent_keep 5 [1, 2, 3, 4] rfl rfl
  · obtain rfl : i = D.length := by omega
    rw [List.take_length]
    (refine sw_exit ?_; refine sn_then_exit ?_; refine sn_loop_exit ?_; refine sn_block_exit ?_)
    refine sn_end rfl .nil (Ent.refl _) ?_
    rfl
set_option maxRecDepth 20000 in
set_option maxHeartbeats 8000000 in
theorem mCollect_S {S : List Ev} (hR : RowsOk R) (hK : ∀ e ∈ K, EvM e) (hdk : ∀ e ∈ K, dotOk (dotE e)) (hnd : (K.map dotE).Nodup) (hn : K.length ≤ 100000) (hs : S.Pairwise fun x y => evLt x y = true) (hp : S.Perm (K.map nE)) :
    SC Try.prog n_p_stable_Matrix_Collect [.pointer (some ⟨g, 0, none⟩)] b (stM g gr gm own R K F) (fun u F' => ∃ G K', G.map nE = S.filter (stB R) ∧ K'.map nE = S.filter (fun e => !stB R e) ∧ F' = rEs u G :: all (evF G) :: stM g gr gm own R K' F) := by
  refine enterS F_p_stable_Matrix_Collect rfl rfl rfl ?_
  (refine sw_seq ?_; refine sw_region ?_; refine so_1 rfl ?_; refine so_nil ?_; refine sn_then ?_; (iterate 2 refine sw_seq ?_); refine sw_region ?_; refine so_1 rfl ?_)
  refine so_callE rfl rfl rfl (mnone_M hR) ?_
  (refine so_nil ?_; refine sn_then ?_; refine sw_cond_f rfl ?_; refine sw_skip ?_; refine sn_then ?_; refine sw_seq ?_; refine sw_region ?_; refine so_1 rfl ?_)
  refine so_call rfl rfl rfl (Kept_S hR hK hn hs hp) ?_
  rintro kv _ ⟨D, hD, rfl⟩
  have hDK : (D.map nE).Perm (K.map nE) := by rw [hD]; exact hp
  have hDm : ∀ e ∈ D, EvM e := evM_sub hK fun y hy => hDK.mem_iff.1 hy
  have hDl : D.length = K.length := by have := hDK.length_eq; simpa using this
  have hdd : (D.map dotE).Perm (K.map dotE) := by
    have := hDK.map dotE
    rw [List.map_map, List.map_map] at this
    exact this
  have hDnd : (D.map dotE).Nodup := hdd.nodup_iff.2 hnd
  have hDdk : ∀ e ∈ D, dotOk (dotE e) := fun e he => by
    obtain ⟨f, hf, hfe⟩ := List.mem_map.1 (hdd.mem_iff.1 (List.mem_map_of_mem he))
    rw [← hfe]; exact hdk f hf
  refine so_fact (p := ∀ e ∈ D, EvK e) (fun w H e he => by
    have := er_form (evF_er (k := 1) rfl he w H)
    exact ⟨(hDm e he).l32, this.1, this.2⟩) fun hDk => ?_
  refine so_fact (fun w H => (H.oat (k := 0) rfl).form) ?_
  rintro ⟨Ak, ck, rfl, _, _, q3⟩
  (refine so_1 rfl ?_; refine so_nil ?_; refine sn_then ?_; refine sw_seq ?_; refine sw_region ?_; (iterate 3 refine so_1 rfl ?_))
  refine so_call rfl rfl rfl (went_S) ?_
  rintro _ _ ⟨g2, g3, rfl, rfl⟩
  refine so_call rfl rfl rfl ((Collect_S (F := pt g3 t_func_api_Event_bool [stV g] :: pt g2 t_sl_api_Event [.slice Ak D.length ck] :: rEn Ak ck D.length D :: stM g gr gm own R K (all (evF D) :: F)) (T := fun l F2 => l = D.filter (stB R) ∧ F2 = pt g3 t_func_api_Event_bool [stV g] :: pt g2 t_sl_api_Event [.slice Ak D.length ck] :: rEn Ak ck D.length D :: stM g gr gm own R K (all (evF D) :: F))
    (fun m J hY => (went1_S hY hR hDk (by omega)).mono (by rintro _ _ rfl; exact ⟨_, _, rfl, rfl, rfl⟩))).ent (ent_keep 8 [0, 1, 2, 4, 5, 6, 7, 3] rfl rfl)) ?_
  rintro gv _ ⟨_, _, ⟨rfl, rfl⟩, rfl⟩
  refine so_fact (fun w H => (H.oat (k := 0) rfl).form) ?_
  rintro ⟨Ag, cg, rfl, _, _, _⟩
  (refine so_1 rfl ?_; refine so_nil ?_; refine sn_then ?_; refine sw_seq ?_; refine sw_region ?_; (iterate 3 refine so_1 rfl ?_); refine so_l 4 rfl rfl rfl ?_)
  refine so_clearMap 6 rfl rfl rfl rfl rfl rfl ?_
  refine so_ent (G := rEn Ak ck D.length D :: stM g gr gm own R [] (rEs (.slice Ag (D.filter (stB R)).length cg) (D.filter (stB R)) :: all (evF D) :: F)) ((ent_keep 9 [3, 4, 5, 6, 0, 8] rfl rfl).trans ((ent_close (G := [])).trans (ent_keep 7 [1, 2, 3, 4, 0, 5, 6] rfl rfl))) ?_
  (refine so_nil ?_; refine sn_then ?_; (iterate 2 refine sw_seq ?_); refine sw_region ?_; (iterate 3 refine so_1 rfl ?_))
  refine so_call rfl rfl rfl (DeleteFunc_S hR hDk (by omega)) ?_
  rintro _ _ ⟨rfl, rfl⟩
  have hfd : ∀ e ∈ D.filter (fun e => !stB R e), e ∈ D := fun e he => (List.mem_filter.1 he).1
  have hTk : ∀ e ∈ D.filter (fun e => !stB R e), EvK e := fun e he => hDk e (hfd e he)
  have hTnd : ((D.filter (fun e => !stB R e)).map dotE).Nodup := hDnd.sublist (List.filter_sublist.map dotE)
  have hTl : (D.filter (fun e => !stB R e)).length ≤ 100000 := by
    have := List.length_filter_le (fun e => !stB R e) D; omega
  have hTdk : ∀ e ∈ D.filter (fun e => !stB R e), dotOk (dotE e) := fun e he => hDdk e (hfd e he)
  have hTn : (D.filter (fun e => !stB R e)).map nE = S.filter (fun e => !stB R e) := by rw [← hD, List.filter_map]; rfl
  have hGn : (D.filter (stB R)).map nE = S.filter (stB R) := by rw [← hD, List.filter_map]; rfl
  have hsp : ∀ {F : List SP}, Ent (all (evF D) :: F) (all (evF (D.filter (stB R))) :: all (evF (D.filter fun e => !stB R e)) :: F) := ent_split
  generalize D.filter (fun e => !stB R e) = T at *
  generalize D.filter (stB R) = G at *
  refine so_fact (fun w H => (H.oat (k := 0) rfl).form) ?_
  rintro ⟨A9, c9, hv9, hnc9, _, q9⟩
  cases hv9
  ((iterate 2 refine so_1 rfl ?_); refine so_nil ?_; refine sn_then ?_; refine sw_block ?_)
  refine sw_loop (S := Nat) (fun i => [(0, .pointer (some ⟨g, 0, none⟩)), (4, .slice Ag G.length cg), (23, .slice Ak T.length ck), (24, .int .i64 (T.length : Int)), (25, .int .i64 (i : Int))])
    (fun i => rEn Ak ck T.length T :: pt g t_stable_Matrix [.int .i64 own, .slice (some ⟨gr, 0, none⟩) R.length R.length, .map (some gm)] :: rWr gr R :: mpE gm (T.take i) :: all (evF []) :: rEs (.slice Ag G.length cg) G :: all (evF D) :: F) (fun i => i ≤ T.length) (fun i => T.length - i) 0 ⟨rfl, rfl, rfl, rfl, rfl, trivial⟩ (Ent.refl _) (Nat.zero_le _) ?_
  intro i hi
  (refine sw_seq ?_; refine sw_region ?_; refine so_1 rfl ?_; refine so_nil ?_; refine sn_then ?_; refine sw_seq ?_)
  refine sw_if rfl (fun h1 => ?_) (fun h1 => ?_)
  · have h1' : i < T.length := by omega
    obtain ⟨gg, oo, rfl⟩ := q9 (by omega)
    have hx := List.getElem?_eq_getElem h1'
    have fx := evs_seg hTk hx
    have kx := hTk _ (List.getElem_mem h1')
    have hd := hTdk _ (List.getElem_mem h1')
    have hsn : T.take (i + 1) = T.take i ++ [T[i]] := List.take_succ_eq_append_getElem h1'
    have hfn : findE (T.take i) (dotE T[i]) = none := by
      refine List.find?_eq_none.2 fun e he => ?_
      have h2 : (T.take i ++ [T[i]]).map dotE = (T.take (i + 1)).map dotE := by rw [hsn]
      have h3 : ((T.take i ++ [T[i]]).map dotE).Nodup := by rw [h2]; exact hTnd.sublist ((List.take_sublist _ _).map dotE)
      rw [List.map_append, List.nodup_append] at h3
      have := h3.2.2 (dotE e) (List.mem_map_of_mem he) (dotE T[i]) (by simp)
      simpa using this
    have hput := putM_eM (T.take i) hfn
    rw [← hsn] at hput
    generalize T[i] = y at *
    have yl := evC_len kx.l32
    have y1 := evC_one kx.d1 kx.r1
    (refine sw_skip ?_; refine sn_then ?_; refine sw_seq ?_; refine sw_block ?_; refine sw_seq ?_; refine sw_region ?_; refine so_2 rfl (by omega) ?_)
    refine so_ldrow 0 (i * 39) rfl rfl rfl rfl rfl rfl rfl (by rw [mulz_eq, Int.toNat_natCast]) (by omega) fx (by rw [yl]; rfl) ?_
    refine so_new rfl rfl rfl rfl rfl fun g6 => ?_
    refine so_stW 0 rfl rfl rfl rfl rfl rfl rfl yl y1 (by rw [yl]; rfl) ?_
    (refine so_nil ?_; refine sn_then ?_)
    refine sw_draw flo (pt g6 t_api_Event (evC y) :: pt g t_stable_Matrix [.int .i64 own, .slice (some ⟨gr, 0, none⟩) R.length R.length, .map (some gm)] :: F) (by decide +kernel) (ent_keep 8 [0, 2] rfl rfl) ?_
    ((iterate 3 refine sd_1 rfl (.inl rfl) ?_); refine sd_l 1 rfl rfl rfl rfl ?_; refine sd_1 rfl (.inl rfl) ?_; refine sd_l 0 rfl rfl rfl rfl ?_)
    refine sd_ldA 0 rfl rfl rfl rfl rfl rfl (segO_all (by rw [yl]; rfl)) rfl rfl ?_
    refine sd_B rfl rfl rfl rfl ⟨yl, trivial⟩ ?_
    refine sd_know 36 (.agg ⟨evC y⟩) rfl rfl ?_
    refine sd_put (a := dotE y) 4 dotMK hd rfl rfl rfl rfl rfl rfl rfl rfl rfl (ent_keep 8 [0, 2] rfl rfl) ?_
    refine sd_nil ?_
    rw [hput]
    (refine sn_block ?_; refine sn_then ?_; refine sw_region ?_; refine so_2 rfl (by (unfold I64; omega)) ?_; refine so_1 rfl ?_; refine so_nil ?_)
    exact sn_round (i + 1) ⟨rfl, rfl, rfl, rfl, rfl, trivial⟩ (ent_keep 8 [1, 2, 3, 4, 5, 6, 7] rfl rfl) h1' (by omega)
  · obtain rfl : i = T.length := by omega
    rw [List.take_length]
    (refine sw_exit ?_; refine sn_then_exit ?_; refine sn_loop_exit ?_; refine sn_block_exit ?_; refine sn_then ?_; refine sw_seq ?_; refine sw_region ?_; (iterate 2 refine so_1 rfl ?_); refine so_nil ?_; refine sn_then ?_; refine sw_ret ?_)
    refine sn_ret rfl (.tmp rfl .nil) ((ent_keep 7 [6, 5, 1, 2, 3] rfl rfl).trans (hsp.trans (ent_keep 6 [2, 0, 3, 4, 5, 1] rfl rfl))) ?_
    exact ⟨G, T, hGn, hTn, rfl⟩
end
end Go.Proofs.Ytajbpdmhpcpkgaa
